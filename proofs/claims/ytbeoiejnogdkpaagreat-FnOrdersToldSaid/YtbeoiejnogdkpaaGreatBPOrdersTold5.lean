/- Texts of this proof, one behind the other. -/
import Derived.Test.YtbeoiejnogdkpaaGreatBPOrdersTold4
import Derived.Test.YtbeoiejnogdkpaaGreatProg
import Derived.KernelRfl
set_option linter.unusedSimpArgs false
set_option linter.unusedVariables false
set_option maxRecDepth 4000
set_option maxHeartbeats 4000000
open List renaming take_length→Zaa,getElem_mem→Zac,length_map→Zad,mem_singleton→Zae,mem_append→Zaf,length_append→Zag,length_singleton→Zah,length_filter_le→Zaj,append_assoc→Zak,mem_cons→Zam,mem_of_mem_take→Zan,length_nil→Zao,mem_cons_self→Zap,mem_or_eq_of_mem_set→Zaq,getElem?_eq_getElem→Zar,not_mem_nil→Zas,length_take→Zat,append_nil→Zau,length_set→Zav,mem_filter→Zax,mem_of_getElem?→Zay,filter_eq_self→Zaz,getElem?_map→Za1,map_nil→Za2,sum_nil→Za3,isEmpty_iff→Za4,filter_nil→Za6,take_zero→Za7
open Bool renaming and_eq_true→Zab,false_and→Zai,true_and→Zal,eq_iff_iff→Zaw,false_eq_true→Za0
open Nat renaming zero_le→Za5
namespace Go.Proofs.YtbeoiejnogdkpaaGreat.Sy
open Go Go.RowKit
def A5o:Fn1:=⟨11,[.c 2 true 10],(rg [oX 1 0,o 2 (.new [z0,z0,z0,.nilS,z0,s0,s0,z0,z0,z0])] (rg [oW 4 10 1,o 3 (.new [z0,z0,z0,.nilS,z0,s0,s0,z0,z0,z0]),oS 10 3 4] (rg [o 5 (.lit 1 0 [] []),oF 6 3 1,oL 7 6,o 8 (.app 1 8 [z0] (.t 5) (.t 7)),oF 9 3 3,oS 1 9 8] (rg [oW 10 10 3,oS 10 2 10] .ret))))⟩
theorem Afc:A8 Tryz.prog 211=some A5o:=by kernel_rfl
def A5p:Fn1:=⟨8,[.c 2 true 10],(rg [oX 1 0,o 2 (.new [z0,z0,z0,.nilS,z0,s0,s0,z0,z0,z0])] (rg [oF 3 3 1,oL 4 3,oC 5 182 4,oF 6 3 1,oS 1 6 5] (rg [oW 7 10 1,oS 10 2 7] .ret)))⟩
theorem Afd:A8 Tryz.prog 194=some A5p:=by kernel_rfl
theorem Oa (N:St) (cs:List GV) (x:Act) (hR:kAct.R N x cs) (hl:x.knew.length<=1099511627776):∃ r U,Ret Tryz.prog 211 [.agg cs] N (.agg r) U/\Hp N U [own kAct r x]:=by
 obtain⟨v,rfl,q⟩:=hR
 have key:∃ w U,Ret Tryz.prog 211 [.agg (actV x v)] N w U/\∃ r,w= .agg r/\Hp N U [own kAct r x]:=by
  refine Bg Afc (Z0z rfl) (Hx.refl N) ?_
  simp +contextual (disch:=omega) only[go_sem,A5o]
  intro n1 f1 U1 H1 n2 f2 U2 H2 n3 f3 U3 _ U4 _ n4 f4 U5 H5
  refine Qy (p:=pI) H5 (q.pre H5.sub) (by decide) (by omega) fun w U6 H6=> ?_
  have cw:=(H6.hp.sl 0 rfl).cell
  simp +contextual (disch:=omega) only[go_sem,cw]
  intro U7 _ U8 H8
  exact⟨_,rfl,_,rfl,Hp.ownAct (x:=x) (H8.sel [0] (by decide))⟩
 obtain⟨q,U,R,r,rfl,h⟩:=key
 exact⟨r,U,R,h⟩
theorem Abq (N:St) (cs:List GV) (x:Act) (hR:kAct.R N x cs) (hl:x.knew.length<=1099511627776):∃ r U,Ret Tryz.prog 194 [.agg cs] N (.agg r) U/\Hp N U [own kAct r x]:=by
 obtain⟨v,rfl,q⟩:=hR
 have key:∃ w U,Ret Tryz.prog 194 [.agg (actV x v)] N w U/\∃ r,w= .agg r/\Hp N U [own kAct r x]:=by
  refine Bg Afd (Z0z rfl) (Hx.refl N) ?_
  simp +contextual (disch:=omega) only[go_sem,A5p]
  intro n1 f1 U1 H1 n2 f2 U2 H2
  obtain⟨w,U3,R3,K3⟩:=E6 U2 v _ (q.pre H2.sub) hl
  refine by_c H2 R3 K3 fun H3=> ?_
  have cw:=(H3.hp.sl 0 rfl).cell
  simp +contextual (disch:=omega) only[go_sem,cw]
  intro U4 _ U5 H5
  exact⟨_,rfl,_,rfl,Hp.ownAct (x:=x) (H5.sel [0] (by decide))⟩
 obtain⟨q,U,R,r,rfl,h⟩:=key
 exact⟨r,U,R,h⟩
theorem Ob {N:St} {v:GV} {l:List Unit_} (h:RS A9 N v l) {i:Nat} (hi:i<l.length):∃ kv d0 d1 d2 d3 d4 d5,(iadG 17 v (some i)=some (atz 17 v i)/\(∀ k,fadG k (atz 17 v i)=some (fld k (atz 17 v i)))/\(∀ k m,fadG k (fld m (atz 17 v i))=some (fld (m+k) (atz 17 v i)))/\ldG true 17 N (atz 17 v i)=some (.agg (unV l[i] kv d0 d1 d2 d3 d4 d5))/\ldG false 1 N (fld 0 (atz 17 v i))=some (.bool l[i].batch)/\ldG false 1 N (fld 1 (atz 17 v i))=some (gi l[i].act.dot.rep)/\ldG true 10 N (fld 1 (atz 17 v i))=some (.agg (actV l[i].act kv)))/\A9.R N l[i] (unV l[i] kv d0 d1 d2 d3 d4 d5)/\kAct.R N l[i].act (actV l[i].act kv)/\Aw.R N l[i].delta [d0,d1,d2,d3,d4,d5]:=by
 obtain⟨cs,⟨h1,h2,h3,h4,h5⟩,h6⟩:=RdN.cellsN h hi
 obtain⟨kv,d0,d1,d2,d3,d4,d5,rfl,hA,hD⟩:=Er h6
 exact⟨kv,d0,d1,d2,d3,d4,d5,⟨h1,h2,h3,h4,h5 0 1 false (by decide),h5 1 1 false (by decide),h5 1 10 true (by decide)⟩,h6,hA,hD⟩
def bun (rs:List Thg):Thg:=⟨fun U fp=>sat U rs fp,fun h hf=>h.loc hf⟩
theorem Abr {U:St} {rs:List Thg}:∀ {xs:List Thg} {fp:List Nat},sat U (xs++rs) fp↔sat U (xs++[bun rs]) fp
 |[],fp=>⟨fun h=>⟨fp,[],h,rfl,by simp⟩,fun⟨a,b,h,hb,e⟩=>by
  have hb:b=[]:=hb
  subst hb
  rw[e,Zau];exact h⟩
 |x::xs,fp=>⟨fun ⟨a,b,h,hs,e⟩=>⟨a,b,h,Abr.1 hs,e⟩,fun⟨a,b,h,hs,e⟩=>⟨a,b,h,Abr.2 hs,e⟩⟩
theorem Hp.bun {N U:St} (xs rs:List Thg) (H:Hp N U (xs++rs)):Hp N U (xs++[bun rs]):=by
 obtain⟨h,fp,hs,hn,hb⟩:=H
 exact⟨h,fp,Abr.1 hs,hn,hb⟩
theorem Hp.unbun {N U:St} (xs rs:List Thg) (H:Hp N U (xs++[Sy.bun rs])):Hp N U (xs++rs):=by
 obtain⟨h,fp,hs,hn,hb⟩:=H
 exact⟨h,fp,Abr.2 hs,hn,hb⟩
def told {Y:Type} (d:Kd Y):Kd (Y×List GV) where
 z:=d.z
 R N x cs:=d.R N x.1 cs/\cs=x.2
 O N x cs fp:=d.O N x.1 cs fp/\cs=x.2
 len:=fun h=>d.len h.1
 pre:=fun h hp=>⟨d.pre h.1 hp,h.2⟩
 rd:=fun h=>⟨d.rd h.1,h.2⟩
 loc:=fun h hf=>⟨d.loc h.1 hf,h.2⟩
section
variable {Y:Type} {d:Kd Y} {N U:St} {rs:List Thg} {v:GV} {l:List Y} {m:List (Y×List GV)} {h:List Item}
theorem Anw {css:List (List GV)} {fps:List (List Nat)} (h:All3 (d.O U) l css fps):∃ m:List (Y×List GV),m.map Prod.fst=l/\All3 ((told d).O U) m css fps:=by
 induction h with
 |nil=>exact⟨[],rfl,.nil⟩
 | @cons a b c l' bs cs h _ ih=>
  obtain⟨m,rfl,hm⟩:=ih
  exact⟨(a,b)::m,rfl,.cons ⟨h,rfl⟩ hm⟩
theorem Ai9 {css:List (List GV)} {fps:List (List Nat)} (h:All3 ((told d).O U) m css fps):All3 (d.O U) (m.map Prod.fst) css fps:=by
 induction h with
 |nil=>exact .nil
 |cons h _ ih=>exact .cons h.1 ih
theorem Hp.tell (H:Hp N U (ow d v l::rs)):∃ m:List (Y×List GV),m.map Prod.fst=l/\Hp N U (ow (told d) v m::rs):=by
 obtain⟨h,fp,⟨a,b,hr,hs,rfl⟩,hn,hb⟩:=H
 rcases hr with⟨rfl,rfl,rfl⟩|⟨g,pre,css,post,fps,rfl,hB,hA,rfl⟩
 ·exact⟨[],rfl,h,_,⟨[],b,.inl ⟨rfl,rfl,rfl⟩,hs,rfl⟩,hn,hb⟩
 ·obtain⟨m,rfl,hm⟩:=Anw hA
  exact⟨m,rfl,h,_,⟨_,b,.inr ⟨g,pre,css,post,fps,by rw[Zad],hB,hm,rfl⟩,hs,rfl⟩,hn,hb⟩
theorem Hp.untell (H:Hp N U (ow (told d) v m::rs)):Hp N U (ow d v (m.map Prod.fst)::rs):=
 H.conv fun fp h=>by
  rcases h with⟨rfl,rfl,rfl⟩|⟨g,pre,css,post,fps,rfl,hB,hA,rfl⟩
  ·exact .inl ⟨rfl,rfl,rfl⟩
  ·exact .inr ⟨g,pre,css,post,fps,by rw[Zad],hB,Ai9 hA,rfl⟩
theorem Hx.told_rd (H:Hx N U h) (i:Nat) (hi:h[i]? =some (.th (ow (told d) v m))) {j:Nat} (hj:j<m.length):iadG d.z v (some j)=some (atz d.z v j)/\(∀ k,fadG k (atz d.z v j)=some (fld k (atz d.z v j)))/\(∀ k q,fadG k (fld q (atz d.z v j))=some (fld (q+k) (atz d.z v j)))/\ldX N h U true d.z (atz d.z v j)=some (.agg m[j].2)/\(∀ k n a x,k+n<=d.z->(seg m[j].2 k n).bind (mkv a)=some x->ldX N h U a n (fld k (atz d.z v j))=some x)/\d.R U m[j].1 m[j].2:=by
 obtain⟨cs,⟨h1,h2,h3,h4,h5⟩,h6,rfl⟩:=RdN.cellsN (d:=told d) (H.hp.sl i (at_t hi)) hj
 exact⟨h1,h2,h3,F8 H h4,fun k n a x hk hx=>F8 H ((h5 k n a hk).trans hx),h6⟩
def shs (d:Kd Y) (l:List (List GV×Y)):Thg:=⟨fun U fp=>∃ os:List (List GV×Y),sat U (os.map fun x=>own d x.1 x.2) fp/\∀ x∈l,x∈os,fun {N U fp} h hf=>by
 obtain⟨os,hs,hm⟩:=h
 exact⟨os,sat.loc hs hf,hm⟩⟩
variable {s s':List (List GV×Y)} {cs:List GV} {x:Y}
theorem Hp.shs1 (H:Hp N U (own d cs x::rs)):Hp N U (shs d [(cs,x)]::rs):=
 H.conv fun fp h=>⟨[(cs,x)],⟨fp,[],h,rfl,by simp⟩,fun y hy=>hy⟩
theorem Hp.shsLe (hl:∀ y∈s',y∈s) (H:Hp N U (shs d s::rs)):Hp N U (shs d s'::rs):=
 H.conv fun fp ⟨os,h1,h2⟩=>⟨os,h1,fun y hy=>h2 y (hl y hy)⟩
theorem Hp.shsAdd (H:Hp N U (own d cs x::shs d s::rs)):Hp N U (shs d ((cs,x)::s)::rs):=by
 obtain⟨h,fp,⟨a,_,hr,⟨b,c,⟨os,h1,h2⟩,hs,rfl⟩,rfl⟩,hn,hb⟩:=H
 refine⟨h,_,⟨a++b,c,⟨(cs,x)::os,⟨a,b,hr,h1,rfl⟩,fun y hy=> ?_⟩,hs,rfl⟩,by rw[Zak];exact hn,fun g hg=>hb g (by rw[Zak] at hg;exact hg)⟩
 rcases Zam.1 hy with rfl|hy
 ·exact Zap
 ·exact List.mem_cons_of_mem _ (h2 y hy)
theorem sat_rd {os:List (List GV×Y)} {U:St}:∀ {fp:List Nat},sat U (os.map fun x=>own d x.1 x.2) fp->∀ y∈os,d.R U y.2 y.1:=by
 induction os with
 |nil=>intro fp _ y hy;cases hy
 |cons z os ih=>
  rintro fp ⟨a,b,hr,hs,rfl⟩ y hy
  rcases Zam.1 hy with rfl|hy
  ·exact d.rd hr
  ·exact ih hs y hy
theorem Hp.shs_rd (H:Hp N U rs) (i:Nat) (hi:rs[i]? =some (shs d s)) {y:List GV×Y} (hy:y∈s):d.R U y.2 y.1:=by
 obtain⟨fp,⟨os,h1,h2⟩,_⟩:=(H.pick i hi).turn
 exact sat_rd h1 y (h2 y hy)
end
def A97:Fn1:=⟨57,[.c 2 true 10],(rg [o 2 (.new [z0,z0,z0,.nilS,z0,s0,s0,z0,z0,z0])] (rg [oM 5 0,oC 6 347 5,oM 7 0,o 8 (.call 163 [(.t 7),(ki 9)]),o 9 (.bin .add (ki 1) (.t 8)),oM 10 0,oC 11 344 10,oM 12 0,o 13 (.call 163 [(.t 12),(ki 7)]),o 14 (.bin .add (ki 1) (.t 13)),oM 15 0,oC 16 293 15,o 17 (.build [z0,z0,z0,.nilS,z0,s0,s0,z0,z0,z0] [(0,2,(.t 6)),(2,1,(.t 9)),(3,1,(.t 11)),(4,1,(.t 14)),(5,1,(.t 16))]),o 3 (.new [z0,z0,z0,.nilS,z0,s0,s0,z0,z0,z0]),oS 10 3 17] (rg [oF 18 3 3,oL 19 18,oF 20 0 3,oF 21 0 20,oL 22 21,oF 23 0 3,oF 24 1 23,oL 25 24,oE 26 .sub 25 1,oI 27 1 19 22,oS 1 27 26] (.seq (rg [oF 28 4 3,oL 29 28,oC 30 332 29] (oG 30 (.reg [oM 31 0,oC 32 201 31,oF 33 6 3,oS 1 33 32]))) (.seq (rg [oF 34 4 3,oL 35 34,oC 36 333 35] (oG 36 (.reg [oM 37 0,o 38 (.lit 1 4 [z0,z0,z0,z0] [(0,1,(ki 0)),(1,1,(ki 1)),(2,1,(ki 7)),(3,1,(ki 999999))]),oD 39 331 37 38,oF 40 7 3,oS 1 40 39]))) (.seq (rg [oF 41 4 3,oL 42 41,oE 43 .geq 42 6] (oG 43 (rg [oM 44 0,oC 45 347 44,o 4 (.new [z0,z0]),oS 2 4 45] (rg [oF 46 3 3,oL 47 46,oW 48 2 4,oD 49 45 47 48] (cn 49 (.reg [oW 50 2 4,oF 51 8 3,oS 2 51 50]) (rg [oF 52 4 3,oL 53 52,oE 54 .eql 53 7] (oG 54 (.reg [oF 55 4 3,on (.st 1 (.t 55) (ki 6))])))))))) (rg [oW 56 10 3,oS 10 2 56] .ret)))))))⟩
theorem Aia:A8 Tryz.prog 278=some A97:=by kernel_rfl
def A98:Fn1:=⟨65,[.c 2 true 10],(rg [o 2 (.new [z0,z0,z0,.nilS,z0,s0,s0,z0,z0,z0])] (rg [oM 6 0,o 7 (.call 163 [(.t 6),(ki 12)]),oM 3 7] (rg [oM 8 0,o 9 (.call 163 [(.t 8),(ki 60)]),oM 4 9] (rg [oM 10 0,oC 11 278 10,oC 12 211 11,o 5 (.new [z0,z0,z0,.nilS,z0,s0,s0,z0,z0,z0]),oS 10 5 12] (.seq (rg [oM 13 3] (.blk 0 (rg [oE 15 .eql 13 0,oM 14 15] (cn 14 (.reg [oM 16 4,oE 17 .rem 16 7,oF 18 0 5,oF 19 1 18,oS 1 19 17]) (rg [oE 21 .eql 13 1,oM 20 21] (cn 20 (.reg [o 22 (.lit 1 3 [z0,z0,z0] [(0,1,(ki 0)),(1,1,(ki 10000)),(2,1,(ki 10001))]),oM 23 4,oE 24 .rem 23 3,oI 25 1 22 24,oL 26 25,oF 27 2 5,oS 1 27 26]) (rg [oE 29 .eql 13 2,oM 28 29] (cn 28 (.reg [oM 30 4,oE 31 .rem 30 10,oF 32 4 5,oS 1 32 31]) (rg [oE 34 .eql 13 3,oM 33 34] (cn 33 (.reg [o 35 (.lit 1 3 [s0,s0,s0] [(0,1,(.k s0)),(1,1,(.k (.str ⟨#[120]⟩))),(2,1,(.k (.str ⟨#[88]⟩)))]),oM 36 4,oE 37 .rem 36 3,oI 38 1 35 37,oL 39 38,oF 40 6 5,oS 1 40 39]) (rg [oE 42 .eql 13 4,oM 41 42] (cn 41 (.reg [o 43 (.lit 1 3 [z0,z0,z0] [(0,1,(ki (-1))),(1,1,(ki 5)),(2,1,(ki 1000000))]),oM 44 4,oE 45 .rem 44 3,oI 46 1 43 45,oL 47 46,oF 48 7 5,oS 1 48 47]) (rg [oE 50 .eql 13 5,oM 49 50] (cn 49 (.reg [oM 51 4,oE 52 .rem 51 4,oM 53 4,oE 54 .rem 53 3,o 55 (.build [z0,z0] [(0,1,(.t 52)),(1,1,(.t 54))]),oF 56 8 5,oS 2 56 55]) (rg [oE 58 .eql 13 6,oM 57 58] (oG 57 (.reg [oF 59 3 5,oL 60 59,o 61 (.lit 1 1 [z0] [(0,1,(ki 1))]),o 62 (.app 1 8 [z0] (.t 60) (.t 61)),oF 63 3 5,oS 1 63 62]))))))))))))))))) (rg [oW 64 10 5,oS 10 2 64] .ret))))))⟩
theorem Aib:A8 Tryz.prog 175=some A98:=by kernel_rfl
section
variable {P:Program} {N:St} {env:Env} {h:List Item} {U:St} {Q:Qx} {a b:Cd}
theorem Anx (Z:Env->List Item->St->Prop) (h1:sxc P N a (fun e env h U=>e= .nxt/\Z env h U) env h U) (h2:∀ env h U,Z env h U->Q .nxt env h U):sxc P N a Q env h U:=
 Vq (fun e env h U q=>by obtain⟨rfl,q⟩:=q;exact h2 _ _ _ q) h1
theorem Ajm {c:Option Bool} (Z:Env->List Item->St->Prop) (h1:ifS P N a b (fun e env h U=>e= .nxt/\Z env h U) env h U c) (h2:∀ env h U,Z env h U->Q .nxt env h U):ifS P N a b Q env h U c:=by
 cases c with
 |none=>exact h1
 |some c=>
  rw[ifS_v] at h1 ⊢
  exact⟨fun k=>Anx Z (h1.1 k) h2,fun k=>Anx Z (h1.2 k) h2⟩
end
section
variable {N0 N:St} {h:List Item} {c v:GV} {bs:List Int}
theorem Ala (H:Hx N0 N h) (k:Nat) (hk:h[k]? =some (cuI c v bs)) (D:Dr N0 v bs):∃(ds:List GV) (a:Act) (U:St),(a.knew.length=3/\a.obj.size<=5/\a.key.size<=3)/\Ret Tryz.prog 278 [c] N (.agg ds) U/\Hx N0 U (.th (own kAct ds a)::h):=by
 have key:∃ w U,Ret Tryz.prog 278 [c] N w U/\∃ ds a,w= .agg ds/\(a.knew.length=3/\a.obj.size<=5/\a.key.size<=3)/\Hx N0 U (.th (own kAct ds a)::h):=by
  refine Bg Aia (Z0z rfl) H ?_
  simp only[go_sem,A97]
  intro n2 f2 U2 H2
  have g2:=Av f2
  obtain⟨d,U3,hd,R3,H3⟩:=A1a H2 (k+1) hk D
  refine by_k R3 H3 ?_
  simp only[go_sem]
  obtain⟨x,U4,hx,R4,H4⟩:=Bn H3 (k+1) hk D 9 (by decide) (by decide)
  refine by_k R4 H4 ?_
  obtain⟨tm,htm⟩:∃ q:Int,q=1+(x:Int):=⟨_,rfl⟩
  simp(disch:=omega) only[go_sem,<-htm]
  obtain⟨kv,kn,U5,hkn,R5,H5⟩:=Aqu H4 (k+1) hk D
  have hk3:=hkn.1
  have ck:=(H5.hp.sl 0 rfl).cell
  refine by_m R5 H5 ?_
  simp only[go_sem,ck]
  obtain⟨y,U6,hy,R6,H6⟩:=Bn H5 (k+2) hk D 7 (by decide) (by decide)
  refine by_k R6 H6 ?_
  obtain⟨kd,hkd⟩:∃ q:Int,q=1+(y:Int):=⟨_,rfl⟩
  simp(disch:=omega) only[go_sem,<-hkd,ck]
  obtain⟨ob,U7,hob,R7,H7⟩:=A19 H6 (k+2) hk D
  have hos:=(Ane hob).2
  refine by_k R7 H7 ?_
  simp +contextual (disch:=omega) only[go_sem,ck]
  intro n3 f3 U8 _ U9 H9
  have g3:N0.length<=n3:=Av f3.2
  have ne32:=f3.1
  obtain⟨rn,hrn⟩:∃ rn:Nat,d.rep=rn:=⟨d.rep.toNat,by omega⟩
  have nr:Bu (some (GV.int .i64 d.rep))=some rn:=Df hrn
  have hj:rn<kn.length:=by omega
  have L:=(Cw (H9.hp.sl 1 rfl) hj).1
  try simp only[go_sem,nr,L]
  refine Rn (p:=pI) H9 1 rfl hj (x:=gi (d.seq - 1)) (d.seq - 1) rfl rfl (by decide) fun U10 H10=> ?_
  obtain⟨kn2,hkn2⟩:∃ l,l=kn.set rn (d.seq - 1):=⟨_,rfl⟩
  have hk32:kn2.length=3:=by rw[hkn2,Zav];exact hk3
  have H10:Hx N0 U10 (.box 1 n3 [gi d.rep,gi d.seq,gi tm,kv,gi kd,.str ob,.str ⟨#[]⟩,gi 0,gi 0,gi 0]::.th (ow pI.kd kv kn2)::.box 1 n2 zeV::h):=by rw[hkn2];exact H10
  simp only[List.set_cons_zero,List.set_cons_succ,<-hkn2]
  simp(disch:=omega) only[go_sem]
  refine by_r H10 (Jz _ _) ?_
  simp only[go_sem]
  refine Ajm (fun env h' U=>env 0=c/\env 2= .ptr n2 0/\env 3= .ptr n3 0/\∃ ky:ByteArray,ky.size<=3/\h'= .box 1 n3 [gi d.rep,gi d.seq,gi tm,kv,gi kd,.str ob,.str ky,gi 0,gi 0,gi 0]::.th (ow pI.kd kv kn2)::.box 1 n2 zeV::h/\Hx N0 U h') ?_ ?_
  ·cases hk1:A6w kd with
   |false=>
    simp only[go_sem]
    exact⟨_,by decide,rfl,H10⟩
   |true=>
    simp only[go_sem]
    obtain⟨ky,U11,hky,R11,H11⟩:=J5 H10 (k+3) hk D
    refine by_k R11 H11 ?_
    simp +contextual only[go_sem]
    intro U12 H12
    first
     |exact⟨ky,(Ahw hky).2,rfl,H12⟩
     |exact⟨ky,(Ahw hky).2,rfl⟩
  clear H10 H9 H7 H6 H5 H4 H3 H2
  rintro env h' U11 ⟨e0,e2,e3,ky,hky,rfl,H11⟩
  simp(disch:=omega) only[go_sem,e0,e2,e3]
  refine by_r H11 (Cq _ _) ?_
  simp only[go_sem]
  refine Ajm (fun env h' U=>env 0=c/\env 2= .ptr n2 0/\env 3= .ptr n3 0/\∃ vl:Int,h'= .box 1 n3 [gi d.rep,gi d.seq,gi tm,kv,gi kd,.str ob,.str ky,gi vl,gi 0,gi 0]::.th (ow pI.kd kv kn2)::.box 1 n2 zeV::h/\Hx N0 U h') ?_ ?_
  ·cases hk1:Rd kd with
   |false=>
    simp only[go_sem,e0,e2,e3]
    exact⟨_,rfl,H11⟩
   |true=>
    simp only[go_sem,e0,e2,e3]
    intro n5 f5 U12 H12
    have g5:N0.length<=n5:=Av f5.2.2
    have ne53:=f5.1
    obtain⟨vl,U13,hvl,R13,H13⟩:=D9 H12 (k+4) hk D (litI (l:=[0,1,7,999999]) rfl (by decide)) (by decide) (by decide)
    refine by_k R13 H13.tl ?_
    simp +contextual only[go_sem,e0,e2,e3]
    intro U14 H14
    first
     |exact⟨vl,rfl,H14⟩
     |exact⟨vl,rfl⟩
  clear H11 e0 e2 e3
  rintro env h' U11 ⟨e0,e2,e3,vl,rfl,H11⟩
  simp(disch:=omega) only[go_sem,e0,e2,e3]
  refine Ajm (fun env h' U=>env 2= .ptr n2 0/\env 3= .ptr n3 0/\∃(kd:Int) (rf:Dot) (b:Bool) (n6:Nat) (cs:List GV),n3<n6/\n2<n6/\h'=(if b then .box 1 n6 cs::.box 1 n3 [gi d.rep,gi d.seq,gi tm,kv,gi kd,.str ob,.str ky,gi vl,gi rf.rep,gi rf.seq]::.th (ow pI.kd kv kn2)::.box 1 n2 zeV::h else .box 1 n3 [gi d.rep,gi d.seq,gi tm,kv,gi kd,.str ob,.str ky,gi vl,gi rf.rep,gi rf.seq]::.th (ow pI.kd kv kn2)::.box 1 n2 zeV::h)/\Hx N0 U h') ?_ ?_
  ·cases hk1:decide (6<=kd) with
   |false=>
    simp only[go_sem,hk1,e0,e2,e3]
    exact⟨kd,⟨0,0⟩,false,n3+1,[],by omega,by omega,rfl,H11⟩
   |true=>
    simp only[go_sem,hk1,e0,e2,e3]
    obtain⟨rf,U12,hrf,R12,H12⟩:=A1a H11 (k+3) hk D
    refine by_k R12 H12 ?_
    simp +contextual (disch:=omega) only[go_sem,e0,e2,e3]
    intro n6 f6 U13 _ U14 H14
    have g6:N0.length<=n6:=Av f6.2.2
    have ne63:=f6.1
    try simp only[go_sem,e0,e2,e3]
    refine by_r H14 (Ba _ kv kn2 rf (H14.hp.sl 2 rfl) (by omega)) ?_
    cases hk2:As kn2 rf with
    |true=>
     simp +contextual (disch:=omega) only[go_sem,e0,e2,e3]
     intro U15 H15
     first|exact⟨kd,rf,true,n6,[gi rf.rep,gi rf.seq],ne63,f6.2.1,rfl,H15⟩|exact⟨kd,rf,true,n6,[gi rf.rep,gi rf.seq],ne63,f6.2.1,rfl⟩
    |false=>
     cases hk3:(kd==7) with
     |false=>
      simp(disch:=omega) only[go_sem,e0,e2,e3,hk3]
      exact⟨kd,⟨0,0⟩,true,n6,[gi rf.rep,gi rf.seq],ne63,f6.2.1,rfl,H14⟩
     |true=>
      simp +contextual (disch:=omega) only[go_sem,e0,e2,e3,hk3]
      intro U15 H15
      first|exact⟨6,⟨0,0⟩,true,n6,[gi rf.rep,gi rf.seq],ne63,f6.2.1,rfl,H15⟩|exact⟨6,⟨0,0⟩,true,n6,[gi rf.rep,gi rf.seq],ne63,f6.2.1,rfl⟩
  clear H11 e0 e2 e3
  rintro env h' U11 ⟨e2,e3,kd,rf,b,n6,cs,ne63,ne62,rfl,H11⟩
  cases b with
  |false=>
   simp only[Za0,if_false] at H11 ⊢
   simp +contextual (disch:=omega) only[go_sem,e2,e3]
   intro U12 H12
   have H13:Hx N0 U12 (.th (ow pI.kd kv kn2)::h):=(H12.era 2).tl
   exact⟨_,rfl,_,⟨d,tm,kn2,kd,ob,ky,vl,rf⟩,rfl,⟨hk32,hos,hky⟩,Hp.ownAct (x:=⟨d,tm,kn2,kd,ob,ky,vl,rf⟩) H13.hp⟩
  |true=>
   simp only[if_true] at H11 ⊢
   simp +contextual (disch:=omega) only[go_sem,e2,e3]
   intro U12 H12
   have H13:Hx N0 U12 (.th (ow pI.kd kv kn2)::h):=(H12.era 3).tl.tl
   exact⟨_,rfl,_,⟨d,tm,kn2,kd,ob,ky,vl,rf⟩,rfl,⟨hk32,hos,hky⟩,Hp.ownAct (x:=⟨d,tm,kn2,kd,ob,ky,vl,rf⟩) H13.hp⟩
 obtain⟨w,U,R,ds,a,rfl,h1,h2⟩:=key
 exact⟨ds,a,U,h1,R,h2⟩
theorem Mj (H:Hx N0 N h) (k:Nat) (hk:h[k]? =some (cuI c v bs)) (D:Dr N0 v bs):∃(ds:List GV) (a:Act) (U:St),(a.knew.length<=4/\a.obj.size<=5/\a.key.size<=3)/\Ret Tryz.prog 175 [c] N (.agg ds) U/\Hx N0 U (.th (own kAct ds a)::h):=by
 have key:∃ w U,Ret Tryz.prog 175 [c] N w U/\∃ ds a,w= .agg ds/\(a.knew.length<=4/\a.obj.size<=5/\a.key.size<=3)/\Hx N0 U (.th (own kAct ds a)::h):=by
  refine Bg Aib (Z0z rfl) H ?_
  simp only[go_sem,A98]
  intro n2 f2 U2 H2
  have g2:=Av f2
  obtain⟨x,U3,hx,R3,H3⟩:=Bn H2 (k+1) hk D 12 (by decide) (by decide)
  refine by_k R3 H3 ?_
  simp only[go_sem]
  obtain⟨y,U4,hy,R4,H4⟩:=Bn H3 (k+1) hk D 60 (by decide) (by decide)
  refine by_k R4 H4 ?_
  simp only[go_sem]
  obtain⟨os,a,U5,⟨b1,b2,b3⟩,R5,H5⟩:=Ala H4 (k+1) hk D
  refine by_k R5 H5 ?_
  simp only[go_sem]
  obtain⟨ds,U6,R6,K6⟩:=Oa U5 os a (H5.hp.rd 0 rfl) (by omega)
  have H6:Hx N0 U6 (.th (own kAct ds a)::.box 1 n2 zeV::h):=Hx.era (h:=.th (own kAct ds a)::.th (own kAct os a)::.box 1 n2 zeV::h) (H5.hp.add K6) 1
  obtain⟨kv,rfl,HS⟩:=Hp.splitAct H6.hp
  have HS:Hx N0 U6 (.th (ow pI.kd kv a.knew)::.box 1 n2 zeV::h):=HS
  refine by_m R6 HS ?_
  have ck:=(HS.hp.sl 0 rfl).cell
  clear K6 R6 R5 H5 H6 R4 R3 H4 H3 H2
  simp only[go_sem,ck]
  intro n5 f5 U7 H7 U8 H8
  have g5:=Av f5.2
  have ne25:=f5.1
  clear HS H7 f5 f2
  have fin:∀ {r1 r2 t k5 v6 r7 r8:Int} {o ky:ByteArray} {kv2:GV} {kn:List Int} {b1 b2:List GV} {U:St},Hx N0 U (.box 1 n5 b1::.th (ow pI.kd kv2 kn)::.box 1 n2 b2::h)->Hx N0 U (.th (own kAct [gi r1,gi r2,gi t,kv2,gi k5,.str o,.str ky,gi v6,gi r7,gi r8] ⟨⟨r1,r2⟩,t,kn,k5,o,ky,v6,⟨r7,r8⟩⟩)::h):=fun {r1 r2 t k5 v6 r7 r8 o ky kv2 kn b1 b2 U} H=>Hp.ownAct (x:=⟨⟨r1,r2⟩,t,kn,k5,o,ky,v6,⟨r7,r8⟩⟩) ((H.era 2).tl).hp
  obtain⟨q3,hq3⟩:∃ q,q=y % 3:=⟨_,rfl⟩
  have t3:Bu (some (GV.int .i64 ((y:Int).tmod 3)))=some q3:=Df (by rw[Int.tmod_eq_emod_of_nonneg (by omega)];omega)
  have q3b:q3<3:=by omega
  have m3:¬ ((3:Int)=0):=by decide
  have m4:¬ ((4:Int)=0):=by decide
  have m7:¬ ((7:Int)=0):=by decide
  have m10:¬ ((10:Int)=0):=by decide
  by_cases hx0:x=0
  ·have c0:((x:Int)==0)=true:=by simp[hx0]
   obtain⟨q7,hq7⟩:∃ q,q=(y:Int).tmod 7:=⟨_,rfl⟩
   simp +contextual (disch:=omega) only[go_sem,c0,ck,m7,<-hq7]
   intro U9 _ U10 H10
   refine⟨_,rfl,_,⟨⟨_,_⟩,_,_,_,_,_,_,⟨_,_⟩⟩,rfl,?_,fin H10⟩
   exact⟨by (try simp only);omega,b2,b3⟩
  have c0:((x:Int)==0)=false:=by simp;omega
  by_cases hx1:x=1
  ·have c1:((x:Int)==1)=true:=by simp[hx1]
   simp only[go_sem,c0,c1,ck,m3]
   intro n20 f20 U9 H9
   have g20:=Av (h:=h) f20.2.2
   have ne205:=f20.1
   have LL:=Cw (litI (l:=[0,10000,10001]) rfl (by decide) U9 H9) (i:=q3) q3b
   have L1:iadG 1 (GV.sl n20 0 3) (some q3)=some (atz 1 (GV.sl n20 0 3) q3):=LL.1
   have L2:=F8 H9 LL.2
   have L2:ldX N0 _ U9 false 1 (atz 1 (GV.sl n20 0 3) q3)=some _:=L2
   simp +contextual (disch:=omega) only[go_sem,c0,c1,ck,m3,t3,L1,L2]
   intro U10 _ U11 H11
   refine⟨_,rfl,_,⟨⟨_,_⟩,_,_,_,_,_,_,⟨_,_⟩⟩,rfl,?_,fin H11.tl⟩
   exact⟨by (try simp only);omega,b2,b3⟩
  have c1:((x:Int)==1)=false:=by simp;omega
  by_cases hx2:x=2
  ·have c2:((x:Int)==2)=true:=by simp[hx2]
   obtain⟨q7,hq7⟩:∃ q,q=(y:Int).tmod 10:=⟨_,rfl⟩
   simp +contextual (disch:=omega) only[go_sem,c0,c1,c2,ck,m10,<-hq7]
   intro U9 _ U10 H10
   refine⟨_,rfl,_,⟨⟨_,_⟩,_,_,_,_,_,_,⟨_,_⟩⟩,rfl,?_,fin H10⟩
   exact⟨by (try simp only);omega,b2,b3⟩
  have c2:((x:Int)==2)=false:=by simp;omega
  by_cases hx3:x=3
  ·have c3:((x:Int)==3)=true:=by simp[hx3]
   simp only[go_sem,c0,c1,c2,c3,ck,m3]
   intro n20 f20 U9 H9
   have g20:=Av (h:=h) f20.2.2
   have ne205:=f20.1
   have LL:=Aqk (litS (l:=[⟨#[]⟩,⟨#[120]⟩,⟨#[88]⟩]) rfl (by decide) U9 H9) (i:=q3) q3b
   have L1:iadG 1 (GV.sl n20 0 3) (some q3)=some (atz 1 (GV.sl n20 0 3) q3):=LL.1
   have L2:=F8 H9 LL.2
   have L2:ldX N0 _ U9 false 1 (atz 1 (GV.sl n20 0 3) q3)=some _:=L2
   simp +contextual (disch:=omega) only[go_sem,c0,c1,c2,c3,ck,m3,t3,L1,L2]
   intro U10 _ U11 H11
   refine⟨_,rfl,_,⟨⟨_,_⟩,_,_,_,_,_,_,⟨_,_⟩⟩,rfl,?_,fin H11.tl⟩
   refine⟨by (try simp only);omega,b2,?_⟩
   show ByteArray.size _<=3
   have hm:=Zac (l:=([⟨#[]⟩,⟨#[120]⟩,⟨#[88]⟩]:List ByteArray)) (n:=q3) q3b
   generalize([⟨#[]⟩,⟨#[120]⟩,⟨#[88]⟩]:List ByteArray)[q3]=s at hm ⊢
   simp only[Zam,Zas,or_false] at hm
   rcases hm with rfl|rfl|rfl<;>(simp only;decide)
  have c3:((x:Int)==3)=false:=by simp;omega
  by_cases hx4:x=4
  ·have c4:((x:Int)==4)=true:=by simp[hx4]
   simp only[go_sem,c0,c1,c2,c3,c4,ck,m3]
   intro n20 f20 U9 H9
   have g20:=Av (h:=h) f20.2.2
   have ne205:=f20.1
   have LL:=Cw (litI (l:=[-1,5,1000000]) rfl (by decide) U9 H9) (i:=q3) q3b
   have L1:iadG 1 (GV.sl n20 0 3) (some q3)=some (atz 1 (GV.sl n20 0 3) q3):=LL.1
   have L2:=F8 H9 LL.2
   have L2:ldX N0 _ U9 false 1 (atz 1 (GV.sl n20 0 3) q3)=some _:=L2
   simp +contextual (disch:=omega) only[go_sem,c0,c1,c2,c3,c4,ck,m3,t3,L1,L2]
   intro U10 _ U11 H11
   refine⟨_,rfl,_,⟨⟨_,_⟩,_,_,_,_,_,_,⟨_,_⟩⟩,rfl,?_,fin H11.tl⟩
   exact⟨by (try simp only);omega,b2,b3⟩
  have c4:((x:Int)==4)=false:=by simp;omega
  by_cases hx5:x=5
  ·have c5:((x:Int)==5)=true:=by simp[hx5]
   obtain⟨p3,hp3⟩:∃ q,q=(y:Int).tmod 3:=⟨_,rfl⟩
   obtain⟨p4,hp4⟩:∃ q,q=(y:Int).tmod 4:=⟨_,rfl⟩
   simp +contextual (disch:=omega) only[go_sem,c0,c1,c2,c3,c4,c5,ck,m3,m4,<-hp3,<-hp4]
   intro U9 _ U10 H10
   refine⟨_,rfl,_,⟨⟨_,_⟩,_,_,_,_,_,_,⟨_,_⟩⟩,rfl,?_,fin H10⟩
   exact⟨by (try simp only);omega,b2,b3⟩
  have c5:((x:Int)==5)=false:=by simp;omega
  by_cases hx6:x=6
  ·have c6:((x:Int)==6)=true:=by simp[hx6]
   simp(disch:=omega) only[go_sem,c0,c1,c2,c3,c4,c5,c6,ck]
   intro n20 f20 U9 H9
   refine E8 (p:=pI) H9 2 rfl 1 Be (by decide) (by omega) fun v' U10 H10=> ?_
   have cv:=(H10.hp.sl 2 rfl).cell
   have ne205:=f20.1
   simp +contextual (disch:=omega) only[go_sem,c0,c1,c2,c3,c4,c5,c6,cv]
   intro U11 _ U12 H12
   refine⟨_,rfl,_,⟨⟨_,_⟩,_,_,_,_,_,_,⟨_,_⟩⟩,rfl,?_,fin H12.tl⟩
   exact⟨by simp only[Zag,Zah];omega,b2,b3⟩
  have c6:((x:Int)==6)=false:=by simp;omega
  simp +contextual (disch:=omega) only[go_sem,c0,c1,c2,c3,c4,c5,c6,ck]
  intro U9 H9
  refine⟨_,rfl,_,⟨⟨_,_⟩,_,_,_,_,_,_,⟨_,_⟩⟩,rfl,?_,fin H9⟩
  exact⟨by (try simp only);omega,b2,b3⟩
 obtain⟨w,U,R,ds,a,rfl,h1,h2⟩:=key
 exact⟨ds,a,U,h1,R,h2⟩
end
def A5q:Fn1:=⟨28,[.c 2 true 6],(rg [oX 1 0,o 2 (.new [.nilS,.nilS,.nilS,.nilS,.nilS,.nilS])] (dw [o 3 (.lit 1 0 [] []),oF 4 0 1,oL 5 4,o 6 (.app 1 8 [z0] (.t 3) (.t 5)),o 7 (.lit 1 0 [] []),oF 8 1 1,oL 9 8,o 10 (.app 1 8 [z0] (.t 7) (.t 9)),o 11 (.lit 3 0 [] []),oF 12 2 1,oL 13 12,o 14 (.app 3 32 [s0,z0,z0] (.t 11) (.t 13)),o 15 (.lit 6 0 [] []),oF 16 3 1,oL 17 16,o 18 (.app 6 64 [(.bool false),s0,s0,z0,z0,z0] (.t 15) (.t 17)),o 19 (.lit 2 0 [] []),oF 20 4 1,oL 21 20,o 22 (.app 2 16 [z0,z0] (.t 19) (.t 21)),o 23 (.lit 8 0 [] []),oF 24 5 1,oL 25 24] [o 26 (.app 8 72 [s0,z0,z0,z0,z0,z0,z0,(.bool false)] (.t 23) (.t 25)),o 27 (.build [.nilS,.nilS,.nilS,.nilS,.nilS,.nilS] [(0,1,(.t 6)),(1,1,(.t 10)),(2,1,(.t 14)),(3,1,(.t 18)),(4,1,(.t 22)),(5,1,(.t 26))]),oS 6 2 27] .ret))⟩
theorem Afe:A8 Tryz.prog 223=some A5q:=by kernel_rfl
def X8:Fn1:=⟨26,[.c 2 true 6],(rg [oX 1 0,o 2 (.new [.nilS,.nilS,.nilS,.nilS,.nilS,.nilS])] (dw [oF 3 0 1,oL 4 3,oC 5 182 4,oF 6 1 1,oL 7 6,oC 8 182 7,o 9 (.lit 3 0 [] []),oF 10 2 1,oL 11 10,o 12 (.app 3 32 [s0,z0,z0] (.t 9) (.t 11)),o 13 (.lit 6 0 [] []),oF 14 3 1,oL 15 14,o 16 (.app 6 64 [(.bool false),s0,s0,z0,z0,z0] (.t 13) (.t 15)),o 17 (.lit 2 0 [] []),oF 18 4 1,oL 19 18,o 20 (.app 2 16 [z0,z0] (.t 17) (.t 19)),o 21 (.lit 8 0 [] []),oF 22 5 1,oL 23 22] [o 24 (.app 8 72 [s0,z0,z0,z0,z0,z0,z0,(.bool false)] (.t 21) (.t 23)),o 25 (.build [.nilS,.nilS,.nilS,.nilS,.nilS,.nilS] [(0,1,(.t 5)),(1,1,(.t 8)),(2,1,(.t 12)),(3,1,(.t 16)),(4,1,(.t 20)),(5,1,(.t 24))]),oS 6 2 25] .ret))⟩
theorem A7e:A8 Tryz.prog 311=some X8:=by kernel_rfl
def Q5:Fn1:=⟨12,[.c 2 true 17],(rg [oX 1 0,o 2 (.new [(.bool false),z0,z0,z0,.nilS,z0,s0,s0,z0,z0,z0,.nilS,.nilS,.nilS,.nilS,.nilS,.nilS])] (dw [oF 3 0 1,oL 4 3,oF 5 1 1,oW 6 10 5,oC 7 211 6,oF 8 11 1,oW 9 6 8,oC 10 223 9] [o 11 (.build [(.bool false),z0,z0,z0,.nilS,z0,s0,s0,z0,z0,z0,.nilS,.nilS,.nilS,.nilS,.nilS,.nilS] [(0,1,(.t 4)),(1,10,(.t 7)),(11,6,(.t 10))]),oS 17 2 11] .ret))⟩
theorem A27:A8 Tryz.prog 99=some Q5:=by kernel_rfl
def A1m:Fn1:=⟨12,[.c 2 true 17],(rg [oX 1 0,o 2 (.new [(.bool false),z0,z0,z0,.nilS,z0,s0,s0,z0,z0,z0,.nilS,.nilS,.nilS,.nilS,.nilS,.nilS])] (dw [oF 3 0 1,oL 4 3,oF 5 1 1,oW 6 10 5,oC 7 194 6,oF 8 11 1,oW 9 6 8,oC 10 311 9] [o 11 (.build [(.bool false),z0,z0,z0,.nilS,z0,s0,s0,z0,z0,z0,.nilS,.nilS,.nilS,.nilS,.nilS,.nilS] [(0,1,(.t 4)),(1,10,(.t 7)),(11,6,(.t 10))]),oS 17 2 11] .ret))⟩
theorem Abs:A8 Tryz.prog 228=some A1m:=by kernel_rfl
def Xa:Fn1:=⟨20,[.t 2],(rg [o 2 (.mov (.k .nilS))] (rg [o 6 (.lit 17 0 [] []),oM 3 6] (.seq (rg [oM 7 0,oN 8 7,oV 9 (ki 0)] (oH 0 (rg [oB 10 .lss 9 8] (.seq (oJ 10 0) (.seq (.blk 1 (rg [oI 11 17 7 9,oW 12 17 11,o 5 (.new [(.bool false),z0,z0,z0,.nilS,z0,s0,s0,z0,z0,z0,.nilS,.nilS,.nilS,.nilS,.nilS,.nilS]),oS 17 5 12] (.reg [oM 13 3,oW 14 17 5,oC 15 228 14,o 16 (.lit 17 1 [(.bool false),z0,z0,z0,.nilS,z0,s0,s0,z0,z0,z0,.nilS,.nilS,.nilS,.nilS,.nilS,.nilS] [(0,17,(.t 15))]),o 17 (.app 17 264 [(.bool false),z0,z0,z0,.nilS,z0,s0,s0,z0,z0,z0,.nilS,.nilS,.nilS,.nilS,.nilS,.nilS] (.t 13) (.t 16)),oM 3 17]))) (.reg [oZ 18 9 1,oM 9 18])))))) (rg [oM 19 3,oM 2 19] .ret))))⟩
theorem A7f:A8 Tryz.prog 102=some Xa:=by kernel_rfl
theorem Xb (N:St) (cs:List GV) (x:Delta) (hR:Aw.R N x cs) (hl:Au x<=1073741824):∃ r U,Ret Tryz.prog 223 [.agg cs] N (.agg r) U/\Hp N U [own Aw r x]:=by
 obtain⟨v0,v1,v2,v3,v4,v5,rfl,q0,q1,q2,q3,q4,q5⟩:=hR
 obtain⟨l0,l1,l2,l3,l4,l5,_⟩:=Fs hl
 have key:∃ w U,Ret Tryz.prog 223 [.agg [v0,v1,v2,v3,v4,v5]] N w U/\∃ r,w= .agg r/\Hp N U [own Aw r x]:=by
  refine Bg Afe (Z0z rfl) (Hx.refl N) ?_
  simp +contextual (disch:=omega) only[go_sem,A5q]
  intro n1 f1 U1 H1 n2 f2 U2 H2
  intro n3 f3 U3 H3
  refine Qy (p:=pI) H3 (q0.pre H3.sub) (by decide) (by omega) fun w0 U4 H4=> ?_
  have c0:=(H4.hp.sl 0 rfl).cell
  simp +contextual (disch:=omega) only[go_sem,c0]
  intro n5 f5 U5 H5
  refine Qy (p:=pI) H5 (q1.pre H5.sub) (by decide) (by omega) fun w1 U6 H6=> ?_
  have c1:=(H6.hp.sl 0 rfl).cell
  simp +contextual (disch:=omega) only[go_sem,c0,c1]
  intro n7 f7 U7 H7
  refine Qy (p:=Ah) H7 (q2.pre H7.sub) (by decide) (by omega) fun w2 U8 H8=> ?_
  have c2:=(H8.hp.sl 0 rfl).cell
  simp +contextual (disch:=omega) only[go_sem,c0,c1,c2]
  intro n9 f9 U9 H9
  refine Qy (p:=Ap) H9 (q3.pre H9.sub) (by decide) (by omega) fun w3 U10 H10=> ?_
  have c3:=(H10.hp.sl 0 rfl).cell
  simp +contextual (disch:=omega) only[go_sem,c0,c1,c2,c3]
  intro n11 f11 U11 H11
  refine Qy (p:=pDot) H11 (q4.pre H11.sub) (by decide) (by omega) fun w4 U12 H12=> ?_
  have c4:=(H12.hp.sl 0 rfl).cell
  simp +contextual (disch:=omega) only[go_sem,c0,c1,c2,c3,c4]
  intro n13 f13 U13 H13
  refine Qy (p:=Ai) H13 (q5.pre H13.sub) (by decide) (by omega) fun w5 U14 H14=> ?_
  have c5:=(H14.hp.sl 0 rfl).cell
  simp +contextual (disch:=omega) only[go_sem,c0,c1,c2,c3,c4,c5]
  intro U15 H15
  exact⟨_,rfl,_,rfl,Hp.ownDelta (x:=x) (H15.sel [5,4,3,2,1,0] (by decide))⟩
 obtain⟨q,U,R,r,rfl,h⟩:=key
 exact⟨r,U,R,h⟩
theorem A5r (N:St) (cs:List GV) (x:Delta) (hR:Aw.R N x cs) (hl:Au x<=1073741824):∃ r U,Ret Tryz.prog 311 [.agg cs] N (.agg r) U/\Hp N U [own Aw r x]:=by
 obtain⟨v0,v1,v2,v3,v4,v5,rfl,q0,q1,q2,q3,q4,q5⟩:=hR
 obtain⟨l0,l1,l2,l3,l4,l5,_⟩:=Fs hl
 have key:∃ w U,Ret Tryz.prog 311 [.agg [v0,v1,v2,v3,v4,v5]] N w U/\∃ r,w= .agg r/\Hp N U [own Aw r x]:=by
  refine Bg A7e (Z0z rfl) (Hx.refl N) ?_
  simp +contextual (disch:=omega) only[go_sem,X8]
  intro n1 f1 U1 H1 n2 f2 U2 H2
  obtain⟨w0,U3,R3,K3⟩:=E6 U2 v0 _ (q0.pre H2.sub) (by omega)
  refine by_c H2 R3 K3 fun H3=> ?_
  have c0:=(H3.hp.sl 0 rfl).cell
  simp(disch:=omega) only[go_sem,c0]
  obtain⟨w1,U4,R4,K4⟩:=E6 U3 v1 _ (q1.pre H3.sub) (by omega)
  refine by_c H3 R4 K4 fun H4=> ?_
  have c1:=(H4.hp.sl 0 rfl).cell
  simp +contextual (disch:=omega) only[go_sem,c0,c1]
  intro n5 f5 U5 H5
  refine Qy (p:=Ah) H5 (q2.pre H5.sub) (by decide) (by omega) fun w2 U6 H6=> ?_
  have c2:=(H6.hp.sl 0 rfl).cell
  simp +contextual (disch:=omega) only[go_sem,c0,c1,c2]
  intro n7 f7 U7 H7
  refine Qy (p:=Ap) H7 (q3.pre H7.sub) (by decide) (by omega) fun w3 U8 H8=> ?_
  have c3:=(H8.hp.sl 0 rfl).cell
  simp +contextual (disch:=omega) only[go_sem,c0,c1,c2,c3]
  intro n9 f9 U9 H9
  refine Qy (p:=pDot) H9 (q4.pre H9.sub) (by decide) (by omega) fun w4 U10 H10=> ?_
  have c4:=(H10.hp.sl 0 rfl).cell
  simp +contextual (disch:=omega) only[go_sem,c0,c1,c2,c3,c4]
  intro n11 f11 U11 H11
  refine Qy (p:=Ai) H11 (q5.pre H11.sub) (by decide) (by omega) fun w5 U12 H12=> ?_
  have c5:=(H12.hp.sl 0 rfl).cell
  simp +contextual (disch:=omega) only[go_sem,c0,c1,c2,c3,c4,c5]
  intro U13 H13
  exact⟨_,rfl,_,rfl,Hp.ownDelta (x:=x) (H13.sel [5,4,3,2,1,0] (by decide))⟩
 obtain⟨q,U,R,r,rfl,h⟩:=key
 exact⟨r,U,R,h⟩
theorem Es (N:St) (cs:List GV) (x:Unit_) (hR:A9.R N x cs) (hl:Aj x<=1073741824):∃ r U,Ret Tryz.prog 99 [.agg cs] N (.agg r) U/\Hp N U [own A9 r x]:=by
 obtain⟨kv,d0,d1,d2,d3,d4,d5,rfl,hA,hD⟩:=Er hR
 have hma:Ck x.act<=1073741824/\Au x.delta<=1073741824:=by unfold Aj at hl;omega
 have hkn:x.act.knew.length<=1073741824:=by have:=hma.1;unfold Ck at this;omega
 have key:∃ w U,Ret Tryz.prog 99 [.agg (unV x kv d0 d1 d2 d3 d4 d5)] N w U/\∃ r,w= .agg r/\Hp N U [own A9 r x]:=by
  refine Bg A27 (Z0z rfl) (Hx.refl N) ?_
  simp +contextual (disch:=omega) only[go_sem,Q5]
  intro n1 f1 U1 H1 n2 f2 U2 H2
  obtain⟨a,U3,R3,K3⟩:=Oa U2 _ x.act (kAct.pre hA H2.sub) (by omega)
  refine by_c H2 R3 K3 fun H3=> ?_
  obtain⟨ka,rfl,_⟩:=K3.rd 0 rfl
  simp(disch:=omega) only[go_sem]
  obtain⟨e,U4,R4,K4⟩:=Xb U3 _ x.delta (Aw.pre hD H3.sub) hma.2
  refine by_c H3 R4 K4 fun H4=> ?_
  obtain⟨e0,e1,e2,e3,e4,e5,rfl,_⟩:=K4.rd 0 rfl
  simp +contextual (disch:=omega) only[go_sem]
  intro U5 H5
  exact⟨_,rfl,_,rfl,Hp.ownUnit_ (x:=x) (H5.sel [1,0] (by decide))⟩
 obtain⟨q,U,R,r,rfl,h⟩:=key
 exact⟨r,U,R,h⟩
theorem A7g (N:St) (cs:List GV) (x:Unit_) (hR:A9.R N x cs) (hl:Aj x<=1073741824):∃ r U,Ret Tryz.prog 228 [.agg cs] N (.agg r) U/\Hp N U [own A9 r x]:=by
 obtain⟨kv,d0,d1,d2,d3,d4,d5,rfl,hA,hD⟩:=Er hR
 have hma:Ck x.act<=1073741824/\Au x.delta<=1073741824:=by unfold Aj at hl;omega
 have hkn:x.act.knew.length<=1073741824:=by have:=hma.1;unfold Ck at this;omega
 have key:∃ w U,Ret Tryz.prog 228 [.agg (unV x kv d0 d1 d2 d3 d4 d5)] N w U/\∃ r,w= .agg r/\Hp N U [own A9 r x]:=by
  refine Bg Abs (Z0z rfl) (Hx.refl N) ?_
  simp +contextual (disch:=omega) only[go_sem,A1m]
  intro n1 f1 U1 H1 n2 f2 U2 H2
  obtain⟨a,U3,R3,K3⟩:=Abq U2 _ x.act (kAct.pre hA H2.sub) (by omega)
  refine by_c H2 R3 K3 fun H3=> ?_
  obtain⟨ka,rfl,_⟩:=K3.rd 0 rfl
  simp(disch:=omega) only[go_sem]
  obtain⟨e,U4,R4,K4⟩:=A5r U3 _ x.delta (Aw.pre hD H3.sub) hma.2
  refine by_c H3 R4 K4 fun H4=> ?_
  obtain⟨e0,e1,e2,e3,e4,e5,rfl,_⟩:=K4.rd 0 rfl
  simp +contextual (disch:=omega) only[go_sem]
  intro U5 H5
  exact⟨_,rfl,_,rfl,Hp.ownUnit_ (x:=x) (H5.sel [1,0] (by decide))⟩
 obtain⟨q,U,R,r,rfl,h⟩:=key
 exact⟨r,U,R,h⟩
theorem A5s (N:St) (v:GV) (l:List Unit_) (h:RS A9 N v l) (hl:l.length+sumL Aj l<=1048576):∃ w U,Ret Tryz.prog 102 [v] N w U/\Hp N U [ow A9 w l]:=by
 refine Bg A7f (Z0z rfl) (Hx.refl N) ?_
 simp only[go_sem,Xa,h.len]
 intro n1 f1 U1 H1
 refine Ax l.length 9 0 (fun i env h=>env 7=v/\env 8=gi l.length/\∃ w,env 3=w/\h=[.th (ow A9 w (l.take i))]) (fun env h=>∃ w,env 3=w/\h=[.th (ow A9 w l)]) (fun _ _=>False) _ (H1.emp A9 rfl) (rfl) ⟨rfl,rfl,_,rfl,rfl⟩ ?_ ?_ ?_ (fun _ _ _ _ h=>h.elim)
 ·clear H1
  rintro J Yq Wq hJ hY hW i env h' U hi ei c0 H ⟨e7,e8,w,e3,rfl⟩
  obtain⟨kv,d0,d1,d2,d3,d4,d5,Uq,hU,hA,hD⟩:=Ob h hi
  have hmu:Aj l[i]<=sumL Aj l:=Ev (f:=Aj) (Zac hi)
  simp +contextual only[go_sem,c0,e7,e8,e3,ei,A0,Uq]
  intro n2 f2 U2 _ U3 H3
  obtain⟨q,U4,R4,K4⟩:=A7g U3 _ l[i] (A9.pre hU H3.sub) (by omega)
  have ql:q.length=17:=A9.len (K4.rd 0 rfl)
  refine by_c H3 R4 K4 fun H4=> ?_
  simp only[go_sem,A5 (cs:=zeU) ql rfl,ql,e3]
  intro n3 f3 U5 H5
  refine Ga H5 1 2 rfl rfl Be (by decide) (by rw[Zat];omega) fun w' U6 H6=> ?_
  simp(disch:=omega) only[go_sem,ei]
  exact hJ _ _ _ _ (H6.re [2] (by decide)) ⟨e7,e8,w',rfl,by rw[Ak hi];rfl⟩
 ·clear H1
  rintro Yq hY env h' U ei c0 H ⟨e7,e8,w,e3,rfl⟩
  simp only[go_sem,c0,e8,ei]
  exact hY _ _ _ H ⟨w,e3,by rw[Zaa]⟩
 ·rintro env h' U H ⟨w,e3,rfl⟩
  simp only[go_sem,e3]
  exact fun _=>⟨_,rfl,H.hp⟩
def Afg:Fn1:=⟨17,[.t 2],(rg [oV 2 (ki 0)] (rg [oV 3 (ki 0)] (.seq (rg [oM 6 0,oN 7 6,oV 8 (ki 0)] (oH 0 (rg [oB 9 .lss 8 7] (.seq (oJ 9 0) (.seq (.blk 1 (rg [oI 10 1 6 8,oL 11 10,oM 5 11] (.reg [oM 12 3,oM 13 5,oB 14 .add 12 13,oM 3 14]))) (.reg [oZ 15 8 1,oM 8 15])))))) (rg [oM 16 3,oM 2 16] .ret))))⟩
theorem Alb:A8 Tryz.prog 107=some Afg:=by kernel_rfl
def A9a:Fn1:=⟨18,[.t 2],(rg [oV 2 (ki 0)] (rg [oV 3 (ki 0)] (.seq (rg [oV 4 (ki 0)] (oH 0 (.seq (rg [oM 5 4,oM 6 0,oN 7 6,oB 8 .lss 5 7] (oJ 8 0)) (.seq (.blk 1 (.reg [oM 11 3,oM 12 0,oM 13 4,oI 14 1 12 13,oL 15 14,oB 16 .add 11 15,oM 3 16])) (.reg [oM 9 4,oZ 10 9 1,oM 4 10]))))) (rg [oM 17 3,oM 2 17] .ret))))⟩
theorem Aic:A8 Tryz.prog 222=some A9a:=by kernel_rfl
def A5u:Fn1:=⟨26,[.t 4],(rg [oX 2 0,oX 3 1,oV 4 kf] (.seq (dw [oF 5 3 2,oL 6 5,oC 7 222 6,oF 8 3 3,oL 9 8] [oC 10 222 9,oB 11 .neq 7 10] (oG 11 (dw [oF 12 3 2,oL 13 12,oC 14 222 13,oF 15 3 3,oL 16 15] [oC 17 222 16,oB 18 .lss 14 17,oM 4 18] .ret))) (rg [oF 19 0 2,oF 20 0 19,oL 21 20,oF 22 0 3,oF 23 0 22,oL 24 23,oB 25 .lss 21 24,oM 4 25] .ret)))⟩
theorem Afh:A8 Tryz.prog 98=some A5u:=by kernel_rfl
def Rx:Fn1:=⟨25,[.t 4],(rg [oX 2 0,oX 3 1,oV 4 (ki 0)] (dw [oF 5 1 2,oF 6 3 5,oL 7 6,oC 8 107 7,oF 9 1 3,oF 10 3 9,oL 11 10,oC 12 107 11,oD 13 106 8 12,oF 14 1 2,oF 15 0 14,oF 16 0 15,oL 17 16,oF 18 1 3,oF 19 0 18,oF 20 0 19,oL 21 20] [oD 22 106 17 21,o 23 (.lit 1 2 [z0,z0] [(0,1,(.t 13)),(1,1,(.t 22))]),oC 24 105 23,oM 4 24] .ret))⟩
theorem A5v:A8 Tryz.prog 104=some Rx:=by kernel_rfl
def sumW (l:List Int):Int:=l.foldl (fun a b=>IntKind.i64.wrap (a+b)) 0
theorem Afi {l:List Int} {i:Nat} (hi:i<l.length):sumW (l.take (i+1))=IntKind.i64.wrap (sumW (l.take i)+l[i]):=by
 unfold sumW;rw[Ak hi,List.foldl_append];rfl
theorem A5w (N:St) (v:GV) (l:List Int) (h:RS pI.kd N v l) (hl:l.length<=1099511627776):Ret Tryz.prog 107 [v] N (gi (sumW l)) N:=by
 refine Cb Alb (Z0z rfl) trivial ?_
 simp only[go_sem,Afg,h.len]
 refine Ax l.length 8 0 (fun i env h=>env 6=v/\env 7=gi l.length/\env 3=gi (sumW (l.take i))/\h=[]) (fun env h=>env 3=gi (sumW l)) (fun _ _=>False) _ (Hx.refl N) (rfl) ⟨rfl,rfl,by simp only[go_sem];rfl,rfl⟩ ?_ ?_ ?_ (fun _ _ _ _ h=>h.elim)
 ·rintro J Yq Wq hJ hY hW i env h' U hi ei c0 H ⟨e6,e7,e3,rfl⟩
  have L:=Cw h hi
  obtain⟨q,hq⟩:∃ q,q=sumW (l.take i):=⟨_,rfl⟩
  rw[<- hq] at e3
  simp(disch:=omega) only[go_sem,c0,e6,e7,e3,ei,A0,L]
  exact hJ _ _ _ _ H ⟨e6,e7,by simp only[go_sem];rw[Afi hi,hq],rfl⟩
 ·rintro Yq hY env h' U ei c0 H ⟨e6,e7,e3,rfl⟩
  simp only[go_sem,c0,e7,ei]
  exact hY _ _ _ H (by simp only[go_sem,e3,Zaa])
 ·rintro env h' U H e3
  simp only[go_sem,e3]
theorem Lf (N:St) (v:GV) (l:List Int) (h:RS pI.kd N v l) (hl:l.length<=1099511627776):Ret Tryz.prog 222 [v] N (gi (sumW l)) N:=by
 refine Cb Aic (Z0z rfl) trivial ?_
 simp only[go_sem,A9a,h.len]
 refine Ax l.length 4 0 (fun i env h=>env 0=v/\env 3=gi (sumW (l.take i))/\h=[]) (fun env h=>env 3=gi (sumW l)) (fun _ _=>False) _ (Hx.refl N) (rfl) ⟨rfl,by simp only[go_sem];rfl,rfl⟩ ?_ ?_ ?_ (fun _ _ _ _ h=>h.elim)
 ·rintro J Yq Wq hJ hY hW i env h' U hi ei c0 H ⟨e0,e3,rfl⟩
  have L:=Cw h hi
  obtain⟨q,hq⟩:∃ q,q=sumW (l.take i):=⟨_,rfl⟩
  rw[<- hq] at e3
  simp(disch:=omega) only[go_sem,c0,e0,e3,ei,A0,L,h.len]
  exact hJ _ _ _ _ H ⟨e0,by simp only[go_sem];rw[Afi hi,hq],rfl⟩
 ·rintro Yq hY env h' U ei c0 H ⟨e0,e3,rfl⟩
  simp only[go_sem,c0,e0,ei,h.len]
  exact hY _ _ _ H (by simp only[go_sem,e3,Zaa])
 ·rintro env h' U H e3
  simp only[go_sem,e3]
def A28 (a b:Act):Bool:=if sumW a.knew != sumW b.knew then decide (sumW a.knew<sumW b.knew) else decide (a.dot.rep<b.dot.rep)
def cmpU (a b:Unit_):Int:=orI (cmpI (sumW a.act.knew) (sumW b.act.knew)) (cmpI a.act.dot.rep b.act.dot.rep)
theorem Asu (a b:Unit_):decide (cmpU a b<0)=A28 a.act b.act:=by
 unfold cmpU A28 orI cmpI
 simp only[bne_iff_ne]
 repeat' split
 all_goals simp_all
 all_goals omega
theorem Abt (N:St) (cs ds:List GV) (a b:Act) (hR:kAct.R N a cs) (hS:kAct.R N b ds) (hl:a.knew.length<=1099511627776) (hm:b.knew.length<=1099511627776):Ret Tryz.prog 98 [.agg cs,.agg ds] N (.bool (A28 a b)) N:=by
 obtain⟨v,rfl,q⟩:=hR
 obtain⟨u,rfl,p⟩:=hS
 refine Cb Afh (Z0z rfl) trivial ?_
 simp +contextual (disch:=omega) only[go_sem,A5u]
 intro n1 f1 U0 _ n2 f2 U H
 have S:=H.sub
 refine by_r H (Lf _ v _ (q.pre S) hl) ?_
 simp(disch:=omega) only[go_sem]
 refine by_r H (Lf _ u _ (p.pre S) hm) ?_
 simp only[go_sem]
 cases hb:(sumW a.knew != sumW b.knew) with
 |true=>
  have e:A28 a b=decide (sumW a.knew<sumW b.knew):=by unfold A28;rw[if_pos hb]
  simp(disch:=omega) only[go_sem,hb]
  refine by_r H (Lf _ v _ (q.pre S) hl) ?_
  simp(disch:=omega) only[go_sem]
  refine by_r H (Lf _ u _ (p.pre S) hm) ?_
  simp only[go_sem,e]
 |false=>
  have e:A28 a b=decide (a.dot.rep<b.dot.rep):=by unfold A28;rw[if_neg (by simp[hb])]
  simp(disch:=omega) only[go_sem,hb,e]
theorem Alc (N:St) (cs ds:List GV) (a b:Unit_) (hR:A9.R N a cs) (hS:A9.R N b ds) (hl:a.act.knew.length<=1099511627776) (hm:b.act.knew.length<=1099511627776):Ret Tryz.prog 104 [.agg cs,.agg ds] N (gi (cmpU a b)) N:=by
 obtain⟨v,c0,c1,c2,c3,c4,c5,rfl,⟨_,e1,q⟩,_⟩:=Er hR
 obtain⟨u,d0,d1,d2,d3,d4,d5,rfl,⟨_,e2,p⟩,_⟩:=Er hS
 cases e1
 cases e2
 refine Cb A5v (Z0z rfl) trivial ?_
 simp +contextual (disch:=omega) only[go_sem,Rx]
 intro n1 f1 U0 _ n2 f2 U H
 have S:=H.sub
 refine by_r H (A5w _ v _ (q.pre S) hl) ?_
 simp(disch:=omega) only[go_sem]
 refine by_r H (A5w _ u _ (p.pre S) hm) ?_
 simp only[go_sem]
 refine by_r H (Dl _ _ _) ?_
 simp(disch:=omega) only[go_sem]
 refine by_r H (Dl _ _ _) ?_
 simp only[go_sem]
 intro n3 f3 U3 H3
 refine by_r H3 (Lh _ _ [cmpI (sumW a.act.knew) (sumW b.act.knew),cmpI a.act.dot.rep b.act.dot.rep] ((Hp.toRow (p:=pI) H3.hp 0 rfl [cmpI (sumW a.act.knew) (sumW b.act.knew),cmpI a.act.dot.rep b.act.dot.rep] rfl rfl _ rfl).sl 0 rfl) (by simp)) ?_
 simp only[go_sem,Ah7]
 exact fun _=>rfl
def A5x:Fn1:=⟨79,[.t 2,.t 3],(rg [o 2 (.mov (.k .nilS)),oV 3 kf] (rg [o 9 (.lit 17 0 [] []),oM 4 9] (.seq (rg [oV 5 (ki 0)] (oH 0 (.seq (rg [oM 10 5,oM 11 0,oN 12 11,oB 13 .lss 10 12] (oJ 13 0)) (.seq (.blk 1 (.seq (rg [oM 16 0,oM 17 5,oI 18 17 16 17,oF 19 0 18,oL 20 19,oM 21 20,vM 22 21 0,vM 23 21 5,vI 24 21 17 22 23,vW 25 21 17 24,vC 26 21 97 25,vU 27 21 26,oP 28 21 27] (oG 28 (rg [o 29 (.lit 17 0 [] []),oM 2 29,oV 3 kf] .ret))) (rg [o 30 (.lit 17 0 [] []),oM 6 30] (rg [oV 7 kf] (.seq (rg [oV 8 (ki 0)] (oH 2 (.seq (rg [oM 31 8,oM 32 4,oN 33 32,oB 34 .lss 31 33] (oJ 34 2)) (.seq (.blk 3 (.seq (dw [oM 37 7,oU 38 37,oM 39 38,jM 40 39 0,jM 41 39 5,jI 42 39 17 40 41,jF 43 39 1 42,jW 44 39 10 43,jM 45 39 4,jM 46 39 8,jI 47 39 17 45 46,jF 48 39 1 47,jW 49 39 10 48] [jD 50 39 98 44 49,oQ 51 39 50] (oG 51 (rg [oM 52 6,oM 53 0,oM 54 5,oI 55 17 53 54,oW 56 17 55,oC 57 99 56,o 58 (.lit 17 1 [(.bool false),z0,z0,z0,.nilS,z0,s0,s0,z0,z0,z0,.nilS,.nilS,.nilS,.nilS,.nilS,.nilS] [(0,17,(.t 57))]),o 59 (.app 17 264 [(.bool false),z0,z0,z0,.nilS,z0,s0,s0,z0,z0,z0,.nilS,.nilS,.nilS,.nilS,.nilS,.nilS] (.t 52) (.t 58)),oM 6 59] (.reg [oV 7 kt])))) (.reg [oM 60 6,oM 61 4,oM 62 8,oI 63 17 61 62,oW 64 17 63,o 65 (.lit 17 1 [(.bool false),z0,z0,z0,.nilS,z0,s0,s0,z0,z0,z0,.nilS,.nilS,.nilS,.nilS,.nilS,.nilS] [(0,17,(.t 64))]),o 66 (.app 17 264 [(.bool false),z0,z0,z0,.nilS,z0,s0,s0,z0,z0,z0,.nilS,.nilS,.nilS,.nilS,.nilS,.nilS] (.t 60) (.t 65)),oM 6 66]))) (.reg [oM 35 8,oZ 36 35 1,oM 8 36]))))) (.seq (rg [oM 67 7,oU 68 67] (oG 68 (.reg [oM 69 6,oM 70 0,oM 71 5,oI 72 17 70 71,oW 73 17 72,oC 74 99 73,o 75 (.lit 17 1 [(.bool false),z0,z0,z0,.nilS,z0,s0,s0,z0,z0,z0,.nilS,.nilS,.nilS,.nilS,.nilS,.nilS] [(0,17,(.t 74))]),o 76 (.app 17 264 [(.bool false),z0,z0,z0,.nilS,z0,s0,s0,z0,z0,z0,.nilS,.nilS,.nilS,.nilS,.nilS,.nilS] (.t 69) (.t 75)),oM 6 76]))) (.reg [oM 77 6,oM 4 77]))))))) (.reg [oM 14 5,oZ 15 14 1,oM 5 15]))))) (rg [oM 78 4,oM 2 78,oV 3 kt] .ret))))⟩
theorem Afj:A8 Tryz.prog 12=some A5x:=by kernel_rfl
def fitU (u:Unit_):Bool:= !u.batch&&Fy u
def Ja (x y:Unit_):Bool:=A28 x.act y.act
def Kj (us:List Unit_):Bool:=us.all fitU
def Fz (us:List Unit_):List Unit_:=if Kj us then Ar Ja us else[]
def zmR (v w:GV) (acc nxt:List Unit_) (j:Nat) (h:List Item):Prop:=(∃ hj:j<acc.length,∃ cs,h=[.th (own A9 cs acc[j]),.th (ow A9 v nxt),.th (rst A9 w acc j cs)])∨(j=acc.length/\h=[.th (ow A9 v nxt),.th (rest A9 w acc j)])
theorem Aqz {N U:St} {v w:GV} {acc nxt:List Unit_} {j:Nat} (H:Hx N U [.th (ow A9 v nxt),.th (rest A9 w acc j)]) (hle:j<=acc.length):∃ h,Hx N U h/\zmR v w acc nxt j h:=by
 by_cases hj:j<acc.length
 ·obtain⟨cs,Z⟩:=Hp.toRst (H.hp.pick 1 rfl) hj
  exact⟨_,(Hx.of Z).re [0,2,1] (by decide),.inl ⟨hj,cs,rfl⟩⟩
 ·exact⟨_,H,.inr ⟨by omega,rfl⟩⟩
theorem Ajn {l:List Unit_} {i:Nat} (hi:i<l.length) (h:fitU l[i]=false):Kj l=false:=by
 unfold Kj
 rw[List.all_eq_false]
 exact⟨l[i],Zac hi,by simp[h]⟩
theorem Abu {l:List Unit_} {i:Nat} (hi:i<l.length) (ha:∀ j (hj:j<l.length),j<i->fitU l[j]=true) (h:fitU l[i]=true):∀ j (hj:j<l.length),j<i+1->fitU l[j]=true:=fun j hj hji=>by
 rcases Nat.lt_or_ge j i with h1|h1
 ·exact ha j hj h1
 ·have:j=i:=by omega
  subst this;exact h
theorem Any {l:List Unit_} (ha:∀ j (hj:j<l.length),j<l.length->fitU l[j]=true):Kj l=true:=by
 unfold Kj
 rw[List.all_eq_true]
 intro x hx
 obtain⟨i,hi,e⟩:=List.getElem_of_mem hx
 rw[<- e];exact ha i hi hi
theorem Apy {l:List Unit_} {i:Nat} (hi:i<l.length):Ar Ja (l.take (i+1))=insB Ja l[i] (Ar Ja (l.take i)):=by
 have:=A42 (lt:=Ja) (l:=l) (p:=fun _=>true) hi
 have e:∀ m:List Unit_,m.filter (fun _=>true)=m:=fun m=>Zaz.2 fun _ _=>rfl
 rw[e,e] at this
 simpa using this
theorem Aid (N:St) (v:GV) (l:List Unit_) (h:RS A9 N v l) (hl:l.length+sumL Aj l<=1048576):∃ q U,Ret Tryz.prog 12 [v] N q U/\∃ w,q= .tup [w,.bool (Kj l)]/\Hp N U [ow A9 w (Fz l)]:=by
 refine Bg Afj (Z0z rfl) (Hx.refl N) ?_
 simp only[go_sem,A5x]
 intro n1 f1 U1 H1
 refine Ax l.length 5 0 (fun i env h=>env 0=v/\(∀ j (hj:j<l.length),j<i->fitU l[j]=true)/\∃ w,env 4=w/\h=[.th (ow A9 w (Ar Ja (l.take i)))]) (fun env h=>Kj l=true/\∃ w,env 4=w/\h=[.th (ow A9 w (Ar Ja l))]) (fun env h=>Kj l=false/\∃ w,env 2=w/\env 3= .bool false/\h=[.th (ow A9 w [])]) _ (H1.emp A9 rfl) (rfl) ⟨rfl,fun j hj hh=>by omega,_,rfl,rfl⟩ ?_ ?_ ?_ ?_
 ·skip
  rintro J Yq Wq hJ hY hW i env h' U hi ei c0 H ⟨e0,ha,w,e4,rfl⟩
  obtain⟨kv,d0,d1,d2,d3,d4,d5,Uq,hU,hA,hD⟩:=Ob h hi
  have hmu:Aj l[i]<=sumL Aj l:=Ev (f:=Aj) (Zac hi)
  have hkn:l[i].act.knew.length<=Aj l[i]:=by unfold Aj Ck;omega
  cases hb:l[i].batch with
  |true=>
   have hf:fitU l[i]=false:=by simp[fitU,hb]
   simp only[go_sem,c0,e0,e4,ei,A0,h.len,Uq,hb]
   intro n2 f2 U2 H2
   refine hW _ _ _ ((H2.emp A9 rfl).re [0] (by decide)) ⟨Ajn hi hf,_,rfl,rfl,rfl⟩
  |false=>
   simp only[go_sem,c0,e0,e4,ei,A0,h.len,Uq,hb]
   refine by_b H (Jr _ _ l[i] (A9.pre hU H.sub) (by omega)) (fun h1=> ?_) (fun h1=> ?_)
   rotate_left
   ·have hf:fitU l[i]=false:=by simp[fitU,hb,h1]
    simp only[go_sem,c0,e0,e4,ei]
    intro n2 f2 U2 H2
    refine hW _ _ _ ((H2.emp A9 rfl).re [0] (by decide)) ⟨Ajn hi hf,_,rfl,rfl,rfl⟩
   have hf:fitU l[i]=true:=by simp[fitU,hb,h1]
   simp only[go_sem,c0,e0,e4,ei]
   intro n2 f2 U2 H2
   obtain⟨acc,hacc⟩:∃ acc,acc=Ar Ja (l.take i):=⟨_,rfl⟩
   rw[<- hacc] at H H2
   have hmem:∀ x∈acc,x∈l:=fun x hx=>by rw[hacc] at hx;exact Zan ((Bb _ _).mem_iff.1 hx)
   have hnext:Ar Ja (l.take (i+1))=insB Ja l[i] acc:=by rw[hacc];exact Apy hi
   have hal:acc.length<=l.length:=by
    have:=Adx (lt:=Ja) (l:=l) (p:=fun _=>true) (i:=i)
    have e:(l.take i).filter (fun _=>true)=l.take i:=Zaz.2 fun _ _=>rfl
    rw[e] at this;rw[hacc];exact this
   have hwl:lenG false w=some (acc.length:Int):=(H.hp.sl 0 rfl).len
   have H3:Hx N U2 [.th (ow A9 (.sl n2 0 0) []),.th (rest A9 w acc 0)]:=(Hx.of (Hp.toRest (((H2.emp A9 rfl).re [1,0] (by decide)).hp))).re [1,0] (by decide)
   obtain⟨hz,HZ,Z0⟩:=Aqz H3 (by omega)
   refine Ax acc.length 8 2 (fun j env h=>env 0=v/\env 5=gi i/\env 4=w/\∃ w6 nxt put,env 6=w6/\env 7= .bool put/\insG Ja l[i] acc nxt j put/\zmR w6 w acc nxt j h) (fun env h=>env 0=v/\env 5=gi i/\∃ w6 nxt put,env 6=w6/\env 7= .bool put/\insG Ja l[i] acc nxt acc.length put/\h=[.th (ow A9 w6 nxt)]) (fun _ _=>False) hz HZ (rfl) ⟨e0,ei,e4,_,[],false,rfl,rfl,Vd,Z0⟩ ?_ ?_ ?_ (fun _ _ _ _ h=>h.elim)
   ·clear H H1 H2 H3 HZ Z0
    rintro J2 Yq2 Wq2 hJ2 hY2 hW2 j env h' U hj ej c0 H ⟨e0,ei,e4,w6,nxt,put,e6,e7,hI,hz⟩
    rcases hz with⟨_,cs,rfl⟩|⟨hz,_⟩
    rotate_left
    ·omega
    have hcu:=H.hp.rd 0 rfl
    have hcl:cs.length=17:=A9.len hcu
    obtain⟨ku,b0,b1,b2,b3,b4,b5,hcs,hAu,hDu⟩:=Er hcu
    obtain⟨z1,z2,z3,z4,z5⟩:=H.rst_rd 2 rfl hj
    have z1:iadG 17 w (some j)=some (atz 17 w j):=z1
    have z2:∀ k,fadG k (atz 17 w j)=some (fld k (atz 17 w j)):=z2
    have z4:ldX N [.th (own A9 cs acc[j]),.th (ow A9 w6 nxt),.th (rst A9 w acc j cs)] U true 17 (atz 17 w j)=some (.agg cs):=F8 H z4
    have z5:ldX N [.th (own A9 cs acc[j]),.th (ow A9 w6 nxt),.th (rst A9 w acc j cs)] U true 10 (fld 1 (atz 17 w j))=some (.agg (actV acc[j].act ku)):=F8 H (by
     have z6:ldG true 10 U (fld 1 (atz 17 w j))=(seg cs 1 10).bind (mkv true):=z5 1 10 true (by decide)
     rw[z6,hcs];rfl)
    have hnl:=Ey hI
    have S:=H.sub
    have hacc:acc.length=(l.take i).length:=by rw[hacc,Cm]
    have hact:acc.length<l.length:=by rw[hacc,Zat];omega
    have fin:∀(w7:GV) (nx:List Unit_) (b:List Item) (U:St),Hx N U [.th (ow A9 w7 nx),.th (rst A9 w acc j cs)]->∃ hz,Hx N U hz/\zmR w7 w acc nx (j+1) hz:=fun w7 nx b U H=>by
     have H2:Hx N U [.th (ow A9 w7 nx),.th (rest A9 w acc (j+1))]:=(Hx.of (Hp.ofRst ((H.re [1,0] (by decide)).hp))).re [1,0] (by decide)
     exact Aqz H2 (by omega)
    have mu:Aj l[i]<=1048576:=by omega
    cases put with
    |true=>
     simp only[go_sem,c0,e0,ei,e4,e6,e7,ej,A0,hwl,z1,z2,z4,z5,Uq,A5 (cs:=zeU) hcl rfl,hcl]
     intro n3 f3 U3 H3
     refine Ga H3 1 1 rfl rfl Be (by decide) (by omega) fun w7 U4 H4=> ?_
     simp(disch:=omega) only[go_sem,e0,ei,e4,e6,e7,ej]
     obtain⟨hz,HZ,Z0⟩:=fin w7 (nxt++[acc[j]]) [] U4 (H4.re [1,2] (by decide))
     exact hJ2 _ _ _ _ HZ ⟨e0,ei,e4,w7,nxt++[acc[j]],true,rfl,e7,Fo hI hj (.inl rfl),Z0⟩
    |false=>
     simp only[go_sem,c0,e0,ei,e4,e6,e7,ej,A0,hwl,z1,z2,z4,z5,Uq]
     refine by_r H (Abt U _ _ l[i].act acc[j].act (kAct.pre hA S) hAu (by omega) (by
      have h1:Aj acc[j]<=sumL Aj l:=Ev (f:=Aj) (hmem _ (Zac hj))
      have h2:acc[j].act.knew.length<=Aj acc[j]:=by unfold Aj Ck;omega
      omega)) ?_
     cases hlt:A28 l[i].act acc[j].act with
     |false=>
      simp only[go_sem,c0,e0,ei,e4,e6,e7,ej,A0,hwl,z1,z2,z4,z5,Uq,hlt,A5 (cs:=zeU) hcl rfl,hcl]
      intro n3 f3 U3 H3
      refine Ga H3 1 1 rfl rfl Be (by decide) (by omega) fun w7 U4 H4=> ?_
      simp(disch:=omega) only[go_sem,e0,ei,e4,e6,e7,ej]
      obtain⟨hz,HZ,Z0⟩:=fin w7 (nxt++[acc[j]]) [] U4 (H4.re [1,2] (by decide))
      exact hJ2 _ _ _ _ HZ ⟨e0,ei,e4,w7,nxt++[acc[j]],false,rfl,e7,Fo hI hj (.inr hlt),Z0⟩
     |true=>
      simp only[go_sem,c0,e0,ei,e4,e6,e7,ej,A0,hwl,z1,z2,z4,z5,Uq,hlt]
      obtain⟨q,U3,R3,K3⟩:=Es U _ l[i] (A9.pre hU S) (by omega)
      have ql:q.length=17:=A9.len (K3.rd 0 rfl)
      refine by_c H R3 K3 fun H3=> ?_
      simp only[go_sem,A5 (cs:=zeU) ql rfl,ql,e0,ei,e4,e6,e7,ej]
      intro n4 f4 U4 H4
      refine Ga H4 1 2 rfl rfl Be (by decide) (by omega) fun w7 U5 H5=> ?_
      obtain⟨y1,_,_,y4,_⟩:=H5.rst_rd 3 rfl hj
      have y1:iadG 17 w (some j)=some (atz 17 w j):=y1
      have y4:ldX N [.box 17 n4 q,.th (own A9 cs acc[j]),.th (ow A9 w7 (nxt++[l[i]])),.th (rst A9 w acc j cs)] U5 true 17 (atz 17 w j)=some (.agg cs):=F8 H5 y4
      simp only[go_sem,e0,ei,e4,e6,e7,ej,A0,y1,y4,A5 (cs:=zeU) hcl rfl,hcl]
      intro n6 f6 U6 H6
      refine Ga H6 2 2 rfl rfl Be (by decide) (by simp only[Zag,Zah];omega) fun w8 U7 H7=> ?_
      simp(disch:=omega) only[go_sem,e0,ei,e4,e6,e7,ej]
      obtain⟨hz,HZ,Z0⟩:=fin w8 (nxt++[l[i]]++[acc[j]]) [] U7 (H7.re [2,3] (by decide))
      exact hJ2 _ _ _ _ HZ ⟨e0,ei,e4,w8,nxt++[l[i]]++[acc[j]],true,rfl,rfl,Qn hI hj hlt,Z0⟩
   ·skip
    rintro Yq2 hY2 env h' U ej c0 H ⟨e0,ei,e4,w6,nxt,put,e6,e7,hI,hz⟩
    rcases hz with⟨hj,_⟩|⟨_,rfl⟩
    ·omega
    simp only[go_sem,c0,e4,ej,hwl]
    exact hY2 _ _ _ (H.re [0] (by decide)) ⟨e0,ei,w6,nxt,put,e6,e7,hI,rfl⟩
   ·skip
    rintro env h' U H ⟨e0,ei,w6,nxt,put,e6,e7,hI,rfl⟩
    have hE:=Ve hI
    have hnl:=Ey hI
    cases put with
    |true=>
     rw[if_pos rfl] at hE
     simp(disch:=omega) only[go_sem,e0,ei,e6,e7]
     exact hJ _ _ _ _ H ⟨e0,Abu hi ha hf,w6,rfl,by rw[hnext,hE]⟩
    |false=>
     rw[if_neg (by simp)] at hE
     simp only[go_sem,e0,ei,e6,e7,A0,Uq]
     obtain⟨q,U3,R3,K3⟩:=Es U _ l[i] (A9.pre hU H.sub) (by omega)
     have ql:q.length=17:=A9.len (K3.rd 0 rfl)
     refine by_c H R3 K3 fun H3=> ?_
     simp only[go_sem,A5 (cs:=zeU) ql rfl,ql,e0,ei,e6,e7]
     intro n4 f4 U4 H4
     refine Ga H4 1 1 rfl rfl Be (by decide) (by omega) fun w7 U5 H5=> ?_
     simp(disch:=omega) only[go_sem,e0,ei,e6,e7]
     exact hJ _ _ _ _ (H5.re [1] (by decide)) ⟨e0,Abu hi ha hf,w7,rfl,by rw[hnext,<-hE];rfl⟩
 ·skip
  rintro Yq hY env h' U ei c0 H ⟨e0,ha,w,e4,rfl⟩
  simp only[go_sem,c0,e0,ei,h.len]
  exact hY _ _ _ H ⟨Any ha,w,e4,by rw[Zaa]⟩
 ·rintro env h' U H ⟨hf,w,e4,rfl⟩
  have hb:Fz l=Ar Ja l:=by unfold Fz;rw[if_pos hf]
  have nt:=RdN.notup (H.hp.sl 0 rfl)
  simp only[go_sem,e4,hf,nt]
  exact fun _=>⟨_,rfl,_,rfl,by rw[hb];exact H.hp⟩
 ·rintro env h' U H ⟨hf,w,e2,e3,rfl⟩
  have hb:Fz l=[]:=by unfold Fz;rw[if_neg (by simp[hf])]
  have nt:=RdN.notup (H.hp.sl 0 rfl)
  simp only[go_sem,e2,e3,hf,nt]
  exact fun _=>⟨_,rfl,_,rfl,by rw[hb];exact H.hp⟩
section
variable {Y:Type} {f:Int->Y->Y} {c:Y->Nat}
end
def kE (k:Int) (x:Act):Int:=k+1+1+1+1*(x.knew.length:Int)
theorem A2q {Y:Type} {l:List Y} {p:Y->Bool} (h:∀ i,i<l.length->onI l i p=true):∀ x∈l,p x=true:=Kg.1 h
theorem Afk {a:Act} (h:Dj a=true):Ck a<=19:=by
 simp only[Dj,Ew,C7,Zab] at h
 have h1:=D8 h.1.2.1
 have h2:=Gh h.2.1.2.1
 have h3:a.key.size<=8:=by
  have:=h.2.1.2.2.1
  split at this
  ·exact Gh this
  ·have e:a.key=noS:=of_decide_eq_true this
   rw[e];decide
 unfold Ck;omega
theorem Apz {d:Delta} (h:Bt d=true):Au d<=5000:=by
 simp only[Bt,Zab,decide_eq_true_eq] at h
 obtain⟨h1,h2,h3,h4,h5,_⟩:=h
 have hb:d.base.length=3/\d.know.length=3:=by
  simp only[Gf,Zab] at h1
  exact⟨D8 h1.1,D8 h1.2.1⟩
 simp only[Fc,talP,Zab,Bp,decide_eq_true_eq] at h2
 simp only[Kz,livP,Zab,Bp,decide_eq_true_eq] at h3
 simp only[Je,celP,Zab,Bp,decide_eq_true_eq] at h4
 have a1:=O4 (f:=Bl) (l:=d.tallies) (n:=8) fun t ht=>by
  have:=A2q (p:=tal1) (fun i hi=>(h2.1 i hi).1) t ht
  simp only[tal1,Zab] at this
  exact Gh this.1
 have a2:=O4 (f:=G6) (l:=d.lives) (n:=16) fun t ht=>by
  have:=A2q (p:=liv1) (fun i hi=>(h3.1 i hi).2.1) t ht
  simp only[liv1,Zab] at this
  have h1:=Gh this.1
  have h2:=Gh this.2.1
  unfold G6;omega
 have a3:=O4 (f:=Ht) (l:=d.cells) (n:=8) fun t ht=>by
  have:=A2q (p:=cel1) (fun i hi=>(h4.1 i hi).2.1) t ht
  simp only[cel1,Zab] at this
  exact Gh this.1
 unfold Au
 omega
theorem Q7 {u:Unit_} (h:Fy u=true):Aj u<=5000:=by
 unfold Fy at h
 split at h
 ·simp only[Zab] at h
  have h1:=Apz h.1
  have h2:=h.2
  simp only[Afa,Zab,Za4,decide_eq_true_eq] at h2
  have e1:u.act.knew=[]:=h2.2.2.1
  have e2:u.act.obj=⟨#[]⟩:=h2.2.2.2.2.1
  have e3:u.act.key=⟨#[]⟩:=h2.2.2.2.2.2.1
  unfold Aj Ck
  rw[e1,e2,e3]
  have:(ByteArray.mk #[]).size=0:=rfl
  simp only[Zao,this];omega
 ·simp only[Zab] at h
  have h1:=Afk h.1
  have h2:=h.2
  simp only[O9,Zab,Za4] at h2
  obtain⟨e1,e2,e3,e4,e5,e6⟩:=h2
  unfold Aj Au
  rw[e1,e2,e3,e4,e5,e6]
  simp only[sumL,Za2,Za3,Zao];omega
theorem Ald {s:State} (d:Delta) (h:OkS s):OkS (Ay s d).1:=by
 unfold Ay
 repeat' split
 all_goals first
  |exact h
  |exact Aso.1 (by simp_all)
theorem Afl {s:State} (u:Unit_) (h:OkS s):OkS (B9 s u).1:=by
 unfold B9
 split
 ·exact Ald _ h
 ·exact A2m _ h
structure LogG (l:Log):Prop where
 rp:0<=l.rep/\l.rep<=2
 tm:0<=l.time/\l.time<=1000000
 st:OkS l.state
 un:∀ u∈l.units,Fy u=true
 wa:∀ u∈l.waits,Fy u=true
 nu:l.units.length<=60
 nw:l.waits.length<=6
 ub:∀ u∈l.units,u.batch=false
 wb:∀ u∈l.waits,u.batch=false
 run:runU l.units l.units.length=some l.state
theorem Ajo {us:List Unit_} (x:List Unit_):∀ {i:Nat},i≤us.length->runU (us++x) i=runU us i
 |0,_=>rfl
 |i+1,h=>by
  have hi:i<us.length:=h
  have hi2:i<(us++x).length:=by rw[Zag];omega
  simp only[runU,Ajo x (Nat.le_of_lt hi),dif_pos hi,dif_pos hi2,List.getElem_append_left hi]
theorem Anz {us:List Unit_} {s:State} {u:Unit_} (h:runU us us.length=some s) (h0:(B9 s u).2=0):runU (us++[u]) (us++[u]).length=some (B9 s u).1:=by
 have hl:(us++[u]).length=us.length+1:=by simp
 rw[hl]
 have e:(us++[u])[us.length]'(by omega)=u:=by simp
 have:=Abl (us:=us++[u]) (i:=us.length) (s:=s) (by omega) (by rw[Ajo [u] (Nat.le_refl _)];exact h) (by rw[e];exact h0)
 rw[this,e]
theorem LogG.ms {l:Log} (h:LogG l):Amo l<=400000:=by
 have h1:=h.st.ms
 have h2:=O4 (f:=Aj) (l:=l.units) (n:=5000) fun u hu=>Q7 (h.un u hu)
 have h3:=O4 (f:=Aj) (l:=l.waits) (n:=5000) fun u hu=>Q7 (h.wa u hu)
 have:=h.nu
 have:=h.nw
 unfold Amo
 omega
theorem Asv {r:Int} (h:0<=r/\r<=2):LogG ⟨r,0,⟨[0,0,0],[],[],[]⟩,[],[]⟩:=⟨h,⟨Int.le_refl 0,by show(0:Int)<=1000000;decide⟩,A8y,fun _ h=>(by cases h),fun _ h=>(by cases h),Za5 _,Za5 _,fun _ h=>(by cases h),fun _ h=>(by cases h),rfl⟩
theorem Abv {l:Log} {u:Unit_} {t:Int} (h:LogG l) (hu:Fy u=true) (hb:u.batch=false) (h0:(B9 l.state u).2=0) (hn:l.units.length<60) (ht:0<=t/\t<=1000000):LogG {l with state:=(B9 l.state u).1,units:=l.units++[u],time:=t}:=
 ⟨h.rp,ht,Afl u h.st,fun x hx=>by
  rcases Zaf.1 hx with hx|hx
  ·exact h.un x hx
  ·rw[Zae.1 hx];exact hu,h.wa,by simp only[Zag,Zah];omega,h.nw,fun x hx=>by
  rcases Zaf.1 hx with hx|hx
  ·exact h.ub x hx
  ·rw[Zae.1 hx];exact hb,h.wb,Anz h.run h0⟩
theorem Aq0 {l:Log} {u:Unit_} (h:LogG l) (hu:Fy u=true) (hb:u.batch=false) (hn:l.waits.length<6):LogG {l with waits:=l.waits++[u]}:=
 ⟨h.rp,h.tm,h.st,h.un,fun x hx=>by
  rcases Zaf.1 hx with hx|hx
  ·exact h.wa x hx
  ·rw[Zae.1 hx];exact hu,h.nu,by simp only[Zag,Zah];omega,h.ub,fun x hx=>by
  rcases Zaf.1 hx with hx|hx
  ·exact h.wb x hx
  ·rw[Zae.1 hx];exact hb,h.run⟩
def Xd:Fn1:=⟨95,[.t 4],(rg [oX 2 0,oX 3 1,oV 4 kf] (.seq (rg [oF 8 0 2,oL 9 8,oF 10 0 3,oL 11 10,oD 12 171 9 11,oU 13 12,oM 14 13,vF 15 14 1 2,vL 16 14 15,og 17 14 false (.len false (.t 16)),vF 18 14 1 3,vL 19 14 18,og 20 14 false (.len false (.t 19)),vB 21 14 .neq 17 20,oP 22 14 21,oM 23 22,vF 24 23 2 2,vL 25 23 24,og 26 23 false (.len false (.t 25)),vF 27 23 2 3,vL 28 23 27,og 29 23 false (.len false (.t 28)),vB 30 23 .neq 26 29,oP 31 23 30,oM 32 31,vF 33 32 3 2,vL 34 32 33,og 35 32 false (.len false (.t 34)),vF 36 32 3 3,vL 37 32 36,og 38 32 false (.len false (.t 37)),vB 39 32 .neq 35 38,oP 40 32 39] (oG 40 (oR 4 kf))) (.seq (rg [oV 5 (ki 0)] (oH 0 (.seq (rg [oM 41 5,oF 42 1 2,oL 43 42,oN 44 43,oB 45 .lss 41 44] (oJ 45 0)) (.seq (.blk 1 (dw [oF 48 1 2,oL 49 48,oM 50 5,oI 51 3 49 50,oW 52 3 51,oF 53 1 3,oL 54 53,oM 55 5,oI 56 3 54 55,oW 57 3 56] [o 58 (.eqs true [.s,.i .i64,.i .i64] (.t 52) (.t 57))] (oG 58 (oR 4 kf)))) (.reg [oM 46 5,oZ 47 46 1,oM 5 47]))))) (.seq (rg [oV 6 (ki 0)] (oH 2 (.seq (rg [oM 59 6,oF 60 2 2,oL 61 60,oN 62 61,oB 63 .lss 59 62] (oJ 63 2)) (.seq (.blk 3 (dw [oF 66 2 2,oL 67 66,oM 68 6,oI 69 6 67 68,oW 70 6 69,oF 71 2 3,oL 72 71,oM 73 6,oI 74 6 72 73,oW 75 6 74] [o 76 (.eqs true [.b,.s,.s,.i .i64,.i .i64,.i .i64] (.t 70) (.t 75))] (oG 76 (oR 4 kf)))) (.reg [oM 64 6,oZ 65 64 1,oM 6 65]))))) (.seq (rg [oV 7 (ki 0)] (oH 4 (.seq (rg [oM 77 7,oF 78 3 2,oL 79 78,oN 80 79,oB 81 .lss 77 80] (oJ 81 4)) (.seq (.blk 5 (dw [oF 84 3 2,oL 85 84,oM 86 7,oI 87 8 85 86,oW 88 8 87,oF 89 3 3,oL 90 89,oM 91 7,oI 92 8 90 91,oW 93 8 92] [o 94 (.eqs true [.s,.i .i64,.i .i64,.i .i64,.i .i64,.i .i64,.i .i64,.b] (.t 88) (.t 93))] (oG 94 (oR 4 kf)))) (.reg [oM 82 7,oZ 83 82 1,oM 7 83]))))) (oR 4 kt))))))⟩
theorem A7h:A8 Tryz.prog 47=some Xd:=by kernel_rfl
theorem Od {a b:State} (h:¬ (a.know=b.know/\a.tallies=b.tallies/\a.lives=b.lives/\a.cells=b.cells)):decide (a=b)=false:=decide_eq_false fun e=>h (State.eq_iff.1 e)
theorem Kk (N:St) (cs ds:List GV) (a b:State) (hR:A4.R N a cs) (hS:A4.R N b ds) (hl:Ad a<=1099511627776) (hm:Ad b<=1099511627776):Ret Tryz.prog 47 [.agg cs,.agg ds] N (.bool (decide (a=b))) N:=by
 obtain⟨v0,v1,v2,v3,rfl,q0,q1,q2,q3⟩:=hR
 obtain⟨u0,u1,u2,u3,rfl,p0,p1,p2,p3⟩:=hS
 have hkl:a.know.length<=1099511627776:=by unfold Ad at hl;omega
 have b1:a.tallies.length<=1099511627776:=by unfold Ad at hl;omega
 have b2:a.lives.length<=1099511627776:=by unfold Ad at hl;omega
 have b3:a.cells.length<=1099511627776:=by unfold Ad at hl;omega
 clear hl hm
 refine Cb A7h (Z0z rfl) trivial ?_
 simp +contextual (disch:=omega) only[go_sem,Xd]
 intro n1 f1 U0 _ n2 f2 U H
 have g1:N.length<=n1:=f1
 have g2:N.length<=n2:=f2.2
 have S:=H.sub
 refine by_r H (Qm _ v0 u0 _ _ (q0.pre S) (p0.pre S) hkl) ?_
 have l1:=q1.len
 have l2:=q2.len
 have l3:=q3.len
 have m1:=p1.len
 have m2:=p2.len
 have m3:=p3.len
 by_cases h0:a.know=b.know
 rotate_left
 ·have d:=Od (a:=a) (b:=b) fun h=>h0 h.1
  have e0:decide (a.know=b.know)=false:=decide_eq_false h0
  simp only[go_sem,e0,d]
  try exact fun _=>rfl
 have e0:decide (a.know=b.know)=true:=decide_eq_true h0
 by_cases h1:a.tallies.length=b.tallies.length
 rotate_left
 ·have d:=Od (a:=a) (b:=b) fun h=>h1 (by rw[h.2.1])
  have e1:((a.tallies.length:Int) != (b.tallies.length:Int))=true:=by simp;omega
  simp(disch:=omega) only[go_sem,e0,e1,l1,m1,d]
  try exact fun _=>rfl
 have e1:((a.tallies.length:Int) != (b.tallies.length:Int))=false:=by simp;omega
 by_cases h2:a.lives.length=b.lives.length
 rotate_left
 ·have d:=Od (a:=a) (b:=b) fun h=>h2 (by rw[h.2.2.1])
  have e2:((a.lives.length:Int) != (b.lives.length:Int))=true:=by simp;omega
  simp(disch:=omega) only[go_sem,e0,e1,e2,l1,m1,l2,m2,d]
  try exact fun _=>rfl
 have e2:((a.lives.length:Int) != (b.lives.length:Int))=false:=by simp;omega
 by_cases h3:a.cells.length=b.cells.length
 rotate_left
 ·have d:=Od (a:=a) (b:=b) fun h=>h3 (by rw[h.2.2.2])
  have e3:((a.cells.length:Int) != (b.cells.length:Int))=true:=by simp;omega
  simp(disch:=omega) only[go_sem,e0,e1,e2,e3,l1,m1,l2,m2,l3,m3,d]
  try exact fun _=>rfl
 have e3:((a.cells.length:Int) != (b.cells.length:Int))=false:=by simp;omega
 simp(disch:=omega) only[go_sem,e0,e1,e2,e3,l1,m1,l2,m2,l3,m3]
 refine Ax a.tallies.length 5 0 (fun i env h=>env 2= .ptr n1 0/\env 3= .ptr n2 0/\a.tallies.take i=b.tallies.take i/\h=[.box 1 n2 [u0,u1,u2,u3],.box 1 n1 [v0,v1,v2,v3]]) (fun env h=>a.tallies=b.tallies/\env 2= .ptr n1 0/\env 3= .ptr n2 0/\h=[.box 1 n2 [u0,u1,u2,u3],.box 1 n1 [v0,v1,v2,v3]]) (fun env h=>env 4= .bool false/\a.tallies≠b.tallies) _ H (rfl) ⟨rfl,rfl,by simp,rfl⟩ ?_ ?_ ?_ ?_
 ·clear H
  rintro J Yq Wq hJ hY hW i env h' U1 hi ei c0 H1 ⟨e2',e3',he,rfl⟩
  have hj:i<b.tallies.length:=by omega
  have L1:=Ae q1 hi
  have L2:=Ae p1 hj
  by_cases hx:a.tallies[i]=b.tallies[i]
  ·have bb:decide (a.tallies[i]=b.tallies[i])=true:=decide_eq_true hx
   simp(disch:=omega) only[go_sem,c0,e2',e3',ei,A0,l1,m1,L1,L2,bb]
   exact hJ _ _ _ _ H1 ⟨e2',e3',by rw[Ak hi,Ak hj,he,hx],rfl⟩
  ·have bb:decide (a.tallies[i]=b.tallies[i])=false:=decide_eq_false hx
   simp(disch:=omega) only[go_sem,c0,e2',e3',ei,A0,l1,m1,L1,L2,bb]
   exact hW _ _ _ H1 ⟨rfl,fun h=>hx (by simp only[h])⟩
 ·rintro Yq hY env h' U1 ei c0 H1 ⟨e2',e3',he,rfl⟩
  simp(disch:=omega) only[go_sem,c0,e2',e3',ei,l1]
  rw[Zaa,h1,Zaa] at he
  exact hY _ _ _ H1 ⟨he,e2',e3',rfl⟩
 rotate_left
 ·rintro env h' U1 H1 ⟨e4,hx⟩
  have d:=Od (a:=a) (b:=b) fun h=>hx h.2.1
  simp only[go_sem,e4,d]
 rintro env h' U10 H ⟨t0,e2',e3',rfl⟩
 simp only[go_sem,e2',e3']
 refine Ax a.lives.length 6 2 (fun i env h=>env 2= .ptr n1 0/\env 3= .ptr n2 0/\a.lives.take i=b.lives.take i/\h=[.box 1 n2 [u0,u1,u2,u3],.box 1 n1 [v0,v1,v2,v3]]) (fun env h=>a.lives=b.lives/\env 2= .ptr n1 0/\env 3= .ptr n2 0/\h=[.box 1 n2 [u0,u1,u2,u3],.box 1 n1 [v0,v1,v2,v3]]) (fun env h=>env 4= .bool false/\a.lives≠b.lives) _ H (rfl) ⟨e2',e3',by simp,rfl⟩ ?_ ?_ ?_ ?_
 ·skip
  rintro J Yq Wq hJ hY hW i env h' U1 hi ei c0 H1 ⟨e2',e3',he,rfl⟩
  have hj:i<b.lives.length:=by omega
  have L1:=Aa q2 hi
  have L2:=Aa p2 hj
  by_cases hx:a.lives[i]=b.lives[i]
  ·have bb:decide (a.lives[i]=b.lives[i])=true:=decide_eq_true hx
   simp(disch:=omega) only[go_sem,c0,e2',e3',ei,A0,l2,m2,L1,L2,bb]
   exact hJ _ _ _ _ H1 ⟨e2',e3',by rw[Ak hi,Ak hj,he,hx],rfl⟩
  ·have bb:decide (a.lives[i]=b.lives[i])=false:=decide_eq_false hx
   simp(disch:=omega) only[go_sem,c0,e2',e3',ei,A0,l2,m2,L1,L2,bb]
   exact hW _ _ _ H1 ⟨rfl,fun h=>hx (by simp only[h])⟩
 ·rintro Yq hY env h' U1 ei c0 H1 ⟨e2',e3',he,rfl⟩
  simp(disch:=omega) only[go_sem,c0,e2',e3',ei,l2]
  rw[Zaa,h2,Zaa] at he
  exact hY _ _ _ H1 ⟨he,e2',e3',rfl⟩
 rotate_left
 ·rintro env h' U1 H1 ⟨e4,hx⟩
  have d:=Od (a:=a) (b:=b) fun h=>hx h.2.2.1
  simp only[go_sem,e4,d]
 rintro env h' U11 H ⟨t1,e2',e3',rfl⟩
 simp only[go_sem,e2',e3']
 refine Ax a.cells.length 7 4 (fun i env h=>env 2= .ptr n1 0/\env 3= .ptr n2 0/\a.cells.take i=b.cells.take i/\h=[.box 1 n2 [u0,u1,u2,u3],.box 1 n1 [v0,v1,v2,v3]]) (fun env h=>a.cells=b.cells/\env 2= .ptr n1 0/\env 3= .ptr n2 0/\h=[.box 1 n2 [u0,u1,u2,u3],.box 1 n1 [v0,v1,v2,v3]]) (fun env h=>env 4= .bool false/\a.cells≠b.cells) _ H (rfl) ⟨e2',e3',by simp,rfl⟩ ?_ ?_ ?_ ?_
 ·skip
  rintro J Yq Wq hJ hY hW i env h' U1 hi ei c0 H1 ⟨e2',e3',he,rfl⟩
  have hj:i<b.cells.length:=by omega
  have L1:=Ab q3 hi
  have L2:=Ab p3 hj
  by_cases hx:a.cells[i]=b.cells[i]
  ·have bb:decide (a.cells[i]=b.cells[i])=true:=decide_eq_true hx
   simp(disch:=omega) only[go_sem,c0,e2',e3',ei,A0,l3,m3,L1,L2,bb]
   exact hJ _ _ _ _ H1 ⟨e2',e3',by rw[Ak hi,Ak hj,he,hx],rfl⟩
  ·have bb:decide (a.cells[i]=b.cells[i])=false:=decide_eq_false hx
   simp(disch:=omega) only[go_sem,c0,e2',e3',ei,A0,l3,m3,L1,L2,bb]
   exact hW _ _ _ H1 ⟨rfl,fun h=>hx (by simp only[h])⟩
 ·rintro Yq hY env h' U1 ei c0 H1 ⟨e2',e3',he,rfl⟩
  simp(disch:=omega) only[go_sem,c0,e2',e3',ei,l3]
  rw[Zaa,h3,Zaa] at he
  exact hY _ _ _ H1 ⟨he,e2',e3',rfl⟩
 rotate_left
 ·rintro env h' U1 H1 ⟨e4,hx⟩
  have d:=Od (a:=a) (b:=b) fun h=>hx h.2.2.2
  simp only[go_sem,e4,d]
 rintro env h' U12 H ⟨t2,e2',e3',rfl⟩
 have d:decide (a=b)=true:=decide_eq_true (State.eq_iff.2 ⟨h0,t0,t1,t2⟩)
 simp only[go_sem,d]
 try exact fun _=>rfl
def A9b:Fn1:=⟨6,[.c 2 true 8],(rg [o 2 (.new [z0,z0,.nilS,.nilS,.nilS,.nilS,.nilS,.nilS])] (rg [oM 3 0,o 4 (.call 43 []),o 5 (.build [z0,z0,.nilS,.nilS,.nilS,.nilS,.nilS,.nilS] [(0,1,(.t 3)),(2,4,(.t 4))]),oS 8 2 5] .ret))⟩
theorem Aie:A8 Tryz.prog 266=some A9b:=by kernel_rfl
def A1o:Fn1:=⟨21,[.t 2],(rg [o 2 (.mov (.k .nilS))] (rg [o 5 (.lit 17 0 [] []),oM 3 5] (.seq (rg [oV 4 (ki 0)] (oH 0 (.seq (rg [oM 6 4,oM 7 0,oN 8 7,oB 9 .lss 6 8] (oJ 9 0)) (.seq (.blk 1 (.reg [oM 12 3,oM 13 0,oM 14 4,oI 15 17 13 14,oW 16 17 15,oC 17 99 16,o 18 (.lit 17 1 [(.bool false),z0,z0,z0,.nilS,z0,s0,s0,z0,z0,z0,.nilS,.nilS,.nilS,.nilS,.nilS,.nilS] [(0,17,(.t 17))]),o 19 (.app 17 264 [(.bool false),z0,z0,z0,.nilS,z0,s0,s0,z0,z0,z0,.nilS,.nilS,.nilS,.nilS,.nilS,.nilS] (.t 12) (.t 18)),oM 3 19])) (.reg [oM 10 4,oZ 11 10 1,oM 4 11]))))) (rg [oM 20 3,oM 2 20] .ret))))⟩
theorem Abw:A8 Tryz.prog 204=some A1o:=by kernel_rfl
def A5y:Fn1:=⟨17,[.c 2 true 8],(rg [oX 1 0,o 2 (.new [z0,z0,.nilS,.nilS,.nilS,.nilS,.nilS,.nilS])] (dw [oF 3 0 1,oL 4 3,oF 5 1 1,oL 6 5,oF 7 2 1,oW 8 4 7,oC 9 247 8,oF 10 6 1,oL 11 10,oC 12 204 11,oF 13 7 1,oL 14 13,oC 15 204 14] [o 16 (.build [z0,z0,.nilS,.nilS,.nilS,.nilS,.nilS,.nilS] [(0,1,(.t 4)),(1,1,(.t 6)),(2,4,(.t 9)),(6,1,(.t 12)),(7,1,(.t 15))]),oS 8 2 16] .ret))⟩
theorem Afm:A8 Tryz.prog 327=some A5y:=by kernel_rfl
def A60:Fn1:=⟨14,[.t 2],(rg [oX 1 0,oV 2 (ki 0)] (.seq (rg [oF 3 0 1,oL 4 3,oU 5 4] (oG 5 (rg [oF 6 1 1,oF 7 2 6,oL 8 7,oM 2 8] .ret))) (rg [oF 9 11 1,oF 10 5 9,oL 11 10,o 12 (.build [.nilS,.nilS,.nilS,.nilS] [(3,1,(.t 11))]),oC 13 277 12,oM 2 13] .ret)))⟩
theorem Afn:A8 Tryz.prog 378=some A60:=by kernel_rfl
abbrev logV (l:Log) (s0 s1 s2 s3 u w:GV):List GV:=[gi l.rep,gi l.time,s0,s1,s2,s3,u,w]
theorem Kl {N:St} {x:Log} {cs:List GV} (h:kLog.R N x cs):∃ s0 s1 s2 s3 u w,cs=logV x s0 s1 s2 s3 u w/\A4.R N x.state [s0,s1,s2,s3]/\RS A9 N u x.units/\RS A9 N w x.waits:=by
 obtain⟨v2,v3,v4,rfl,h1,h2,h3⟩:=h
 obtain⟨s0,s1,s2,s3,rfl,h1a⟩:=h1
 exact⟨s0,s1,s2,s3,v3,v4,rfl,⟨s0,s1,s2,s3,rfl,h1a⟩,h2,h3⟩
theorem Afo (N:St) (r:Int):∃ cs U,Ret Tryz.prog 266 [gi r] N (.agg cs) U/\Hp N U [own kLog cs ⟨r,0,st0,[],[]⟩]:=by
 have key:∃ q U,Ret Tryz.prog 266 [gi r] N q U/\∃ cs,q= .agg cs/\Hp N U [own kLog cs ⟨r,0,st0,[],[]⟩]:=by
  refine Bg Aie (Z0z rfl) (Hx.refl N) ?_
  simp only[go_sem,A9b]
  intro n f U H
  obtain⟨a,U1,R1,K1⟩:=Gk U
  refine by_c H R1 K1 fun H1=> ?_
  obtain⟨s0,s1,s2,s3,rfl,_⟩:=K1.rd 0 rfl
  simp +contextual (disch:=omega) only[go_sem]
  intro U2 H2
  exact⟨_,rfl,_,rfl,Hp.ownLog (x:=⟨r,0,st0,[],[]⟩) ((((H2.sel [0] (by decide)).nilS (d:=A9)).nilS (d:=A9)).sel [2,0,1] (by decide))⟩
 obtain⟨q,U,R,cs,rfl,h⟩:=key
 exact⟨cs,U,R,h⟩
theorem Ln (N:St) (v:GV) (l:List Unit_) (h:RS A9 N v l) (hl:l.length+sumL Aj l<=1048576):∃ w U,Ret Tryz.prog 204 [v] N w U/\Hp N U [ow A9 w l]:=by
 refine Bg Abw (Z0z rfl) (Hx.refl N) ?_
 simp only[go_sem,A1o,h.len]
 intro n1 f1 U1 H1
 refine Ax l.length 4 0 (fun i env h=>env 0=v/\∃ w,env 3=w/\h=[.th (ow A9 w (l.take i))]) (fun env h=>∃ w,env 3=w/\h=[.th (ow A9 w l)]) (fun _ _=>False) _ (H1.emp A9 rfl) (rfl) ⟨rfl,_,rfl,rfl⟩ ?_ ?_ ?_ (fun _ _ _ _ h=>h.elim)
 ·clear H1
  rintro J Yq Wq hJ hY hW i env h' U hi ei c0 H ⟨e0,w,e3,rfl⟩
  obtain⟨kv,d0,d1,d2,d3,d4,d5,Uq,hU,hA,hD⟩:=Ob h hi
  have hmu:Aj l[i]<=sumL Aj l:=Ev (f:=Aj) (Zac hi)
  simp only[go_sem,c0,e0,e3,ei,A0,Uq,h.len]
  obtain⟨q,U2,R2,K2⟩:=Es U _ l[i] (A9.pre hU H.sub) (by omega)
  have ql:q.length=17:=A9.len (K2.rd 0 rfl)
  refine by_c H R2 K2 fun H2=> ?_
  simp only[go_sem,A5 (cs:=zeU) ql rfl,ql]
  intro n3 f3 U3 H3
  refine Ga H3 1 1 rfl rfl Be (by decide) (by simp only[Zat];omega) fun w' U4 H4=> ?_
  simp(disch:=omega) only[go_sem,ei]
  exact hJ _ _ _ _ (H4.re [1] (by decide)) ⟨e0,w',rfl,by rw[Ak hi];rfl⟩
 ·clear H1
  rintro Yq hY env h' U ei c0 H ⟨e0,w,e3,rfl⟩
  simp only[go_sem,c0,e0,ei,h.len]
  exact hY _ _ _ H ⟨w,e3,by rw[Zaa]⟩
 ·rintro env h' U H ⟨w,e3,rfl⟩
  simp only[go_sem,e3]
  exact fun _=>⟨_,rfl,H.hp⟩
theorem Xe (N:St) (cs:List GV) (l:Log) (hR:kLog.R N l cs) (hl:Amo l<=1048576):∃ ds U,Ret Tryz.prog 327 [.agg cs] N (.agg ds) U/\Hp N U [own kLog ds l]:=by
 obtain⟨s0,s1,s2,s3,u,w,rfl,hS,hU,hW⟩:=Kl hR
 have hb:Ad l.state<=1048576/\l.units.length+sumL Aj l.units<=1048576/\l.waits.length+sumL Aj l.waits<=1048576:=by unfold Amo at hl;omega
 have key:∃ q U,Ret Tryz.prog 327 [.agg (logV l s0 s1 s2 s3 u w)] N q U/\∃ ds,q= .agg ds/\Hp N U [own kLog ds l]:=by
  refine Bg Afm (Z0z rfl) (Hx.refl N) ?_
  simp +contextual (disch:=omega) only[go_sem,A5y]
  intro n1 f1 U1 _ n2 f2 U2 H2
  obtain⟨a,U3,R3,K3⟩:=Cn U2 _ l.state (A4.pre hS H2.sub) (by omega)
  refine by_c H2 R3 K3 fun H3=> ?_
  obtain⟨t0,t1,t2,t3,rfl,_⟩:=K3.rd 0 rfl
  simp(disch:=omega) only[go_sem]
  obtain⟨u2,U4,R4,K4⟩:=Ln U3 _ l.units (hU.pre H3.sub) hb.2.1
  refine by_c H3 R4 K4 fun H4=> ?_
  have cu:=(K4.sl 0 rfl).cell
  try simp(disch:=omega) only[go_sem,cu]
  obtain⟨w2,U5,R5,K5⟩:=Ln U4 _ l.waits (hW.pre H4.sub) hb.2.2
  refine by_c H4 R5 K5 fun H5=> ?_
  have cw:=(K5.sl 0 rfl).cell
  simp +contextual (disch:=omega) only[go_sem,cu,cw]
  intro U6 H6
  exact⟨_,rfl,_,rfl,Hp.ownLog (x:=l) (H6.sel [2,1,0] (by decide))⟩
 obtain⟨q,U,R,ds,rfl,h⟩:=key
 exact⟨ds,U,R,h⟩
def Gp (u:Unit_):Int:=if u.batch then Fx u.delta.cells else u.act.time
theorem Oe (N:St) (cs:List GV) (x:Unit_) (hR:A9.R N x cs) (hl:Aj x<=1073741824):Ret Tryz.prog 378 [.agg cs] N (gi (Gp x)) N:=by
 obtain⟨kv,d0,d1,d2,d3,d4,d5,rfl,hA,hD⟩:=Er hR
 refine Cb Afn (Z0z rfl) trivial ?_
 simp +contextual only[go_sem,A60]
 intro n1 f1 U1 H1
 cases hb:x.batch with
 |false=>simp(disch:=omega) only[go_sem,hb,Gp]
 |true=>
  obtain⟨_,_,_,_,_,v5,e,_,_,_,_,_,q⟩:=hD
  injection e with e0 e;injection e with e1 e;injection e with e2 e;injection e with e3 e;injection e with e4 e;injection e with e5 _
  subst e0 e1 e2 e3 e4 e5
  have cq:=q.cell
  simp(disch:=omega) only[go_sem,hb,cq]
  refine by_r H1 (J6 U1 [.nilS,.nilS,.nilS,d5] ⟨[],[],[],x.delta.cells⟩ ⟨_,_,_,_,rfl,.inl ⟨rfl,.inl rfl⟩,.inl ⟨rfl,.inl rfl⟩,.inl ⟨rfl,.inl rfl⟩,q.pre H1.sub⟩ (by unfold Aj Au at hl;unfold Ad;simp only[sumL,Za2,Za3,Zao] at *;omega)) ?_
  simp only[go_sem,hb,Gp,if_true]
def Afq:Fn1:=⟨95,[.t 2],(rg [oX 1 0,oV 2 kf] (.seq (dw [oF 8 0 1,oL 9 8,o 10 (.call 122 [(.t 9),(ki 0),(ki 2)]),oU 11 10,oM 12 11,vF 13 12 1 1,vL 14 12 13,og 15 12 false (.call 122 [(.t 14),(ki 0),(ki 10000)]),vU 16 12 15,oP 17 12 16,oM 18 17,vF 19 18 6 1,vL 20 18 19,og 21 18 false (.len false (.t 20)),vE 22 18 .gtr 21 60,oP 23 18 22,oM 24 23,vF 25 24 7 1,vL 26 24 25,og 27 24 false (.len false (.t 26)),vE 28 24 .gtr 27 6,oP 29 24 28,oM 30 29,vF 31 30 2 1,vW 32 30 4 31,vC 33 30 277 32,vF 34 30 1 1,vL 35 30 34] [vB 36 30 .gtr 33 35,oP 37 30 36] (oG 37 (oR 2 kf))) (.seq (rg [oV 3 (ki 0)] (oH 0 (.seq (rg [oM 38 3,oF 39 7 1,oL 40 39,oN 41 40,oB 42 .lss 38 41] (oJ 42 0)) (.seq (.blk 1 (rg [oF 45 7 1,oL 46 45,oM 47 3,oI 48 17 46 47,oW 49 17 48,oC 50 97 49,oU 51 50] (oG 51 (oR 2 kf)))) (.reg [oM 43 3,oZ 44 43 1,oM 3 44]))))) (rg [o 52 (.call 43 []),o 4 (.new [.nilS,.nilS,.nilS,.nilS]),oS 4 4 52] (.seq (rg [oV 5 (ki 0)] (oH 2 (.seq (rg [oM 53 5,oF 54 6 1,oL 55 54,oN 56 55,oB 57 .lss 53 56] (oJ 57 2)) (.seq (.blk 3 (.seq (dw [oF 60 6 1,oL 61 60,oM 62 5,oI 63 17 61 62,oW 64 17 63,oC 65 97 64,oU 66 65,oM 67 66,vF 68 67 6 1,vL 69 67 68,vM 70 67 5,vI 71 67 17 69 70,vW 72 67 17 71,vC 73 67 378 72,vF 74 67 1 1,vL 75 67 74] [vB 76 67 .gtr 73 75,oP 77 67 76] (oG 77 (oR 2 kf))) (dw [oW 79 4 4,oF 80 6 1,oL 81 80,oM 82 5,oI 83 17 81 82,oW 84 17 83,oD 85 44 79 84,oM 78 85,o 86 (.ext 0 (.t 78)),o 87 (.ext 1 (.t 78)),o 6 (.new [.nilS,.nilS,.nilS,.nilS])] [oS 4 6 86,oM 7 87] (.seq (rg [oM 88 7,oE 89 .neq 88 0] (oG 89 (oR 2 kf))) (.reg [oW 90 4 6,oS 4 4 90]))))) (.reg [oM 58 5,oZ 59 58 1,oM 5 59]))))) (rg [oW 91 4 4,oF 92 2 1,oW 93 4 92,oD 94 47 91 93,oM 2 94] .ret))))))⟩
theorem Ale:A8 Tryz.prog 328=some Afq:=by kernel_rfl
theorem A61 (N:St) (cs:List GV) (l:Log) (hR:kLog.R N l cs) (hG:LogG l):∃ q U,Ret Tryz.prog 328 [.agg cs] N q U/\∃ b,q= .bool b/\Hp N U []/\(b=true->l.time<=10000):=by
 obtain⟨s0,s1,s2,s3,u,w,rfl,hS,hU,hW⟩:=Kl hR
 have hst:=hG.st.ms
 have hrp:inB l.rep 0 2=true:=Di.2 hG.rp
 have hnu:=hG.nu
 have hnw:=hG.nw
 have b1:decide (60<(l.units.length:Int))=false:=by simp;omega
 have b2:decide (6<(l.waits.length:Int))=false:=by simp;omega
 refine Bg Ale (Z0z rfl) (Hx.refl N) ?_
 simp +contextual only[go_sem,Afq]
 intro n1 f1 U1 H1
 refine by_r H1 (Bd _ _ _ _) ?_
 simp(disch:=omega) only[go_sem,hrp]
 refine by_r H1 (Bd _ _ _ _) ?_
 cases htm:inB l.time 0 10000 with
 |false=>
  simp only[go_sem,htm]
  exact fun _=>⟨_,rfl,false,rfl,(H1.re [] (by decide)).hp,fun h=>by cases h⟩
 |true=>
  have htm2:=(Di.1 htm).2
  simp(disch:=omega) only[go_sem,htm,hU.len,hW.len,b1,b2]
  refine by_r H1 (J6 U1 _ l.state (A4.pre hS H1.sub) (by omega)) ?_
  cases hti:decide (l.time<Fx l.state.cells) with
  |true=>
   simp(disch:=omega) only[go_sem,hti]
   exact fun _=>⟨_,rfl,false,rfl,(H1.re [] (by decide)).hp,fun h=>by cases h⟩
  |false=>
   simp(disch:=omega) only[go_sem,hti]
   refine Ax l.waits.length 3 0 (fun i env h=>env 1= .ptr n1 0/\h=[.box 1 n1 (logV l s0 s1 s2 s3 u w)]) (fun env h=>env 1= .ptr n1 0/\h=[.box 1 n1 (logV l s0 s1 s2 s3 u w)]) (fun _ _=>False) _ H1 (rfl) ⟨rfl,rfl⟩ ?_ ?_ ?_ (fun _ _ _ _ h=>h.elim)
   ·rintro J Yq Wq hJ hY hW' i env h' U hi ei c0 H ⟨e1,rfl⟩
    obtain⟨kv,d0,d1,d2,d3,d4,d5,Uq,hUn,_,_⟩:=Ob hW hi
    have hok:=hG.wa l.waits[i] (Zac hi)
    simp(disch:=omega) only[go_sem,c0,e1,ei,hW.len,A0,Uq]
    refine by_r H (Jr _ _ l.waits[i] (A9.pre hUn H.sub) (by have:=Q7 hok;omega)) ?_
    simp(disch:=omega) only[go_sem,hok,e1,ei]
    exact hJ _ _ _ _ H ⟨e1,rfl⟩
   ·rintro Yq hY env h' U ei c0 H ⟨e1,rfl⟩
    simp(disch:=omega) only[go_sem,c0,e1,ei,hW.len]
    exact hY _ _ _ H ⟨e1,rfl⟩
   ·clear H1
    rintro env h' U H ⟨e1,rfl⟩
    simp only[go_sem,e1]
    obtain⟨r,U2,R2,K2⟩:=Gk U
    have gr:r.length=4:=A4.len (K2.rd 0 rfl)
    refine by_c H R2 K2 fun H2=> ?_
    simp only[go_sem,A5 (cs:=[GV.nilS,GV.nilS,GV.nilS,GV.nilS]) gr rfl,gr,e1]
    intro n4 f4 U30 _ U3 H3
    refine Ax l.units.length 5 2 (fun i env h=>env 1= .ptr n1 0/\env 4= .ptr n4 0/\∃ s ds,OkS s/\h=[.box 1 n4 ds,.th (own A4 ds s),.box 1 n1 (logV l s0 s1 s2 s3 u w)]) (fun env h=>env 1= .ptr n1 0/\env 4= .ptr n4 0/\∃ s ds,OkS s/\h=[.box 1 n4 ds,.th (own A4 ds s),.box 1 n1 (logV l s0 s1 s2 s3 u w)]) (fun env h=>env 2= .bool false) _ H3 (rfl) ⟨e1,rfl,st0,r,A8y,rfl⟩ ?_ ?_ ?_ ?_
    ·clear H H2 H3 K2 R2
     rintro J Yq Wq hJ hY hW' i env h' U hi ei c0 H ⟨e1,e4,s,ds,hs,rfl⟩
     have gd:ds.length=4:=A4.len (H.hp.rd 1 rfl)
     have hsm:=hs.ms
     obtain⟨kv,d0,d1,d2,d3,d4,d5,Uq,hUn,_,_⟩:=Ob hU hi
     have hok:=hG.un l.units[i] (Zac hi)
     have hum:=Q7 hok
     simp(disch:=omega) only[go_sem,c0,e1,e4,ei,hU.len,A0,Uq]
     refine by_r H (Jr _ _ l.units[i] (A9.pre hUn H.sub) (by omega)) ?_
     simp(disch:=omega) only[go_sem,hok,c0,e1,e4,ei,hU.len,A0,Uq]
     refine by_r H (Oe _ _ l.units[i] (A9.pre hUn H.sub) (by omega)) ?_
     cases hut:decide (l.time<Gp l.units[i]) with
     |true=>
      simp(disch:=omega) only[go_sem,hut,e1]
      exact hW' _ _ _ H (rfl)
     |false=>
      simp(disch:=omega) only[go_sem,hut,c0,e1,e4,ei,hU.len,A0,Uq,A6 gd]
      obtain⟨q,U5,R5,K5⟩:=T6 U ds s (H.hp.rd 1 rfl) _ l.units[i] (A9.pre hUn H.sub) (by omega) (by omega) (hG.ub _ (Zac hi))
      have gq:q.length=4:=A4.len (K5.rd 0 rfl)
      refine by_c H R5 K5 fun H5=> ?_
      simp only[go_sem,A5 (cs:=[GV.nilS,GV.nilS,GV.nilS,GV.nilS]) gq rfl,gq,e1,e4]
      intro n6 f6 U60 _ U6 H6
      by_cases hc:(B9 s l.units[i]).2=0
      ·have bc:((B9 s l.units[i]).2 != 0)=false:=by simp[hc]
       simp(disch:=omega) only[go_sem,bc,A6 gq,e1,e4,ei,A5 (cs:=ds) gq gd,gq]
       refine⟨by omega,?_⟩
       intro U7 H7
       exact hJ _ _ _ _ (H7.re [2,1,4] (by decide)) ⟨e1,e4,_,q,Afl _ hs,rfl⟩
      ·have bc:((B9 s l.units[i]).2 != 0)=true:=by simp[hc]
       simp only[go_sem,bc]
       exact hW' _ _ _ H6 (rfl)
    ·clear H H2 H3
     rintro Yq hY env h' U ei c0 H ⟨e1,e4,s,ds,hs,rfl⟩
     simp(disch:=omega) only[go_sem,c0,e1,ei,hU.len]
     exact hY _ _ _ H ⟨e1,e4,s,ds,hs,rfl⟩
    ·clear H H2 H3
     rintro env h' U H ⟨e1,e4,s,ds,hs,rfl⟩
     have gd:ds.length=4:=A4.len (H.hp.rd 1 rfl)
     have hsm:=hs.ms
     simp(disch:=omega) only[go_sem,e1,e4,A6 gd]
     refine by_r H (Kk U ds _ s l.state (H.hp.rd 1 rfl) (A4.pre hS H.sub) (by omega) (by omega)) ?_
     simp only[go_sem]
     exact fun _=>⟨_,rfl,_,rfl,(H.re [] (by decide)).hp,fun _=>htm2⟩
    ·clear H H2 H3
     rintro env h' U H e2
     simp only[go_sem,e2]
     exact fun _=>⟨_,rfl,false,rfl,Hp.nil H.sub,fun h=>by cases h⟩
def A63:Fn1:=⟨59,[.t 4],(rg [oX 2 0,oX 3 1,oV 4 kf] (rg [oF 5 0 2,oW 6 2 5,oF 7 0 3,oW 8 2 7,o 9 (.eqs false [.i .i64,.i .i64] (.t 6) (.t 8)),oM 10 9,jF 11 10 2 2,jL 12 10 11,jF 13 10 2 3,jL 14 10 13,jB 15 10 .eql 12 14,oQ 16 10 15,oM 17 16,jF 18 17 3 2,jL 19 17 18,jF 20 17 3 3,jL 21 17 20,jD 22 17 171 19 21,oQ 23 17 22,oM 24 23,jF 25 24 4 2,jL 26 24 25,jF 27 24 4 3,jL 28 24 27,jB 29 24 .eql 26 28,oQ 30 24 29,oM 31 30,jF 32 31 5 2,jL 33 31 32,jF 34 31 5 3,jL 35 31 34,jB 36 31 .eql 33 35,oQ 37 31 36,oM 38 37,jF 39 38 6 2,jL 40 38 39,jF 41 38 6 3,jL 42 38 41,jB 43 38 .eql 40 42,oQ 44 38 43,oM 45 44,jF 46 45 7 2,jL 47 45 46,jF 48 45 7 3,jL 49 45 48,jB 50 45 .eql 47 49,oQ 51 45 50,oM 52 51,jF 53 52 8 2,jW 54 52 2 53,jF 55 52 8 3,jW 56 52 2 55,og 57 52 true (.eqs false [.i .i64,.i .i64] (.t 54) (.t 56)),oQ 58 52 57,oM 4 58] .ret))⟩
theorem Afr:A8 Tryz.prog 210=some A63:=by kernel_rfl
def Oq:Fn1:=⟨58,[.t 4],(rg [oX 2 0,oX 3 1,oV 4 kf] (.seq (rg [oF 6 0 2,oL 7 6,oF 8 0 3,oL 9 8,oD 10 171 7 9,oU 11 10,oM 12 11,vF 13 12 4 2,vL 14 12 13,og 15 12 false (.len false (.t 14)),vF 16 12 4 3,vL 17 12 16,og 18 12 false (.len false (.t 17)),vB 19 12 .neq 15 18,oP 20 12 19] (oG 20 (oR 4 kf))) (.seq (rg [oV 5 (ki 0)] (oH 0 (.seq (rg [oM 21 5,oF 22 4 2,oL 23 22,oN 24 23,oB 25 .lss 21 24] (oJ 25 0)) (.seq (.blk 1 (dw [oF 28 4 2,oL 29 28,oM 30 5,oI 31 2 29 30,oW 32 2 31,oF 33 4 3,oL 34 33,oM 35 5,oI 36 2 34 35,oW 37 2 36] [o 38 (.eqs true [.i .i64,.i .i64] (.t 32) (.t 37))] (oG 38 (oR 4 kf)))) (.reg [oM 26 5,oZ 27 26 1,oM 5 27]))))) (rg [oF 39 1 2,oL 40 39,oF 41 2 2,oL 42 41,oF 43 3 2,oL 44 43,oF 45 5 2,oL 46 45,o 47 (.build [.nilS,.nilS,.nilS,.nilS] [(0,1,(.t 40)),(1,1,(.t 42)),(2,1,(.t 44)),(3,1,(.t 46))]),oF 48 1 3,oL 49 48,oF 50 2 3,oL 51 50,oF 52 3 3,oL 53 52,oF 54 5 3,oL 55 54,o 56 (.build [.nilS,.nilS,.nilS,.nilS] [(0,1,(.t 49)),(1,1,(.t 51)),(2,1,(.t 53)),(3,1,(.t 55))]),oD 57 47 47 56,oM 4 57] .ret))))⟩
theorem Zw:A8 Tryz.prog 280=some Oq:=by kernel_rfl
def A1q:Fn1:=⟨24,[.t 4],(rg [oX 2 0,oX 3 1,oV 4 kf] (rg [oF 5 0 2,oL 6 5,oF 7 0 3,oL 8 7,o 9 (.eqb false (.t 6) (.t 8)),oM 10 9,jF 11 10 1 2,jW 12 10 10 11,jF 13 10 1 3,jW 14 10 10 13,jD 15 10 210 12 14,oQ 16 10 15,oM 17 16,jF 18 17 11 2,jW 19 17 6 18,jF 20 17 11 3,jW 21 17 6 20,jD 22 17 280 19 21,oQ 23 17 22,oM 4 23] .ret))⟩
theorem Abx:A8 Tryz.prog 186=some A1q:=by kernel_rfl
theorem Alf (a b:Act):Zs a b=decide (a=b):=by
 rw[Zaw]
 simp only[Zs,Zab,decide_eq_true_eq,beq_iff_eq,Act.eq_iff]
theorem Aby (N:St) (cs ds:List GV) (a b:Act) (hR:kAct.R N a cs) (hS:kAct.R N b ds) (hl:a.knew.length<=1099511627776):Ret Tryz.prog 210 [.agg cs,.agg ds] N (.bool (decide (a=b))) N:=by
 rw[<- Alf]
 obtain⟨v,rfl,q⟩:=hR
 obtain⟨u,rfl,p⟩:=hS
 refine Cb Afr (Z0z rfl) trivial ?_
 unfold Zs
 simp +contextual (disch:=omega) only[go_sem,A63]
 intro n f U0 _ m g U H
 have S:=H.sub
 cases h0:decide (a.dot=b.dot) with
 |false=>
  simp only[go_sem,Zai]
  try exact fun _=>rfl
 |true=>
  simp(disch:=omega) only[go_sem,Zal]
  cases h1:a.time==b.time with
  |false=>
   simp only[go_sem,Zai]
   try exact fun _=>rfl
  |true=>
   simp(disch:=omega) only[go_sem,Zal]
   refine by_b H (Qm _ v u _ _ (q.pre S) (p.pre S) hl) (fun k1=> ?_) (fun k1=> ?_)
   rotate_left
   ·simp only[go_sem,k1,Zai]
    try exact fun _=>rfl
   simp(disch:=omega) only[go_sem,k1,Zal]
   cases h0:a.kind==b.kind with
   |false=>
    simp only[go_sem,Zai]
    try exact fun _=>rfl
   |true=>
    simp(disch:=omega) only[go_sem,Zal]
    cases h1:decide (a.obj=b.obj) with
    |false=>
     simp only[go_sem,Zai]
     try exact fun _=>rfl
    |true=>
     simp(disch:=omega) only[go_sem,Zal]
     cases h2:decide (a.key=b.key) with
     |false=>
      simp only[go_sem,Zai]
      try exact fun _=>rfl
     |true=>
      simp(disch:=omega) only[go_sem,Zal]
      cases h3:a.val==b.val with
      |false=>
       simp only[go_sem,Zai]
       try exact fun _=>rfl
      |true=>
       simp(disch:=omega) only[go_sem,Zal]
theorem Abz {a b:Delta} (h:¬ (a.base=b.base/\a.dead=b.dead/\(⟨a.know,a.tallies,a.lives,a.cells⟩:State)=⟨b.know,b.tallies,b.lives,b.cells⟩)):decide (a=b)=false:=decide_eq_false fun e=>h (by subst e;exact⟨rfl,rfl,rfl⟩)
theorem Aq1 {a b:Delta} (h0:a.base=b.base) (h1:a.dead=b.dead):decide (a=b)=decide ((⟨a.know,a.tallies,a.lives,a.cells⟩:State)=⟨b.know,b.tallies,b.lives,b.cells⟩):=by
 rw[Zaw]
 simp only[decide_eq_true_eq,Delta.eq_iff,State.eq_iff,h0,h1,true_and]
theorem Xf (N:St) (cs ds:List GV) (a b:Delta) (hR:Aw.R N a cs) (hS:Aw.R N b ds) (hl:Au a<=1073741824) (hm:Au b<=1073741824):Ret Tryz.prog 280 [.agg cs,.agg ds] N (.bool (decide (a=b))) N:=by
 obtain⟨v0,v1,v2,v3,v4,v5,rfl,q0,q1,q2,q3,q4,q5⟩:=hR
 obtain⟨u0,u1,u2,u3,u4,u5,rfl,p0,p1,p2,p3,p4,p5⟩:=hS
 have hbl:a.base.length<=1099511627776:=by unfold Au at hl;omega
 have hdl:a.dead.length<=1099511627776:=by unfold Au at hl;omega
 have hsa:Ad ⟨a.know,a.tallies,a.lives,a.cells⟩<=1099511627776:=by unfold Au at hl;unfold Ad;simp only;omega
 have hsb:Ad ⟨b.know,b.tallies,b.lives,b.cells⟩<=1099511627776:=by unfold Au at hm;unfold Ad;simp only;omega
 clear hl hm
 refine Cb Zw (Z0z rfl) trivial ?_
 simp +contextual (disch:=omega) only[go_sem,Oq]
 intro n1 f1 U0 _ n2 f2 U H
 have g1:N.length<=n1:=f1
 have g2:N.length<=n2:=f2.2
 have S:=H.sub
 refine by_r H (Qm _ v0 u0 _ _ (q0.pre S) (p0.pre S) hbl) ?_
 have l4:=q4.len
 have m4:=p4.len
 by_cases h0:a.base=b.base
 rotate_left
 ·have d:=Abz (a:=a) (b:=b) fun h=>h0 h.1
  have e0:decide (a.base=b.base)=false:=decide_eq_false h0
  simp only[go_sem,e0,d]
  try exact fun _=>rfl
 have e0:decide (a.base=b.base)=true:=decide_eq_true h0
 by_cases h1:a.dead.length=b.dead.length
 rotate_left
 ·have d:=Abz (a:=a) (b:=b) fun h=>h1 (by rw[h.2.1])
  have e1:((a.dead.length:Int) != (b.dead.length:Int))=true:=by simp;omega
  simp(disch:=omega) only[go_sem,e0,e1,l4,m4,d]
  try exact fun _=>rfl
 have e1:((a.dead.length:Int) != (b.dead.length:Int))=false:=by simp;omega
 simp(disch:=omega) only[go_sem,e0,e1,l4,m4]
 refine Ax a.dead.length 5 0 (fun i env h=>env 2= .ptr n1 0/\env 3= .ptr n2 0/\a.dead.take i=b.dead.take i/\h=[.box 1 n2 [u0,u1,u2,u3,u4,u5],.box 1 n1 [v0,v1,v2,v3,v4,v5]]) (fun env h=>a.dead=b.dead/\env 2= .ptr n1 0/\env 3= .ptr n2 0/\h=[.box 1 n2 [u0,u1,u2,u3,u4,u5],.box 1 n1 [v0,v1,v2,v3,v4,v5]]) (fun env h=>env 4= .bool false/\a.dead≠b.dead) _ H (rfl) ⟨rfl,rfl,by simp,rfl⟩ ?_ ?_ ?_ ?_
 ·clear H
  rintro J Yq Wq hJ hY hW i env h' U1 hi ei c0 H1 ⟨e2',e3',he,rfl⟩
  have hj:i<b.dead.length:=by omega
  have L1:=P8 q4 hi
  have L2:=P8 p4 hj
  by_cases hx:a.dead[i]=b.dead[i]
  ·have bb:decide (a.dead[i]=b.dead[i])=true:=decide_eq_true hx
   simp(disch:=omega) only[go_sem,c0,e2',e3',ei,A0,l4,m4,L1,L2,bb]
   exact hJ _ _ _ _ H1 ⟨e2',e3',by rw[Ak hi,Ak hj,he,hx],rfl⟩
  ·have bb:decide (a.dead[i]=b.dead[i])=false:=decide_eq_false hx
   simp(disch:=omega) only[go_sem,c0,e2',e3',ei,A0,l4,m4,L1,L2,bb]
   exact hW _ _ _ H1 ⟨rfl,fun h=>hx (by simp only[h])⟩
 ·rintro Yq hY env h' U1 ei c0 H1 ⟨e2',e3',he,rfl⟩
  simp(disch:=omega) only[go_sem,c0,e2',e3',ei,l4]
  rw[Zaa,h1,Zaa] at he
  exact hY _ _ _ H1 ⟨he,e2',e3',rfl⟩
 rotate_left
 ·rintro env h' U1 H1 ⟨e4,hx⟩
  have d:=Abz (a:=a) (b:=b) fun h=>hx h.2.1
  simp only[go_sem,e4,d]
 clear H S
 rintro env h' U1 H ⟨hd,e2',e3',rfl⟩
 have S:=H.sub
 have c1:=q1.cell
 have c2:=q2.cell
 have c3:=q3.cell
 have c5:=q5.cell
 have k1:=p1.cell
 have k2:=p2.cell
 have k3:=p3.cell
 have k5:=p5.cell
 have D:=Aq1 h0 hd
 simp(disch:=omega) only[go_sem,e2',e3',c1,c2,c3,c5,k1,k2,k3,k5]
 refine by_r H (Kk U1 [v1,v2,v3,v5] [u1,u2,u3,u5] ⟨a.know,a.tallies,a.lives,a.cells⟩ ⟨b.know,b.tallies,b.lives,b.cells⟩ ⟨_,_,_,_,rfl,q1.pre S,q2.pre S,q3.pre S,q5.pre S⟩ ⟨_,_,_,_,rfl,p1.pre S,p2.pre S,p3.pre S,p5.pre S⟩ hsa hsb) ?_
 simp only[go_sem,D]
 try exact fun _=>rfl
theorem Ry (N:St) (cs ds:List GV) (a b:Unit_) (hR:A9.R N a cs) (hS:A9.R N b ds) (hl:Aj a<=1073741824) (hm:Aj b<=1073741824):Ret Tryz.prog 186 [.agg cs,.agg ds] N (.bool (decide (a=b))) N:=by
 obtain⟨kv,d0,d1,d2,d3,d4,d5,rfl,hA,hD⟩:=Er hR
 obtain⟨ku,x0,x1,x2,x3,x4,x5,rfl,hB,hE⟩:=Er hS
 have hma:Ck a.act<=1073741824/\Au a.delta<=1073741824:=by unfold Aj at hl;omega
 have hmb:Au b.delta<=1073741824:=by unfold Aj at hm;omega
 have hkn:a.act.knew.length<=1099511627776:=by have:=hma.1;unfold Ck at this;omega
 refine Cb Abx (Z0z rfl) trivial ?_
 simp +contextual (disch:=omega) only[go_sem,A1q]
 intro n1 f1 U0 _ n2 f2 U H
 have S:=H.sub
 cases h0:a.batch==b.batch with
 |false=>
  have d:decide (a=b)=false:=decide_eq_false fun h=>by subst h;simp at h0
  simp only[go_sem,d]
  try exact fun _=>rfl
 |true=>
  simp(disch:=omega) only[go_sem]
  refine by_r H (Aby _ _ _ _ _ (kAct.pre hA S) (kAct.pre hB S) hkn) ?_
  by_cases h1:a.act=b.act
  rotate_left
  ·have d:decide (a=b)=false:=decide_eq_false fun h=>h1 (by rw[h])
   have e1:decide (a.act=b.act)=false:=decide_eq_false h1
   simp only[go_sem,d,e1]
   try exact fun _=>rfl
  have e1:decide (a.act=b.act)=true:=decide_eq_true h1
  simp(disch:=omega) only[go_sem,e1]
  refine by_r H (Xf _ _ _ _ _ (Aw.pre hD S) (Aw.pre hE S) hma.2 hmb) ?_
  have d:decide (a=b)=decide (a.delta=b.delta):=by
   rw[Zaw]
   simp only[decide_eq_true_eq,Unit_.eq_iff,h1,true_and]
   exact⟨fun h=>h.2,fun h=>⟨by simpa using h0,h⟩⟩
  simp only[go_sem,d]
  try exact fun _=>rfl
def A9d:Fn1:=⟨70,[.c 4 true 8,.c 5 true 17,.t 6],(rg [oX 2 0,oX 3 1,o 4 (.new [z0,z0,.nilS,.nilS,.nilS,.nilS,.nilS,.nilS]),o 5 (.new [(.bool false),z0,z0,z0,.nilS,z0,s0,s0,z0,z0,z0,.nilS,.nilS,.nilS,.nilS,.nilS,.nilS]),oV 6 (ki 0)] (rg [oW 12 8 2,oC 13 327 12,o 7 (.new [z0,z0,.nilS,.nilS,.nilS,.nilS,.nilS,.nilS]),oS 8 7 13] (.seq (rg [oW 14 8 2,oC 15 328 14,oU 16 15] (oG 16 (rg [oW 17 8 7,o 18 (.build [(.bool false),z0,z0,z0,.nilS,z0,s0,s0,z0,z0,z0,.nilS,.nilS,.nilS,.nilS,.nilS,.nilS] []),oS 8 4 17,oS 17 5 18,oV 6 (ki 3)] .ret))) (rg [oF 20 2 2,oW 21 4 20,oF 22 0 2,oL 23 22,oF 24 1 2,oL 25 24,oZ 26 25 1,oW 27 5 3,o 28 (.call 276 (oT [21,23,26,27])),oM 19 28,o 29 (.ext 0 (.t 19)),o 30 (.ext 1 (.t 19)),o 8 (.new [z0,z0,z0,.nilS,z0,s0,s0,z0,z0,z0]),oS 10 8 29,oM 9 30] (.seq (rg [oM 31 9,oE 32 .neq 31 0] (oG 32 (rg [oW 33 8 7,o 34 (.build [(.bool false),z0,z0,z0,.nilS,z0,s0,s0,z0,z0,z0,.nilS,.nilS,.nilS,.nilS,.nilS,.nilS] []),oM 35 9,oS 8 4 33,oS 17 5 34,oM 6 35] .ret))) (rg [oF 37 2 2,oW 38 4 37,oW 39 10 8,oD 40 140 38 39,oM 36 40,o 41 (.ext 0 (.t 36)),o 42 (.ext 1 (.t 36)),o 10 (.new [.nilS,.nilS,.nilS,.nilS]),oS 4 10 41,oM 11 42] (.seq (rg [oM 43 11,oE 44 .neq 43 0,oM 45 44,vF 46 45 6 2,vL 47 45 46,og 48 45 false (.len false (.t 47)),vE 49 45 .geq 48 60,oP 50 45 49] (oG 50 (rg [oW 51 8 7,o 52 (.build [(.bool false),z0,z0,z0,.nilS,z0,s0,s0,z0,z0,z0,.nilS,.nilS,.nilS,.nilS,.nilS,.nilS] []),oS 8 4 51,oS 17 5 52,oV 6 (ki 4)] .ret))) (rg [oW 53 4 10,oF 54 2 7,oS 4 54 53] (rg [oF 55 1 2,oL 56 55,oZ 57 56 1,oF 58 1 7,oS 1 58 57] (dw [oF 59 6 7,oL 60 59,oW 61 10 8,oC 62 211 61,o 63 (.build [(.bool false),z0,z0,z0,.nilS,z0,s0,s0,z0,z0,z0,.nilS,.nilS,.nilS,.nilS,.nilS,.nilS] [(1,10,(.t 62))]),o 64 (.lit 17 1 [(.bool false),z0,z0,z0,.nilS,z0,s0,s0,z0,z0,z0,.nilS,.nilS,.nilS,.nilS,.nilS,.nilS] [(0,17,(.t 63))])] [o 65 (.app 17 264 [(.bool false),z0,z0,z0,.nilS,z0,s0,s0,z0,z0,z0,.nilS,.nilS,.nilS,.nilS,.nilS,.nilS] (.t 60) (.t 64)),oF 66 6 7,oS 1 66 65] (dw [] [oW 67 8 7,oW 68 10 8,o 69 (.build [(.bool false),z0,z0,z0,.nilS,z0,s0,s0,z0,z0,z0,.nilS,.nilS,.nilS,.nilS,.nilS,.nilS] [(1,10,(.t 68))]),oS 8 4 67,on (.chk 68 (.ld true 10 (.t 8))),oS 17 5 69,oV 6 (ki 0)] .ret)))))))))))⟩
theorem Aif:A8 Tryz.prog 268=some A9d:=by kernel_rfl
abbrev Td:List GV:=[gi 0,gi 0,.nilS,.nilS,.nilS,.nilS,.nilS,.nilS]
theorem Hx.unitA {N U:St} {h:List Item} {ca:List GV} {a:Act} (H:Hx N U (.th (own kAct ca a)::h)):Hx N U (.th (own A9 (GV.bool false::ca++([GV.nilS,GV.nilS,GV.nilS,GV.nilS,GV.nilS,GV.nilS]++[])) ⟨false,a,delta0⟩)::h):=by
 have X1:=(((((H.nil Ai.kd).nil pDot.kd).nil Ap.kd).nil Ah.kd).nil pI.kd).nil pI.kd
 have X2:Hp N U (own Aw [GV.nilS,GV.nilS,GV.nilS,GV.nilS,GV.nilS,GV.nilS] delta0::own kAct ca a::h.map Item.t):=Hp.ownDelta (x:=delta0) X1
 exact Hp.ownUnit_ (x:=⟨false,a,delta0⟩) (X2.perm (.swap _ _ _))
theorem Ajp {s:State} {r m:Int} {e:Edit} (h:(E7 s r m e).2=0):Dj (E7 s r m e).1=true:=by
 unfold E7 at h ⊢
 split at h
 ·split at h
  ·split at h
   ·split at h
    ·simp_all
    ·cases h
   ·cases h
  ·cases h
 ·cases h
def EdS (l:Log) (e:Edit) (l':Log):Prop:=l'=l∨((E7 l.state l.rep (l.time+1) e).2=0/\(Bi l.state (E7 l.state l.rep (l.time+1) e).1).2=0/\l'={l with state:=(Bi l.state (E7 l.state l.rep (l.time+1) e).1).1,units:=l.units++[⟨false,(E7 l.state l.rep (l.time+1) e).1,delta0⟩],time:=l.time+1})
theorem Alg (N:St) (cs:List GV) (l:Log) (hR:kLog.R N l cs) (hG:LogG l) (e:Edit) (ho:e.obj.size<=1048576) (hk:e.key.size<=1048576) (hp:e.place<=9223372036854775807):∃ q U,Ret Tryz.prog 268 [.agg cs,.agg (edV e)] N q U/\∃ ds us c l',q= .tup [.agg ds,.agg us,gi c]/\us.length=17/\LogG l'/\EdS l e l'/\Hp N U [own kLog ds l']:=by
 have hlm:=hG.ms
 have hst:=hG.st.ms
 have hR0:=hR
 obtain⟨s0,s1,s2,s3,u,w,rfl,hS,hU,hW⟩:=Kl hR
 have hkn:=D8 hG.st.kn
 refine Bg Aif (Z0z rfl) (Hx.refl N) ?_
 simp +contextual (disch:=omega) only[go_sem,A9d]
 intro n2 f2 U1 _ n3 f3 U2 _ n4 f4 U3 _ n5 f5 U4 H4
 obtain⟨ds,U5,R5,K5⟩:=Xe U4 _ l (kLog.pre hR0 H4.sub) (by omega)
 have gd:ds.length=8:=kLog.len (K5.rd 0 rfl)
 refine by_c H4 R5 K5 fun H5=> ?_
 simp +contextual (disch:=omega) only[go_sem,A5 (cs:=Td) gd rfl,gd]
 intro n7 f7 U60 _ U6 H6
 try simp only[go_sem]
 obtain⟨_,U7,R7,b,rfl,K7,hb⟩:=A61 U6 _ l (kLog.pre hR0 H6.sub) hG
 have H7:Hp N U7 (([]:List Thg)++_):=H6.hp.add K7
 obtain⟨v2,v3,v4,rfl,X⟩:=Hp.splitLog (H7.pick 1 rfl)
 obtain⟨t0,t1,t2,t3,rfl,_⟩:=X.rd 0 rfl
 have H8:Hx N U7 [.th (own A4 [t0,t1,t2,t3] l.state),.th (ow A9 v3 l.units),.th (ow A9 v4 l.waits),.box 1 n7 (logV l t0 t1 t2 t3 v3 v4),.box 1 n5 zeU,.box 1 n4 Td,.box 1 n3 (edV e),.box 1 n2 (logV l s0 s1 s2 s3 u w)]:=X
 refine by_m R7 H8 ?_
 cases b with
 |false=>
  simp +contextual (disch:=omega) only[go_sem]
  intro U8 _ U9 H9
  exact⟨_,rfl,_,_,_,l,rfl,rfl,hG,.inl rfl,Hp.ownLog (x:=l) (H9.re [0,1,2] (by decide)).hp⟩
 |true=>
  have htm:=hb rfl
  have htm0:=hG.tm.1
  simp(disch:=omega) only[go_sem]
  obtain⟨ac,U9,R9,K9⟩:=O0 U7 _ l.state (A4.pre hS H8.sub) l.rep (l.time+1) e (by omega) (by omega) (by omega) hp (by omega)
  have ga:ac.length=10:=kAct.len (K9.rd 0 rfl)
  refine by_c H8 R9 K9 fun H9=> ?_
  simp only[go_sem,A5 (cs:=zeV) ga rfl,ga]
  intro n8 f8 U100 _ U10 H10
  by_cases hc:(E7 l.state l.rep (l.time+1) e).2=0
  rotate_left
  ·have bc:((E7 l.state l.rep (l.time+1) e).2 != 0)=true:=by simp[hc]
   simp +contextual (disch:=omega) only[go_sem,bc]
   intro U11 _ U12 H12
   exact⟨_,rfl,_,_,_,l,rfl,rfl,hG,.inl rfl,Hp.ownLog (x:=l) (H12.re [2,3,4] (by decide)).hp⟩
  have bc:((E7 l.state l.rep (l.time+1) e).2 != 0)=false:=by simp[hc]
  obtain⟨a,ha⟩:∃ a,a=(E7 l.state l.rep (l.time+1) e).1:=⟨_,rfl⟩
  have hao:Dj a=true:=by rw[ha];exact Ajp hc
  have ham:=Afk hao
  rw[<- ha] at H10
  obtain⟨kc,rfl,_⟩:=H10.hp.rd 1 rfl
  simp(disch:=omega) only[go_sem,bc]
  obtain⟨q,U11,R11,K11⟩:=Gt U10 _ l.state (A4.pre hS H10.sub) _ a (H10.hp.rd 1 rfl) (by omega) (by omega)
  obtain⟨q0,q1,q2,q3,rfl,_⟩:=K11.rd 0 rfl
  refine by_c H10 R11 K11 fun H11=> ?_
  simp only[go_sem]
  intro n10 f10 U120 _ U12 H12
  by_cases hd:(Bi l.state a).2=0
  rotate_left
  ·have bd:((Bi l.state a).2 != 0)=true:=by simp[hd]
   simp +contextual (disch:=omega) only[go_sem,bd]
   intro U13 _ U14 H14
   exact⟨_,rfl,_,_,_,l,rfl,rfl,hG,.inl rfl,Hp.ownLog (x:=l) (H14.re [4,5,6] (by decide)).hp⟩
  have bd:((Bi l.state a).2 != 0)=false:=by simp[hd]
  by_cases hn:60<=l.units.length
  ·have bn:decide (60<=(l.units.length:Int))=true:=by simp;omega
   simp +contextual (disch:=omega) only[go_sem,bd,bn,hU.len]
   intro U13 _ U14 H14
   exact⟨_,rfl,_,_,_,l,rfl,rfl,hG,.inl rfl,Hp.ownLog (x:=l) (H14.re [4,5,6] (by decide)).hp⟩
  have bn:decide (60<=(l.units.length:Int))=false:=by simp;omega
  simp(disch:=omega) only[go_sem,bd,bn,hU.len]
  intro U13 _ U14 H14
  try simp only[go_sem]
  obtain⟨a2,U15,R15,K15⟩:=Oa U14 _ a (H14.hp.rd 3 rfl) (by unfold Ck at ham;omega)
  obtain⟨ka,rfl,_⟩:=K15.rd 0 rfl
  refine by_c H14 R15 K15 fun H15=> ?_
  simp only[go_sem]
  intro n16 f16 U16 H16
  have H17:=Hx.unitA (H16.re [1,0,3,4,5,7,8,9,10,11,12,13] (by decide))
  have H18:Hx N U16 [.box 17 n16 (unV ⟨false,a,delta0⟩ ka .nilS .nilS .nilS .nilS .nilS .nilS),.th (own A9 (unV ⟨false,a,delta0⟩ ka .nilS .nilS .nilS .nilS .nilS .nilS) ⟨false,a,delta0⟩),.th (own A4 [q0,q1,q2,q3] (Bi l.state a).1),.box 1 n8 (actV a kc),.th (own kAct (actV a kc) a),.th (ow A9 v3 l.units),.th (ow A9 v4 l.waits),.box 1 n7 [gi l.rep,gi (l.time+1),q0,q1,q2,q3,v3,v4],.box 1 n5 zeU,.box 1 n4 Td,.box 1 n3 (edV e),.box 1 n2 (logV l s0 s1 s2 s3 u w)]:=H17.re [1,0,2,3,4,5,6,7,8,9,10,11] (by decide)
  refine Ga H18 1 4 rfl rfl Be (by decide) (by omega) fun v' U17 H19=> ?_
  have cv:=(H19.hp.sl 4 rfl).cell
  simp +contextual (disch:=omega) only[go_sem,cv]
  intro U18 _ U19 _ U20 H20
  have hu:Fy ⟨false,a,delta0⟩=true:=by simp[Fy,hao,O9]
  exact⟨_,rfl,_,_,_,{l with state:=(Bi l.state a).1,units:=l.units++[⟨false,a,delta0⟩],time:=l.time+1},rfl,rfl,Abv hG hu rfl hd (by omega) ⟨by omega,by omega⟩,.inr ⟨hc,by rw[<- ha];exact hd,by rw[<- ha]⟩,Hp.ownLog (x:={l with state:=(Bi l.state a).1,units:=l.units++[⟨false,a,delta0⟩],time:=l.time+1}) (H20.re [1,4,5] (by decide)).hp⟩
def A64:Fn1:=⟨33,[],(rg [oX 4 1,oX 5 2] (rg [oM 6 0,oW 7 4 5,oK 8 6,oF 9 2 8,oS 4 9 7] (dw [oM 10 0,oM 11 0,oK 12 11,oF 13 6 12,oL 14 13,oW 15 17 4,oC 16 99 15,o 17 (.lit 17 1 [(.bool false),z0,z0,z0,.nilS,z0,s0,s0,z0,z0,z0,.nilS,.nilS,.nilS,.nilS,.nilS,.nilS] [(0,17,(.t 16))])] [o 18 (.app 17 264 [(.bool false),z0,z0,z0,.nilS,z0,s0,s0,z0,z0,z0,.nilS,.nilS,.nilS,.nilS,.nilS,.nilS] (.t 14) (.t 17)),oK 19 10,oF 20 6 19,oS 1 20 18] (dw [oW 21 17 4,oC 22 378 21,oM 23 0,oK 24 23,oF 25 1 24,oL 26 25] [oB 27 .gtr 22 26] (oG 27 (.reg [oM 28 0,oW 29 17 4,oC 30 378 29,oK 31 28,oF 32 1 31,oS 1 32 30]))))))⟩
theorem Afs:A8 Tryz.prog 329=some A64:=by kernel_rfl
def A65:Fn1:=⟨69,[],(rg [oV 2 kt] (oH 0 (.seq (rg [oM 7 2] (oJ 7 0)) (.blk 1 (rg [oV 2 kf] (rg [o 8 (.lit 17 0 [] []),oM 3 8] (.seq (rg [oV 4 (ki 0)] (oH 2 (.seq (rg [oM 9 4,oM 10 0,oK 11 10,oF 12 7 11,oL 13 12,oN 14 13,oB 15 .lss 9 14] (oJ 15 2)) (.seq (.blk 3 (dw [oM 19 0,oK 20 19,oF 21 2 20,oW 22 4 21,oM 23 0,oK 24 23,oF 25 7 24,oL 26 25,oM 27 4,oI 28 17 26 27,oW 29 17 28,oD 30 44 22 29,oM 18 30,o 31 (.ext 0 (.t 18)),o 32 (.ext 1 (.t 18)),o 5 (.new [.nilS,.nilS,.nilS,.nilS])] [oS 4 5 31,oM 6 32] (.seq (rg [oM 33 6,oE 34 .eql 33 0,oM 35 34,jM 36 35 0,og 37 35 true (.nck (.t 36)),jF 38 35 6 37,jL 39 35 38,og 40 35 true (.len false (.t 39)),jE 41 35 .lss 40 60,oQ 42 35 41] (oG 42 (dw [oM 43 0,oM 44 0,oK 45 44,oF 46 7 45,oL 47 46,oM 48 4,oI 49 17 47 48,oW 50 17 49,oW 51 4 5] [o 52 (.call 329 (oT [43,50,51]))] (rg [oV 2 kt] (.ext 3))))) (rg [oM 53 6,oE 54 .neq 53 1] (oG 54 (.reg [oM 55 3,oM 56 0,oK 57 56,oF 58 7 57,oL 59 58,oM 60 4,oI 61 17 59 60,oW 62 17 61,o 63 (.lit 17 1 [(.bool false),z0,z0,z0,.nilS,z0,s0,s0,z0,z0,z0,.nilS,.nilS,.nilS,.nilS,.nilS,.nilS] [(0,17,(.t 62))]),o 64 (.app 17 264 [(.bool false),z0,z0,z0,.nilS,z0,s0,s0,z0,z0,z0,.nilS,.nilS,.nilS,.nilS,.nilS,.nilS] (.t 55) (.t 63)),oM 3 64])))))) (.reg [oM 16 4,oZ 17 16 1,oM 4 17]))))) (.reg [oM 65 0,oM 66 3,oK 67 65,oF 68 7 67,oS 1 68 66]))))))))⟩
theorem Aft:A8 Tryz.prog 330=some A65:=by kernel_rfl
theorem Afu {u:Unit_} (h:Fy u=true):0<=Gp u/\Gp u<=10000:=by
 unfold Fy at h
 unfold Gp
 split at h
 ·rename_i hb
  rw[if_pos hb]
  simp only[Zab] at h
  have h1:=h.1
  simp only[Bt,Zab] at h1
  have h4:=h1.2.2.2.1
  simp only[Je,celP,Zab,Bp] at h4
  refine Qs fun c hc=> ?_
  have:=A2q (p:=cel1) (fun i hi=>(h4.1 i hi).2.1) c hc
  simp only[cel1,Zab] at this
  exact(Di.1 this.2.2).2
 ·rename_i hb
  rw[if_neg hb]
  simp only[Zab] at h
  have h1:=h.1
  simp only[Dj,Ew,Zab] at h1
  have:=Di.1 h1.1.2.2.2
  omega
def A66 (l:Log) (x:Unit_):Int:=if l.time<Gp x then Gp x else l.time
theorem A67 {N0 N:St} {h:List Item} (l:Log) (n:Nat) (s0 s1 s2 s3 uu ww q0 q1 q2 q3:GV) (H:Hx N0 N (.box 1 n (logV l s0 s1 s2 s3 uu ww)::.th (ow A9 uu l.units)::h)) (hg:N0.length<=n) (cu:List GV) (x:Unit_) (hu:∀ U,Hx N0 U h->A9.R U x cu) (hm:Aj x<=1048576) (hn:l.units.length<=1000):∃ u' U,Ret Tryz.prog 329 [.ptr n 0,.agg cu,.agg [q0,q1,q2,q3]] N (.tup []) U/\Hx N0 U (.box 1 n [gi l.rep,gi (A66 l x),q0,q1,q2,q3,u',ww]::.th (ow A9 u' (l.units++[x]))::h):=by
 have gu:cu.length=17:=A9.len (hu N H.tl.tl)
 have key:∃ q U,Ret Tryz.prog 329 [.ptr n 0,.agg cu,.agg [q0,q1,q2,q3]] N q U/\∃ u',q= .tup []/\Hx N0 U (.box 1 n [gi l.rep,gi (A66 l x),q0,q1,q2,q3,u',ww]::.th (ow A9 u' (l.units++[x]))::h):=by
  refine Bg Afs (Z0z rfl) H ?_
  simp +contextual (disch:=omega) only[go_sem,A64]
  intro n4 f4 U1 _ n5 f5 U2 H2
  have g4:n<n4:=f4.1
  have g5:n4<n5:=f5.1
  simp only[go_sem,A6 gu]
  intro U3 H3
  try simp only[go_sem,A6 gu]
  obtain⟨q,U4,R4,K4⟩:=Es U3 cu x (hu _ H3.tl.tl.tl.tl) (by omega)
  have ql:q.length=17:=A9.len (K4.rd 0 rfl)
  refine by_c H3 R4 K4 fun H4=> ?_
  simp only[go_sem,A5 (cs:=zeU) ql rfl,ql]
  intro n6 f6 U5 H5
  refine Ga H5 1 4 rfl rfl Be (by decide) (by omega) fun v' U6 H6=> ?_
  have cv:=(H6.hp.sl 4 rfl).cell
  have g6:n5<n6:=f6.1
  simp(disch:=omega) only[go_sem,cv]
  intro U7 H7
  try simp only[go_sem,A6 gu]
  refine by_r H7 (Oe _ cu x (hu _ H7.tl.tl.tl.tl.tl) (by omega)) ?_
  obtain⟨t,ht⟩:∃ t,t=Gp x:=⟨_,rfl⟩
  cases hlt:decide (l.time<Gp x) with
  |true=>
   have e:A66 l x=Gp x:=if_pos (of_decide_eq_true hlt)
   simp(disch:=omega) only[go_sem,hlt,A6 gu]
   refine by_r H7 (Oe _ cu x (hu _ H7.tl.tl.tl.tl.tl) (by omega)) ?_
   simp +contextual (disch:=omega) only[go_sem]
   intro U8 H8
   exact⟨_,rfl,v',rfl,by rw[e];exact H8.tl.tl.tl⟩
  |false=>
   have e:A66 l x=l.time:=if_neg (of_decide_eq_false hlt)
   simp(disch:=omega) only[go_sem,hlt]
   exact fun _=>⟨_,rfl,v',rfl,by rw[e];exact H7.tl.tl.tl⟩
 obtain⟨q,U,R,u',rfl,h'⟩:=key
 exact⟨u',U,R,h'⟩
def WkS (l l':Log):Prop:=l'.rep=l.rep/\(∀ x∈l'.units,x∈l.units∨x∈l.waits)/\∀ x∈l'.waits,x∈l.waits
theorem WkS.refl (l:Log):WkS l l:=⟨rfl,fun x h=>.inl h,fun x h=>h⟩
theorem WkS.trans {a b c:Log} (h:WkS a b) (k:WkS b c):WkS a c:=⟨k.1.trans h.1,fun x hx=>(k.2.1 x hx).elim (h.2.1 x) fun h'=>.inr (h.2.2 x h'),fun x hx=>h.2.2 x (k.2.2 x hx)⟩
abbrev lgI (n:Nat) (l:Log) (t0 t1 t2 t3 u w:GV) (r:Thg):List Item:=[.box 1 n (logV l t0 t1 t2 t3 u w),.th (own A4 [t0,t1,t2,t3] l.state),.th (ow A9 u l.units),.th (ow A9 w l.waits),.th r]
def wkR (n:Nat) (l:Log) (Wq:List Unit_) (t0 t1 t2 t3 u v w:GV) (r:Thg) (L:List Unit_) (i:Nat) (h:List Item):Prop:=
 (∃ hi:i<Wq.length,∃ cs,h=[.box 1 n (logV l t0 t1 t2 t3 u w),.th (own A4 [t0,t1,t2,t3] l.state),.th (ow A9 u l.units),.th (ow A9 v L),.th (own A9 cs Wq[i]),.th (rst A9 w Wq i cs),.th r])∨
 (i=Wq.length/\h=[.box 1 n (logV l t0 t1 t2 t3 u w),.th (own A4 [t0,t1,t2,t3] l.state),.th (ow A9 u l.units),.th (ow A9 v L),.th (rest A9 w Wq i),.th r])
theorem Ajq {N U:St} {n:Nat} {l:Log} {Wq:List Unit_} {t0 t1 t2 t3 u v w:GV} {r:Thg} {L:List Unit_} {i:Nat} (H:Hx N U [.box 1 n (logV l t0 t1 t2 t3 u w),.th (own A4 [t0,t1,t2,t3] l.state),.th (ow A9 u l.units),.th (ow A9 v L),.th (rest A9 w Wq i),.th r]) (hle:i<=Wq.length):∃ h,Hx N U h/\wkR n l Wq t0 t1 t2 t3 u v w r L i h:=by
 by_cases hi:i<Wq.length
 ·obtain⟨cs,Z⟩:=Hp.toRst ((H.re [4,0,1,2,3,5] (by decide)).hp) hi
  have Z:Hx N U [.th (own A9 cs Wq[i]),.th (rst A9 w Wq i cs),.box 1 n (logV l t0 t1 t2 t3 u w),.th (own A4 [t0,t1,t2,t3] l.state),.th (ow A9 u l.units),.th (ow A9 v L),.th r]:=Z
  exact⟨_,Z.re [2,3,4,5,0,1,6] (by decide),.inl ⟨hi,cs,rfl⟩⟩
 ·exact⟨_,H,.inr ⟨by omega,rfl⟩⟩
theorem Ac0 {N U:St} {a b c d:Item} {r:Thg} {w:GV} {Wq:List Unit_} {i:Nat} {cs:List GV} (H:Hx N U [a,b,c,d,.th (rst A9 w Wq i cs),.th r]):Hx N U [a,b,c,d,.th (rest A9 w Wq (i+1)),.th r]:=by
 have Z:Hx N U [.th (rest A9 w Wq (i+1)),a,b,c,d,.th r]:=Hp.ofRst ((H.re [4,0,1,2,3,5] (by decide)).hp)
 exact Z.re [1,2,3,4,0,5] (by decide)
theorem Aig {N0 N:St} (l:Log) (hG:LogG l) (n:Nat) (t0 t1 t2 t3 u w:GV) (r:Thg) (H:Hx N0 N (lgI n l t0 t1 t2 t3 u w r)) (hg:N0.length<=n):∃ U l' t0 t1 t2 t3 u w,Ret Tryz.prog 330 [.ptr n 0] N (.tup []) U/\LogG l'/\WkS l l'/\Hx N0 U (lgI n l' t0 t1 t2 t3 u w r):=by
 have key:∃ q U,Ret Tryz.prog 330 [.ptr n 0] N q U/\∃ l' t0 t1 t2 t3 u w,q= .tup []/\LogG l'/\WkS l l'/\Hx N0 U (lgI n l' t0 t1 t2 t3 u w r):=by
  refine Bg Aft (Z0z rfl) H ?_
  simp only[go_sem,A65]
  refine J4 (2*l.waits.length+1) 0 (fun k env h=>env 0= .ptr n 0/\∃(b:Bool) (l':Log) (t0 t1 t2 t3 u w:GV),env 2= .bool b/\LogG l'/\WkS l l'/\k=2*l'.waits.length+(if b then 1 else 0)/\h=lgI n l' t0 t1 t2 t3 u w r) (fun env h=>∃(l':Log) (t0 t1 t2 t3 u w:GV),LogG l'/\WkS l l'/\h=lgI n l' t0 t1 t2 t3 u w r) (fun _ _=>False) _ H ⟨rfl,true,l,t0,t1,t2,t3,u,w,rfl,hG,WkS.refl l,rfl,rfl⟩ ?_ ?_ (fun _ _ _ _ h=>h.elim)
  ·clear H
   rintro J Yq Wq' hJ hY hW k env h U H ⟨e0,b,l1,t0,t1,t2,t3,u,w,e2,hG1,hS1,rfl,rfl⟩
   cases b with
   |false=>
    simp only[go_sem,e0,e2]
    exact hY _ _ _ H ⟨l1,t0,t1,t2,t3,u,w,hG1,hS1,rfl⟩
   |true=>
    have hwl:lenG false w=some (l1.waits.length:Int):=(H.hp.sl 3 rfl).len
    simp only[go_sem,e0,e2]
    intro n3 f3 U3 H3
    have g3:n<n3:=f3.1
    obtain⟨Wq,hW0⟩:∃ Wq,Wq=l1.waits:=⟨_,rfl⟩
    rw[<- hW0] at hwl
    have hWn:Wq.length<=6:=by rw[hW0];exact hG1.nw
    have hWa:∀ x∈Wq,Fy x=true:=by rw[hW0];exact hG1.wa
    have hWb:∀ x∈Wq,x.batch=false:=by rw[hW0];exact hG1.wb
    have H4:Hx N0 U3 [.th (ow A9 w Wq),.box 1 n (logV l1 t0 t1 t2 t3 u w),.th (own A4 [t0,t1,t2,t3] l1.state),.th (ow A9 u l1.units),.th (ow A9 (.sl n3 0 0) []),.th r]:=by rw[hW0];exact(H3.emp A9 rfl).re [4,1,2,3,0,5] (by decide)
    have H5:Hx N0 U3 [.th (rest A9 w Wq 0),.box 1 n (logV l1 t0 t1 t2 t3 u w),.th (own A4 [t0,t1,t2,t3] l1.state),.th (ow A9 u l1.units),.th (ow A9 (.sl n3 0 0) []),.th r]:=Hp.toRest H4.hp
    obtain⟨hz,HZ,Z0⟩:=Ajq (H5.re [1,2,3,4,0,5] (by decide)) (Za5 _)
    refine Ax Wq.length 4 2 (fun i env h=>env 0= .ptr n 0/\∃(b:Bool) (l2:Log) (t0 t1 t2 t3 u v:GV) (L:List Unit_),env 2= .bool b/\env 3=v/\LogG l2/\l2.waits=Wq/\WkS l1 l2/\(∀ x∈L,x∈Wq)/\L.length+(if b then 1 else 0)<=i/\wkR n l2 Wq t0 t1 t2 t3 u v w r L i h) (fun env h=>env 0= .ptr n 0/\∃(b:Bool) (l2:Log) (t0 t1 t2 t3 u v:GV) (L:List Unit_),env 2= .bool b/\env 3=v/\LogG l2/\l2.waits=Wq/\WkS l1 l2/\(∀ x∈L,x∈Wq)/\L.length+(if b then 1 else 0)<=Wq.length/\h=[.box 1 n (logV l2 t0 t1 t2 t3 u w),.th (own A4 [t0,t1,t2,t3] l2.state),.th (ow A9 u l2.units),.th (ow A9 v L),.th (rest A9 w Wq Wq.length),.th r]) (fun _ _=>False) hz HZ (rfl) ⟨e0,false,l1,t0,t1,t2,t3,u,.sl n3 0 0,[],rfl,rfl,hG1,hW0.symm,WkS.refl _,by simp,by simp,Z0⟩ ?_ ?_ ?_ (fun _ _ _ _ h=>h.elim)
    ·clear H H3 H4 H5 HZ Z0 e0 e2 hG1
     rintro J2 Yq2 Wq2 hJ2 hY2 hW2 i env h U hi ei c0 H ⟨e0,b,l2,t0,t1,t2,t3,u,v,L,e2,e3,hG2,hw2,hS2,hL,hLb,hz⟩
     rcases hz with⟨_,cs,rfl⟩|⟨hz,_⟩
     rotate_left
     ·omega
     have hcl:cs.length=17:=A9.len (H.hp.rd 4 rfl)
     have hok:=hWa Wq[i] (Zac hi)
     have hbt:=hWb Wq[i] (Zac hi)
     have hmu:=Q7 hok
     have hms:=hG2.st.ms
     have hnu:=hG2.nu
     obtain⟨z1,z2,z3,z4,z5⟩:=H.rst_rd 5 rfl hi
     have z1:iadG 17 w (some i)=some (atz 17 w i):=z1
     have z4:=F8 H z4
     have z4:ldX N0 [.box 1 n (logV l2 t0 t1 t2 t3 u w),.th (own A4 [t0,t1,t2,t3] l2.state),.th (ow A9 u l2.units),.th (ow A9 v L),.th (own A9 cs Wq[i]),.th (rst A9 w Wq i cs),.th r] U true 17 (atz 17 w i)=some (.agg cs):=z4
     have hul:lenG false u=some (l2.units.length:Int):=(H.hp.sl 2 rfl).len
     simp(disch:=omega) only[go_sem,c0,e0,e2,e3,ei,A0,hwl,z1,z4]
     obtain⟨q,U5,R5,K5⟩:=T6 U [t0,t1,t2,t3] l2.state (H.hp.rd 1 rfl) cs Wq[i] (H.hp.rd 4 rfl) (by omega) (by omega) hbt
     obtain⟨q0,q1,q2,q3,rfl,_⟩:=K5.rd 0 rfl
     refine by_c H R5 K5 fun H5=> ?_
     simp only[go_sem,e0,e2,e3,ei]
     intro n6 f6 U60 _ U6 H6
     have g6:n<n6:=f6.1
     obtain⟨y1,y2,y3,y4,y5⟩:=H6.rst_rd 7 rfl hi
     have y1:iadG 17 w (some i)=some (atz 17 w i):=y1
     have y4:=F8 H6 y4
     have y4:ldX N0 [.box 1 n6 [q0,q1,q2,q3],.th (own A4 [q0,q1,q2,q3] (B9 l2.state Wq[i]).1),.box 1 n (logV l2 t0 t1 t2 t3 u w),.th (own A4 [t0,t1,t2,t3] l2.state),.th (ow A9 u l2.units),.th (ow A9 v L),.th (own A9 cs Wq[i]),.th (rst A9 w Wq i cs),.th r] U6 true 17 (atz 17 w i)=some (.agg cs):=y4
     have stay:∀ env',env' 0= .ptr n 0->env' 2= .bool b->env' 3=v->J2 (i+1) env' U6:=fun env' a0 a2 a3=>by
      obtain⟨hz,HZ,Z0⟩:=Ajq (Ac0 (H6.re [2,3,4,5,7,8] (by decide))) (by omega)
      exact hJ2 _ _ _ _ HZ ⟨a0,b,l2,t0,t1,t2,t3,u,v,L,a2,a3,hG2,hw2,hS2,hL,by omega,Z0⟩
     have wait:∀ n9:Nat,∀ U9,Hx N0 U9 [.box 17 n9 cs,.box 1 n6 [q0,q1,q2,q3],.th (own A4 [q0,q1,q2,q3] (B9 l2.state Wq[i]).1),.box 1 n (logV l2 t0 t1 t2 t3 u w),.th (own A4 [t0,t1,t2,t3] l2.state),.th (ow A9 u l2.units),.th (ow A9 v L),.th (own A9 cs Wq[i]),.th (rst A9 w Wq i cs),.th r]->∀ k:Kx,(∀ v' h' U',(∀ env',env' 0= .ptr n 0->env' 2= .bool b->env' 3=v'->J2 (i+1) env' U')->k v' h' U')->genX N0 false U9 (appV 17 264 U9 v (.sl n9 0 1)) k:=fun n9 U9 H9 k hk=>by
      refine Ga H9 7 6 rfl rfl Be (by decide) (by omega) fun v' U10 H10=> ?_
      refine hk _ _ _ fun env' a0 a2 a3=> ?_
      obtain⟨hz,HZ,Z0⟩:=Ajq (Ac0 (H10.re [3,4,5,6,7,8] (by decide))) (by omega)
      refine hJ2 _ _ _ _ HZ ⟨a0,b,l2,t0,t1,t2,t3,u,v',L++[Wq[i]],a2,a3,hG2,hw2,hS2,fun x hx=> ?_,by rw[Zag,Zah];omega,Z0⟩
      rcases Zaf.1 hx with hx|hx
      ·exact hL x hx
      ·rw[Zae.1 hx];exact Zac hi
     obtain⟨c,hc⟩:∃ c,c=(B9 l2.state Wq[i]).2:=⟨_,rfl⟩
     rw[<- hc]
     by_cases h0:c=0
     ·subst h0
      have b0:((0:Int)==0)=true:=rfl
      have b1:((0:Int) != 1)=true:=rfl
      by_cases hn:l2.units.length<60
      ·have bn:decide ((l2.units.length:Int)<60)=true:=by simp;omega
       simp(disch:=omega) only[go_sem,e0,e2,e3,ei,A0,hwl,hul,bn,b0,b1,y1,y4,A5 (cs:=zeU) hcl rfl,hcl]
       obtain⟨u',U7,R7,H7⟩:=A67 l2 n t0 t1 t2 t3 u w q0 q1 q2 q3 (H6.re [2,4,1,5,6,7,8] (by decide)) hg cs Wq[i] (fun U' H'=>H'.hp.rd 2 rfl) (by omega) (by omega)
       refine by_m R7 H7 ?_
       simp(disch:=omega) only[go_sem,e0,e2,e3,ei]
       obtain⟨hz,HZ,Z0⟩:=Ajq (l:={l2 with state:=(B9 l2.state Wq[i]).1,units:=l2.units++[Wq[i]],time:=A66 l2 Wq[i]}) (L:=L) (v:=v) (Ac0 (H7.re [0,2,1,3,5,6] (by decide))) (by omega)
       have htm:=Afu hok
       have htl:=hG2.tm
       refine hJ2 _ _ _ _ HZ ⟨e0,true,{l2 with state:=(B9 l2.state Wq[i]).1,units:=l2.units++[Wq[i]],time:=A66 l2 Wq[i]},q0,q1,q2,q3,u',v,L,rfl,e3,Abv hG2 hok hbt hc.symm hn (by unfold A66;split<;>omega),hw2,⟨hS2.1,fun x hx=> ?_,hS2.2.2⟩,hL,by(try simp only[if_true]);split at hLb<;>omega,Z0⟩
       rcases Zaf.1 hx with hx|hx
       ·exact hS2.2.1 x hx
       ·rw[Zae.1 hx,<-hW0];exact .inr (Zac hi)
      ·have bn:decide ((l2.units.length:Int)<60)=false:=by simp;omega
       simp(disch:=omega) only[go_sem,e0,e2,e3,ei,A0,hwl,hul,bn,b0,b1,y1,y4,A5 (cs:=zeU) hcl rfl,hcl]
       intro n9 f9 U9 H9
       refine wait n9 U9 H9 _ fun v' h' U' hk=> ?_
       simp(disch:=omega) only[go_sem,e0,e2,e3,ei]
       exact hk _ (e0) (e2) (rfl)
     ·have b0:(c==0)=false:=by simpa using h0
      by_cases h1:c=1
      ·have b1:(c != 1)=false:=by simp[h1]
       simp(disch:=omega) only[go_sem,e0,e2,e3,ei,b0,b1]
       exact stay _ (e0) (e2) (e3)
      ·have b1:(c != 1)=true:=by simpa using h1
       simp(disch:=omega) only[go_sem,e0,e2,e3,ei,A0,hwl,hul,b0,b1,y1,y4,A5 (cs:=zeU) hcl rfl,hcl]
       intro n9 f9 U9 H9
       refine wait n9 U9 H9 _ fun v' h' U' hk=> ?_
       simp(disch:=omega) only[go_sem,e0,e2,e3,ei]
       exact hk _ (e0) (e2) (rfl)
    ·clear H H3 H4 H5 HZ Z0 e0 e2 hG1
     rintro Yq2 hY2 env h U ei c0 H ⟨e0,b,l2,t0,t1,t2,t3,u,v,L,e2,e3,hG2,hw2,hS2,hL,hLb,hz⟩
     rcases hz with⟨hz,_⟩|⟨_,rfl⟩
     ·exact absurd hz (Nat.lt_irrefl _)
     simp(disch:=omega) only[go_sem,c0,e0,e2,e3,ei,hwl]
     exact hY2 _ _ _ H ⟨e0,b,l2,t0,t1,t2,t3,u,v,L,e2,e3,hG2,hw2,hS2,hL,hLb,rfl⟩
    ·clear H H3 H4 H5 HZ Z0 e0 e2
     rintro env h U H ⟨e0,b,l2,t0,t1,t2,t3,u,v,L,e2,e3,hG2,hw2,hS2,hL,hLb,rfl⟩
     have cv:=(H.hp.sl 3 rfl).cell
     simp only[go_sem,e0,e2,e3,cv]
     intro U7 H7
     have hwn:=hG2.nw
     rw[hw2] at hwn
     refine⟨2*L.length+(if b then 1 else 0),?_,hJ _ _ _ _ (H7.re [0,1,2,3,5] (by decide)) ⟨e0,b,{l2 with waits:=L},t0,t1,t2,t3,u,v,e2,⟨hG2.rp,hG2.tm,hG2.st,hG2.un,fun x hx=>hWa x (hL x hx),hG2.nu,by show L.length<=6;split at hLb<;>omega,hG2.ub,fun x hx=>hWb x (hL x hx),hG2.run⟩,hS1.trans ⟨hS2.1,hS2.2.1,fun x hx=>by rw[<- hW0];exact hL x hx⟩,rfl,rfl⟩⟩
     rw[<- hW0]
     cases b<;>simp only[if_true,Za0,if_false] at hLb ⊢ <;>omega
  ·rintro env h U H ⟨l',t0,t1,t2,t3,u,w,hG',hS',rfl⟩
   simp only[go_sem]
   exact fun _=>⟨_,rfl,l',t0,t1,t2,t3,u,w,rfl,hG',hS',H⟩
 obtain⟨q,U,R,l',t0,t1,t2,t3,u,w,rfl,h⟩:=key
 exact⟨U,l',t0,t1,t2,t3,u,w,R,h⟩
def Afw:Fn1:=⟨77,[.c 4 true 8,.t 5],(rg [oX 2 0,oX 3 1,o 4 (.new [z0,z0,.nilS,.nilS,.nilS,.nilS,.nilS,.nilS]),oV 5 (ki 0)] (rg [oW 11 8 2,oC 12 327 11,o 6 (.new [z0,z0,.nilS,.nilS,.nilS,.nilS,.nilS,.nilS]),oS 8 6 12] (.seq (rg [oW 13 17 3,oC 14 97 13,oU 15 14,oM 16 15,vW 17 16 8 2,vC 18 16 328 17,vU 19 16 18,oP 20 16 19] (oG 20 (rg [oW 21 8 6,oS 8 4 21,oV 5 (ki 3)] .ret))) (rg [oF 23 2 2,oW 24 4 23,oW 25 17 3,oD 26 44 24 25,oM 22 26,o 27 (.ext 0 (.t 22)),o 28 (.ext 1 (.t 22)),o 7 (.new [.nilS,.nilS,.nilS,.nilS]),oS 4 7 27,oM 8 28] (.seq (rg [oM 29 8,oE 30 .eql 29 2] (oG 30 (rg [oF 31 7 2,oL 32 31,oN 33 32,oE 34 .geq 33 6,oM 9 34] (.seq (rg [oV 10 (ki 0)] (oH 0 (.seq (rg [oM 35 10,oF 36 7 2,oL 37 36,oN 38 37,oB 39 .lss 35 38] (oJ 39 0)) (.seq (.blk 1 (.drw [oM 42 9,oM 43 42,vF 44 43 7 2,vL 45 43 44,vM 46 43 10,vI 47 43 17 45 46,vW 48 43 17 47,vW 49 43 17 3] [vD 50 43 186 48 49,oP 51 43 50,oM 9 51])) (.reg [oM 40 10,oZ 41 40 1,oM 10 41]))))) (.seq (rg [oM 52 9,oU 53 52] (oG 53 (.drw [oF 54 7 6,oL 55 54,oW 56 17 3,oC 57 99 56,o 58 (.lit 17 1 [(.bool false),z0,z0,z0,.nilS,z0,s0,s0,z0,z0,z0,.nilS,.nilS,.nilS,.nilS,.nilS,.nilS] [(0,17,(.t 57))])] [o 59 (.app 17 264 [(.bool false),z0,z0,z0,.nilS,z0,s0,s0,z0,z0,z0,.nilS,.nilS,.nilS,.nilS,.nilS,.nilS] (.t 55) (.t 58)),oF 60 7 6,oS 1 60 59]))) (rg [oW 61 8 6,oM 62 8,oS 8 4 61,oM 5 62] .ret)))))) (.seq (rg [oM 63 8,oE 64 .neq 63 0] (oG 64 (rg [oW 65 8 6,oM 66 8,oS 8 4 65,oM 5 66] .ret))) (.seq (rg [oF 67 6 2,oL 68 67,oN 69 68,oE 70 .geq 69 60] (oG 70 (rg [oW 71 8 6,oS 8 4 71,oV 5 (ki 4)] .ret))) (rg [oW 72 17 3,oW 73 4 7,o 74 (.call 329 (oT [6,72,73]))] (rg [oC 75 330 6] (rg [oW 76 8 6,oS 8 4 76,oV 5 (ki 0)] .ret))))))))))⟩
theorem Alh:A8 Tryz.prog 267=some Afw:=by kernel_rfl
def HeS (l:Log) (x:Unit_) (l':Log):Prop:=l'.rep=l.rep/\(∀ y∈l'.units,y∈l.units∨y∈l.waits∨y=x)/\∀ y∈l'.waits,y∈l.waits∨y=x
theorem HeS.refl (l:Log) (x:Unit_):HeS l x l:=⟨rfl,fun y h=>.inl h,fun y h=>.inl h⟩
theorem Ao0 (N:St) (cs:List GV) (l:Log) (hR:kLog.R N l cs) (hG:LogG l) (us:List GV) (x:Unit_) (hU:A9.R N x us) (hx:Fy x=true) (hb:x.batch=false):∃ q U,Ret Tryz.prog 267 [.agg cs,.agg us] N q U/\∃ ds c l',q= .tup [.agg ds,gi c]/\LogG l'/\HeS l x l'/\Hp N U [own kLog ds l']:=by
 have hlm:=hG.ms
 have hst:=hG.st.ms
 have hxm:=Q7 hx
 have hnw:=hG.nw
 have hnu:=hG.nu
 have gu:us.length=17:=A9.len hU
 have hR0:=hR
 obtain⟨s0,s1,s2,s3,u,w,rfl,hS,hUn,hW⟩:=Kl hR
 refine Bg Alh (Z0z rfl) (Hx.refl N) ?_
 simp +contextual (disch:=omega) only[go_sem,Afw]
 intro n2 f2 U1 _ n3 f3 U2 _ n4 f4 U3 H3
 obtain⟨ds,U5,R5,K5⟩:=Xe U3 _ l (kLog.pre hR0 H3.sub) (by omega)
 have gd:ds.length=8:=kLog.len (K5.rd 0 rfl)
 refine by_c H3 R5 K5 fun H5=> ?_
 simp +contextual (disch:=omega) only[go_sem,A5 (cs:=Td) gd rfl,gd]
 intro n6 f6 U60 _ U6 H6
 try simp only[go_sem,A6 gu]
 refine by_r H6 (Jr _ us x (A9.pre hU H6.sub) (by omega)) ?_
 simp(disch:=omega) only[go_sem,hx]
 obtain⟨_,U7,R7,b,rfl,K7,hbt⟩:=A61 U6 _ l (kLog.pre hR0 H6.sub) hG
 have H7:Hp N U7 (([]:List Thg)++_):=H6.hp.add K7
 obtain⟨v2,v3,v4,rfl,X⟩:=Hp.splitLog (H7.pick 1 rfl)
 obtain⟨t0,t1,t2,t3,rfl,_⟩:=X.rd 0 rfl
 have H8:Hx N U7 [.th (own A4 [t0,t1,t2,t3] l.state),.th (ow A9 v3 l.units),.th (ow A9 v4 l.waits),.box 1 n6 (logV l t0 t1 t2 t3 v3 v4),.box 1 n4 Td,.box 1 n3 us,.box 1 n2 (logV l s0 s1 s2 s3 u w)]:=X
 refine by_m R7 H8 ?_
 have fin:∀(U:St) (l':Log) (p0 p1 p2 p3 p4 p5:GV) (rs:List Thg),Hp N U (own A4 [p0,p1,p2,p3] l'.state::ow A9 p4 l'.units::ow A9 p5 l'.waits::rs)->Hp N U [own kLog (logV l' p0 p1 p2 p3 p4 p5) l']:=fun U l' p0 p1 p2 p3 p4 p5 rs H=>(Hp.ownLog (x:=l') H).sel [0] (by decide)
 cases b with
 |false=>
  simp +contextual (disch:=omega) only[go_sem]
  intro U8 H8
  exact⟨_,rfl,_,_,l,rfl,hG,HeS.refl l x,fin _ l _ _ _ _ _ _ _ H8.hp⟩
 |true=>
  simp(disch:=omega) only[go_sem]
  obtain⟨q,U9,R9,K9⟩:=T6 U7 _ l.state (A4.pre hS H8.sub) us x (A9.pre hU H8.sub) (by omega) (by omega) hb
  obtain⟨q0,q1,q2,q3,rfl,_⟩:=K9.rd 0 rfl
  try simp only[go_sem,A6 gu]
  refine by_c H8 R9 K9 fun H9=> ?_
  simp only[go_sem]
  intro n7 f7 U100 _ U10 H10
  obtain⟨c,hc⟩:∃ c,c=(B9 l.state x).2:=⟨_,rfl⟩
  rw[<- hc]
  by_cases h2:c=2
  ·subst h2
   have b2:((2:Int)==2)=true:=rfl
   simp(disch:=omega) only[go_sem,hW.len,b2]
   obtain⟨b0,hb0⟩:∃ b0,b0=decide (6<=(l.waits.length:Int)):=⟨_,rfl⟩
   rw[<- hb0]
   refine Ax l.waits.length 10 0 (fun i env h=>env 2= .ptr n2 0/\env 3= .ptr n3 0/\env 4= .ptr n4 0/\env 6= .ptr n6 0/\env 8=gi 2/\∃ b:Bool,env 9= .bool b/\(b=false->l.waits.length<6)/\h=[.box 1 n7 [q0,q1,q2,q3],.th (own A4 [q0,q1,q2,q3] (B9 l.state x).1),.th (own A4 [t0,t1,t2,t3] l.state),.th (ow A9 v3 l.units),.th (ow A9 v4 l.waits),.box 1 n6 (logV l t0 t1 t2 t3 v3 v4),.box 1 n4 Td,.box 1 n3 us,.box 1 n2 (logV l s0 s1 s2 s3 u w)]) (fun env h=>env 3= .ptr n3 0/\env 4= .ptr n4 0/\env 6= .ptr n6 0/\env 8=gi 2/\∃ b:Bool,env 9= .bool b/\(b=false->l.waits.length<6)/\h=[.box 1 n7 [q0,q1,q2,q3],.th (own A4 [q0,q1,q2,q3] (B9 l.state x).1),.th (own A4 [t0,t1,t2,t3] l.state),.th (ow A9 v3 l.units),.th (ow A9 v4 l.waits),.box 1 n6 (logV l t0 t1 t2 t3 v3 v4),.box 1 n4 Td,.box 1 n3 us,.box 1 n2 (logV l s0 s1 s2 s3 u w)]) (fun _ _=>False) _ H10 (rfl) ⟨rfl,rfl,rfl,rfl,rfl,b0,rfl,fun h=>by rw[hb0] at h;have:=of_decide_eq_false h;omega,rfl⟩ ?_ ?_ ?_ (fun _ _ _ _ h=>h.elim)
   ·clear H3 H5 H6 H7 X H8 H9 H10
    rintro J Yq Wq' hJ hY hW' i env h U hi ei c0 H ⟨e2,e3,e4,e6,e8,b,e9,hb9,rfl⟩
    cases b with
    |true=>
     simp(disch:=omega) only[go_sem,c0,e2,e3,e4,e6,e8,e9,ei,hW.len]
     exact hJ _ _ _ _ H ⟨e2,e3,e4,e6,e8,true,rfl,hb9,rfl⟩
    |false=>
     obtain⟨kv,d0,d1,d2,d3,d4,d5,Uq,hUw,_,_⟩:=Ob hW hi
     have hwm:=Q7 (hG.wa l.waits[i] (Zac hi))
     simp(disch:=omega) only[go_sem,c0,e2,e3,e4,e6,e8,e9,ei,hW.len,A0,Uq,A6 gu]
     refine by_r H (Ry _ _ us l.waits[i] x (A9.pre hUw H.sub) (A9.pre hU H.sub) (by omega) (by omega)) ?_
     simp(disch:=omega) only[go_sem,ei]
     exact hJ _ _ _ _ H ⟨e2,e3,e4,e6,e8,decide (l.waits[i]=x),rfl,fun _=>hb9 rfl,rfl⟩
   ·clear H3 H5 H6 H7 X H8 H9 H10
    rintro Yq hY env h U ei c0 H ⟨e2,e3,e4,e6,e8,b,e9,hb9,rfl⟩
    simp(disch:=omega) only[go_sem,c0,e2,ei,hW.len]
    exact hY _ _ _ H ⟨e3,e4,e6,e8,b,e9,hb9,rfl⟩
   ·clear H3 H5 H6 H7 X H8 H9 H10
    rintro env h U H ⟨e3,e4,e6,e8,b,e9,hb9,rfl⟩
    cases b with
    |true=>
     simp +contextual (disch:=omega) only[go_sem,e4,e6,e8,e9]
     intro U11 H11
     exact⟨_,rfl,_,_,l,rfl,hG,HeS.refl l x,fin _ l _ _ _ _ _ _ _ (H11.re [2,3,4] (by decide)).hp⟩
    |false=>
     have hlt:=hb9 rfl
     simp(disch:=omega) only[go_sem,e3,e4,e6,e8,e9,A6 gu]
     obtain⟨a,U11,R11,K11⟩:=Es U us x (A9.pre hU H.sub) (by omega)
     have al:a.length=17:=A9.len (K11.rd 0 rfl)
     refine by_c H R11 K11 fun H11=> ?_
     simp only[go_sem,A5 (cs:=zeU) al rfl,al]
     intro n12 f12 U12 H12
     refine Ga H12 1 5 rfl rfl Be (by decide) (by omega) fun v' U13 H13=> ?_
     have cv:=(H13.hp.sl 5 rfl).cell
     simp +contextual (disch:=omega) only[go_sem,e4,e6,e8,cv]
     intro U14 _ U15 H15
     exact⟨_,rfl,_,_,{l with waits:=l.waits++[x]},rfl,Aq0 hG hx hb hlt,⟨rfl,fun y h=>.inl h,fun y h=>(Zaf.1 h).imp id fun h=>Zae.1 h⟩,fin _ {l with waits:=l.waits++[x]} _ _ _ _ _ _ _ (H15.re [3,4,5] (by decide)).hp⟩
  have b2:(c==2)=false:=by simpa using h2
  by_cases h0:c=0
  rotate_left
  ·have b0:(c != 0)=true:=by simpa using h0
   simp +contextual (disch:=omega) only[go_sem,b2,b0]
   intro U11 H11
   exact⟨_,rfl,_,_,l,rfl,hG,HeS.refl l x,fin _ l _ _ _ _ _ _ _ (H11.re [2,3,4] (by decide)).hp⟩
  subst h0
  have b0:((0:Int) != 0)=false:=rfl
  by_cases hn:60<=l.units.length
  ·have bn:decide (60<=(l.units.length:Int))=true:=by simp;omega
   simp +contextual (disch:=omega) only[go_sem,hUn.len,bn,b0,b2]
   intro U11 H11
   exact⟨_,rfl,_,_,l,rfl,hG,HeS.refl l x,fin _ l _ _ _ _ _ _ _ (H11.re [2,3,4] (by decide)).hp⟩
  have bn:decide (60<=(l.units.length:Int))=false:=by simp;omega
  simp(disch:=omega) only[go_sem,hUn.len,bn,b0,b2,A6 gu]
  obtain⟨u',U11,R11,H11⟩:=A67 l n6 t0 t1 t2 t3 v3 v4 q0 q1 q2 q3 (H10.re [5,3,1,4,6,7,8] (by decide)) f6.2.2.2 us x (fun U' H'=>A9.pre hU H'.sub) (by omega) (by omega)
  have H11:Hx N U11 [.box 1 n6 (logV {l with state:=(B9 l.state x).1,units:=l.units++[x],time:=A66 l x} q0 q1 q2 q3 u' v4),.th (ow A9 u' (l.units++[x])),.th (own A4 [q0,q1,q2,q3] (B9 l.state x).1),.th (ow A9 v4 l.waits),.box 1 n4 Td,.box 1 n3 us,.box 1 n2 (logV l s0 s1 s2 s3 u w)]:=H11
  refine by_m R11 H11 ?_
  simp only[go_sem]
  have htm:=Afu hx
  have htl:=hG.tm
  have hG1:LogG {l with state:=(B9 l.state x).1,units:=l.units++[x],time:=A66 l x}:=Abv hG hx hb hc.symm (by omega) (by unfold A66;split<;>omega)
  have H12:Hx N U11 (lgI n6 {l with state:=(B9 l.state x).1,units:=l.units++[x],time:=A66 l x} q0 q1 q2 q3 u' v4 (bun [pt 1 n4 Td])):=Hp.bun [_,_,_,_] [pt 1 n4 Td] ((H11.re [0,2,1,3,4] (by decide)).hp)
  obtain⟨U13,l',p0,p1,p2,p3,p4,p5,R13,hG',hS',H13⟩:=Aig _ hG1 n6 q0 q1 q2 q3 u' v4 _ H12 f6.2.2.2
  have H14:Hx N U13 [.box 1 n6 (logV l' p0 p1 p2 p3 p4 p5),.th (own A4 [p0,p1,p2,p3] l'.state),.th (ow A9 p4 l'.units),.th (ow A9 p5 l'.waits),.box 1 n4 Td]:=Hp.unbun [_,_,_,_] [pt 1 n4 Td] H13.hp
  refine by_m R13 H14 ?_
  simp +contextual (disch:=omega) only[go_sem]
  intro U15 H15
  refine⟨_,rfl,_,_,l',rfl,hG',⟨hS'.1,fun y hy=> ?_,fun y hy=>.inl (hS'.2.2 y hy)⟩,fin _ l' _ _ _ _ _ _ _ (H15.re [1,2,3] (by decide)).hp⟩
  rcases hS'.2.1 y hy with h|h
  ·rcases Zaf.1 h with h|h
   ·exact .inl h
   ·exact .inr (.inr (Zae.1 h))
  ·exact .inr (.inl h)
def A68:Fn1:=⟨73,[.t 4],(rg [o 4 (.mov (.k .nilS))] (rg [o 10 (.lit 8 0 [] []),oM 5 10] (.seq (rg [oV 6 (ki 0)] (oH 0 (.seq (rg [oM 11 6,oE 12 .lss 11 3] (oJ 12 0)) (.seq (.blk 1 (.reg [oM 15 5,oM 16 6,oC 17 266 16,o 18 (.lit 8 1 [z0,z0,.nilS,.nilS,.nilS,.nilS,.nilS,.nilS] [(0,8,(.t 17))]),o 19 (.app 8 160 [z0,z0,.nilS,.nilS,.nilS,.nilS,.nilS,.nilS] (.t 15) (.t 18)),oM 5 19])) (.reg [oM 13 6,oZ 14 13 1,oM 6 14]))))) (.seq (rg [oV 7 (ki 0)] (oH 2 (.seq (rg [oM 20 7,oM 21 1,oB 22 .lss 20 21] (oJ 22 2)) (.seq (.blk 3 (rg [oM 25 0,o 26 (.call 163 [(.t 25),(ki 3)]),oM 8 26] (.seq (rg [oM 27 0,o 28 (.call 202 [(.t 27),(ki 3)])] (oG 28 (rg [oM 29 5,oM 30 0,o 31 (.call 163 [(.t 30),(ki 3)]),oI 32 8 29 31,oW 33 8 32,o 9 (.new [z0,z0,.nilS,.nilS,.nilS,.nilS,.nilS,.nilS]),oS 8 9 33] (.seq (rg [oF 34 6 9,oL 35 34,oN 36 35,oE 37 .gtr 36 0] (oG 37 (.drw [] [oM 39 5,oM 40 8,oM 41 5,oM 42 8,oI 43 8 41 42,oW 44 8 43,oF 45 6 9,oL 46 45,oM 47 0,oF 48 6 9,oL 49 48,oN 50 49,oD 51 163 47 50,on (.chk 44 (.ld true 8 (.t 43))),on (.chk 46 (.ld false 1 (.t 45))),oI 52 17 46 51,oW 53 17 52,oD 54 267 44 53,oM 38 54,o 55 (.ext 0 (.t 38)),o 56 (.ext 1 (.t 38)),oI 57 8 39 40,oS 8 57 55]))) (.ext 3))))) (.drw [] [oM 59 5,oM 60 8,oM 61 5,oM 62 8,oI 63 8 61 62,oW 64 8 63,oM 65 0,oC 66 269 65,on (.chk 64 (.ld true 8 (.t 63))),oD 67 268 64 66,oM 58 67,o 68 (.ext 0 (.t 58)),o 69 (.ext 1 (.t 58)),o 70 (.ext 2 (.t 58)),oI 71 8 59 60,oS 8 71 68])))) (.reg [oM 23 7,oZ 24 23 1,oM 7 24]))))) (rg [oM 72 5,oM 4 72] .ret)))))⟩
theorem Afx:F3 true Tryz.prog 162=some A68:=by kernel_rfl
def A9e:Fn1:=⟨16,[.c 2 true 8],(rg [o 2 (.new [z0,z0,.nilS,.nilS,.nilS,.nilS,.nilS,.nilS])] (rg [oM 4 0,oM 5 0,o 6 (.call 163 [(.t 5),(ki 8)]),o 7 (.bin .add (ki 3) (.t 6)),oD 8 162 4 7,oM 3 8] (rg [oM 9 3,oM 10 0,oM 11 3,oN 12 11,oD 13 163 10 12,oI 14 8 9 13,oW 15 8 14,oS 8 2 15] .ret)))⟩
theorem Aih:A8 Tryz.prog 203=some A9e:=by kernel_rfl
def news (n:Nat):List Log:=(List.range n).map fun k:Nat=>⟨(k:Int),0,st0,[],[]⟩
theorem Ao1 (n:Nat):news (n+1)=news n++[⟨(n:Int),0,st0,[],[]⟩]:=by unfold news;rw[List.range_succ,List.map_append];rfl
theorem Aq2 (n:Nat):(news n).length=n:=by simp[news]
inductive Lgs:List Log->Prop
 |new:Lgs (news 3)
 |edit {ls:List Log} {r:Nat} {l:Log} (e:Edit) {l':Log}:Lgs ls->ls[r]? =some l->EdD e->EdS l e l'->LogG l'->Lgs (ls.set r l')
 |hear {ls:List Log} {r f:Nat} {l g:Log} (u:Unit_) {l':Log}:Lgs ls->ls[r]? =some l->ls[f]? =some g->u∈g.units->HeS l u l'->LogG l'->Lgs (ls.set r l')
theorem Lgs.len {ls:List Log} (h:Lgs ls):ls.length=3:=by
 induction h with
 |new=>rfl
 |edit _ _ _ _ _ _ ih=>rw[Zav];exact ih
 |hear _ _ _ _ _ _ _ ih=>rw[Zav];exact ih
theorem Lgs.g {ls:List Log} (h:Lgs ls):∀ l∈ls,LogG l:=by
 induction h with
 |new=>
  intro l hl
  obtain⟨k,hk,rfl⟩:=List.mem_map.1 hl
  have:=List.mem_range.1 hk
  exact Asv ⟨by omega,by omega⟩
 |edit _ _ _ _ _ hg ih=>
  intro l hl
  rcases Zaq hl with h|h
  ·exact ih l h
  ·rw[h];exact hg
 |hear _ _ _ _ _ _ hg ih=>
  intro l hl
  rcases Zaq hl with h|h
  ·exact ih l h
  ·rw[h];exact hg
theorem log_R {N:St} {x:Log} {s0 s1 s2 s3 u w:GV} (h:kLog.R N x (logV x s0 s1 s2 s3 u w)):A4.R N x.state [s0,s1,s2,s3]/\RS A9 N u x.units/\RS A9 N w x.waits:=by
 obtain⟨t0,t1,t2,t3,u',w',e,h1,h2,h3⟩:=Kl h
 injection e with _ e;injection e with _ e;injection e with e0 e;injection e with e1 e;injection e with e2 e;injection e with e3 e;injection e with e4 e;injection e with e5 _
 subst e0 e1 e2 e3 e4 e5
 exact⟨h1,h2,h3⟩
section
variable {N0 N:St} {h:List Item} {c v:GV} {bs:List Int}
theorem Aii (H:Hx N0 N h) (k:Nat) (hk:h[k]? =some (cuI c v bs)) (D:Dr N0 v bs) (n:Nat) (hn:n<=1000):∃(r:GV) (ls:List Log) (U:St),Lgs ls/\Ret Tryz.prog 162 [c,gi n] N r U/\Hx N0 U (.th (ow kLog r ls)::h):=by
 have key:∃ w U,Ret Tryz.prog 162 [c,gi n] N w U/\∃ ls,Lgs ls/\Hx N0 U (.th (ow kLog w ls)::h):=by
  refine Bg Afx (Z0z rfl) H ?_
  simp only[go_sem,A68]
  intro n1 f1 U1 H1
  have g1:=Av f1
  refine Ax 3 6 0 (fun i env hh=>env 0=c/\env 1=gi n/\∃ w,env 5=w/\hh= .th (ow kLog w (news i))::h) (fun env hh=>env 0=c/\env 1=gi n/\∃ w,env 5=w/\hh= .th (ow kLog w (news 3))::h) (fun _ _=>False) _ (H1.emp kLog rfl) (rfl) ⟨rfl,rfl,.sl n1 0 0,rfl,rfl⟩ ?_ ?_ ?_ (fun _ _ _ _ h=>h.elim)
  ·clear H1
   rintro J Yq Wq hJ hY hW i env h' U hi ei c0 H ⟨e0,e1,w,e5,rfl⟩
   have c0:decide ((i:Int)<3)=true:=c0
   simp only[go_sem,c0,e0,e1,e5,ei]
   obtain⟨cs,U2,R2,K2⟩:=Afo U i
   have gl:cs.length=8:=kLog.len (K2.rd 0 rfl)
   refine by_c H R2 K2 fun H2=> ?_
   simp only[go_sem,A5 (cs:=Td) gl rfl,gl]
   intro n3 f3 U3 H3
   refine Ga H3 1 1 rfl rfl Be (by decide) (by rw[Aq2];omega) fun w' U4 H4=> ?_
   simp(disch:=omega) only[go_sem,ei]
   exact hJ _ _ _ _ H4.tl ⟨e0,e1,w',rfl,by rw[Ao1];rfl⟩
  ·clear H1
   rintro Yq hY env h' U ei c0 H ⟨e0,e1,w,e5,rfl⟩
   have ei:env 6=gi 3:=ei
   have c3:decide ((3:Int)<3)=false:=rfl
   simp only[go_sem,ei,c3]
   exact hY _ _ _ H ⟨e0,e1,w,e5,rfl⟩
  ·clear H1
   rintro env h' U H ⟨e0,e1,w,e5,rfl⟩
   simp only[go_sem,e0,e1,e5]
   refine Ax n 7 2 (fun i env hh=>env 0=c/\env 1=gi n/\∃ w ls,env 5=w/\Lgs ls/\hh= .th (ow kLog w ls)::h) (fun env hh=>∃ w ls,env 5=w/\Lgs ls/\hh= .th (ow kLog w ls)::h) (fun _ _=>False) _ H (rfl) ⟨e0,e1,w,_,e5,.new,rfl⟩ ?_ ?_ ?_ (fun _ _ _ _ h=>h.elim)
   ·clear H e0 e1 e5
    rintro J Yq Wq hJ hY hW i env h' U hi ei c0 H ⟨e0,e1,w,ls,e5,hLg,rfl⟩
    have hg:=hLg.g
    have hl3:=hLg.len
    simp only[go_sem,c0,e0,e1,e5,ei]
    obtain⟨r,U1,hr,R1,H1⟩:=Bn H (k+1) hk D 3 (by decide) (by decide)
    refine by_k R1 H1 ?_
    simp only[go_sem,e0,e1,e5,ei]
    obtain⟨b,U2,R2,H2⟩:=I4 H1 (k+1) hk D 3 (by decide)
    obtain⟨m,rfl,H2'⟩:=Hp.tell H2.hp
    have H2':Hx N0 U2 (.th (ow (told kLog) w m)::h):=H2'
    rw[Zad] at hl3
    have hrm:r<m.length:=by omega
    have hmr:(m.map Prod.fst)[r]? =some m[r].1:=by rw[Za1,Zar hrm];rfl
    have hGr:LogG m[r].1:=hg _ (Zay hmr)
    refine by_k R2 H2' ?_
    cases b with
    |false=>
     have L:=H2'.told_rd 0 rfl hrm
     have L1:iadG 8 w (some r)=some (atz 8 w r):=L.1
     have L4:ldX N0 (.th (ow (told kLog) w m)::h) U2 true 8 (atz 8 w r)=some (.agg m[r].2):=L.2.2.2.1
     simp only[go_sem,e0,e1,e5,ei,A0,L1,L4]
     obtain⟨e,U3,he,R3,H3⟩:=Jq H2' (k+1) hk D
     have M:=H3.told_rd 0 rfl hrm
     have M4:ldX N0 (.th (ow (told kLog) w m)::h) U3 true 8 (atz 8 w r)=some (.agg m[r].2):=M.2.2.2.1
     refine by_k R3 H3 ?_
     simp only[go_sem,A0,L1,M4]
     have hsz:=he.size
     obtain⟨_,U4,R4,ds,us,cc,l',rfl,ul,hG',hE,K4⟩:=Alg U3 m[r].2 m[r].1 M.2.2.2.2.2 hGr e (by omega) (by omega) (by have:=he.place;omega)
     have H4:Hx N0 U4 (.th (own kLog ds l')::.th (ow (told kLog) w m)::h):=H3.hp.add K4
     have H5:Hx N0 U4 (.th (ow kLog w (m.map Prod.fst))::.th (own kLog ds l')::h):=Hp.untell (H4.fst 1 rfl).hp
     refine by_m R4 H5 ?_
     simp only[go_sem,e5,A0,L1]
     refine Aav (d:=kLog) H5 1 0 rfl rfl (by decide) (by rw[Zad];exact hrm) fun U6 H6=> ?_
     simp(disch:=omega) only[go_sem,ei]
     exact hJ _ _ _ _ H6 ⟨e0,e1,w,_,e5,.edit e hLg hmr he hE hG',rfl⟩
    |true=>
     simp only[go_sem,e0,e1,e5,ei]
     obtain⟨x,U3,hx,R3,H3⟩:=Bn H2' (k+1) hk D 3 (by decide) (by decide)
     have hxm:x<m.length:=by omega
     have hmx:(m.map Prod.fst)[x]? =some m[x].1:=by rw[Za1,Zar hxm];rfl
     have hGx:LogG m[x].1:=hg _ (Zay hmx)
     have X:=H3.told_rd 0 rfl hxm
     obtain⟨s0,s1,s2,s3,uu,ww,hcs,hS,hUn,hW'⟩:=Kl X.2.2.2.2.2
     have X1:iadG 8 w (some x)=some (atz 8 w x):=X.1
     have X4:ldX N0 (.th (ow (told kLog) w m)::h) U3 true 8 (atz 8 w x)=some (.agg (logV m[x].1 s0 s1 s2 s3 uu ww)):=by rw[<- hcs];exact X.2.2.2.1
     refine by_k R3 H3 ?_
     simp only[go_sem,e0,e1,e5,ei,A0,X1,X4]
     intro n9 f9 U50 _ U5 H5
     have g9:N0.length<=n9:=Av f9
     have hul:=hUn.len
     have hnu:=hGx.nu
     cases hb:decide (0<(m[x].1.units.length:Int)) with
     |false=>
      simp(disch:=omega) only[go_sem,hul,hb,ei]
      have H6:Hx N0 U5 (.th (ow kLog w (m.map Prod.fst))::h):=Hp.untell H5.tl.hp
      exact hJ _ _ _ _ H6 ⟨e0,e1,w,_,e5,hLg,rfl⟩
     |true=>
      have hpos:0<m[x].1.units.length:=by have:=of_decide_eq_true hb;omega
      have L:=H5.told_rd 1 rfl hrm
      have L1:iadG 8 w (some r)=some (atz 8 w r):=L.1
      have L4:ldX N0 (.box 1 n9 (logV m[x].1 s0 s1 s2 s3 uu ww)::.th (ow (told kLog) w m)::h) U5 true 8 (atz 8 w r)=some (.agg m[r].2):=L.2.2.2.1
      simp(disch:=omega) only[go_sem,e0,e1,e5,ei,A0,L1,L4,hul,hb]
      obtain⟨y,U6,hy,R6,H6⟩:=Bn H5 (k+2) hk D m[x].1.units.length (by omega) (by omega)
      have M:=H6.told_rd 1 rfl hrm
      have M4:ldX N0 (.box 1 n9 (logV m[x].1 s0 s1 s2 s3 uu ww)::.th (ow (told kLog) w m)::h) U6 true 8 (atz 8 w r)=some (.agg m[r].2):=M.2.2.2.1
      have X6:=(H6.told_rd 1 rfl hxm).2.2.2.2.2
      rw[hcs] at X6
      have hU6:=(log_R X6).2.1
      have hyl:y<m[x].1.units.length:=by omega
      obtain⟨cu,⟨c1,_,_,c4,_⟩,hRu⟩:=RdN.cellsN hU6 hyl
      have c1:iadG 17 uu (some y)=some (atz 17 uu y):=c1
      have c4:=F8 H6 c4
      have c4:ldX N0 (.box 1 n9 (logV m[x].1 s0 s1 s2 s3 uu ww)::.th (ow (told kLog) w m)::h) U6 true 17 (atz 17 uu y)=some (.agg cu):=c4
      refine by_k R6 H6 ?_
      simp(disch:=omega) only[go_sem,A0,L1,M4,c1,c4]
      have hmem:m[x].1.units[y]∈m[x].1.units:=Zac hyl
      obtain⟨_,U7,R7,ds,cc,l',rfl,hG',hE,K7⟩:=Ao0 U6 m[r].2 m[r].1 M.2.2.2.2.2 hGr cu m[x].1.units[y] hRu (hGx.un _ hmem) (hGx.ub _ hmem)
      have H7:Hx N0 U7 (.th (own kLog ds l')::.box 1 n9 (logV m[x].1 s0 s1 s2 s3 uu ww)::.th (ow (told kLog) w m)::h):=H6.hp.add K7
      have H8:Hx N0 U7 (.th (ow kLog w (m.map Prod.fst))::.th (own kLog ds l')::h):=Hp.untell ((H7.era 1).fst 1 rfl).hp
      refine by_m R7 H8 ?_
      simp only[go_sem,e5,A0,L1]
      refine Aav (d:=kLog) H8 1 0 rfl rfl (by decide) (by rw[Zad];exact hrm) fun U9 H9=> ?_
      simp(disch:=omega) only[go_sem,ei]
      exact hJ _ _ _ _ H9 ⟨e0,e1,w,_,e5,.hear _ hLg hmr hmx hmem hE hG',rfl⟩
   ·clear H e0 e1 e5
    rintro Yq hY env h' U ei c0 H ⟨e0,e1,w,ls,e5,hLg,rfl⟩
    simp only[go_sem,c0,e1,ei]
    exact hY _ _ _ H ⟨w,ls,e5,hLg,rfl⟩
   ·clear H e0 e1 e5
    rintro env h' U H ⟨w,ls,e5,hLg,rfl⟩
    simp only[go_sem,e5]
    exact fun _=>⟨_,rfl,ls,hLg,H⟩
 obtain⟨w,U,R,ls,hLg,H'⟩:=key
 exact⟨w,ls,U,hLg,R,H'⟩
theorem Ali (H:Hx N0 N h) (k:Nat) (hk:h[k]? =some (cuI c v bs)) (D:Dr N0 v bs):∃(ds:List GV) (l:Log) (ls:List Log) (U:St),Lgs ls/\l∈ls/\Ret Tryz.prog 203 [c] N (.agg ds) U/\Hx N0 U (.th (own kLog ds l)::h):=by
 have key:∃ w U,Ret Tryz.prog 203 [c] N w U/\∃ ds l ls,w= .agg ds/\Lgs ls/\l∈ls/\Hx N0 U (.th (own kLog ds l)::h):=by
  refine Bg Aih (Z0z rfl) H ?_
  simp only[go_sem,A9e]
  intro n2 f2 U2 H2
  have g2:=Av f2
  obtain⟨x,U3,hx,R3,H3⟩:=Bn H2 (k+1) hk D 8 (by decide) (by decide)
  refine by_k R3 H3 ?_
  obtain⟨q,hq⟩:∃ q:Nat,q=3+x:=⟨_,rfl⟩
  have e:(3:Int)+x=(q:Int):=by omega
  simp(disch:=omega) only[go_sem,e]
  obtain⟨r,ls,U4,hLg,R4,H4⟩:=Aii H3 (k+1) hk D q (by omega)
  have hl3:=hLg.len
  have hrl:=(H4.hp.sl 0 rfl).len
  refine by_k R4 H4 ?_
  simp only[go_sem,hrl]
  obtain⟨y,U5,hy,R5,H5⟩:=Bn H4 (k+2) hk D ls.length (by omega) (by omega)
  have hyl:y<ls.length:=by omega
  obtain⟨cs,Z⟩:=Hp.zoom H5.hp hyl
  have Z:Hx N0 U5 (.th (own kLog cs ls[y])::.th (hole kLog r ls y cs)::.box 1 n2 Td::h):=Z
  have gl:cs.length=8:=kLog.len (Z.hp.rd 0 rfl)
  obtain⟨z1,z2,z3,z5⟩:=Z.hole_rd 1 rfl hyl
  have z1:iadG 8 r (some y)=some (atz 8 r y):=z1
  have z4:ldG true 8 U5 (atz 8 r y)=some (.agg cs):=by
   have h1:=z5 0 8 true (by decide)
   have h2:fld 0 (atz 8 r y)=atz 8 r y:=by cases r<;>rfl
   have h1:ldG true 8 U5 (fld 0 (atz 8 r y))=(seg cs 0 8).bind (mkv true):=h1
   rw[h2] at h1
   rw[h1]
   simp only[A6 gl,Option.bind_some]
   try rfl
  have z4:=F8 Z z4
  refine by_k R5 Z ?_
  simp +contextual (disch:=omega) only[go_sem,A0,z1,z4,A5 (cs:=Td) gl rfl,gl,A6 gl]
  intro U6 H6
  exact⟨_,rfl,cs,ls[y],ls,rfl,hLg,Zac hyl,(H6.era 1).era 1⟩
 obtain⟨w,U,R,ds,l,ls,rfl,h1,h2,h3⟩:=key
 exact⟨ds,l,ls,U,h1,h2,R,h3⟩
end
theorem Qt {s:State} (hs:B6 s=true):okK s.know=true/\s.tallies.Pairwise (fun a b=>Af a b=true)/\(∀ t∈s.tallies,0≤t.rep/\t.rep<=2)/\s.cells.Pairwise (fun a b=>Az a.dot b.dot=true)/\s.lives.Pairwise (fun a b=>Az a.dot b.dot=true)/\(∀ l∈s.lives,As s.know l.dot=true)/\∀ t∈s.tallies,-1000000<=t.sum/\t.sum<=1000000:=by
 have hk:=(Su hs).2.1
 simp only[B6,Zab] at hs
 obtain⟨a1,a2,a3,a4,_⟩:=hs
 exact⟨a1,Ai3 a2,fun t ht=>Ab8 a2 ht,Xz a4,A2l a3,hk,fun t ht=>Abc a2 ht⟩
def Dq (a b:State) (rep:Int):Bool:=decide (at0 a.know rep<at0 b.know rep)
def A7i (b:State) (l:Live):Bool:=decide (l∈b.lives)|| !As b.know l.dot
def Aij (a b:State):State:=⟨kMax a.know b.know,Ft (Dq a b) a.tallies b.tallies,Ar C5 (a.lives.filter (A7i b)++b.lives.filter (newD a)),Bz a.cells b.cells⟩
def Km (a b:State):State:=if B6 a then(if B6 b then(if B6 (Aij a b) then Aij a b else a) else a) else a
def behind (a b:State):Bool:=B6 a&&(B6 b&&decide (Km a b=b))
theorem Ar0 (a b:State):Ad (Aij a b)<=Ad a+Ad b+3:=by
 have h1:=Af1 (Dq a b) a.tallies b.tallies
 have h2:=Vy a.cells b.cells
 have h3:=Ajl (A7i b) (newD a) a.lives b.lives
 have h4:=A2o a.know b.know
 simp only[Aij,Ad]
 omega
theorem Aq3 (a b:State):Ad (Km a b)<=Ad a+Ad b+3:=by
 have:=Ar0 a b
 unfold Km
 repeat' split
 all_goals omega
def newC (p:State) (x:Cell):Bool:=match Cx p.cells x.dot with
 |none=>true
 |some i=>x.gone&& !(p.cells[i]?.getD x).gone
def Ao2 (p c:State):Delta:=⟨p.know,c.know,c.tallies.filter fun t=>Dq p c t.rep,c.lives.filter (newD p),(p.lives.filter fun l=> !decide (l∈c.lives)).map (·.dot),c.cells.filter (newC p)⟩
def Lo (p c:State):Delta×Bool:=if behind p c then(Ao2 p c,true) else(delta0,false)
theorem ms_dif (p c:State):Au (Ao2 p c)<=Ad p+2*Ad c:=by
 have h1:=Zaj (fun t:Tally=>Dq p c t.rep) c.tallies
 have h2:=Gn Bl (fun t:Tally=>Dq p c t.rep) c.tallies
 have h3:=Zaj (newD p) c.lives
 have h4:=Gn G6 (newD p) c.lives
 have h5:=Zaj (fun l:Live=> !decide (l∈c.lives)) p.lives
 have h6:=Zaj (newC p) c.cells
 have h7:=Gn Ht (newC p) c.cells
 simp only[Ao2,Au,Ad,Zad]
 omega
def S0:Fn1:=⟨77,[.t 4],(rg [oX 2 0,oX 3 1,o 4 (.mov (.k .nilS))] (rg [o 10 (.build [.nilS,.nilS,.nilS,.nilS] []),o 5 (.new [.nilS,.nilS,.nilS,.nilS]),oS 4 5 10] (.seq (rg [oV 6 (ki 0)] (oH 0 (.seq (rg [oM 11 6,oF 12 1 2,oL 13 12,oN 14 13,oB 15 .lss 11 14] (oJ 15 0)) (.seq (.blk 1 (rg [oF 18 1 2,oL 19 18,oM 20 6,oI 21 3 19 20,oW 22 3 21,o 7 (.new [s0,z0,z0]),oS 3 7 22] (dw [oF 23 0 2,oL 24 23,oF 25 1 7,oL 26 25,oI 27 1 24 26,oL 28 27,oF 29 0 3,oL 30 29,oF 31 1 7,oL 32 31,oI 33 1 30 32,oL 34 33] [oB 35 .geq 28 34] (oG 35 (.reg [oF 36 0 7,oL 37 36,oF 38 1 7,oL 39 38,oF 40 2 7,oL 41 40,o 42 (.call 319 (oT [5,37,39,41]))]))))) (.reg [oM 16 6,oZ 17 16 1,oM 6 17]))))) (.seq (rg [oV 8 (ki 0)] (oH 2 (.seq (rg [oM 43 8,oF 44 1 3,oL 45 44,oN 46 45,oB 47 .lss 43 46] (oJ 47 2)) (.seq (.blk 3 (rg [oF 50 1 3,oL 51 50,oM 52 8,oI 53 3 51 52,oW 54 3 53,o 9 (.new [s0,z0,z0]),oS 3 9 54] (dw [oF 55 0 3,oL 56 55,oF 57 1 9,oL 58 57,oI 59 1 56 58,oL 60 59,oF 61 0 2,oL 62 61,oF 63 1 9,oL 64 63,oI 65 1 62 64,oL 66 65] [oB 67 .gtr 60 66] (oG 67 (.reg [oF 68 0 9,oL 69 68,oF 70 1 9,oL 71 70,oF 72 2 9,oL 73 72,o 74 (.call 319 (oT [5,69,71,73]))]))))) (.reg [oM 48 8,oZ 49 48 1,oM 8 49]))))) (rg [oF 75 1 5,oL 76 75,oM 4 76] .ret)))))⟩
theorem A69:A8 Tryz.prog 371=some S0:=by kernel_rfl
def S3:Fn1:=⟨95,[.c 4 true 4],(rg [oX 2 0,oX 3 1,o 4 (.new [.nilS,.nilS,.nilS,.nilS])] (.seq (rg [oW 9 4 2,oC 10 199 9,oU 11 10,oM 12 11,vW 13 12 4 3,vC 14 12 199 13,vU 15 12 14,oP 16 12 15] (oG 16 (rg [oW 17 4 2,oC 18 247 17,oS 4 4 18] .ret))) (dw [oF 19 0 2,oL 20 19,oF 21 0 3,oL 22 21,oD 23 181 20 22,oW 24 4 2,oW 25 4 3,oD 26 371 24 25,oF 27 3 2,oL 28 27,oF 29 3 3,oL 30 29,oD 31 339 28 30,o 32 (.build [.nilS,.nilS,.nilS,.nilS] [(0,1,(.t 23)),(1,1,(.t 26)),(3,1,(.t 31))]),o 5 (.new [.nilS,.nilS,.nilS,.nilS])] [oS 4 5 32] (.seq (rg [oV 6 (ki 0)] (oH 0 (.seq (rg [oM 33 6,oF 34 2 2,oL 35 34,oN 36 35,oB 37 .lss 33 36] (oJ 37 0)) (.seq (.blk 1 (rg [oF 40 2 2,oL 41 40,oM 42 6,oI 43 6 41 42,oW 44 6 43,o 7 (.new [(.bool false),s0,s0,z0,z0,z0]),oS 6 7 44] (rg [oF 45 0 3,oL 46 45,oF 47 4 7,oW 48 2 47,oD 49 45 46 48,oU 50 49,oM 51 50,vF 52 51 2 3,vL 53 51 52,vW 54 51 6 7,vD 55 51 234 53 54,oP 56 51 55] (oG 56 (.reg [oF 57 2 5,oL 58 57,oW 59 6 7,o 60 (.lit 6 1 [(.bool false),s0,s0,z0,z0,z0] [(0,6,(.t 59))]),o 61 (.app 6 64 [(.bool false),s0,s0,z0,z0,z0] (.t 58) (.t 60)),oF 62 2 5,oS 1 62 61]))))) (.reg [oM 38 6,oZ 39 38 1,oM 6 39]))))) (.seq (rg [oV 8 (ki 0)] (oH 2 (.seq (rg [oM 63 8,oF 64 2 3,oL 65 64,oN 66 65,oB 67 .lss 63 66] (oJ 67 2)) (.seq (.blk 3 (dw [oF 70 0 2,oL 71 70,oF 72 2 3,oL 73 72,oM 74 8,oI 75 6 73 74,oF 76 4 75,oW 77 2 76] [oD 78 45 71 77,oU 79 78] (oG 79 (.drw [oF 80 2 5,oL 81 80,oF 82 2 3,oL 83 82,oM 84 8,oI 85 6 83 84,oW 86 6 85] [oD 87 320 81 86,oF 88 2 5,oS 1 88 87])))) (.reg [oM 68 8,oZ 69 68 1,oM 8 69]))))) (.seq (rg [oW 89 4 5,oC 90 199 89,oU 91 90] (oG 91 (rg [oW 92 4 2,oC 93 247 92,oS 4 4 93] .ret))) (rg [oW 94 4 5,oS 4 4 94] .ret)))))))⟩
theorem A6a:A8 Tryz.prog 314=some S3:=by kernel_rfl
def A9g:Fn1:=⟨18,[.t 4],(rg [oX 2 0,oX 3 1,oV 4 kf] (dw [oW 5 4 2,oC 6 199 5,oM 7 6,jW 8 7 4 3,jC 9 7 199 8,oQ 10 7 9,oM 11 10,jW 12 11 4 2,jW 13 11 4 3,jD 14 11 314 12 13,jW 15 11 4 3] [jD 16 11 47 14 15,oQ 17 11 16,oM 4 17] .ret))⟩
theorem Aik:A8 Tryz.prog 233=some A9g:=by kernel_rfl
theorem Ao3 {s t:State} {r:Int}:decide (at0 t.know r<=at0 s.know r)= !Dq s t r:=by
 unfold Dq
 rw[<- Bool.not_not (b:=decide (at0 t.know r<=at0 s.know r)),<-decide_not]
 congr 2
 exact propext Int.not_le
theorem Ao4 {s t:State} {T:List Tally} (hT:T.length<=s.tallies.length+t.tallies.length/\sumL Bl T<=sumL Bl s.tallies+sumL Bl t.tallies):Ad ⟨[],T,[],[]⟩<=Ad s+Ad t:=by
 simp only[Ad,sumL,Za2,Za3,Zao] at*
 omega
theorem A29 (N:St) (cs:List GV) (s:State) (hR:A4.R N s cs) (ds:List GV) (t:State) (hD:A4.R N t ds) (hl:Ad s<=1073741824) (hm:Ad t<=1073741824) (hok:B6 s=true) (hdk:B6 t=true):∃ w U,Ret Tryz.prog 371 [.agg cs,.agg ds] N w U/\Hp N U [ow Ah.kd w (Ft (Dq s t) s.tallies t.tallies)]:=by
 obtain⟨a,b,c,v,rfl,qa,qb,qc,qv⟩:=hR
 obtain⟨w0,w1,w2,w3,rfl,p0,p1,p2,p3⟩:=hD
 obtain⟨ls0,ls1,ls2,ls3⟩:=Py hl
 obtain⟨m0,m1,m2,m3⟩:=Py hm
 obtain⟨o1,t1,r1,_,_,_,u1⟩:=Qt hok
 obtain⟨o2,t2,r2,_,_,_,u2⟩:=Qt hdk
 have hmk:=Zh (f:=Dq s t) t1 t2
 refine Bg A69 (Z0z rfl) (Hx.refl N) ?_
 simp only[go_sem,S0]
 intro n2 f2 U2 H2 n3 f3 U3 H3 n5 f5 U7 _ U8 H8
 have H9:=(((H8.nil Ai.kd).nil Ap.kd).nil Ah.kd).nil pI.kd
 refine Ax s.tallies.length 6 0 (fun i env h=>∃ v0 v1 v2 v3,env 2= .ptr n2 0/\env 3= .ptr n3 0/\env 5= .ptr n5 0/\h=[.box 1 n5 [v0,v1,v2,v3],.th (ow pI.kd v0 []),.th (ow Ah.kd v1 (Ar Af ((s.tallies.take i).filter fun x=> !Dq s t x.rep))),.th (ow Ap.kd v2 []),.th (ow Ai.kd v3 []),.box 1 n3 [w0,w1,w2,w3],.box 1 n2 [a,b,c,v]]) (fun env h=>∃ v0 v1 v2 v3,env 2= .ptr n2 0/\env 3= .ptr n3 0/\env 5= .ptr n5 0/\h=[.box 1 n5 [v0,v1,v2,v3],.th (ow pI.kd v0 []),.th (ow Ah.kd v1 (Ar Af (s.tallies.filter fun x=> !Dq s t x.rep))),.th (ow Ap.kd v2 []),.th (ow Ai.kd v3 []),.box 1 n3 [w0,w1,w2,w3],.box 1 n2 [a,b,c,v]]) (fun env h=>False) _ (H9.re [4,0,1,2,3,5,6] (by decide)) (rfl) ⟨.nilS,.nilS,.nilS,.nilS,rfl,rfl,rfl,rfl⟩ ?_ ?_ ?_ (fun _ _ _ _ h=>h.elim)
 ·clear H2 H3 H8 H9
  rintro J Yq Wq hJ hY hW i env h U hi ei k0 H ⟨v0,v1,v2,v3,e2,e3,e5,rfl⟩
  have B1:=Ae qb hi
  have hin:=r1 s.tallies[i] (Zac hi)
  have A1:=Jd p0 o2 hin.1 hin.2
  have A2:=Jd qa o1 hin.1 hin.2
  simp +contextual (disch:=omega) only[go_sem,k0,e2,e3,e5,ei,A0,B1,qb.len]
  intro n7 f7 U1 _ U2 H2
  cases hf:Dq s t s.tallies[i].rep with
  |true=>
   simp(disch:=omega) only[go_sem,e2,e3,e5,ei,A1,A2,Ao3,hf,Bool.not_true]
   exact hJ _ _ _ _ (H2.re [1,2,3,4,5,6,7] (by decide)) ⟨v0,v1,v2,v3,e2,e3,e5,by rw[Pr hi (by rw[hf];rfl)];rfl⟩
  |false=>
   simp(disch:=omega) only[go_sem,e2,e3,e5,ei,A1,A2,Ao3,hf,Bool.not_false]
   have hpm:=A2p (fun x=> !Dq s t x.rep) (fun x=>Dq s t x.rep) s.tallies t.tallies i 0
   rw[Za7,Za6,Zau] at hpm
   have hpm:=Ao4 hpm
   obtain⟨U3,R3,v0',v1',v2',v3',H3⟩:=Gg (s:=⟨[],(Ar Af ((s.tallies.take i).filter fun x=> !Dq s t x.rep)),[],[]⟩) (rest:=[pt 1 n7 [.str s.tallies[i].obj,gi s.tallies[i].rep,gi s.tallies[i].sum],pt 1 n3 [w0,w1,w2,w3],pt 1 n2 [a,b,c,v]]) ⟨v0,v1,v2,v3,H2.sel [2,3,4,5,1,0,6,7] (by decide)⟩ s.tallies[i].obj s.tallies[i].rep s.tallies[i].sum (Nat.le_trans hpm (by omega)) (u1 _ (Zac hi)) (fun x hx=>u1 x (Zan (Zax.1 (Qq.1 hx)).1))
   have H3':Hx N U3 [.box 1 n5 [v0',v1',v2',v3'],.th (ow pI.kd v0' []),.th (ow Ah.kd v1' (Eb (Ar Af ((s.tallies.take i).filter fun x=> !Dq s t x.rep)) s.tallies[i].obj s.tallies[i].rep s.tallies[i].sum)),.th (ow Ap.kd v2' []),.th (ow Ai.kd v3' []),.box 1 n3 [w0,w1,w2,w3],.box 1 n2 [a,b,c,v]]:=H3.sel [4,0,1,2,3,6,7] (by decide)
   refine by_m R3 H3' ?_
   simp(disch:=omega) only[go_sem,ei]
   refine hJ _ _ _ _ H3' ⟨v0',v1',v2',v3',e2,e3,e5,?_⟩
   have hfl:(s.tallies.take (i+1)).filter (fun x=> !Dq s t x.rep)=(s.tallies.take i).filter (fun x=> !Dq s t x.rep)++[s.tallies[i]]:=Oy hi (by rw[hf];rfl)
   rw[hfl,<-Vz hmk (by rw[<- hfl];exact(Abb _ _ _).trans (List.sublist_append_left _ _))]
 ·clear H2 H3 H8 H9
  rintro Yq hY env h U ei k0 H ⟨v0,v1,v2,v3,e2,e3,e5,rfl⟩
  simp(disch:=omega) only[go_sem,k0,e2,ei,qb.len]
  exact hY _ _ _ H ⟨v0,v1,v2,v3,e2,e3,e5,by rw[Zaa]⟩
 clear H2 H3 H8 H9
 rintro env h U H ⟨v0,v1,v2,v3,e2,e3,e5,rfl⟩
 simp only[go_sem]
 refine Ax t.tallies.length 8 2 (fun i env h=>∃ v0 v1 v2 v3,env 2= .ptr n2 0/\env 3= .ptr n3 0/\env 5= .ptr n5 0/\h=[.box 1 n5 [v0,v1,v2,v3],.th (ow pI.kd v0 []),.th (ow Ah.kd v1 (Ar Af (s.tallies.filter (fun x=> !Dq s t x.rep)++(t.tallies.take i).filter fun x=>Dq s t x.rep))),.th (ow Ap.kd v2 []),.th (ow Ai.kd v3 []),.box 1 n3 [w0,w1,w2,w3],.box 1 n2 [a,b,c,v]]) (fun env h=>∃ v0 v1 v2 v3,env 5= .ptr n5 0/\h=[.box 1 n5 [v0,v1,v2,v3],.th (ow pI.kd v0 []),.th (ow Ah.kd v1 (Ft (Dq s t) s.tallies t.tallies)),.th (ow Ap.kd v2 []),.th (ow Ai.kd v3 []),.box 1 n3 [w0,w1,w2,w3],.box 1 n2 [a,b,c,v]]) (fun env h=>False) _ H (rfl) ⟨v0,v1,v2,v3,e2,e3,e5,by simp⟩ ?_ ?_ ?_ (fun _ _ _ _ h=>h.elim)
 ·clear H e2 e3 e5
  rintro J Yq Wq hJ hY hW i env h U hi ei k0 H ⟨v0,v1,v2,v3,e2,e3,e5,rfl⟩
  have B1:=Ae p1 hi
  have hin:=r2 t.tallies[i] (Zac hi)
  have A1:=Jd p0 o2 hin.1 hin.2
  have A2:=Jd qa o1 hin.1 hin.2
  have gt:decide (at0 s.know t.tallies[i].rep<at0 t.know t.tallies[i].rep)=Dq s t t.tallies[i].rep:=rfl
  simp +contextual (disch:=omega) only[go_sem,k0,e2,e3,e5,ei,A0,B1,p1.len]
  intro n7 f7 U1 _ U2 H2
  cases hf:Dq s t t.tallies[i].rep with
  |false=>
   simp(disch:=omega) only[go_sem,e2,e3,e5,ei,A1,A2,gt,hf]
   exact hJ _ _ _ _ (H2.re [1,2,3,4,5,6,7] (by decide)) ⟨v0,v1,v2,v3,e2,e3,e5,by rw[Pr hi hf];rfl⟩
  |true=>
   simp(disch:=omega) only[go_sem,e2,e3,e5,ei,A1,A2,gt,hf]
   have hpm:=A2p (fun x=> !Dq s t x.rep) (fun x=>Dq s t x.rep) s.tallies t.tallies s.tallies.length i
   rw[Zaa] at hpm
   have hpm:=Ao4 hpm
   obtain⟨U3,R3,v0',v1',v2',v3',H3⟩:=Gg (s:=⟨[],(Ar Af (s.tallies.filter (fun x=> !Dq s t x.rep)++(t.tallies.take i).filter fun x=>Dq s t x.rep)),[],[]⟩) (rest:=[pt 1 n7 [.str t.tallies[i].obj,gi t.tallies[i].rep,gi t.tallies[i].sum],pt 1 n3 [w0,w1,w2,w3],pt 1 n2 [a,b,c,v]]) ⟨v0,v1,v2,v3,H2.sel [2,3,4,5,1,0,6,7] (by decide)⟩ t.tallies[i].obj t.tallies[i].rep t.tallies[i].sum (Nat.le_trans hpm (by omega)) (u2 _ (Zac hi)) (fun x hx=>(Zaf.1 (Qq.1 hx)).elim (fun h=>u1 x (Zax.1 h).1) fun h=>u2 x (Zan (Zax.1 h).1))
   have H3':Hx N U3 [.box 1 n5 [v0',v1',v2',v3'],.th (ow pI.kd v0' []),.th (ow Ah.kd v1' (Eb (Ar Af (s.tallies.filter (fun x=> !Dq s t x.rep)++(t.tallies.take i).filter fun x=>Dq s t x.rep)) t.tallies[i].obj t.tallies[i].rep t.tallies[i].sum)),.th (ow Ap.kd v2' []),.th (ow Ai.kd v3' []),.box 1 n3 [w0,w1,w2,w3],.box 1 n2 [a,b,c,v]]:=H3.sel [4,0,1,2,3,6,7] (by decide)
   refine by_m R3 H3' ?_
   simp(disch:=omega) only[go_sem,ei]
   refine hJ _ _ _ _ H3' ⟨v0',v1',v2',v3',e2,e3,e5,?_⟩
   have hfl:(t.tallies.take (i+1)).filter (fun x=>Dq s t x.rep)=(t.tallies.take i).filter (fun x=>Dq s t x.rep)++[t.tallies[i]]:=Oy hi hf
   rw[hfl,<-Zak,<-Vz hmk (by rw[Zak,<-hfl];exact List.Sublist.append (List.Sublist.refl _) (Abb _ _ _))]
 ·clear H e2 e3 e5
  rintro Yq hY env h U ei k0 H ⟨v0,v1,v2,v3,e2,e3,e5,rfl⟩
  simp(disch:=omega) only[go_sem,k0,e3,ei,p1.len]
  exact hY _ _ _ H ⟨v0,v1,v2,v3,e5,by rw[Zaa];rfl⟩
 clear H e2 e3 e5 v0 v1 v2 v3
 rintro env h U H ⟨v0,v1,v2,v3,e5,rfl⟩
 simp(disch:=omega) only[go_sem,e5]
 exact fun _=>⟨_,rfl,H.sel [2] (by decide)⟩
theorem A2a (N:St) (cs:List GV) (s:State) (hR:A4.R N s cs) (ds:List GV) (t:State) (hD:A4.R N t ds) (hl:Ad s<=1073741824) (hm:Ad t<=1073741824):∃ r U,Ret Tryz.prog 314 [.agg cs,.agg ds] N (.agg r) U/\Hp N U [own A4 r (Km s t)]:=by
 have hR0:=hR
 have hD0:=hD
 obtain⟨a,b,c,v,rfl,qa,qb,qc,qv⟩:=hR
 obtain⟨w0,w1,w2,w3,rfl,p0,p1,p2,p3⟩:=hD
 obtain⟨ls0,ls1,ls2,ls3⟩:=Py hl
 obtain⟨m0,m1,m2,m3⟩:=Py hm
 have key:∃ q U,Ret Tryz.prog 314 [.agg [a,b,c,v],.agg [w0,w1,w2,w3]] N q U/\∃ r,q= .agg r/\Hp N U [own A4 r (Km s t)]:=by
  refine Bg A6a (Z0z rfl) (Hx.refl N) ?_
  simp +contextual (disch:=omega) only[go_sem,S3]
  intro n2 f2 U2 H2 n3 f3 U3 H3 n4 f4 U4 H4
  refine by_b H4 (Cl _ _ s (A4.pre hR0 H4.sub) (by omega)) (fun hok=> ?_) (fun hok=> ?_)
  rotate_left
  ·have hd:Km s t=s:=by simp[Km,hok]
   simp(disch:=omega) only[go_sem]
   obtain⟨es,U5,R5,K5⟩:=Cn U4 _ s (A4.pre hR0 H4.sub) (by omega)
   have gl:es.length=4:=A4.len (K5.rd 0 rfl)
   refine by_c H4 R5 K5 fun H5=> ?_
   simp +contextual (disch:=omega) only[go_sem,A5 (cs:=z4') gl rfl,gl,A6 gl]
   intro U8 H8
   exact⟨_,rfl,es,rfl,by rw[hd];exact H8.sel [0] (by decide)⟩
  simp(disch:=omega) only[go_sem]
  refine by_b H4 (Cl _ _ t (A4.pre hD0 H4.sub) (by omega)) (fun hdk=> ?_) (fun hdk=> ?_)
  rotate_left
  ·have hd:Km s t=s:=by simp[Km,hok,hdk]
   simp(disch:=omega) only[go_sem]
   obtain⟨es,U5,R5,K5⟩:=Cn U4 _ s (A4.pre hR0 H4.sub) (by omega)
   have gl:es.length=4:=A4.len (K5.rd 0 rfl)
   refine by_c H4 R5 K5 fun H5=> ?_
   simp +contextual (disch:=omega) only[go_sem,A5 (cs:=z4') gl rfl,gl,A6 gl]
   intro U8 H8
   exact⟨_,rfl,es,rfl,by rw[hd];exact H8.sel [0] (by decide)⟩
  obtain⟨o1,t1,r1,c1,l5,l7,_⟩:=Qt hok
  obtain⟨o2,t2,r2,c2,l6,_,_⟩:=Qt hdk
  simp(disch:=omega) only[go_sem]
  obtain⟨kv,U9,R9,K9⟩:=Mt U4 a w0 _ _ (qa.pre H4.sub) (p0.pre H4.sub) (by omega) (by omega)
  refine by_c H4 R9 K9 fun H9=> ?_
  have ck:=(H9.hp.sl 0 rfl).cell
  simp(disch:=omega) only[go_sem,ck]
  obtain⟨tv,U10,R10,K10⟩:=A29 U9 _ s (A4.pre hR0 H9.sub) _ t (A4.pre hD0 H9.sub) hl hm hok hdk
  refine by_c H9 R10 K10 fun H10=> ?_
  have ct:=(H10.hp.sl 0 rfl).cell
  simp(disch:=omega) only[go_sem,ck,ct]
  obtain⟨cv,U11,R11,K11⟩:=Ru U10 v w3 s.cells t.cells (qv.pre H10.sub) (p3.pre H10.sub) (by omega) (by omega) c1 (Mc c2)
  refine by_c H10 R11 K11 fun H11=> ?_
  have cc:=(H11.hp.sl 0 rfl).cell
  simp only[go_sem,ck,ct,cc]
  intro n5 f5 U12 _ U13 H13
  have H14:=H13.nil Ap.kd
  have hX:Hx N U13 [.th (ow Ap.kd .nilS []),.box 1 n5 [kv,tv,.nilS,cv],.th (ow Ai.kd cv (Bz s.cells t.cells)),.th (ow Ah.kd tv (Ft (Dq s t) s.tallies t.tallies)),.th (ow pI.kd kv (kMax s.know t.know)),.box 1 n4 z4',.box 1 n3 [w0,w1,w2,w3],.box 1 n2 [a,b,c,v]]:=H14
  clear H14 H13 H11 H10 H9 H4 H3 H2
  refine Ax s.lives.length 6 0 (fun i env h=>∃ w,env 2= .ptr n2 0/\env 3= .ptr n3 0/\env 4= .ptr n4 0/\env 5= .ptr n5 0/\h=[.th (ow Ap.kd w ((s.lives.take i).filter (A7i t))),.box 1 n5 [kv,tv,w,cv],.th (ow Ai.kd cv (Bz s.cells t.cells)),.th (ow Ah.kd tv (Ft (Dq s t) s.tallies t.tallies)),.th (ow pI.kd kv (kMax s.know t.know)),.box 1 n4 z4',.box 1 n3 [w0,w1,w2,w3],.box 1 n2 [a,b,c,v]]) (fun env h=>∃ w,env 2= .ptr n2 0/\env 3= .ptr n3 0/\env 4= .ptr n4 0/\env 5= .ptr n5 0/\h=[.th (ow Ap.kd w (s.lives.filter (A7i t))),.box 1 n5 [kv,tv,w,cv],.th (ow Ai.kd cv (Bz s.cells t.cells)),.th (ow Ah.kd tv (Ft (Dq s t) s.tallies t.tallies)),.th (ow pI.kd kv (kMax s.know t.know)),.box 1 n4 z4',.box 1 n3 [w0,w1,w2,w3],.box 1 n2 [a,b,c,v]]) (fun env h=>False) _ hX (rfl) ⟨_,rfl,rfl,rfl,rfl,rfl⟩ ?_ ?_ ?_ (fun _ _ _ _ h=>h.elim)
  ·clear hX
   rintro J Yq Wq hJ hY hW i env h U hi ei k0 H ⟨w,e2,e3,e4,e5,rfl⟩
   have L1:=Aa qc hi
   have cw:=(H.hp.sl 0 rfl).cell
   have hbd:=Rm (p:=A7i t) (l:=s.lives) (i:=i) (n:=1073741824) (by omega)
   simp +contextual (disch:=omega) only[go_sem,k0,e2,e3,e4,e5,ei,A0,L1,qc.len]
   intro n9 f9 U1 _ U2 H2
   try simp only[go_sem,e3]
   refine by_r H2 (Ba _ w0 _ _ (p0.pre H2.sub) (by omega)) ?_
   have kE:A7i t s.lives[i]=(decide (s.lives[i]∈t.lives)|| !As t.know s.lives[i].dot):=rfl
   cases h2:As t.know s.lives[i].dot with
   |false=>
    rw[h2] at kE
    have kE:A7i t s.lives[i]=true:=by rw[kE];simp
    simp(disch:=omega) only[go_sem,e5,ei,cw]
    intro nl fl U3 H3
    refine E8 (p:=Ap) H3 2 rfl s.lives[i] Be (by decide) (by omega) fun w' U4 H4=> ?_
    have cw':=(H4.hp.sl 2 rfl).cell
    simp(disch:=omega) only[go_sem,e5,ei,cw']
    intro U5 H5
    exact hJ _ _ _ _ (H5.re [2,3,4,5,6,7,8,9] (by decide)) ⟨w',e2,e3,e4,e5,by rw[Oy hi kE];rfl⟩
   |true=>
    simp(disch:=omega) only[go_sem,e3,ei]
    refine by_r H2 (Pt _ w2 _ (p2.pre H2.sub) s.lives[i] (by omega)) ?_
    cases h1:decide (s.lives[i]∈t.lives) with
    |false=>
     rw[h1,h2] at kE
     simp(disch:=omega) only[go_sem,ei]
     exact hJ _ _ _ _ (H2.re [1,2,3,4,5,6,7,8] (by decide)) ⟨w,e2,e3,e4,e5,by rw[Pr hi kE];rfl⟩
    |true=>
     rw[h1] at kE
     simp(disch:=omega) only[go_sem,e5,ei,cw]
     intro nl fl U3 H3
     refine E8 (p:=Ap) H3 2 rfl s.lives[i] Be (by decide) (by omega) fun w' U4 H4=> ?_
     have cw':=(H4.hp.sl 2 rfl).cell
     simp(disch:=omega) only[go_sem,e5,ei,cw']
     intro U5 H5
     exact hJ _ _ _ _ (H5.re [2,3,4,5,6,7,8,9] (by decide)) ⟨w',e2,e3,e4,e5,by rw[Oy hi kE];rfl⟩
  ·clear hX
   rintro Yq hY env h U ei k0 H ⟨w,e2,e3,e4,e5,rfl⟩
   simp(disch:=omega) only[go_sem,k0,e2,ei,qc.len]
   exact hY _ _ _ H ⟨w,e2,e3,e4,e5,by rw[Zaa]⟩
  clear hX
  rintro env h U H ⟨w,e2,e3,e4,e5,rfl⟩
  simp only[go_sem]
  refine Ax t.lives.length 8 2 (fun i env h=>∃ w,env 2= .ptr n2 0/\env 3= .ptr n3 0/\env 4= .ptr n4 0/\env 5= .ptr n5 0/\h=[.th (ow Ap.kd w (Ar C5 (s.lives.filter (A7i t)++(t.lives.take i).filter (newD s)))),.box 1 n5 [kv,tv,w,cv],.th (ow Ai.kd cv (Bz s.cells t.cells)),.th (ow Ah.kd tv (Ft (Dq s t) s.tallies t.tallies)),.th (ow pI.kd kv (kMax s.know t.know)),.box 1 n4 z4',.box 1 n3 [w0,w1,w2,w3],.box 1 n2 [a,b,c,v]]) (fun env h=>∃ w,env 2= .ptr n2 0/\env 4= .ptr n4 0/\env 5= .ptr n5 0/\h=[.th (ow Ap.kd w (Ar C5 (s.lives.filter (A7i t)++t.lives.filter (newD s)))),.box 1 n5 [kv,tv,w,cv],.th (ow Ai.kd cv (Bz s.cells t.cells)),.th (ow Ah.kd tv (Ft (Dq s t) s.tallies t.tallies)),.th (ow pI.kd kv (kMax s.know t.know)),.box 1 n4 z4',.box 1 n3 [w0,w1,w2,w3],.box 1 n2 [a,b,c,v]]) (fun env h=>False) _ H (rfl) ⟨w,e2,e3,e4,e5,by rw[Za7,Za6,Zau,O6 Aqw (l5.filter _)]⟩ ?_ ?_ ?_ (fun _ _ _ _ h=>h.elim)
  ·clear H e2 e3 e4 e5
   rintro J Yq Wq hJ hY hW i env h U hi ei k0 H ⟨w,e2,e3,e4,e5,rfl⟩
   have B1:=Aa p2 hi
   have d2:=(H.hp.sl 0 rfl).cell
   simp(disch:=omega) only[go_sem,k0,e2,e3,e4,e5,ei,A0,B1,p2.len]
   refine by_b H (Ba _ a _ _ (qa.pre H.sub) (by omega)) (fun k1=> ?_) (fun k1=> ?_)
   ·simp(disch:=omega) only[go_sem,ei]
    exact hJ _ _ _ _ H ⟨w,e2,e3,e4,e5,by rw[Pr hi (by simp[newD,k1])]⟩
   ·have hll:=A93 (p:=A7i t) (q:=newD s) (a:=s.lives) (b:=t.lives) (i:=i) (n:=1073741824) (by omega) (by omega)
    simp(disch:=omega) only[go_sem,e3,e5,ei,A0,B1,d2]
    obtain⟨w',U2,R2,K2⟩:=Jp U w _ (H.hp.sl 0 rfl) t.lives[i] (by rw[Cm];omega)
    refine by_c H R2 K2 fun H2=> ?_
    have d3:=(H2.hp.sl 0 rfl).cell
    simp(disch:=omega) only[go_sem,e5,ei,d3]
    intro U5 H5
    refine hJ _ _ _ _ (H5.re [0,2,3,4,5,6,7,8] (by decide)) ⟨w',e2,e3,e4,e5,?_⟩
    rw[Oy hi (by simp[newD,k1]),<-Zak,K8]
    rfl
  ·clear H e2 e3 e4 e5
   rintro Yq hY env h U ei k0 H ⟨w,e2,e3,e4,e5,rfl⟩
   simp(disch:=omega) only[go_sem,k0,e3,ei,p2.len]
   exact hY _ _ _ H ⟨w,e2,e4,e5,by rw[Zaa]⟩
  clear H e2 e3 e4 e5
  rintro env h U H ⟨w,e2,e4,e5,rfl⟩
  have hst:A4.R U (Aij s t) [kv,tv,w,cv]:=⟨_,_,_,_,rfl,H.hp.sl 4 rfl,H.hp.sl 3 rfl,H.hp.sl 0 rfl,H.hp.sl 2 rfl⟩
  have hms:=Ar0 s t
  simp(disch:=omega) only[go_sem,e5]
  refine by_b H (Cl _ _ _ hst (by omega)) (fun k4=> ?_) (fun k4=> ?_)
  rotate_left
  ·have hd:Km s t=s:=by simp[Km,hok,hdk,k4]
   simp(disch:=omega) only[go_sem,e2,e4]
   obtain⟨es,U5,R5,K5⟩:=Cn U _ s (A4.pre hR0 H.sub) (by omega)
   have gl:es.length=4:=A4.len (K5.rd 0 rfl)
   refine by_c H R5 K5 fun H5=> ?_
   simp +contextual (disch:=omega) only[go_sem,e4,A5 (cs:=z4') gl rfl,gl,A6 gl]
   intro U8 H8
   exact⟨_,rfl,es,rfl,by rw[hd];exact H8.sel [0] (by decide)⟩
  have hd:Km s t=Aij s t:=by simp[Km,hok,hdk,k4]
  simp +contextual (disch:=omega) only[go_sem,e4,e5]
  intro U8 H8
  exact⟨_,rfl,[kv,tv,w,cv],rfl,by rw[hd];exact Hp.ownState (x:=Aij s t) (H8.sel [4,3,0,2] (by decide))⟩
 obtain⟨q,U,R,r,rfl,h⟩:=key
 exact⟨r,U,R,h⟩
theorem Afy (N:St) (cs ds:List GV) (a b:State) (hR:A4.R N a cs) (hS:A4.R N b ds) (hl:Ad a<=1073741824) (hm:Ad b<=1073741824):Ret Tryz.prog 233 [.agg cs,.agg ds] N (.bool (behind a b)) N:=by
 have ga:cs.length=4:=A4.len hR
 have gb:ds.length=4:=A4.len hS
 refine Cb Aik (Z0z rfl) trivial ?_
 simp +contextual (disch:=omega) only[go_sem,A9g]
 intro n1 f1 U0 _ n2 f2 U H
 have S:=H.sub
 simp only[go_sem,A6 ga,A6 gb]
 refine by_b H (Cl _ _ a (A4.pre hR S) (by omega)) (fun h0=> ?_) (fun h0=> ?_)
 rotate_left
 ·have d:behind a b=false:=by simp[behind,h0]
  simp only[go_sem,d]
  try exact fun _=>rfl
 simp(disch:=omega) only[go_sem,A6 ga,A6 gb]
 refine by_b H (Cl _ _ b (A4.pre hS S) (by omega)) (fun h1=> ?_) (fun h1=> ?_)
 rotate_left
 ·have d:behind a b=false:=by simp[behind,h0,h1]
  simp only[go_sem,d]
  try exact fun _=>rfl
 simp(disch:=omega) only[go_sem,A6 ga,A6 gb]
 obtain⟨r,U2,R2,K2⟩:=A2a U cs a (A4.pre hR S) ds b (A4.pre hS S) hl hm
 refine by_c H R2 K2 fun H2=> ?_
 simp(disch:=omega) only[go_sem,A6 ga,A6 gb]
 have hmm:=Aq3 a b
 refine by_r H2 (Kk _ r ds (Km a b) b (H2.hp.rd 0 rfl) (A4.pre hS H2.sub) (by omega) (by omega)) ?_
 have d:behind a b=decide (Km a b=b):=by simp[behind,h0,h1]
 simp only[go_sem,d]
 try exact fun _=>rfl
abbrev z6':List GV:=[GV.nilS,GV.nilS,GV.nilS,GV.nilS,GV.nilS,GV.nilS]
theorem Hx.delta0 {N U:St} {h:List Item} (H:Hx N U h):Hx N U (.th (own Aw z6' Sy.delta0)::h):=Hp.ownDelta (x:=Sy.delta0) ((((((H.nil Ai.kd).nil pDot.kd).nil Ap.kd).nil Ah.kd).nil pI.kd).nil pI.kd).hp
def A6b:Fn1:=⟨160,[.c 4 true 6,.t 5],(rg [oX 2 0,oX 3 1,o 4 (.new [.nilS,.nilS,.nilS,.nilS,.nilS,.nilS]),oV 5 kf] (.seq (rg [oW 13 4 2,oW 14 4 3,oD 15 233 13 14,oU 16 15] (oG 16 (rg [o 17 (.build [.nilS,.nilS,.nilS,.nilS,.nilS,.nilS] []),oS 6 4 17,oV 5 kf] .ret))) (dw [o 18 (.lit 1 0 [] []),oF 19 0 2,oL 20 19,o 21 (.app 1 8 [z0] (.t 18) (.t 20)),o 22 (.lit 1 0 [] []),oF 23 0 3,oL 24 23,o 25 (.app 1 8 [z0] (.t 22) (.t 24)),o 26 (.build [.nilS,.nilS,.nilS,.nilS,.nilS,.nilS] [(0,1,(.t 21)),(1,1,(.t 25))]),o 6 (.new [.nilS,.nilS,.nilS,.nilS,.nilS,.nilS])] [oS 6 6 26] (.seq (rg [oV 7 (ki 0)] (oH 0 (.seq (rg [oM 27 7,oF 28 1 3,oL 29 28,oN 30 29,oB 31 .lss 27 30] (oJ 31 0)) (.seq (.blk 1 (rg [oF 34 1 3,oL 35 34,oM 36 7,oI 37 3 35 36,oF 38 1 37,oL 39 38,oM 8 39] (dw [oF 40 0 3,oL 41 40,oM 42 8,oI 43 1 41 42,oL 44 43,oF 45 0 2,oL 46 45,oM 47 8,oI 48 1 46 47,oL 49 48] [oB 50 .gtr 44 49] (oG 50 (.drw [oF 51 2 6,oL 52 51,oF 53 1 3,oL 54 53,oM 55 7,oI 56 3 54 55,oW 57 3 56,o 58 (.lit 3 1 [s0,z0,z0] [(0,3,(.t 57))])] [o 59 (.app 3 32 [s0,z0,z0] (.t 52) (.t 58)),oF 60 2 6,oS 1 60 59]))))) (.reg [oM 32 7,oZ 33 32 1,oM 7 33]))))) (.seq (rg [oV 9 (ki 0)] (oH 2 (.seq (rg [oM 61 9,oF 62 2 3,oL 63 62,oN 64 63,oB 65 .lss 61 64] (oJ 65 2)) (.seq (.blk 3 (dw [oF 68 0 2,oL 69 68,oF 70 2 3,oL 71 70,oM 72 9,oI 73 6 71 72,oF 74 4 73,oW 75 2 74] [oD 76 45 69 75,oU 77 76] (oG 77 (.drw [oF 78 3 6,oL 79 78,oF 80 2 3,oL 81 80,oM 82 9,oI 83 6 81 82,oW 84 6 83,o 85 (.lit 6 1 [(.bool false),s0,s0,z0,z0,z0] [(0,6,(.t 84))])] [o 86 (.app 6 64 [(.bool false),s0,s0,z0,z0,z0] (.t 79) (.t 85)),oF 87 3 6,oS 1 87 86])))) (.reg [oM 66 9,oZ 67 66 1,oM 9 67]))))) (.seq (rg [oV 10 (ki 0)] (oH 4 (.seq (rg [oM 88 10,oF 89 2 2,oL 90 89,oN 91 90,oB 92 .lss 88 91] (oJ 92 4)) (.seq (.blk 5 (dw [oF 95 2 3,oL 96 95,oF 97 2 2,oL 98 97,oM 99 10,oI 100 6 98 99,oW 101 6 100] [oD 102 234 96 101,oU 103 102] (oG 103 (.drw [oF 104 4 6,oL 105 104,oF 106 2 2,oL 107 106,oM 108 10,oI 109 6 107 108,oF 110 4 109,oW 111 2 110,o 112 (.lit 2 1 [z0,z0] [(0,2,(.t 111))])] [o 113 (.app 2 16 [z0,z0] (.t 105) (.t 112)),oF 114 4 6,oS 1 114 113])))) (.reg [oM 93 10,oZ 94 93 1,oM 10 94]))))) (.seq (rg [oV 11 (ki 0)] (oH 6 (.seq (rg [oM 115 11,oF 116 3 3,oL 117 116,oN 118 117,oB 119 .lss 115 118] (oJ 119 6)) (.seq (.blk 7 (dw [oW 122 4 2,oF 123 3 3,oL 124 123,oM 125 11,oI 126 8 124 125,oF 127 1 126,oW 128 2 127] [oD 129 146 122 128,oM 12 129] (rg [oM 130 12,oE 131 .lss 130 0,oM 132 131,vF 133 132 3 3,vL 134 132 133,vM 135 132 11,vI 136 132 8 134 135,vF 137 132 7 136,vL 138 132 137,vM 139 132 138,jF 140 139 3 2,jL 141 139 140,jM 142 139 12,jI 143 139 8 141 142,jF 144 139 7 143,jL 145 139 144,jU 146 139 145,og 147 132 false (.pick (.t 139) (.t 146) kf),oP 148 132 147] (oG 148 (.drw [oF 149 5 6,oL 150 149,oF 151 3 3,oL 152 151,oM 153 11,oI 154 8 152 153,oW 155 8 154,o 156 (.lit 8 1 [s0,z0,z0,z0,z0,z0,z0,(.bool false)] [(0,8,(.t 155))])] [o 157 (.app 8 72 [s0,z0,z0,z0,z0,z0,z0,(.bool false)] (.t 150) (.t 156)),oF 158 5 6,oS 1 158 157]))))) (.reg [oM 120 11,oZ 121 120 1,oM 11 121]))))) (rg [oW 159 6 6,oS 6 4 159,oV 5 kt] .ret))))))))⟩
theorem Afz:A8 Tryz.prog 123=some A6b:=by kernel_rfl
theorem Ac1 (N:St) (cs:List GV) (s:State) (hR:A4.R N s cs) (ds:List GV) (t:State) (hD:A4.R N t ds) (hl:Ad s<=1073741824) (hm:Ad t<=1073741824):∃ r U,Ret Tryz.prog 123 [.agg cs,.agg ds] N (.tup [.agg r,.bool (Lo s t).2]) U/\Hp N U [own Aw r (Lo s t).1]:=by
 have hR0:=hR
 have hD0:=hD
 obtain⟨a,b,e,v,rfl,qa,qb,qe,qv⟩:=hR
 obtain⟨w0,w1,w2,w3,rfl,p0,p1,p2,p3⟩:=hD
 obtain⟨ls0,ls1,ls2,ls3⟩:=Py hl
 obtain⟨m0,m1,m2,m3⟩:=Py hm
 have key:∃ q U,Ret Tryz.prog 123 [.agg [a,b,e,v],.agg [w0,w1,w2,w3]] N q U/\∃ r,q= .tup [.agg r,.bool (Lo s t).2]/\Hp N U [own Aw r (Lo s t).1]:=by
  refine Bg Afz (Z0z rfl) (Hx.refl N) ?_
  simp +contextual (disch:=omega) only[go_sem,A6b]
  intro n2 f2 U2 H2 n3 f3 U3 H3 n4 f4 U4 H4
  refine by_b H4 (Afy _ _ _ s t (A4.pre hR0 H4.sub) (A4.pre hD0 H4.sub) hl hm) (fun hbe=> ?_) (fun hbe=> ?_)
  rotate_left
  ·have hd:Lo s t=(delta0,false):=by simp[Lo,hbe]
   simp +contextual (disch:=omega) only[go_sem]
   intro U5 H5
   exact⟨_,rfl,_,by rw[hd],by rw[hd];exact(H5.delta0).hp.sel [0] (by decide)⟩
  have hd:Lo s t=(Ao2 s t,true):=by simp[Lo,hbe]
  simp only[behind,Zab] at hbe
  obtain⟨hok,hdk,_⟩:=hbe
  obtain⟨o1,t1,r1,c1,l5,l7,_⟩:=Qt hok
  obtain⟨o2,t2,r2,c2,l6,_,_⟩:=Qt hdk
  simp +contextual (disch:=omega) only[go_sem]
  intro n7 f7 U5 H5
  refine Qy (p:=pI) H5 (qa.pre H5.sub) (by decide) (by omega) fun k0 U6 H6=> ?_
  have ck0:=(H6.hp.sl 0 rfl).cell
  simp +contextual (disch:=omega) only[go_sem,ck0]
  intro n8 f8 U60 H60
  refine Qy (p:=pI) H60 (p0.pre H60.sub) (by decide) (by omega) fun k1 U61 H61=> ?_
  have ck1:=(H61.hp.sl 0 rfl).cell
  simp only[go_sem,ck0,ck1]
  intro n6 f6 U7 _ U8 H8
  try simp only[go_sem]
  have H9:=((((H8.nil Ai.kd).nil pDot.kd).nil Ap.kd).nil Ah.kd)
  have hX:Hx N U8 [.box 1 n6 [k0,k1,GV.nilS,GV.nilS,GV.nilS,GV.nilS],.th (ow pI.kd k0 s.know),.th (ow pI.kd k1 t.know),.th (ow Ah.kd .nilS []),.th (ow Ap.kd .nilS []),.th (ow pDot.kd .nilS []),.th (ow Ai.kd .nilS []),.box 1 n4 z6',.box 1 n3 [w0,w1,w2,w3],.box 1 n2 [a,b,e,v]]:=H9.re [4,6,5,0,1,2,3,7,8,9] (by decide)
  clear H9 H8 H4 H3 H2
  refine Ax t.tallies.length 7 0 (fun i env h=>∃ x2 x3 x4 x5,env 2= .ptr n2 0/\env 3= .ptr n3 0/\env 4= .ptr n4 0/\env 6= .ptr n6 0/\h=[.box 1 n6 [k0,k1,x2,x3,x4,x5],.th (ow pI.kd k0 s.know),.th (ow pI.kd k1 t.know),.th (ow Ah.kd x2 ((t.tallies.take i).filter fun x=>Dq s t x.rep)),.th (ow Ap.kd x3 []),.th (ow pDot.kd x4 []),.th (ow Ai.kd x5 []),.box 1 n4 z6',.box 1 n3 [w0,w1,w2,w3],.box 1 n2 [a,b,e,v]]) (fun env h=>∃ x2 x3 x4 x5,env 2= .ptr n2 0/\env 3= .ptr n3 0/\env 4= .ptr n4 0/\env 6= .ptr n6 0/\h=[.box 1 n6 [k0,k1,x2,x3,x4,x5],.th (ow pI.kd k0 s.know),.th (ow pI.kd k1 t.know),.th (ow Ah.kd x2 (t.tallies.filter fun x=>Dq s t x.rep)),.th (ow Ap.kd x3 []),.th (ow pDot.kd x4 []),.th (ow Ai.kd x5 []),.box 1 n4 z6',.box 1 n3 [w0,w1,w2,w3],.box 1 n2 [a,b,e,v]]) (fun _ _=>False) _ hX (rfl) ⟨.nilS,.nilS,.nilS,.nilS,rfl,rfl,rfl,rfl,rfl⟩ ?_ ?_ ?_ (fun _ _ _ _ h=>h.elim)
  ·clear hX
   rintro J Yq Wq hJ hY hW i env h U hi ei k9 H ⟨x2,x3,x4,x5,e2,e3,e4,e6,rfl⟩
   have L1:=Ae p1 hi
   have cw:=(H.hp.sl 3 rfl).cell
   have hin:=r2 t.tallies[i] (Zac hi)
   have A1:=Jd p0 o2 hin.1 hin.2
   have A2:=Jd qa o1 hin.1 hin.2
   have gt:decide (at0 s.know t.tallies[i].rep<at0 t.know t.tallies[i].rep)=Dq s t t.tallies[i].rep:=rfl
   simp(disch:=omega) only[go_sem,k9,e2,e3,e4,e6,ei,A0,L1,p1.len,cw,A1,A2,gt]
   cases hf:Dq s t t.tallies[i].rep with
   |false=>
    simp(disch:=omega) only[go_sem,e2,e3,e4,e6,ei,A0,L1,A1,A2,gt,hf]
    exact hJ _ _ _ _ (H) ⟨x2,x3,x4,x5,e2,e3,e4,e6,by rw[Pr hi hf]⟩
   |true=>
    simp(disch:=omega) only[go_sem,e2,e3,e4,e6,ei,A0,L1,A1,A2,gt,hf,cw]
    intro nl fl U3 H3
    refine E8 (p:=Ah) H3 4 rfl t.tallies[i] Be (by decide) (by have:=Rm (p:=(fun x=>Dq s t x.rep)) (l:=t.tallies) (i:=i) (n:=1073741824) (by omega);(try simp only[Zad]);omega) fun w' U4 H4=> ?_
    have cw':=(H4.hp.sl 4 rfl).cell
    simp(disch:=omega) only[go_sem,e2,e3,e4,e6,ei,cw']
    intro U5 H5
    exact hJ _ _ _ _ (H5.re [1,2,3,4,5,6,7,8,9,10] (by decide)) ⟨w',x3,x4,x5,e2,e3,e4,e6,by rw[Oy hi hf];rfl⟩
  ·clear hX
   rintro Yq hY env h U ei k9 H ⟨x2,x3,x4,x5,e2,e3,e4,e6,rfl⟩
   simp(disch:=omega) only[go_sem,k9,e2,e3,e4,e6,ei,p1.len]
   exact hY _ _ _ H ⟨x2,x3,x4,x5,e2,e3,e4,e6,by rw[Zaa]⟩
  clear hX
  rintro env h U H ⟨x2,x3,x4,x5,e2,e3,e4,e6,rfl⟩
  try simp only[go_sem]
  refine Ax t.lives.length 9 2 (fun i env h=>∃ x2 x3 x4 x5,env 2= .ptr n2 0/\env 3= .ptr n3 0/\env 4= .ptr n4 0/\env 6= .ptr n6 0/\h=[.box 1 n6 [k0,k1,x2,x3,x4,x5],.th (ow pI.kd k0 s.know),.th (ow pI.kd k1 t.know),.th (ow Ah.kd x2 (t.tallies.filter fun x=>Dq s t x.rep)),.th (ow Ap.kd x3 ((t.lives.take i).filter (newD s))),.th (ow pDot.kd x4 []),.th (ow Ai.kd x5 []),.box 1 n4 z6',.box 1 n3 [w0,w1,w2,w3],.box 1 n2 [a,b,e,v]]) (fun env h=>∃ x2 x3 x4 x5,env 2= .ptr n2 0/\env 3= .ptr n3 0/\env 4= .ptr n4 0/\env 6= .ptr n6 0/\h=[.box 1 n6 [k0,k1,x2,x3,x4,x5],.th (ow pI.kd k0 s.know),.th (ow pI.kd k1 t.know),.th (ow Ah.kd x2 (t.tallies.filter fun x=>Dq s t x.rep)),.th (ow Ap.kd x3 (t.lives.filter (newD s))),.th (ow pDot.kd x4 []),.th (ow Ai.kd x5 []),.box 1 n4 z6',.box 1 n3 [w0,w1,w2,w3],.box 1 n2 [a,b,e,v]]) (fun _ _=>False) _ H (rfl) ⟨x2,x3,x4,x5,e2,e3,e4,e6,by rfl⟩ ?_ ?_ ?_ (fun _ _ _ _ h=>h.elim)
  ·clear H e2 e3 e4 e6
   rintro J Yq Wq hJ hY hW i env h U hi ei k9 H ⟨x2,x3,x4,x5,e2,e3,e4,e6,rfl⟩
   have L1:=Aa p2 hi
   have cw:=(H.hp.sl 4 rfl).cell
   simp(disch:=omega) only[go_sem,k9,e2,e3,e4,e6,ei,A0,L1,p2.len,cw]
   refine by_b H (Ba _ a _ _ (qa.pre H.sub) (by omega)) (fun h1=> ?_) (fun h1=> ?_)
   ·simp(disch:=omega) only[go_sem,e2,e3,e4,e6,ei]
    exact hJ _ _ _ _ (H) ⟨x2,x3,x4,x5,e2,e3,e4,e6,by rw[Pr hi (by simp[newD,h1])]⟩
   ·simp(disch:=omega) only[go_sem,e2,e3,e4,e6,ei,A0,L1,cw]
    intro nl fl U3 H3
    refine E8 (p:=Ap) H3 5 rfl t.lives[i] Be (by decide) (by have:=Rm (p:=(newD s)) (l:=t.lives) (i:=i) (n:=1073741824) (by omega);(try simp only[Zad]);omega) fun w' U4 H4=> ?_
    have cw':=(H4.hp.sl 5 rfl).cell
    simp(disch:=omega) only[go_sem,e2,e3,e4,e6,ei,cw']
    intro U5 H5
    exact hJ _ _ _ _ (H5.re [1,2,3,4,5,6,7,8,9,10] (by decide)) ⟨x2,w',x4,x5,e2,e3,e4,e6,by rw[Oy hi (by simp[newD,h1])];rfl⟩
  ·clear H e2 e3 e4 e6
   rintro Yq hY env h U ei k9 H ⟨x2,x3,x4,x5,e2,e3,e4,e6,rfl⟩
   simp(disch:=omega) only[go_sem,k9,e2,e3,e4,e6,ei,p2.len]
   exact hY _ _ _ H ⟨x2,x3,x4,x5,e2,e3,e4,e6,by rw[Zaa]⟩
  clear H e2 e3 e4 e6
  rintro env h U H ⟨x2,x3,x4,x5,e2,e3,e4,e6,rfl⟩
  try simp only[go_sem]
  refine Ax s.lives.length 10 4 (fun i env h=>∃ x2 x3 x4 x5,env 2= .ptr n2 0/\env 3= .ptr n3 0/\env 4= .ptr n4 0/\env 6= .ptr n6 0/\h=[.box 1 n6 [k0,k1,x2,x3,x4,x5],.th (ow pI.kd k0 s.know),.th (ow pI.kd k1 t.know),.th (ow Ah.kd x2 (t.tallies.filter fun x=>Dq s t x.rep)),.th (ow Ap.kd x3 (t.lives.filter (newD s))),.th (ow pDot.kd x4 (((s.lives.take i).filter fun x=> !decide (x∈t.lives)).map (·.dot))),.th (ow Ai.kd x5 []),.box 1 n4 z6',.box 1 n3 [w0,w1,w2,w3],.box 1 n2 [a,b,e,v]]) (fun env h=>∃ x2 x3 x4 x5,env 2= .ptr n2 0/\env 3= .ptr n3 0/\env 4= .ptr n4 0/\env 6= .ptr n6 0/\h=[.box 1 n6 [k0,k1,x2,x3,x4,x5],.th (ow pI.kd k0 s.know),.th (ow pI.kd k1 t.know),.th (ow Ah.kd x2 (t.tallies.filter fun x=>Dq s t x.rep)),.th (ow Ap.kd x3 (t.lives.filter (newD s))),.th (ow pDot.kd x4 ((s.lives.filter fun x=> !decide (x∈t.lives)).map (·.dot))),.th (ow Ai.kd x5 []),.box 1 n4 z6',.box 1 n3 [w0,w1,w2,w3],.box 1 n2 [a,b,e,v]]) (fun _ _=>False) _ H (rfl) ⟨x2,x3,x4,x5,e2,e3,e4,e6,by rfl⟩ ?_ ?_ ?_ (fun _ _ _ _ h=>h.elim)
  ·clear H e2 e3 e4 e6
   rintro J Yq Wq hJ hY hW i env h U hi ei k9 H ⟨x2,x3,x4,x5,e2,e3,e4,e6,rfl⟩
   have L1:=Aa qe hi
   have cw:=(H.hp.sl 5 rfl).cell
   simp(disch:=omega) only[go_sem,k9,e2,e3,e4,e6,ei,A0,L1,qe.len,cw]
   refine by_b H (Pt _ w2 _ (p2.pre H.sub) s.lives[i] (by omega)) (fun h1=> ?_) (fun h1=> ?_)
   ·simp(disch:=omega) only[go_sem,e2,e3,e4,e6,ei]
    exact hJ _ _ _ _ (H) ⟨x2,x3,x4,x5,e2,e3,e4,e6,by rw[Pr hi (by simpa using h1)]⟩
   ·simp(disch:=omega) only[go_sem,e2,e3,e4,e6,ei,A0,L1,cw]
    intro nl fl U3 H3
    refine E8 (p:=pDot) H3 6 rfl s.lives[i].dot Be (by decide) (by have:=Rm (p:=(fun x=> !decide (x∈t.lives))) (l:=s.lives) (i:=i) (n:=1073741824) (by omega);(try simp only[Zad]);omega) fun w' U4 H4=> ?_
    have cw':=(H4.hp.sl 6 rfl).cell
    simp(disch:=omega) only[go_sem,e2,e3,e4,e6,ei,cw']
    intro U5 H5
    exact hJ _ _ _ _ (H5.re [1,2,3,4,5,6,7,8,9,10] (by decide)) ⟨x2,x3,w',x5,e2,e3,e4,e6,by rw[Oy hi (by simpa using h1)];simp⟩
  ·clear H e2 e3 e4 e6
   rintro Yq hY env h U ei k9 H ⟨x2,x3,x4,x5,e2,e3,e4,e6,rfl⟩
   simp(disch:=omega) only[go_sem,k9,e2,e3,e4,e6,ei,qe.len]
   exact hY _ _ _ H ⟨x2,x3,x4,x5,e2,e3,e4,e6,by rw[Zaa]⟩
  clear H e2 e3 e4 e6
  rintro env h U H ⟨x2,x3,x4,x5,e2,e3,e4,e6,rfl⟩
  try simp only[go_sem]
  refine Ax t.cells.length 11 6 (fun i env h=>∃ x2 x3 x4 x5,env 2= .ptr n2 0/\env 3= .ptr n3 0/\env 4= .ptr n4 0/\env 6= .ptr n6 0/\h=[.box 1 n6 [k0,k1,x2,x3,x4,x5],.th (ow pI.kd k0 s.know),.th (ow pI.kd k1 t.know),.th (ow Ah.kd x2 (t.tallies.filter fun x=>Dq s t x.rep)),.th (ow Ap.kd x3 (t.lives.filter (newD s))),.th (ow pDot.kd x4 ((s.lives.filter fun x=> !decide (x∈t.lives)).map (·.dot))),.th (ow Ai.kd x5 ((t.cells.take i).filter (newC s))),.box 1 n4 z6',.box 1 n3 [w0,w1,w2,w3],.box 1 n2 [a,b,e,v]]) (fun env h=>∃ x2 x3 x4 x5,env 4= .ptr n4 0/\env 6= .ptr n6 0/\h=[.box 1 n6 [k0,k1,x2,x3,x4,x5],.th (ow pI.kd k0 s.know),.th (ow pI.kd k1 t.know),.th (ow Ah.kd x2 (t.tallies.filter fun x=>Dq s t x.rep)),.th (ow Ap.kd x3 (t.lives.filter (newD s))),.th (ow pDot.kd x4 ((s.lives.filter fun x=> !decide (x∈t.lives)).map (·.dot))),.th (ow Ai.kd x5 (t.cells.filter (newC s))),.box 1 n4 z6',.box 1 n3 [w0,w1,w2,w3],.box 1 n2 [a,b,e,v]]) (fun _ _=>False) _ H (rfl) ⟨x2,x3,x4,x5,e2,e3,e4,e6,by rfl⟩ ?_ ?_ ?_ (fun _ _ _ _ h=>h.elim)
  ·clear H e2 e3 e4 e6
   rintro J Yq Wq hJ hY hW i env h U hi ei k9 H ⟨x2,x3,x4,x5,e2,e3,e4,e6,rfl⟩
   have L1:=Ab p3 hi
   have cw:=(H.hp.sl 6 rfl).cell
   simp(disch:=omega) only[go_sem,k9,e2,e3,e4,e6,ei,A0,L1,p3.len,cw]
   refine by_r H (Pj _ _ s (A4.pre hR0 H.sub) t.cells[i].dot (by omega)) ?_
   cases hx:Cx s.cells t.cells[i].dot with
   |none=>
    have hno:Bm s.cells t.cells[i].dot= -1:=by simp[Bm,hx]
    have kE:newC s t.cells[i]=true:=by simp[newC,hx]
    have b0:decide ((-1:Int)<0)=true:=rfl
    simp(disch:=omega) only[go_sem,hno,b0,e2,e3,e4,e6,ei,A0,L1,cw]
    intro nl fl U3 H3
    refine E8 (p:=Ai) H3 7 rfl t.cells[i] Be (by decide) (by have:=Rm (p:=(newC s)) (l:=t.cells) (i:=i) (n:=1073741824) (by omega);(try simp only[Zad]);omega) fun w' U4 H4=> ?_
    have cw':=(H4.hp.sl 7 rfl).cell
    simp(disch:=omega) only[go_sem,e2,e3,e4,e6,ei,cw']
    intro U5 H5
    exact hJ _ _ _ _ (H5.re [1,2,3,4,5,6,7,8,9,10] (by decide)) ⟨x2,x3,x4,w',e2,e3,e4,e6,by rw[Oy hi kE];rfl⟩
   |some j=>
    obtain⟨hj,hjd⟩:=Bs hx
    have hno:Bm s.cells t.cells[i].dot=j:=by simp[Bm,hx]
    have b0:decide ((j:Int)<0)=false:=by simp
    have L2:=Ab qv hj
    cases hg:t.cells[i].gone with
    |false=>
     have kE:newC s t.cells[i]=false:=by simp[newC,hx,hg]
     simp(disch:=omega) only[go_sem,hno,b0,hg,e2,e3,e4,e6,ei,A0,L1,cw]
     exact hJ _ _ _ _ (H) ⟨x2,x3,x4,x5,e2,e3,e4,e6,by rw[Pr hi kE]⟩
    |true=>
     cases hs:s.cells[j].gone with
     |true=>
      have kE:newC s t.cells[i]=false:=by simp[newC,hx,hg,hj,hs]
      simp(disch:=omega) only[go_sem,hno,b0,hg,hs,e2,e3,e4,e6,ei,A0,L1,L2,cw]
      exact hJ _ _ _ _ (H) ⟨x2,x3,x4,x5,e2,e3,e4,e6,by rw[Pr hi kE]⟩
     |false=>
      have kE:newC s t.cells[i]=true:=by simp[newC,hx,hg,hj,hs]
      simp(disch:=omega) only[go_sem,hno,b0,hg,hs,e2,e3,e4,e6,ei,A0,L1,L2,cw]
      intro nl fl U3 H3
      refine E8 (p:=Ai) H3 7 rfl t.cells[i] (by simp only[Be,A9y,hg]) (by decide) (by have:=Rm (p:=(newC s)) (l:=t.cells) (i:=i) (n:=1073741824) (by omega);(try simp only[Zad]);omega) fun w' U4 H4=> ?_
      have cw':=(H4.hp.sl 7 rfl).cell
      simp(disch:=omega) only[go_sem,e2,e3,e4,e6,ei,cw']
      intro U5 H5
      exact hJ _ _ _ _ (H5.re [1,2,3,4,5,6,7,8,9,10] (by decide)) ⟨x2,x3,x4,w',e2,e3,e4,e6,by rw[Oy hi kE];rfl⟩
  ·clear H e2 e3 e4 e6
   rintro Yq hY env h U ei k9 H ⟨x2,x3,x4,x5,e2,e3,e4,e6,rfl⟩
   simp(disch:=omega) only[go_sem,k9,e2,e3,e4,e6,ei,p3.len]
   exact hY _ _ _ H ⟨x2,x3,x4,x5,e4,e6,by rw[Zaa]⟩
  clear H e2 e3 e4 e6
  rintro env h U H ⟨x2,x3,x4,x5,e4,e6,rfl⟩
  have cc2:=(H.hp.sl 3 rfl).cell
  have cc3:=(H.hp.sl 4 rfl).cell
  have cc4:=(H.hp.sl 5 rfl).cell
  have cc5:=(H.hp.sl 6 rfl).cell
  simp +contextual (disch:=omega) only[go_sem,e4,e6,cc2,cc3,cc4,cc5]
  intro U8 H8
  exact⟨_,rfl,_,by rw[hd],by rw[hd];exact Hp.ownDelta (x:=Ao2 s t) (H8.sel [1,2,3,4,5,6] (by decide))⟩
 obtain⟨q,U,R,r,rfl,h⟩:=key
 exact⟨r,U,R,h⟩
def A6c:Fn1:=⟨32,[.c 6 true 4],(rg [oX 4 1,o 6 (.new [.nilS,.nilS,.nilS,.nilS])] (dw [o 7 (.new [z0,z0,z0,.nilS,z0,s0,s0,z0,z0,z0])] [oW 12 4 4,oM 13 2,oW 14 4 4,oC 15 277 14,on (.chk 12 (.ld true 4 (.t 4))),on (.blc 7 [z0,z0,z0,.nilS,z0,s0,s0,z0,z0,z0]),oZ 16 15 1,oM 17 0,oC 18 269 17,on (.chk 12 (.ld true 4 (.t 4))),on (.blc 7 [z0,z0,z0,.nilS,z0,s0,s0,z0,z0,z0]),o 19 (.call 276 (oT [12,13,16,18])),on (.blc 7 [z0,z0,z0,.nilS,z0,s0,s0,z0,z0,z0]),oM 11 19,o 20 (.ext 0 (.t 11)),o 21 (.ext 1 (.t 11)),oS 10 7 20,oM 8 21] (.seq (rg [oM 22 8,oE 23 .neq 22 0] (oG 23 (rg [oW 24 4 4,oS 4 6 24] .ret))) (rg [oW 26 4 4,oW 27 10 7,oD 28 140 26 27,oM 25 28,o 29 (.ext 0 (.t 25)),o 30 (.ext 1 (.t 25)),o 9 (.new [.nilS,.nilS,.nilS,.nilS]),oS 4 9 29,oM 10 30] (rg [oW 31 4 9,oS 4 6 31] .ret)))))⟩
theorem Ag0:F3 true Tryz.prog 367=some A6c:=by kernel_rfl
def A9h:Fn1:=⟨39,[.c 2 true 4,.c 3 true 4,.c 4 true 4],(rg [o 2 (.new [.nilS,.nilS,.nilS,.nilS]),o 3 (.new [.nilS,.nilS,.nilS,.nilS]),o 4 (.new [.nilS,.nilS,.nilS,.nilS])] (rg [oM 10 0,o 11 (.call 43 []),oM 12 0,o 13 (.call 163 [(.t 12),(ki 5)]),o 14 (.bin .add (ki 1) (.t 13)),o 15 (.call 281 (oT [10,11,14])),o 5 (.new [.nilS,.nilS,.nilS,.nilS]),oS 4 5 15] (rg [oW 16 4 5,o 6 (.new [.nilS,.nilS,.nilS,.nilS]),oS 4 6 16] (rg [oW 17 4 5,o 7 (.new [.nilS,.nilS,.nilS,.nilS]),oS 4 7 17] (.seq (rg [oV 8 (ki 0)] (oH 0 (.seq (rg [oM 18 8,oM 19 0,o 20 (.call 163 [(.t 19),(ki 5)]),oB 21 .lss 18 20] (oJ 21 0)) (.seq (.blk 1 (.reg [oM 24 0,oW 25 4 6,o 26 (.call 367 [(.t 24),(.t 25),(ki 0)]),oS 4 6 26])) (.reg [oM 22 8,oZ 23 22 1,oM 8 23]))))) (.seq (rg [oV 9 (ki 0)] (oH 2 (.seq (rg [oM 27 9,oM 28 0,o 29 (.call 163 [(.t 28),(ki 5)]),oB 30 .lss 27 29] (oJ 30 2)) (.seq (.blk 3 (.reg [oM 33 0,oW 34 4 7,o 35 (.call 367 [(.t 33),(.t 34),(ki 1)]),oS 4 7 35])) (.reg [oM 31 9,oZ 32 31 1,oM 9 32]))))) (dw [] [oW 36 4 5,oW 37 4 6,oW 38 4 7,oS 4 2 36,on (.chk 37 (.ld true 4 (.t 6))),on (.chk 38 (.ld true 4 (.t 7))),oS 4 3 37,on (.chk 38 (.ld true 4 (.t 7))),oS 4 4 38] .ret)))))))⟩
theorem Ail:A8 Tryz.prog 363=some A9h:=by kernel_rfl
section
variable {N0 N:St} {h:List Item} {c v:GV} {bs:List Int}
theorem Aim {cs:List GV} {s:State} (H:Hx N0 N h) (k:Nat) (hk:h[k]? =some (cuI c v bs)) (D:Dr N0 v bs) (hS:∀ U,Hx N0 U h->A4.R U s cs) (hs:OkS s) (rep:Int) (hr:0<=rep/\rep<=2):
  ∃(ds:List GV) (s':State) (U:St),Ret Tryz.prog 367 [c,.agg cs,gi rep] N (.agg ds) U/\Grw s s'/\((ds=cs/\s'=s/\Hx N0 U h)∨Hx N0 U (.th (own A4 ds s')::h)):=by
 have gl:cs.length=4:=A4.len (hS N H)
 have hms:=hs.ms
 have htm:=Qs fun c hc=>(hs.time c hc).2
 have key:∃ w U,Ret Tryz.prog 367 [c,.agg cs,gi rep] N w U/\∃ ds s',w= .agg ds/\Grw s s'/\((ds=cs/\s'=s/\Hx N0 U h)∨Hx N0 U (.th (own A4 ds s')::h)):=by
  refine Bg Ag0 (Z0z rfl) H ?_
  simp only[go_sem,A6c]
  intro n4 f4 U4 H4 n6 f6 U6 H6
  have g4:=Av (h:=h) f4
  have g6:=Av (h:=h) f6.2
  have ne46:=f6.1
  simp +contextual (disch:=omega) only[go_sem,A6 gl]
  intro n7 f7 U70 H70
  have g7:=Av (h:=h) f7.2.2
  have ne74:=f7.2.1
  have ne76:=f7.1
  try simp only[go_sem,A6 gl]
  refine by_r H70 (J6 _ cs s (hS _ H70.tl.tl.tl) (by omega)) ?_
  obtain⟨tm,htm'⟩:∃ tm,tm=Fx s.cells:=⟨_,rfl⟩
  rw[<- htm'] at htm ⊢
  simp(disch:=omega) only[go_sem,A6 gl,Eu]
  obtain⟨e,U7,he,R7,H7⟩:=Jq H70 (k+3) hk D
  refine by_k R7 H7 ?_
  simp(disch:=omega) only[go_sem,A6 gl,Eu]
  have hsz:=he.size
  have hkn:=Pz s
  obtain⟨as',U9,R9,K9⟩:=O0 U7 cs s (hS _ H7.tl.tl.tl) rep (tm+1) e (by omega) (by omega) (by omega) (by have:=he.place;omega) (by omega)
  have al:as'.length=10:=kAct.len (K9.rd 0 rfl)
  refine by_c H7 R9 K9 fun H9=> ?_
  have hma:=Abf s rep (tm+1) e
  have hstep:(E7 s rep (tm+1) e).2=0->Grw s (Bi s (E7 s rep (tm+1) e).1).1:=fun hz=>by
   have:=Grw.act (s0:=s) rep 0 e .nil hr.1 hr.2 (Int.le_refl 0) (by decide) he (by rw[<- htm'];simpa using hz)
   rw[<- htm'] at this
   simpa using this
  generalize E7 s rep (tm+1) e=A at*
  simp only[go_sem,A5 (cs:=zeV) al rfl,al,A6 gl]
  intro U11 H11
  cases hz:(A.2 != 0) with
  |true=>
   simp +contextual (disch:=omega) only[go_sem,hz,A6 gl,A5 (cs:=z4) gl rfl,gl]
   intro U12 H12
   exact⟨_,rfl,cs,s,rfl,.nil,.inl ⟨rfl,rfl,H12.tl.tl.tl.tl⟩⟩
  |false=>
   simp(disch:=omega) only[go_sem,hz,A6 gl,A6 al]
   obtain⟨ds,U12,R12,K12⟩:=Gt U11 cs s (hS _ H11.tl.tl.tl.tl) as' A.1 (H11.hp.rd 0 rfl) (by omega) (by omega)
   have gl2:ds.length=4:=A4.len (K12.rd 0 rfl)
   refine by_c H11 R12 K12 fun H12=> ?_
   simp +contextual (disch:=omega) only[go_sem,A5 (cs:=z4) gl2 rfl,gl2,A6 gl2]
   intro n9 f9 U13 _ U14 H14
   try simp only[go_sem,A5 (cs:=z4) gl2 rfl,gl2,A6 gl2]
   intro U15 H15
   exact⟨_,rfl,ds,_,rfl,hstep (by simpa using hz),.inr (((((H15.era 5).era 4).era 3).era 2).era 0)⟩
 obtain⟨w,U,R,ds,s',rfl,h'⟩:=key
 exact⟨ds,s',U,R,h'⟩
theorem A1r {cs:List GV} {s:State} {L:List (List GV×State)} (H:Hx N0 N (.th (shs A4 L)::h)) (k:Nat) (hk:h[k]? =some (cuI c v bs)) (D:Dr N0 v bs) (hm:(cs,s)∈L) (hs:OkS s) (rep:Int) (hr:0<=rep/\rep<=2):
  ∃(ds:List GV) (s':State) (U:St),Ret Tryz.prog 367 [c,.agg cs,gi rep] N (.agg ds) U/\Grw s s'/\Hx N0 U (.th (shs A4 ((ds,s')::L))::h):=by
 obtain⟨ds,s',U,R,hg,h'⟩:=Aim H (k+1) hk D (fun U H'=>H'.hp.shs_rd 0 rfl hm) hs rep hr
 refine⟨ds,s',U,R,hg,?_⟩
 rcases h' with⟨rfl,rfl,h'⟩|h'
 ·exact Hp.shsLe (fun y hy=>by
   rcases Zam.1 hy with rfl|hy
   ·exact hm
   ·exact hy) h'.hp
 ·exact Hp.shsAdd h'.hp
theorem Grw.trans {a b d:State} (h:Grw a b) (k:Grw b d):Grw a d:=by
 induction k with
 |nil=>exact h
 |act rep dt e _ h1 h2 h3 h4 h5 h6 ih=>exact .act rep dt e ih h1 h2 h3 h4 h5 h6
theorem Alj (H:Hx N0 N h) (k:Nat) (hk:h[k]? =some (cuI c v bs)) (D:Dr N0 v bs):
  ∃(cb ca cd:List GV) (b0 a d:State) (U:St),Grw st0 b0/\Grw b0 a/\Grw b0 d/\Ret Tryz.prog 363 [c] N (.tup [.agg cb,.agg ca,.agg cd]) U/\Hx N0 U (.th (shs A4 [(cb,b0),(ca,a),(cd,d)])::h):=by
 have key:∃ w U,Ret Tryz.prog 363 [c] N w U/\∃ cb ca cd b0 a d,w= .tup [.agg cb,.agg ca,.agg cd]/\Grw st0 b0/\Grw b0 a/\Grw b0 d/\Hx N0 U (.th (shs A4 [(cb,b0),(ca,a),(cd,d)])::h):=by
  refine Bg Ail (Z0z rfl) H ?_
  simp only[go_sem,A9h]
  intro n2 f2 U2 _ n3 f3 U3 _ n4 f4 U4 H4
  have g2:=Av (h:=h) f2
  have g3:=Av (h:=h) f3.2
  have g4:=Av (h:=h) f4.2.2
  have ne32:=f3.1
  have ne43:=f4.1
  obtain⟨cs,U5,R5,K5⟩:=Gk U4
  refine by_c H4 R5 K5 fun H5=> ?_
  simp only[go_sem]
  obtain⟨x,U6,hx,R6,H6⟩:=Bn H5 (k+4) hk D 5 (by decide) (by decide)
  refine by_k R6 H6 ?_
  obtain⟨q,hq⟩:∃ q:Nat,q=1+x:=⟨_,rfl⟩
  have e:(1:Int)+x=(q:Int):=by omega
  simp(disch:=omega) only[go_sem,e]
  obtain⟨cb,b0,U7,hg,R7,H7⟩:=A7b H6 (k+3) hk D A8y q (by omega)
  have hob:=hg.ok A8y
  have gb:cb.length=4:=A4.len (H7.hp.rd 0 rfl)
  have H8:Hx N0 U7 (.th (shs A4 [(cb,b0)])::.box 1 n4 z4::.box 1 n3 z4::.box 1 n2 z4::h):=Hp.shs1 H7.hp
  refine by_k R7 H8 ?_
  simp +contextual (disch:=omega) only[go_sem,A5 (cs:=z4) gb rfl,gb,A6 gb]
  intro n5 f5 U9 _ U10 _ n6 f6 U11 _ U12 _ n7 f7 U13 _ U14 H14
  have g5:n4<n5:=f5.1
  have g6:n5<n6:=f6.1
  have g7:n6<n7:=f7.1
  have H15:Hx N0 U14 (.th (shs A4 [(cb,b0)])::.box 1 n7 cb::.box 1 n6 cb::.box 1 n5 cb::.box 1 n4 z4::.box 1 n3 z4::.box 1 n2 z4::h):=H14.fst 3 rfl
  have H16:Hx N0 U14 (.th (shs A4 [(cb,b0),(cb,b0),(cb,b0)])::.box 1 n7 cb::.box 1 n6 cb::.box 1 n5 cb::.box 1 n4 z4::.box 1 n3 z4::.box 1 n2 z4::h):=Hp.shsLe (fun y hy=>by simpa using hy) H15.hp
  clear H15 H14 H8 H7 H6 H5 H4
  refine J4 6 0 (fun kk env hh=>env 0=c/\env 2= .ptr n2 0/\env 3= .ptr n3 0/\env 4= .ptr n4 0/\env 5= .ptr n5 0/\env 6= .ptr n6 0/\env 7= .ptr n7 0/\∃(i:Int) (ca:List GV) (a:State),env 8=gi i/\0<=i/\i<=5/\kk=(6 - i).toNat/\ca.length=4/\Grw b0 a/\hh= .th (shs A4 [(cb,b0),(ca,a),(cb,b0)])::.box 1 n7 cb::.box 1 n6 ca::.box 1 n5 cb::.box 1 n4 z4::.box 1 n3 z4::.box 1 n2 z4::h) (fun env hh=>env 0=c/\env 2= .ptr n2 0/\env 3= .ptr n3 0/\env 4= .ptr n4 0/\env 5= .ptr n5 0/\env 6= .ptr n6 0/\env 7= .ptr n7 0/\∃(ca:List GV) (a:State),ca.length=4/\Grw b0 a/\hh= .th (shs A4 [(cb,b0),(ca,a),(cb,b0)])::.box 1 n7 cb::.box 1 n6 ca::.box 1 n5 cb::.box 1 n4 z4::.box 1 n3 z4::.box 1 n2 z4::h) (fun _ _=>False) _ H16 ⟨rfl,rfl,rfl,rfl,rfl,rfl,rfl,0,cb,b0,rfl,by decide,by decide,rfl,gb,.nil,rfl⟩ ?_ ?_ (fun _ _ _ _ h=>h.elim)
  ·clear H16
   rintro J Yq Wq hJ hY hW kk env h' U H ⟨e0,e2,e3,e4,e5,e6,e7,i,ca,a,e8,hi0,hi5,rfl,gl,hga,rfl⟩
   simp only[go_sem,e0,e8]
   obtain⟨x,U1,hx,R1,H1⟩:=Bn H (k+7) hk D 5 (by decide) (by decide)
   refine by_k R1 H1 ?_
   cases hb:decide (i<(x:Int)) with
   |false=>
    simp only[go_sem,hb]
    exact hY _ _ _ H1 ⟨e0,e2,e3,e4,e5,e6,e7,ca,a,gl,hga,rfl⟩
   |true=>
    have hlt:=of_decide_eq_true hb
    simp(disch:=omega) only[go_sem,hb,e0,e6,A6 gl]
    obtain⟨ds,s',U2,R2,hg2,H2⟩:=A1r H1 (k+6) hk D (cs:=ca) (s:=a) (by simp) (hga.ok hob) 0 (by decide)
    have gd:ds.length=4:=by
     have:=H2.hp.shs_rd 0 rfl (y:=(ds,s')) Zap
     exact A4.len this
    refine by_k R2 H2 ?_
    simp(disch:=omega) only[go_sem,e6,e8,A5 (cs:=ca) gd gl,gd,gl]
    intro U3 H3
    have H4:Hx N0 U3 (.th (shs A4 [(cb,b0),(ds,s'),(cb,b0)])::.box 1 n7 cb::.box 1 n6 ds::.box 1 n5 cb::.box 1 n4 z4::.box 1 n3 z4::.box 1 n2 z4::h):=Hp.shsLe (fun y hy=>by
     simp only[Zam,Zas,or_false] at hy ⊢
     rcases hy with rfl|rfl|rfl<;>simp) H3.hp
    exact⟨(6 - (i+1)).toNat,by omega,hJ _ _ _ _ H4 ⟨e0,e2,e3,e4,e5,e6,e7,i+1,ds,s',rfl,by omega,by omega,rfl,gd,hga.trans hg2,rfl⟩⟩
  clear H16
  rintro env h' U14 H ⟨e0,e2,e3,e4,e5,e6,e7,ca,a,ga,hga,rfl⟩
  simp only[go_sem,e0]
  refine J4 6 2 (fun kk env hh=>env 0=c/\env 2= .ptr n2 0/\env 3= .ptr n3 0/\env 4= .ptr n4 0/\env 5= .ptr n5 0/\env 6= .ptr n6 0/\env 7= .ptr n7 0/\∃(i:Int) (cd:List GV) (d:State),env 9=gi i/\0<=i/\i<=5/\kk=(6 - i).toNat/\cd.length=4/\Grw b0 d/\hh= .th (shs A4 [(cb,b0),(ca,a),(cd,d)])::.box 1 n7 cd::.box 1 n6 ca::.box 1 n5 cb::.box 1 n4 z4::.box 1 n3 z4::.box 1 n2 z4::h) (fun env hh=>env 2= .ptr n2 0/\env 3= .ptr n3 0/\env 4= .ptr n4 0/\env 5= .ptr n5 0/\env 6= .ptr n6 0/\env 7= .ptr n7 0/\∃(cd:List GV) (d:State),cd.length=4/\Grw b0 d/\hh= .th (shs A4 [(cb,b0),(ca,a),(cd,d)])::.box 1 n7 cd::.box 1 n6 ca::.box 1 n5 cb::.box 1 n4 z4::.box 1 n3 z4::.box 1 n2 z4::h) (fun _ _=>False) _ H ⟨e0,e2,e3,e4,e5,e6,e7,0,cb,b0,rfl,by decide,by decide,rfl,gb,.nil,rfl⟩ ?_ ?_ (fun _ _ _ _ h=>h.elim)
  ·clear H e0 e2 e3 e4 e5 e6 e7
   rintro J Yq Wq hJ hY hW kk env h' U H ⟨e0,e2,e3,e4,e5,e6,e7,i,cd,d,e9,hi0,hi5,rfl,gl,hgd,rfl⟩
   simp only[go_sem,e0,e9]
   obtain⟨x,U1,hx,R1,H1⟩:=Bn H (k+7) hk D 5 (by decide) (by decide)
   refine by_k R1 H1 ?_
   cases hb:decide (i<(x:Int)) with
   |false=>
    simp only[go_sem,hb]
    exact hY _ _ _ H1 ⟨e2,e3,e4,e5,e6,e7,cd,d,gl,hgd,rfl⟩
   |true=>
    have hlt:=of_decide_eq_true hb
    simp(disch:=omega) only[go_sem,hb,e0,e7,A6 gl]
    obtain⟨ds,s',U2,R2,hg2,H2⟩:=A1r H1 (k+6) hk D (cs:=cd) (s:=d) (by simp) (hgd.ok hob) 1 (by decide)
    have gd:ds.length=4:=by
     have:=H2.hp.shs_rd 0 rfl (y:=(ds,s')) Zap
     exact A4.len this
    refine by_k R2 H2 ?_
    simp(disch:=omega) only[go_sem,e7,e9,A5 (cs:=cd) gd gl,gd,gl]
    intro U3 H3
    have H4:Hx N0 U3 (.th (shs A4 [(cb,b0),(ca,a),(ds,s')])::.box 1 n7 ds::.box 1 n6 ca::.box 1 n5 cb::.box 1 n4 z4::.box 1 n3 z4::.box 1 n2 z4::h):=Hp.shsLe (fun y hy=>by
     simp only[Zam,Zas,or_false] at hy ⊢
     rcases hy with rfl|rfl|rfl<;>simp) H3.hp
    exact⟨(6 - (i+1)).toNat,by omega,hJ _ _ _ _ H4 ⟨e0,e2,e3,e4,e5,e6,e7,i+1,ds,s',rfl,by omega,by omega,rfl,gd,hgd.trans hg2,rfl⟩⟩
  ·clear H e0 e2 e3 e4 e5 e6 e7
   rintro env h' U H ⟨e2,e3,e4,e5,e6,e7,cd,d,gd,hgd,rfl⟩
   simp +contextual (disch:=omega) only[go_sem,e2,e3,e4,e5,e6,e7,A6 gb,A6 ga,A6 gd,A5 (cs:=z4) gb rfl,A5 (cs:=z4) ga rfl,A5 (cs:=z4) gd rfl,gb,ga,gd]
   intro U1 _ U2 _ U3 H3
   exact⟨_,rfl,cb,ca,cd,b0,a,d,rfl,hg,hga,hgd,(((((H3.era 6).era 5).era 4).era 3).era 2).era 1⟩
 obtain⟨w,U,R,cb,ca,cd,b0,a,d,rfl,h1,h2,h3,h4⟩:=key
 exact⟨cb,ca,cd,b0,a,d,U,h1,h2,h3,R,h4⟩
end
section
variable {P:Program} {N0 N U:St} {h:List Item} {c v:GV} {bs:List Int} {Y:Type} {l:List Y}
theorem Ao5 (H:Hx N0 N h) (D:Dr N0 v bs):∃(c:GV) (U:St),Ret Tryz.prog 161 [v] N c U/\Hx N0 U (cuI c v bs::h):=by
 obtain⟨c,U,R,K⟩:=Acw N v bs (D.hv.pre H.sub) D.hl
 exact⟨c,U,R,H.hp.add K⟩
end
end Go.Proofs.YtbeoiejnogdkpaaGreat.Sy
