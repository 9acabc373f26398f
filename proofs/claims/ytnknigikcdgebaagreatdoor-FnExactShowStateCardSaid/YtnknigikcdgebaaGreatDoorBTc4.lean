/- Texts of this proof, one behind the other. -/
import Derived.Test.YtnknigikcdgebaaGreatDoorBTc3
import Derived.Test.YtnknigikcdgebaaGreatDoorProg
import Derived.KernelRfl
set_option linter.unusedSimpArgs false
set_option linter.unusedVariables false
set_option maxRecDepth 4000
set_option maxHeartbeats 4000000
open List renaming append_nil→Zaa,take_length→Zab,set_cons_zero→Zac,set_cons_succ→Zad,length_map→Zae,getElem_mem→Zaf,length_take→Zag,length_append→Zah,length_cons→Zai,length_nil→Zaj,replicate→Zak,prefix_refl→Zal,append_assoc→Zam,length_filter_le→Zan,mem_nil_iff→Zaq,mem_singleton→Zar,mem_append→Zas,nil_append→Zat,eraseIdx_cons_succ→Zau,eraseIdx_cons_zero→Zav,cons_append→Zaw,mem_cons→Zax,mem_map→Zay,set_append_right→Zaz,length_replicate→Za0,mem_of_mem_take→Za1,replicate_succ→Za2,map_cons→Za3,map_append→Za5
open Nat renaming mul_le_mul_right→Zao,le_trans→Zap,min_eq_left→Za7
open Bool renaming and_eq_true→Za4
open Int renaming tmod_nonneg→Za6
namespace Go.Proofs.YtnknigikcdgebaaGreatDoor.Sy
open Go Go.RowKit
def Pv:Fn1:=⟨7,[.t 2],(rg [o 2 (.mov (.k s0))] (.seq (rg [oM 3 0,oE 4 .lss 3 0] (oG 4 (rg [o 2 (.mov (.k (.str ⟨#[48]⟩)))] .ret))) (rg [oM 5 0,oC 6 159 5,oM 2 6] .ret)))⟩
theorem A9o:A4 Tryz.prog 168=some Pv:=by kernel_rfl
def X4:Fn1:=⟨21,[.t 2],(rg [o 2 (.mov (.k s0))] (rg [o 3 (.mov (.k s0))] (.seq (rg [oV 4 (ki 0)] (oH 0 (.seq (rg [oM 5 4,oM 6 0,oN 7 6,oB 8 .lss 5 7] (oJ 8 0)) (.seq (.blk 1 (.reg [oM 11 3,o 12 (.bin .add (.t 11) (.k (.str ⟨#[32]⟩))),oM 13 0,oM 14 4,oI 15 1 13 14,oL 16 15,oC 17 168 16,oB 18 .add 12 17,oM 3 18])) (.reg [oM 9 4,oZ 10 9 1,oM 4 10]))))) (rg [oM 19 3,o 20 (.bin .add (.t 19) (.k (.str ⟨#[10]⟩))),oM 2 20] .ret))))⟩
theorem A6m:A4 Tryz.prog 157=some X4:=by kernel_rfl
def A1h:Fn1:=⟨6,[.t 2],(rg [o 2 (.mov (.k s0))] (rg [oM 3 0,o 4 (.call 104 [(.t 3),(.k (.str ⟨#[32]⟩))]),o 5 (.bin .add (.t 4) (.k (.str ⟨#[10]⟩))),oM 2 5] .ret))⟩
theorem A9p:A4 Tryz.prog 161=some A1h:=by kernel_rfl
def Jy:Fn1:=⟨25,[.t 4],(rg [o 4 (.mov (.k .nilS))] (rg [o 8 (.lit 1 0 [] []),oM 9 1,o 10 (.app 1 16 [s0] (.t 8) (.t 9)),oM 5 10] (.seq (rg [oM 11 0,oN 12 11,oV 13 (ki 0)] (oH 0 (rg [oB 14 .lss 13 12] (.seq (oJ 14 0) (.seq (.blk 1 (rg [oI 15 1 11 13,oL 16 15,oM 7 16] (.reg [oM 17 5,oM 18 7,o 19 (.lit 1 1 [z0] [(0,1,(.t 18))]),o 20 (.call 102 [(.t 19),(.k s0)]),o 21 (.lit 1 1 [s0] [(0,1,(.t 20))]),o 22 (.app 1 16 [s0] (.t 17) (.t 21)),oM 5 22]))) (.reg [oZ 23 13 1,oM 13 23])))))) (rg [oM 24 5,oM 4 24] .ret))))⟩
theorem Ro:A4 Tryz.prog 162=some Jy:=by kernel_rfl
def X6:Fn1:=⟨7,[.t 2],(rg [o 2 (.mov (.k .nilS))] (rg [oM 3 0,oC 4 243 3] (rg [oM 5 0,oC 6 244 5,oM 2 6] .ret)))⟩
theorem A6n:A4 Tryz.prog 163=some X6:=by kernel_rfl
def L9 (l:List Int):ByteArray:=catS ((Ax l).map fun x=>⟨#[32]⟩++x)++⟨#[10]⟩
def Oe (ws:List ByteArray):ByteArray:=joB ws ⟨#[32]⟩++⟨#[10]⟩
theorem X7 (b:ByteArray):b++(⟨#[]⟩:ByteArray)=b:=Cx (by rw[Fh];exact Zaa _)
theorem Aea (b:List ByteArray):∀ x:ByteArray,b.foldl (· ++·) x=x++catS b:=by
 induction b with
 |nil=>intro x;exact(X7 x).symm
 |cons y b ih=>
  intro x
  have h2:=ih (⟨#[]⟩++y)
  rw[List.foldl_cons,ih]
  show x++y++catS b=x++b.foldl (· ++·) (⟨#[]⟩++y)
  rw[h2,X0,ByteArray.append_assoc]
theorem X8 (x:ByteArray) (l:List ByteArray):catS (x::l)=x++catS l:=by
 show l.foldl (· ++·) (⟨#[]⟩++x)=_
 rw[Aea,X0]
theorem A9q (l:List ByteArray) (sep:ByteArray):∀ {pre:List ByteArray},pre≠[]->joB (pre++l) sep=joB pre sep++catS (l.map fun x=>sep++x):=by
 induction l with
 |nil=>intro pre _;rw[Zaa];exact(X7 _).symm
 |cons x l ih=>
  intro pre h
  have e:pre++x::l=(pre++[x])++l:=by simp
  rw[e,ih (by simp),A3f h,Za3,X8,ByteArray.append_assoc,ByteArray.append_assoc,ByteArray.append_assoc]
theorem Og {pre:List ByteArray} (h:pre≠[]) (l:List Int):Oe (pre++Ax l)=joB pre ⟨#[32]⟩++L9 l:=by
 rw[Oe,A9q _ _ h,L9,ByteArray.append_assoc]
theorem Rc (N:St) (n:Int) (h1:n<=9223372036854775807):Ret Tryz.prog 168 [gi n] N (.str (itB (mx0 n))) N:=by
 refine Jj A9o (Z0z rfl) trivial ?_
 cases c:decide (n<0) with
 |true=>
  have h:=of_decide_eq_true c
  have hm:mx0 n=0:=by unfold mx0;rw[if_pos (by omega)]
  simp +contextual (disch:=omega) only[go_sem,Pv,c,hm,Ab2]
 |false=>
  have h:=of_decide_eq_false c
  obtain⟨u,rfl⟩:∃ u:Nat,n=u:=⟨n.toNat,by omega⟩
  have hm:mx0 (u:Int)=u:=by unfold mx0;rw[if_neg (by omega)]
  simp +contextual (disch:=omega) only[go_sem,Pv,c,hm]
  refine by_r (Hx.refl N) (Eq N u (by omega)) ?_
  simp +contextual (disch:=omega) only[go_sem,hm]
theorem A9r (x:ByteArray):(⟨#[32]⟩++x:ByteArray).size=1+x.size:=by rw[ByteArray.size_append];rfl
theorem A3h {l:List Int} (hI:∀ x∈l,x≤9223372036854775807):(catS ((Ax l).map fun x=>⟨#[32]⟩++x)).size<=l.length*22:=by
 have:=A5f (l:=(Ax l).map fun x=>⟨#[32]⟩++x) (k:=22) fun s hs=>by
  obtain⟨x,hx,rfl⟩:=Zay.1 hs
  have:=Ff hI x hx
  rw[A9r];omega
 have e:((Ax l).map fun x=>⟨#[32]⟩++x).length=l.length:=by simp[Ax]
 rw[e] at this;exact this
theorem Fg {l:List Int} (hI:∀ x∈l,x≤9223372036854775807):(L9 l).size<=l.length*22+1:=by
 have:=A3h hI
 have h2:(⟨#[10]⟩:ByteArray).size=1:=rfl
 rw[L9,ByteArray.size_append];omega
theorem Iv (N:St) (v:GV) (l:List Int) (hR:RS pI.kd N v l) (hI:∀ x∈l,x≤9223372036854775807) (hl:l.length<=1099511627776):Ret Tryz.prog 157 [v] N (.str (L9 l)) N:=by
 refine Jj A6m (Z0z rfl) trivial ?_
 simp +contextual (disch:=omega) only[go_sem,X4]
 refine Cr l.length 4 0 (fun i env h=>env 0=v/\env 3= .str (catS ((Ax (l.take i)).map fun x=>⟨#[32]⟩++x))/\h=[]) (fun env h=>env 3= .str (catS ((Ax l).map fun x=>⟨#[32]⟩++x))) (fun env h=>False) _ (Hx.refl N) (by simp +contextual (disch:=omega) only[go_sem]) ⟨by simp +contextual (disch:=omega) only[go_sem],by simp +contextual (disch:=omega) only[go_sem];rfl,rfl⟩ ?_ ?_ ?_ (fun _ _ _ _ h=>h.elim)
 ·rintro J Yq Wq hJ hY hW i env h U hi ei c0 H ⟨e0,e3,rfl⟩
  have L1:=Hz hR hi
  have hx:=hI _ (Zaf hi)
  have hT:=A3h (l:=l.take i) fun x hx=>hI x (Za1 hx)
  have hle:(l.take i).length<=l.length:=by rw[Zag];omega
  have hT2:(l.take i).length*22<=1099511627776*22:=Nat.mul_le_mul (by omega) (by omega)
  have hn:catS ((Ax (l.take (i+1))).map fun x=>⟨#[32]⟩++x)=catS ((Ax (l.take i)).map fun x=>⟨#[32]⟩++x)++(⟨#[32]⟩++itB (mx0 l[i])):=by rw[M0 hi,Za5,Za3,List.map_nil,A5e]
  have hm:=Dp (A6j l[i]) (A6k hx (by omega))
  generalize catS ((Ax (l.take i)).map fun x=>⟨#[32]⟩++x)=T at*
  have b1:T.size+(#[32]:Array UInt8).size<=9223372036854775807:=by rw[sz1];omega
  have b2:T.size+(#[32]:Array UInt8).size+(itB (mx0 l[i])).size<=9223372036854775807:=by rw[sz1];omega
  simp +contextual (disch:=omega) only[go_sem,c0,e0,e3,ei,hR.len,A1,L1,b1]
  refine by_r H (Rc U l[i] hx) ?_
  simp +contextual (disch:=omega) only[go_sem,e0,e3,ei,ByteArray.size_append,b2]
  exact hJ _ _ _ _ H ⟨by simp +contextual (disch:=omega) only[go_sem,e0],by rw[hn];simp +contextual (disch:=omega) only[go_sem,ByteArray.append_assoc],rfl⟩
 ·rintro Yq hY env h U ei c0 H ⟨e0,e3,rfl⟩
  rw[Zab] at e3
  simp +contextual (disch:=omega) only[go_sem,c0,e0,ei,hR.len]
  exact hY _ _ _ H (by simp +contextual (disch:=omega) only[go_sem,e3])
 ·rintro env h U H e3
  have hT:=A3h hI
  have b1:(catS ((Ax l).map fun x=>⟨#[32]⟩++x)).size+(#[10]:Array UInt8).size<=9223372036854775807:=by rw[sz1];omega
  simp +contextual (disch:=omega) only[go_sem,e3,b1]
  exact fun _=>rfl
theorem E4 (N:St) (v:GV) (l:List ByteArray) (fp:List Nat) (hO:OS pS.kd N l v fp) (b:Nat) (hb:∀ x∈l,x.size<=b) (hj:l.length*(b+1)<=140737488355328) (hN:l.length<=1099511627776):Ret Tryz.prog 161 [v] N (.str (Oe l)) N:=by
 have h1:=A9l (sep:=⟨#[32]⟩) hb
 have e1:(⟨#[32]⟩:ByteArray).size=1:=rfl
 rw[e1] at h1
 refine Jj A9p (Z0z rfl) trivial ?_
 simp +contextual (disch:=omega) only[go_sem,A1h]
 refine by_r (Hx.refl N) (Aao N v l fp hO ⟨#[32]⟩ (by omega) (by omega)) ?_
 have b1:(joB l ⟨#[32]⟩).size+(#[10]:Array UInt8).size<=9223372036854775807:=by rw[sz1,<-Fr,O9];omega
 simp +contextual (disch:=omega) only[go_sem,b1]
 exact fun _=>rfl
theorem D9 (N:St) (v:GV) (l:List Int) (hR:RS pI.kd N v l) (u:GV) (pre:List ByteArray) (hU:RS pS.kd N u pre) (hI:∀ x∈l,x≤9223372036854775807) (hl:l.length<=1099511627776) (hp:pre.length<=1099511627776):∃ r U,Ret Tryz.prog 162 [v,u] N r U/\Hp N U [ow pS.kd r (pre++Ax l)]:=by
 refine Ri Ro (Z0z rfl) (Hx.refl N) ?_
 simp +contextual (disch:=omega) only[go_sem,Jy]
 intro n f U H
 refine by_cp (p:=pS) H (hU.pre H.sub) (by decide) (by omega) fun w U2 H2=> ?_
 simp +contextual (disch:=omega) only[go_sem,(hR.pre H2.sub).len]
 refine Cr l.length 13 0 (fun i env h=>env 11=v/\env 12=gi l.length/\∃ w,env 5=w/\h=[.th (ow pS.kd w (pre++Ax (l.take i)))]) (fun env h=>∃ w,env 5=w/\h=[.th (ow pS.kd w (pre++Ax l))]) (fun env h=>False) _ H2 (by simp +contextual (disch:=omega) only[go_sem]) ⟨by simp +contextual (disch:=omega) only[go_sem],by simp +contextual (disch:=omega) only[go_sem],w,by simp +contextual (disch:=omega) only[go_sem],by simp[Ax]⟩ ?_ ?_ ?_ (fun _ _ _ _ h=>h.elim)
 ·clear H H2
  rintro J Yq Wq hJ hY hW i env h U hi ei c0 H ⟨e11,e12,w,e5,rfl⟩
  have L1:=Hz (hR.pre H.sub) hi
  have hx:=hI _ (Zaf hi)
  simp +contextual (disch:=omega) only[go_sem,c0,e11,e12,e5,ei,A1,Ed H L1.2,L1]
  intro n3 f3 U3 H3
  refine by_r H3 (A1e U3 _ [l[i]] (A0e (p:=pI) (H3.hp.pt 0 rfl)) ⟨#[]⟩ (by decide) (fun x hx'=>by rw[Zar] at hx';subst hx';exact hx) (by simp)) ?_
  simp +contextual (disch:=omega) only[go_sem,e5]
  intro n4 f4 U4 H4
  have e1:tolB [l[i]] ⟨#[]⟩=itB (mx0 l[i]):=Pu _ _
  refine Pj (p:=pS) H4 2 rfl (tolB [l[i]] ⟨#[]⟩) Pi (by decide) (by rw[Zah,Ax,Zae,Zag];omega) fun w' U5 H5=> ?_
  simp +contextual (disch:=omega) only[go_sem,e11,e12,ei]
  exact hJ _ _ _ _ (H5.re [2] (by decide)) ⟨by simp +contextual (disch:=omega) only[go_sem,e11],by simp +contextual (disch:=omega) only[go_sem,e12],w',by simp +contextual (disch:=omega) only[go_sem],by rw[M0 hi,<-Zam,<-e1];rfl⟩
 ·rintro Yq hY env h U ei c0 H ⟨e11,e12,w,e5,rfl⟩
  rw[Zab] at H
  simp +contextual (disch:=omega) only[go_sem,c0,e12,ei]
  exact hY _ _ _ H ⟨w,by simp +contextual (disch:=omega) only[go_sem,e5],rfl⟩
 ·rintro env h U H ⟨w,e5,rfl⟩
  simp +contextual (disch:=omega) only[go_sem,e5]
  exact fun H=>⟨w,rfl,H⟩
theorem G9 {N0 N:St} {h:List Item} {v:GV} {l:List ByteArray} (H:Hx N0 N h) (k:Nat) (hk:h[k]? =some (.th (ow pS.kd v l))) (hl:l.length<=1099511627776):∃ r U,Ret Tryz.prog 163 [v] N r U/\Hx N0 U (h.set k (.th (ow pS.kd r (A9 txLt l)))):=by
 refine Ri A6n (Z0z rfl) H ?_
 simp +contextual (disch:=omega) only[go_sem,X6]
 obtain⟨U2,R2,H2⟩:=F2 H.hp k (at_t hk) hl
 rw[<- Abp] at H2
 refine by_m R2 H2 ?_
 simp +contextual (disch:=omega) only[go_sem]
 have hk2:(h.set k (.th (ow pS.kd v (Bh txLt l))))[k]? =some (.th (ow pS.kd v (Bh txLt l))):=by rw[List.getElem?_set_self (List.getElem?_eq_some_iff.1 hk).1]
 obtain⟨w3,U3,R3,H3⟩:=Dn H2 k (at_t hk2) (by rw[D7];exact hl)
 rw[<- Abp,List.set_set] at H3
 refine by_m R3 H3 ?_
 simp +contextual (disch:=omega) only[go_sem]
 have hE:Ay (Bh txLt l)=A9 txLt l:=Ll Ku Mx (Bs _ _) (Jt Ku _)
 rw[hE]
 exact fun H=>⟨_,rfl,H⟩
def Gm:Fn1:=⟨79,[.t 4],(rg [oX 2 0,o 4 (.mov (.k .nilS))] (rg [o 9 (.lit 1 0 [] []),oM 5 9] (.seq (rg [oM 10 1,oE 11 .eql 10 0] (oG 11 (rg [oV 6 (ki 0)] (oH 0 (.seq (rg [oM 12 6,oF 13 1 2,oL 14 13,oN 15 14,oB 16 .lss 12 15] (oJ 16 0)) (.seq (.blk 1 (.reg [oM 19 5,oF 20 1 2,oL 21 20,oM 22 6,oI 23 3 21 22,oF 24 0 23,oL 25 24,oD 26 236 19 25,oM 5 26])) (.reg [oM 17 6,oZ 18 17 1,oM 6 18]))))))) (.seq (rg [oV 7 (ki 0)] (oH 2 (.seq (rg [oM 27 7,oF 28 2 2,oL 29 28,oN 30 29,oB 31 .lss 27 30,oM 32 31,jM 33 32 1,jE 34 32 .eql 33 1,jM 35 32 34,vM 36 35 1,vE 37 35 .eql 36 2,og 38 32 true (.pick (.t 35) kt (.t 37)),oQ 39 32 38] (oJ 39 2)) (.seq (.blk 3 (rg [oF 42 2 2,oL 43 42,oM 44 7,oI 45 6 43 44,oF 46 0 45,oL 47 46,oM 48 1,oE 49 .eql 48 2,o 50 (.eqb false (.t 47) (.t 49))] (oG 50 (.reg [oM 51 5,oF 52 2 2,oL 53 52,oM 54 7,oI 55 6 53 54,oF 56 1 55,oL 57 56,oD 58 236 51 57,oM 5 58])))) (.reg [oM 40 7,oZ 41 40 1,oM 7 41]))))) (.seq (rg [oV 8 (ki 0)] (oH 4 (.seq (rg [oM 59 8,oF 60 3 2,oL 61 60,oN 62 61,oB 63 .lss 59 62,oM 64 63,jM 65 64 1,jE 66 64 .eql 65 3,oQ 67 64 66] (oJ 67 4)) (.seq (.blk 5 (.reg [oM 70 5,oF 71 3 2,oL 72 71,oM 73 8,oI 74 8 72 73,oF 75 0 74,oL 76 75,oD 77 236 70 76,oM 5 77])) (.reg [oM 68 8,oZ 69 68 1,oM 8 69]))))) (rg [oM 78 5,oM 4 78] .ret))))))⟩
theorem Hi:A4 Tryz.prog 158=some Gm:=by kernel_rfl
def Dx (s:State):List ByteArray:=s.tallies.map (·.obj)
def Ba (s:State) (m:Bool):List ByteArray:=(s.lives.filter fun x=>x.map==m).map (·.obj)
def Dy (s:State):List ByteArray:=s.cells.map (·.obj)
theorem Ab3 {Y:Type} {f:Y->ByteArray} {l:List Y} {i:Nat} (hi:i<l.length):A9 txLt ((l.take (i+1)).map f)=putU txLt (f l[i]) (A9 txLt ((l.take i).map f)):=by rw[Mm hi,Iq]
theorem Aeb {Y:Type} {f:Y->ByteArray} {l:List Y} {i n:Nat} (hl:l.length<=n):(A9 txLt ((l.take i).map f)).length<=n:=by
 have:=Cb txLt ((l.take i).map f)
 rw[Zae,Zag] at this;omega
theorem A3i {s:State} {m:Bool} {i:Nat} (hi:i<s.lives.length) (h:(s.lives[i].map==m)=true):((s.lives.take (i+1)).filter fun x=>x.map==m).map (·.obj)=((s.lives.take i).filter fun x=>x.map==m).map (·.obj)++[s.lives[i].obj]:=by rw[flt_t hi h,Za5];rfl
theorem A3j {s:State} {m:Bool} {i:Nat} (hi:i<s.lives.length) (h:(s.lives[i].map==m)=false):((s.lives.take (i+1)).filter fun x=>x.map==m).map (·.obj)=((s.lives.take i).filter fun x=>x.map==m).map (·.obj):=by rw[flt_f hi h]
theorem A6o {s:State} {m:Bool} {i n:Nat} (hl:s.lives.length<=n):(A9 txLt (((s.lives.take i).filter fun x=>x.map==m).map (·.obj))).length<=n:=by
 have:=Cb txLt (((s.lives.take i).filter fun x=>x.map==m).map (·.obj))
 rw[Zae] at this
 have h2:=Zan (fun x:Live=>x.map==m) (s.lives.take i)
 rw[Zag] at h2;omega
theorem Zb (N:St) (cs:List GV) (s:State) (hR:A8.R N s cs) (hl:A7 s<=1099511627776):∃ r U,Ret Tryz.prog 158 [.agg cs,gi 0] N r U/\Hp N U [ow pS.kd r (A9 txLt (Dx s))]:=by
 obtain⟨a,b,c,v,rfl,ha,hb,hc,hv⟩:=hR
 obtain⟨l1,l2,l3,l4,_⟩:=Am hl
 refine Ri Hi (Z0z rfl) (Hx.refl N) ?_
 simp +contextual (disch:=omega) only[go_sem,Gm]
 intro n f U _ n2 f2 U2 H
 have H:=H.emp pS.kd rfl
 try simp +contextual (disch:=omega) only[go_sem,beq_self_eq_true,show((1:Int)==0)=false from rfl,show((2:Int)==0)=false from rfl,show((3:Int)==0)=false from rfl]
 refine Cr s.tallies.length 6 0 (fun i env h=>env 1=gi 0/\env 2= .ptr n 0/\∃ u,env 5=u/\h=[.th (ow pS.kd u (A9 txLt ((s.tallies.take i).map (·.obj)))),.box 1 n [a,b,c,v]]) (fun env h=>env 1=gi 0/\env 2= .ptr n 0/\∃ u,env 5=u/\h=[.th (ow pS.kd u (A9 txLt (Dx s))),.box 1 n [a,b,c,v]]) (fun env h=>False) _ H (by simp +contextual (disch:=omega) only[go_sem]) ⟨by simp +contextual (disch:=omega) only[go_sem],by simp +contextual (disch:=omega) only[go_sem],_,by simp +contextual (disch:=omega) only[go_sem],rfl⟩ ?_ ?_ ?_ (fun _ _ _ _ h=>h.elim)
 ·clear H
  rintro J Yq Wq hJ hY hW i env h U hi ei c0 H ⟨e1,e2,u,e5,rfl⟩
  have L1:=Aa hb hi
  have L2:=hb.len
  obtain⟨u',U3,R3,K3⟩:=Fq s.tallies[i].obj H.hp 0 rfl (Aeb (by omega))
  simp +contextual (disch:=omega) only[go_sem,c0,e1,e2,e5,ei,A1,L2,L1,beq_self_eq_true,show(true==false)=false from rfl,show(false==true)=false from rfl,show(true==true)=true from rfl,show(false==false)=true from rfl,show(false ^^ true)=true from rfl,show(false ^^ false)=false from rfl,show((0:Int)==1)=false from rfl,show((0:Int)==2)=false from rfl,show((0:Int)==3)=false from rfl,beq_self_eq_true]
  refine A2r 0 R3 K3 fun H3=> ?_
  simp +contextual (disch:=omega) only[go_sem,e1,e2,ei]
  exact hJ _ _ _ _ H3 ⟨by simp +contextual (disch:=omega) only[go_sem,e1],by simp +contextual (disch:=omega) only[go_sem,e2],u',by simp +contextual (disch:=omega) only[go_sem],by rw[Ab3 hi];rfl⟩
 ·clear H
  rintro Yq hY env h U ei c0 H ⟨e1,e2,u,e5,rfl⟩
  have L2:=hb.len
  rw[Zab] at H
  simp +contextual (disch:=omega) only[go_sem,c0,e1,e2,e5,ei,L2]
  exact hY _ _ _ H ⟨by simp +contextual (disch:=omega) only[go_sem,e1],by simp +contextual (disch:=omega) only[go_sem,e2],u,by simp +contextual (disch:=omega) only[go_sem,e5],rfl⟩
 clear H
 rintro env h U H ⟨e1,e2,u,e5,rfl⟩
 simp +contextual (disch:=omega) only[go_sem,e1,e2,e5]
 refine Tm 0 2 (fun _ env h=>env 1=gi 0/\env 2= .ptr n 0/\env 7=gi 0/\∃ u,env 5=u/\h=[.th (ow pS.kd u (A9 txLt (Dx s))),.box 1 n [a,b,c,v]]) (fun env h=>env 1=gi 0/\env 2= .ptr n 0/\∃ u,env 5=u/\h=[.th (ow pS.kd u (A9 txLt (Dx s))),.box 1 n [a,b,c,v]]) (fun env h=>False) _ H ⟨by simp +contextual (disch:=omega) only[go_sem,e1,e2,e5],by simp +contextual (disch:=omega) only[go_sem,e1,e2,e5],by simp +contextual (disch:=omega) only[go_sem,e1,e2,e5],_,by simp +contextual (disch:=omega) only[go_sem,e1,e2,e5],rfl⟩ ?_ ?_ (fun _ _ _ _ h=>h.elim)
 ·clear H
  rintro J Yq Wq hJ hY hW i env h U H ⟨e1,e2,e7,u,e5,rfl⟩
  have L2:=hc.len
  cases c0:decide ((0:Int)<s.lives.length) with
  |true=>
   simp +contextual (disch:=omega) only[go_sem,c0,e1,e2,e5,e7,L2,show(true==false)=false from rfl,show(false==true)=false from rfl,show(true==true)=true from rfl,show(false==false)=true from rfl,show(false ^^ true)=true from rfl,show(false ^^ false)=false from rfl,show((0:Int)==1)=false from rfl,show((0:Int)==2)=false from rfl,show((0:Int)==3)=false from rfl,beq_self_eq_true]
   exact hY _ _ _ H ⟨by simp +contextual (disch:=omega) only[go_sem,e1],by simp +contextual (disch:=omega) only[go_sem,e2],u,by simp +contextual (disch:=omega) only[go_sem,e5],rfl⟩
  |false=>
   simp +contextual (disch:=omega) only[go_sem,c0,e1,e2,e5,e7,L2,show(true==false)=false from rfl,show(false==true)=false from rfl,show(true==true)=true from rfl,show(false==false)=true from rfl,show(false ^^ true)=true from rfl,show(false ^^ false)=false from rfl,show((0:Int)==1)=false from rfl,show((0:Int)==2)=false from rfl,show((0:Int)==3)=false from rfl,beq_self_eq_true]
   exact hY _ _ _ H ⟨by simp +contextual (disch:=omega) only[go_sem,e1],by simp +contextual (disch:=omega) only[go_sem,e2],u,by simp +contextual (disch:=omega) only[go_sem,e5],rfl⟩
 clear H
 rintro env h U H ⟨e1,e2,u,e5,rfl⟩
 simp +contextual (disch:=omega) only[go_sem,e1,e2,e5]
 refine Tm 0 4 (fun _ env h=>env 1=gi 0/\env 2= .ptr n 0/\env 8=gi 0/\∃ u,env 5=u/\h=[.th (ow pS.kd u (A9 txLt (Dx s))),.box 1 n [a,b,c,v]]) (fun env h=>env 1=gi 0/\env 2= .ptr n 0/\∃ u,env 5=u/\h=[.th (ow pS.kd u (A9 txLt (Dx s))),.box 1 n [a,b,c,v]]) (fun env h=>False) _ H ⟨by simp +contextual (disch:=omega) only[go_sem,e1,e2,e5],by simp +contextual (disch:=omega) only[go_sem,e1,e2,e5],by simp +contextual (disch:=omega) only[go_sem,e1,e2,e5],_,by simp +contextual (disch:=omega) only[go_sem,e1,e2,e5],rfl⟩ ?_ ?_ (fun _ _ _ _ h=>h.elim)
 ·clear H
  rintro J Yq Wq hJ hY hW i env h U H ⟨e1,e2,e8,u,e5,rfl⟩
  have L2:=hv.len
  cases c0:decide ((0:Int)<s.cells.length) with
  |true=>
   simp +contextual (disch:=omega) only[go_sem,c0,e1,e2,e5,e8,L2,show(true==false)=false from rfl,show(false==true)=false from rfl,show(true==true)=true from rfl,show(false==false)=true from rfl,show(false ^^ true)=true from rfl,show(false ^^ false)=false from rfl,show((0:Int)==1)=false from rfl,show((0:Int)==2)=false from rfl,show((0:Int)==3)=false from rfl,beq_self_eq_true]
   exact hY _ _ _ H ⟨by simp +contextual (disch:=omega) only[go_sem,e1],by simp +contextual (disch:=omega) only[go_sem,e2],u,by simp +contextual (disch:=omega) only[go_sem,e5],rfl⟩
  |false=>
   simp +contextual (disch:=omega) only[go_sem,c0,e1,e2,e5,e8,L2,show(true==false)=false from rfl,show(false==true)=false from rfl,show(true==true)=true from rfl,show(false==false)=true from rfl,show(false ^^ true)=true from rfl,show(false ^^ false)=false from rfl,show((0:Int)==1)=false from rfl,show((0:Int)==2)=false from rfl,show((0:Int)==3)=false from rfl,beq_self_eq_true]
   exact hY _ _ _ H ⟨by simp +contextual (disch:=omega) only[go_sem,e1],by simp +contextual (disch:=omega) only[go_sem,e2],u,by simp +contextual (disch:=omega) only[go_sem,e5],rfl⟩
 rintro env h U H ⟨e1,e2,u,e5,rfl⟩
 simp +contextual (disch:=omega) only[go_sem,e5]
 exact fun H=>⟨u,rfl,H.re [0] (by decide)⟩
theorem Zc (N:St) (cs:List GV) (s:State) (hR:A8.R N s cs) (hl:A7 s<=1099511627776):∃ r U,Ret Tryz.prog 158 [.agg cs,gi 1] N r U/\Hp N U [ow pS.kd r (A9 txLt (Ba s false))]:=by
 obtain⟨a,b,c,v,rfl,ha,hb,hc,hv⟩:=hR
 obtain⟨l1,l2,l3,l4,_⟩:=Am hl
 refine Ri Hi (Z0z rfl) (Hx.refl N) ?_
 simp +contextual (disch:=omega) only[go_sem,Gm]
 intro n f U _ n2 f2 U2 H
 have H:=H.emp pS.kd rfl
 try simp +contextual (disch:=omega) only[go_sem,beq_self_eq_true,show((1:Int)==0)=false from rfl,show((2:Int)==0)=false from rfl,show((3:Int)==0)=false from rfl]
 refine Cr s.lives.length 7 2 (fun i env h=>env 1=gi 1/\env 2= .ptr n 0/\∃ u,env 5=u/\h=[.th (ow pS.kd u (A9 txLt (((s.lives.take i).filter fun x=>x.map==false).map (·.obj)))),.box 1 n [a,b,c,v]]) (fun env h=>env 1=gi 1/\env 2= .ptr n 0/\∃ u,env 5=u/\h=[.th (ow pS.kd u (A9 txLt (Ba s false))),.box 1 n [a,b,c,v]]) (fun env h=>False) _ H (by simp +contextual (disch:=omega) only[go_sem]) ⟨by simp +contextual (disch:=omega) only[go_sem],by simp +contextual (disch:=omega) only[go_sem],_,by simp +contextual (disch:=omega) only[go_sem],rfl⟩ ?_ ?_ ?_ (fun _ _ _ _ h=>h.elim)
 ·clear H
  rintro J Yq Wq hJ hY hW i env h U hi ei c0 H ⟨e1,e2,u,e5,rfl⟩
  have L1:=A3 hc hi
  have L2:=hc.len
  cases hm:s.lives[i].map with
  |false=>
   obtain⟨u',U3,R3,K3⟩:=Fq s.lives[i].obj H.hp 0 rfl (A6o (by omega))
   simp +contextual (disch:=omega) only[go_sem,c0,e1,e2,e5,ei,A1,L2,L1,hm,show(true==false)=false from rfl,show(false==true)=false from rfl,show(true==true)=true from rfl,show(false==false)=true from rfl,show(false ^^ true)=true from rfl,show(false ^^ false)=false from rfl,show((1:Int)==0)=false from rfl,show((1:Int)==2)=false from rfl,show((1:Int)==3)=false from rfl,beq_self_eq_true]
   refine A2r 0 R3 K3 fun H3=> ?_
   simp +contextual (disch:=omega) only[go_sem,e1,e2,ei]
   exact hJ _ _ _ _ H3 ⟨by simp +contextual (disch:=omega) only[go_sem,e1],by simp +contextual (disch:=omega) only[go_sem,e2],u',by simp +contextual (disch:=omega) only[go_sem],by rw[A3i hi (by rw[hm];rfl),Iq];rfl⟩
  |true=>
   simp +contextual (disch:=omega) only[go_sem,c0,e1,e2,e5,ei,A1,L2,L1,hm,show(true==false)=false from rfl,show(false==true)=false from rfl,show(true==true)=true from rfl,show(false==false)=true from rfl,show(false ^^ true)=true from rfl,show(false ^^ false)=false from rfl,show((1:Int)==0)=false from rfl,show((1:Int)==2)=false from rfl,show((1:Int)==3)=false from rfl,beq_self_eq_true]
   exact hJ _ _ _ _ H ⟨by simp +contextual (disch:=omega) only[go_sem,e1],by simp +contextual (disch:=omega) only[go_sem,e2],u,by simp +contextual (disch:=omega) only[go_sem,e5],by rw[A3j hi (by rw[hm];rfl)]⟩
 ·clear H
  rintro Yq hY env h U ei c0 H ⟨e1,e2,u,e5,rfl⟩
  have L2:=hc.len
  rw[Zab] at H
  simp +contextual (disch:=omega) only[go_sem,c0,e1,e2,e5,ei,L2]
  exact hY _ _ _ H ⟨by simp +contextual (disch:=omega) only[go_sem,e1],by simp +contextual (disch:=omega) only[go_sem,e2],u,by simp +contextual (disch:=omega) only[go_sem,e5],rfl⟩
 clear H
 rintro env h U H ⟨e1,e2,u,e5,rfl⟩
 simp +contextual (disch:=omega) only[go_sem,e1,e2,e5]
 refine Tm 0 4 (fun _ env h=>env 1=gi 1/\env 2= .ptr n 0/\env 8=gi 0/\∃ u,env 5=u/\h=[.th (ow pS.kd u (A9 txLt (Ba s false))),.box 1 n [a,b,c,v]]) (fun env h=>env 1=gi 1/\env 2= .ptr n 0/\∃ u,env 5=u/\h=[.th (ow pS.kd u (A9 txLt (Ba s false))),.box 1 n [a,b,c,v]]) (fun env h=>False) _ H ⟨by simp +contextual (disch:=omega) only[go_sem,e1,e2,e5],by simp +contextual (disch:=omega) only[go_sem,e1,e2,e5],by simp +contextual (disch:=omega) only[go_sem,e1,e2,e5],_,by simp +contextual (disch:=omega) only[go_sem,e1,e2,e5],rfl⟩ ?_ ?_ (fun _ _ _ _ h=>h.elim)
 ·clear H
  rintro J Yq Wq hJ hY hW i env h U H ⟨e1,e2,e8,u,e5,rfl⟩
  have L2:=hv.len
  cases c0:decide ((0:Int)<s.cells.length) with
  |true=>
   simp +contextual (disch:=omega) only[go_sem,c0,e1,e2,e5,e8,L2,show(true==false)=false from rfl,show(false==true)=false from rfl,show(true==true)=true from rfl,show(false==false)=true from rfl,show(false ^^ true)=true from rfl,show(false ^^ false)=false from rfl,show((1:Int)==0)=false from rfl,show((1:Int)==2)=false from rfl,show((1:Int)==3)=false from rfl,beq_self_eq_true]
   exact hY _ _ _ H ⟨by simp +contextual (disch:=omega) only[go_sem,e1],by simp +contextual (disch:=omega) only[go_sem,e2],u,by simp +contextual (disch:=omega) only[go_sem,e5],rfl⟩
  |false=>
   simp +contextual (disch:=omega) only[go_sem,c0,e1,e2,e5,e8,L2,show(true==false)=false from rfl,show(false==true)=false from rfl,show(true==true)=true from rfl,show(false==false)=true from rfl,show(false ^^ true)=true from rfl,show(false ^^ false)=false from rfl,show((1:Int)==0)=false from rfl,show((1:Int)==2)=false from rfl,show((1:Int)==3)=false from rfl,beq_self_eq_true]
   exact hY _ _ _ H ⟨by simp +contextual (disch:=omega) only[go_sem,e1],by simp +contextual (disch:=omega) only[go_sem,e2],u,by simp +contextual (disch:=omega) only[go_sem,e5],rfl⟩
 rintro env h U H ⟨e1,e2,u,e5,rfl⟩
 simp +contextual (disch:=omega) only[go_sem,e5]
 exact fun H=>⟨u,rfl,H.re [0] (by decide)⟩
theorem Zd (N:St) (cs:List GV) (s:State) (hR:A8.R N s cs) (hl:A7 s<=1099511627776):∃ r U,Ret Tryz.prog 158 [.agg cs,gi 2] N r U/\Hp N U [ow pS.kd r (A9 txLt (Ba s true))]:=by
 obtain⟨a,b,c,v,rfl,ha,hb,hc,hv⟩:=hR
 obtain⟨l1,l2,l3,l4,_⟩:=Am hl
 refine Ri Hi (Z0z rfl) (Hx.refl N) ?_
 simp +contextual (disch:=omega) only[go_sem,Gm]
 intro n f U _ n2 f2 U2 H
 have H:=H.emp pS.kd rfl
 try simp +contextual (disch:=omega) only[go_sem,beq_self_eq_true,show((1:Int)==0)=false from rfl,show((2:Int)==0)=false from rfl,show((3:Int)==0)=false from rfl]
 refine Cr s.lives.length 7 2 (fun i env h=>env 1=gi 2/\env 2= .ptr n 0/\∃ u,env 5=u/\h=[.th (ow pS.kd u (A9 txLt (((s.lives.take i).filter fun x=>x.map==true).map (·.obj)))),.box 1 n [a,b,c,v]]) (fun env h=>env 1=gi 2/\env 2= .ptr n 0/\∃ u,env 5=u/\h=[.th (ow pS.kd u (A9 txLt (Ba s true))),.box 1 n [a,b,c,v]]) (fun env h=>False) _ H (by simp +contextual (disch:=omega) only[go_sem]) ⟨by simp +contextual (disch:=omega) only[go_sem],by simp +contextual (disch:=omega) only[go_sem],_,by simp +contextual (disch:=omega) only[go_sem],rfl⟩ ?_ ?_ ?_ (fun _ _ _ _ h=>h.elim)
 ·clear H
  rintro J Yq Wq hJ hY hW i env h U hi ei c0 H ⟨e1,e2,u,e5,rfl⟩
  have L1:=A3 hc hi
  have L2:=hc.len
  cases hm:s.lives[i].map with
  |true=>
   obtain⟨u',U3,R3,K3⟩:=Fq s.lives[i].obj H.hp 0 rfl (A6o (by omega))
   simp +contextual (disch:=omega) only[go_sem,c0,e1,e2,e5,ei,A1,L2,L1,hm,show(true==false)=false from rfl,show(false==true)=false from rfl,show(true==true)=true from rfl,show(false==false)=true from rfl,show(false ^^ true)=true from rfl,show(false ^^ false)=false from rfl,show((2:Int)==0)=false from rfl,show((2:Int)==1)=false from rfl,show((2:Int)==3)=false from rfl,beq_self_eq_true]
   refine A2r 0 R3 K3 fun H3=> ?_
   simp +contextual (disch:=omega) only[go_sem,e1,e2,ei]
   exact hJ _ _ _ _ H3 ⟨by simp +contextual (disch:=omega) only[go_sem,e1],by simp +contextual (disch:=omega) only[go_sem,e2],u',by simp +contextual (disch:=omega) only[go_sem],by rw[A3i hi (by rw[hm];rfl),Iq];rfl⟩
  |false=>
   simp +contextual (disch:=omega) only[go_sem,c0,e1,e2,e5,ei,A1,L2,L1,hm,show(true==false)=false from rfl,show(false==true)=false from rfl,show(true==true)=true from rfl,show(false==false)=true from rfl,show(false ^^ true)=true from rfl,show(false ^^ false)=false from rfl,show((2:Int)==0)=false from rfl,show((2:Int)==1)=false from rfl,show((2:Int)==3)=false from rfl,beq_self_eq_true]
   exact hJ _ _ _ _ H ⟨by simp +contextual (disch:=omega) only[go_sem,e1],by simp +contextual (disch:=omega) only[go_sem,e2],u,by simp +contextual (disch:=omega) only[go_sem,e5],by rw[A3j hi (by rw[hm];rfl)]⟩
 ·clear H
  rintro Yq hY env h U ei c0 H ⟨e1,e2,u,e5,rfl⟩
  have L2:=hc.len
  rw[Zab] at H
  simp +contextual (disch:=omega) only[go_sem,c0,e1,e2,e5,ei,L2]
  exact hY _ _ _ H ⟨by simp +contextual (disch:=omega) only[go_sem,e1],by simp +contextual (disch:=omega) only[go_sem,e2],u,by simp +contextual (disch:=omega) only[go_sem,e5],rfl⟩
 clear H
 rintro env h U H ⟨e1,e2,u,e5,rfl⟩
 simp +contextual (disch:=omega) only[go_sem,e1,e2,e5]
 refine Tm 0 4 (fun _ env h=>env 1=gi 2/\env 2= .ptr n 0/\env 8=gi 0/\∃ u,env 5=u/\h=[.th (ow pS.kd u (A9 txLt (Ba s true))),.box 1 n [a,b,c,v]]) (fun env h=>env 1=gi 2/\env 2= .ptr n 0/\∃ u,env 5=u/\h=[.th (ow pS.kd u (A9 txLt (Ba s true))),.box 1 n [a,b,c,v]]) (fun env h=>False) _ H ⟨by simp +contextual (disch:=omega) only[go_sem,e1,e2,e5],by simp +contextual (disch:=omega) only[go_sem,e1,e2,e5],by simp +contextual (disch:=omega) only[go_sem,e1,e2,e5],_,by simp +contextual (disch:=omega) only[go_sem,e1,e2,e5],rfl⟩ ?_ ?_ (fun _ _ _ _ h=>h.elim)
 ·clear H
  rintro J Yq Wq hJ hY hW i env h U H ⟨e1,e2,e8,u,e5,rfl⟩
  have L2:=hv.len
  cases c0:decide ((0:Int)<s.cells.length) with
  |true=>
   simp +contextual (disch:=omega) only[go_sem,c0,e1,e2,e5,e8,L2,show(true==false)=false from rfl,show(false==true)=false from rfl,show(true==true)=true from rfl,show(false==false)=true from rfl,show(false ^^ true)=true from rfl,show(false ^^ false)=false from rfl,show((2:Int)==0)=false from rfl,show((2:Int)==1)=false from rfl,show((2:Int)==3)=false from rfl,beq_self_eq_true]
   exact hY _ _ _ H ⟨by simp +contextual (disch:=omega) only[go_sem,e1],by simp +contextual (disch:=omega) only[go_sem,e2],u,by simp +contextual (disch:=omega) only[go_sem,e5],rfl⟩
  |false=>
   simp +contextual (disch:=omega) only[go_sem,c0,e1,e2,e5,e8,L2,show(true==false)=false from rfl,show(false==true)=false from rfl,show(true==true)=true from rfl,show(false==false)=true from rfl,show(false ^^ true)=true from rfl,show(false ^^ false)=false from rfl,show((2:Int)==0)=false from rfl,show((2:Int)==1)=false from rfl,show((2:Int)==3)=false from rfl,beq_self_eq_true]
   exact hY _ _ _ H ⟨by simp +contextual (disch:=omega) only[go_sem,e1],by simp +contextual (disch:=omega) only[go_sem,e2],u,by simp +contextual (disch:=omega) only[go_sem,e5],rfl⟩
 rintro env h U H ⟨e1,e2,u,e5,rfl⟩
 simp +contextual (disch:=omega) only[go_sem,e5]
 exact fun H=>⟨u,rfl,H.re [0] (by decide)⟩
theorem Ze (N:St) (cs:List GV) (s:State) (hR:A8.R N s cs) (hl:A7 s<=1099511627776):∃ r U,Ret Tryz.prog 158 [.agg cs,gi 3] N r U/\Hp N U [ow pS.kd r (A9 txLt (Dy s))]:=by
 obtain⟨a,b,c,v,rfl,ha,hb,hc,hv⟩:=hR
 obtain⟨l1,l2,l3,l4,_⟩:=Am hl
 refine Ri Hi (Z0z rfl) (Hx.refl N) ?_
 simp +contextual (disch:=omega) only[go_sem,Gm]
 intro n f U _ n2 f2 U2 H
 have H:=H.emp pS.kd rfl
 try simp +contextual (disch:=omega) only[go_sem,beq_self_eq_true,show((1:Int)==0)=false from rfl,show((2:Int)==0)=false from rfl,show((3:Int)==0)=false from rfl]
 refine Tm 0 2 (fun _ env h=>env 1=gi 3/\env 2= .ptr n 0/\env 7=gi 0/\∃ u,env 5=u/\h=[.th (ow pS.kd u (A9 txLt [])),.box 1 n [a,b,c,v]]) (fun env h=>env 1=gi 3/\env 2= .ptr n 0/\∃ u,env 5=u/\h=[.th (ow pS.kd u (A9 txLt [])),.box 1 n [a,b,c,v]]) (fun env h=>False) _ H ⟨by simp +contextual (disch:=omega) only[go_sem],by simp +contextual (disch:=omega) only[go_sem],by simp +contextual (disch:=omega) only[go_sem],_,by simp +contextual (disch:=omega) only[go_sem],rfl⟩ ?_ ?_ (fun _ _ _ _ h=>h.elim)
 ·clear H
  rintro J Yq Wq hJ hY hW i env h U H ⟨e1,e2,e7,u,e5,rfl⟩
  have L2:=hc.len
  cases c0:decide ((0:Int)<s.lives.length) with
  |true=>
   simp +contextual (disch:=omega) only[go_sem,c0,e1,e2,e5,e7,L2,show(true==false)=false from rfl,show(false==true)=false from rfl,show(true==true)=true from rfl,show(false==false)=true from rfl,show(false ^^ true)=true from rfl,show(false ^^ false)=false from rfl,show((3:Int)==0)=false from rfl,show((3:Int)==1)=false from rfl,show((3:Int)==2)=false from rfl,beq_self_eq_true]
   exact hY _ _ _ H ⟨by simp +contextual (disch:=omega) only[go_sem,e1],by simp +contextual (disch:=omega) only[go_sem,e2],u,by simp +contextual (disch:=omega) only[go_sem,e5],rfl⟩
  |false=>
   simp +contextual (disch:=omega) only[go_sem,c0,e1,e2,e5,e7,L2,show(true==false)=false from rfl,show(false==true)=false from rfl,show(true==true)=true from rfl,show(false==false)=true from rfl,show(false ^^ true)=true from rfl,show(false ^^ false)=false from rfl,show((3:Int)==0)=false from rfl,show((3:Int)==1)=false from rfl,show((3:Int)==2)=false from rfl,beq_self_eq_true]
   exact hY _ _ _ H ⟨by simp +contextual (disch:=omega) only[go_sem,e1],by simp +contextual (disch:=omega) only[go_sem,e2],u,by simp +contextual (disch:=omega) only[go_sem,e5],rfl⟩
 clear H
 rintro env h U H ⟨e1,e2,u,e5,rfl⟩
 simp +contextual (disch:=omega) only[go_sem,e1,e2,e5]
 refine Cr s.cells.length 8 4 (fun i env h=>env 1=gi 3/\env 2= .ptr n 0/\∃ u,env 5=u/\h=[.th (ow pS.kd u (A9 txLt ((s.cells.take i).map (·.obj)))),.box 1 n [a,b,c,v]]) (fun env h=>env 1=gi 3/\env 2= .ptr n 0/\∃ u,env 5=u/\h=[.th (ow pS.kd u (A9 txLt (Dy s))),.box 1 n [a,b,c,v]]) (fun env h=>False) _ H (by simp +contextual (disch:=omega) only[go_sem,e1,e2,e5]) ⟨by simp +contextual (disch:=omega) only[go_sem,e1,e2,e5],by simp +contextual (disch:=omega) only[go_sem,e1,e2,e5],_,by simp +contextual (disch:=omega) only[go_sem,e1,e2,e5],rfl⟩ ?_ ?_ ?_ (fun _ _ _ _ h=>h.elim)
 ·clear H
  rintro J Yq Wq hJ hY hW i env h U hi ei c0 H ⟨e1,e2,u,e5,rfl⟩
  have L1:=A5 hv hi
  have L2:=hv.len
  obtain⟨u',U3,R3,K3⟩:=Fq s.cells[i].obj H.hp 0 rfl (Aeb (by omega))
  simp +contextual (disch:=omega) only[go_sem,c0,e1,e2,e5,ei,A1,L2,L1,beq_self_eq_true,show(true==false)=false from rfl,show(false==true)=false from rfl,show(true==true)=true from rfl,show(false==false)=true from rfl,show(false ^^ true)=true from rfl,show(false ^^ false)=false from rfl,show((3:Int)==0)=false from rfl,show((3:Int)==1)=false from rfl,show((3:Int)==2)=false from rfl,beq_self_eq_true]
  refine A2r 0 R3 K3 fun H3=> ?_
  simp +contextual (disch:=omega) only[go_sem,e1,e2,ei]
  exact hJ _ _ _ _ H3 ⟨by simp +contextual (disch:=omega) only[go_sem,e1],by simp +contextual (disch:=omega) only[go_sem,e2],u',by simp +contextual (disch:=omega) only[go_sem],by rw[Ab3 hi];rfl⟩
 ·clear H
  rintro Yq hY env h U ei c0 H ⟨e1,e2,u,e5,rfl⟩
  have L2:=hv.len
  rw[Zab] at H
  simp +contextual (disch:=omega) only[go_sem,c0,e1,e2,e5,ei,L2]
  exact hY _ _ _ H ⟨by simp +contextual (disch:=omega) only[go_sem,e1],by simp +contextual (disch:=omega) only[go_sem,e2],u,by simp +contextual (disch:=omega) only[go_sem,e5],rfl⟩
 rintro env h U H ⟨e1,e2,u,e5,rfl⟩
 simp +contextual (disch:=omega) only[go_sem,e5]
 exact fun H=>⟨u,rfl,H.re [0] (by decide)⟩
def cntL (s:State) (o:ByteArray):ByteArray:=joB [⟨#[99,111,117,110,116]⟩,o] ⟨#[32]⟩++L9 [By s o]
def setL (s:State) (o:ByteArray):ByteArray:=Oe ([⟨#[115,101,116]⟩,o]++B8 s false o)
def mapL (s:State) (o k:ByteArray):ByteArray:=joB [⟨#[109,97,112]⟩,o,k] ⟨#[32]⟩++L9 (Pp s o k)
def Oh (s:State) (o:ByteArray):ByteArray:=catS ((B8 s true o).map (mapL s o))
def La (s:State) (o:ByteArray):ByteArray:=joB [⟨#[114,111,119]⟩,o] ⟨#[32]⟩++L9 (Lu s o)
def M3 (s:State):ByteArray:=joB [⟨#[107,110,111,119]⟩] ⟨#[32]⟩++L9 s.know
def shw0 (s:State):ByteArray:=M3 s++catS ((A9 txLt (Dx s)).map (cntL s))
def shw1 (s:State):ByteArray:=shw0 s++catS ((A9 txLt (Ba s false)).map (setL s))
def shw2 (s:State):ByteArray:=shw1 s++catS ((A9 txLt (Ba s true)).map (Oh s))
def shw3 (s:State):ByteArray:=shw2 s++catS ((A9 txLt (Dy s)).map (La s))
def Oi (s:State):ByteArray:=if C9 s then shw3 s else⟨#[]⟩
theorem Cg {ks:List ByteArray} {f:ByteArray->ByteArray} {B:ByteArray} {c:Nat} (hf:∀ o∈ks,(f o).size<=c) (hn:ks.length<=120) (i:Nat):(B++catS ((ks.take i).map f)).size<=B.size+120*c:=by
 have h1:=A5f (l:=(ks.take i).map f) (k:=c) fun s hs=>by
  obtain⟨o,ho,rfl⟩:=Zay.1 hs
  exact hf o (Za1 ho)
 have h2:((ks.take i).map f).length*c<=120*c:=Zao _ (by rw[Zae,Zag];omega)
 rw[ByteArray.size_append];omega
theorem Kv {ks:List ByteArray} {f:ByteArray->ByteArray} {B:ByteArray} {c:Nat} (hf:∀ o∈ks,(f o).size<=c) (hn:ks.length<=120):(B++catS (ks.map f)).size<=B.size+120*c:=by
 have:=Cg (B:=B) hf hn ks.length
 rwa [Zab] at this
theorem Cy {ks:List ByteArray} {f:ByteArray->ByteArray} {B:ByteArray} {i:Nat} (hi:i<ks.length):B++catS ((ks.take (i+1)).map f)=B++catS ((ks.take i).map f)++f ks[i]:=by rw[Mm hi,A5e,ByteArray.append_assoc]
theorem Jz {ks:List ByteArray} {f:ByteArray->ByteArray} {B:ByteArray}:B++catS ((ks.take 0).map f)=B:=X7 B
theorem Pw (a b sep:ByteArray):joB [a,b] sep=a++sep++b:=by
 have:=A3f (l:=[a]) (by simp) b sep
 rw[Pu] at this;exact this
theorem A6p (a b c sep:ByteArray):joB [a,b,c] sep=a++sep++b++sep++c:=by
 have:=A3f (l:=[a,b]) (by simp) c sep
 rw[Pw] at this;exact this
theorem Kw {s:State} (hl:A7 s<=1048576):(∀ o∈A9 txLt (Dx s),o.size<=1048576)/\(∀ m,∀ o∈A9 txLt (Ba s m),o.size<=1048576)/\∀ o∈A9 txLt (Dy s),o.size<=1048576:=by
 have key:=fun l x=>((Lt (lt:=txLt) (fun x y z=>Ga) Mx l).2 x).1
 refine⟨fun o ho=> ?_,fun m o ho=> ?_,fun o ho=> ?_⟩
 ·obtain⟨x,hx,rfl⟩:=Zay.1 (key _ _ ho)
  have:x.obj.size<=sumL Ar s.tallies:=Cj (f:=Ar) hx
  unfold A7 at hl;omega
 ·obtain⟨x,hx,rfl⟩:=Zay.1 (key _ _ ho)
  have:x.obj.size+x.key.size<=sumL Bk s.lives:=Cj (f:=Bk) (List.mem_filter.1 hx).1
  unfold A7 at hl;omega
 ·obtain⟨x,hx,rfl⟩:=Zay.1 (key _ _ ho)
  have:x.obj.size<=sumL Ce s.cells:=Cj (f:=Ce) hx
  unfold A7 at hl;omega
theorem Px {s:State} (h:OkS s):(A9 txLt (Dx s)).length<=120/\(∀ m,(A9 txLt (Ba s m)).length<=120)/\(A9 txLt (Dy s)).length<=120:=by
 refine⟨?_,fun m=> ?_,?_⟩
 ·have:=Cb txLt (Dx s)
  have h2:=h.tn
  simp only[Dx,Zae] at *;omega
 ·have:=Cb txLt (Ba s m)
  have h2:=Zan (fun x:Live=>x.map==m) s.lives
  have h3:=h.ln
  simp only[Ba,Zae] at *;omega
 ·have:=Cb txLt (Dy s)
  have h2:=h.cn
  simp only[Dy,Zae] at *;omega
theorem Ky {s:State} (h:OkS s) (m:Bool) (o:ByteArray):(B8 s m o).length<=120:=by
 have h1:=Cb txLt ((s.lives.filter (Bf m o)).map (·.key))
 rw[Zae] at h1
 have h2:=Zan (Bf m o) s.lives
 have h3:=h.ln
 unfold B8;omega
theorem A6q {s:State} (h:OkS s):∀ x∈s.know,x≤9223372036854775807:=fun x hx=>by
 have:=h.kn
 simp only[okK,Za4,List.all_eq_true] at this
 have h2:=Tn.1 (this.1 x hx)
 omega
theorem Oj {s:State} {o:ByteArray} (ho:o.size<=1048576):(cntL s o).size<=1048606:=by
 have h1:=Fg (Oc s o)
 have e1:(⟨#[99,111,117,110,116]⟩:ByteArray).size=5:=rfl
 have e2:(⟨#[32]⟩:ByteArray).size=1:=rfl
 simp only[Zai,Zaj] at h1
 rw[cntL,Pw,ByteArray.size_append,ByteArray.size_append,ByteArray.size_append];omega
theorem A6r {s:State} (hl:A7 s<=1048576) {o:ByteArray} (ho:o.size<=1048576):∀ x∈[⟨#[115,101,116]⟩,o]++B8 s false o,x.size<=1048576:=fun x hx=>by
 rcases Zas.1 hx with h|h
 ·simp only[Zax,Zaq,or_false] at h
  rcases h with rfl|rfl
  ·exact Z0z rfl
  ·exact ho
 ·exact Od hl false o x h
theorem A1i {l:List ByteArray} {b:Nat} (h:∀ x∈l,x.size<=b):(Oe l).size<=l.length*(b+1)+1:=by
 have h1:=Afd (sep:=⟨#[32]⟩) h
 have e2:(⟨#[32]⟩:ByteArray).size=1:=rfl
 have e3:(⟨#[10]⟩:ByteArray).size=1:=rfl
 rw[e2] at h1
 rw[Oe,ByteArray.size_append];omega
theorem Ok {s:State} (h:OkS s) (hl:A7 s<=1048576) {o:ByteArray} (ho:o.size<=1048576):(setL s o).size<=127926395:=by
 have h1:=A1i (A6r hl ho)
 have h2:=Ky h false o
 have h3:([⟨#[115,101,116]⟩,o]++B8 s false o).length*(1048576+1)<=122*1048577:=Zao _ (by simp only[Zah,Zai,Zaj];omega)
 unfold setL;omega
theorem Ol {s:State} (hI:stI s) (hl:A7 s<=1048576) {o k:ByteArray} (ho:o.size<=1048576) (hk:k.size<=1048576):(mapL s o k).size<=25165830:=by
 have h1:=Fg (X1 hI o k)
 have h2:=A3d s o k
 have e1:(⟨#[109,97,112]⟩:ByteArray).size=3:=rfl
 have e2:(⟨#[32]⟩:ByteArray).size=1:=rfl
 rw[mapL,A6p,ByteArray.size_append,ByteArray.size_append,ByteArray.size_append,ByteArray.size_append,ByteArray.size_append];omega
theorem Py {s:State} (h:OkS s) (hI:stI s) (hl:A7 s<=1048576) {o:ByteArray} (ho:o.size<=1048576):(Oh s o).size<=3019899600:=by
 have:=Kv (B:=⟨#[]⟩) (f:=mapL s o) (fun k hk=>Ol hI hl ho (Od hl true o k hk)) (Ky h true o)
 rw[X0] at this
 have e:(⟨#[]⟩:ByteArray).size=0:=rfl
 unfold Oh;omega
theorem Kz {s:State} (hI:stI s) {o:ByteArray} (ho:o.size<=1048576):(La s o).size<=27451221:=by
 have h1:=Fg (X2 hI o)
 have h2:=A3e s o
 have e1:(⟨#[114,111,119]⟩:ByteArray).size=3:=rfl
 have e2:(⟨#[32]⟩:ByteArray).size=1:=rfl
 rw[La,Pw,ByteArray.size_append,ByteArray.size_append,ByteArray.size_append];omega
theorem Pz {s:State} (h:OkS s) (hl:A7 s<=1048576):(M3 s).size<=23068677:=by
 have h1:=Fg (A6q h)
 have h2:s.know.length<=A7 s:=by unfold A7;omega
 have e1:(⟨#[107,110,111,119]⟩:ByteArray).size=4:=rfl
 rw[M3,Pu,ByteArray.size_append];omega
theorem X9 {s:State} (h:OkS s) (hl:A7 s<=1048576):(shw0 s).size<=148901397:=by
 have:=Kv (B:=M3 s) (f:=cntL s) (fun o ho=>Oj ((Kw hl).1 o ho)) (Px h).1
 have h2:=Pz h hl
 unfold shw0;omega
theorem Xa {s:State} (h:OkS s) (hl:A7 s<=1048576):(shw1 s).size<=15500068797:=by
 have:=Kv (B:=shw0 s) (f:=setL s) (fun o ho=>Ok h hl ((Kw hl).2.1 _ o ho)) ((Px h).2.1 false)
 have h2:=X9 h hl
 unfold shw1;omega
theorem Xb {s:State} (h:OkS s) (hI:stI s) (hl:A7 s<=1048576):(shw2 s).size<=377888020797:=by
 have:=Kv (B:=shw1 s) (f:=Oh s) (fun o ho=>Py h hI hl ((Kw hl).2.1 _ o ho)) ((Px h).2.1 true)
 have h2:=Xa h hl
 unfold shw2;omega
theorem Aec {s:State} (h:OkS s) (hI:stI s) (hl:A7 s<=1048576):(shw3 s).size<=381182167317:=by
 have:=Kv (B:=shw2 s) (f:=La s) (fun o ho=>Kz hI ((Kw hl).2.2 o ho)) (Px h).2.2
 have h2:=Xb h hI hl
 unfold shw3;omega
theorem A1j {s:State} (hI:stI s) (hl:A7 s<=1048576):(Oi s).size<=381182167317:=by
 unfold Oi
 split
 ·rename_i h;exact Aec (A9n.1 h) hI hl
 ·exact Z0z rfl
theorem Hx.row {Y:Type} {p:Pl Y} {N U:St} {h:List Item} {n z:Nat} {cs:List GV} (H:Hx N U (.box z n cs::h)) (l:List Y) (hc:cs=p.cells l) (hz:z=p.z):Hx N U (.th (ow p.kd (.sl n 0 l.length) l)::h):=by
 subst hc hz
 exact H.hp.toRow 0 rfl l rfl rfl _ rfl
def On:Fn1:=⟨163,[.t 2],(rg [oX 1 0,o 2 (.mov (.k s0))] (.seq (rg [oW 24 4 1,oC 25 160 24,oU 26 25] (oG 26 (rg [o 2 (.mov (.k s0))] .ret))) (rg [o 27 (.lit 1 0 [] []),o 28 (.lit 1 0 [] []),o 29 (.lit 1 0 [] []),o 30 (.lit 1 0 [] []),oM 3 27,oM 4 28,oM 5 29,oM 6 30] (.seq (rg [oF 31 1 1,oL 32 31,oN 33 32,oV 34 (ki 0)] (oH 0 (rg [oB 35 .lss 34 33] (.seq (oJ 35 0) (.seq (.blk 1 (rg [oI 36 3 32 34,oW 37 3 36,o 8 (.new [s0,z0,z0]),oS 3 8 37] (.reg [oM 38 3,oF 39 0 8,oL 40 39,o 41 (.lit 1 1 [s0] [(0,1,(.t 40))]),o 42 (.app 1 16 [s0] (.t 38) (.t 41)),oM 3 42]))) (.reg [oZ 43 34 1,oM 34 43])))))) (.seq (rg [oF 44 2 1,oL 45 44,oN 46 45,oV 47 (ki 0)] (oH 2 (rg [oB 48 .lss 47 46] (.seq (oJ 48 2) (.seq (.blk 3 (rg [oI 49 6 45 47,oW 50 6 49,o 10 (.new [(.bool false),s0,s0,z0,z0,z0]),oS 6 10 50] (rg [oF 51 0 10,oL 52 51] (cn 52 (.reg [oM 53 5,oF 54 1 10,oL 55 54,o 56 (.lit 1 1 [s0] [(0,1,(.t 55))]),o 57 (.app 1 16 [s0] (.t 53) (.t 56)),oM 5 57]) (.reg [oM 58 4,oF 59 1 10,oL 60 59,o 61 (.lit 1 1 [s0] [(0,1,(.t 60))]),o 62 (.app 1 16 [s0] (.t 58) (.t 61)),oM 4 62]))))) (.reg [oZ 63 47 1,oM 47 63])))))) (.seq (rg [oF 64 3 1,oL 65 64,oN 66 65,oV 67 (ki 0)] (oH 4 (rg [oB 68 .lss 67 66] (.seq (oJ 68 4) (.seq (.blk 5 (rg [oI 69 8 65 67,oW 70 8 69,o 12 (.new [s0,z0,z0,z0,z0,z0,z0,(.bool false)]),oS 8 12 70] (.reg [oM 71 6,oF 72 0 12,oL 73 72,o 74 (.lit 1 1 [s0] [(0,1,(.t 73))]),o 75 (.app 1 16 [s0] (.t 71) (.t 74)),oM 6 75]))) (.reg [oZ 76 67 1,oM 67 76])))))) (rg [oF 77 0 1,oL 78 77,o 79 (.lit 1 1 [s0] [(0,1,(.k (.str ⟨#[107,110,111,119]⟩)))]),oD 80 162 78 79,oC 81 161 80,oM 13 81] (.seq (rg [oM 82 3,oC 83 163 82,oN 84 83,oV 85 (ki 0)] (oH 6 (rg [oB 86 .lss 85 84] (.seq (oJ 86 6) (.seq (.blk 7 (rg [oI 87 1 83 85,oL 88 87,oM 15 88] (.reg [oM 89 13,oW 90 4 1,oM 91 15,oD 92 103 90 91,o 93 (.lit 1 1 [z0] [(0,1,(.t 92))]),oM 94 15,o 95 (.lit 1 2 [s0,s0] [(0,1,(.k (.str ⟨#[99,111,117,110,116]⟩))),(1,1,(.t 94))]),oD 96 162 93 95,oC 97 161 96,oB 98 .add 89 97,oM 13 98]))) (.reg [oZ 99 85 1,oM 85 99])))))) (.seq (rg [oM 100 4,oC 101 163 100,oN 102 101,oV 103 (ki 0)] (oH 8 (rg [oB 104 .lss 103 102] (.seq (oJ 104 8) (.seq (.blk 9 (rg [oI 105 1 101 103,oL 106 105,oM 17 106] (.reg [oM 107 13,oM 108 17,o 109 (.lit 1 2 [s0,s0] [(0,1,(.k (.str ⟨#[115,101,116]⟩))),(1,1,(.t 108))]),oW 110 4 1,oM 111 17,oD 112 105 110 111,o 113 (.app 1 16 [s0] (.t 109) (.t 112)),oC 114 161 113,oB 115 .add 107 114,oM 13 115]))) (.reg [oZ 116 103 1,oM 103 116])))))) (.seq (rg [oM 117 5,oC 118 163 117,oN 119 118,oV 120 (ki 0)] (oH 10 (rg [oB 121 .lss 120 119] (.seq (oJ 121 10) (.seq (.blk 11 (rg [oI 122 1 118 120,oL 123 122,oM 19 123] (rg [oW 124 4 1,oM 125 19,oD 126 144 124 125,oN 127 126,oV 128 (ki 0)] (oH 12 (rg [oB 129 .lss 128 127] (.seq (oJ 129 12) (.seq (.blk 13 (rg [oI 130 1 126 128,oL 131 130,oM 21 131] (.reg [oM 132 13,oW 133 4 1,oM 134 19,oM 135 21,o 136 (.call 106 (oT [133,134,135])),oM 137 19,oM 138 21,o 139 (.lit 1 3 [s0,s0,s0] [(0,1,(.k (.str ⟨#[109,97,112]⟩))),(1,1,(.t 137)),(2,1,(.t 138))]),oD 140 162 136 139,oC 141 161 140,oB 142 .add 132 141,oM 13 142]))) (.reg [oZ 143 128 1,oM 128 143])))))))) (.reg [oZ 144 120 1,oM 120 144])))))) (.seq (rg [oM 145 6,oC 146 163 145,oN 147 146,oV 148 (ki 0)] (oH 14 (rg [oB 149 .lss 148 147] (.seq (oJ 149 14) (.seq (.blk 15 (rg [oI 150 1 146 148,oL 151 150,oM 23 151] (.reg [oM 152 13,oW 153 4 1,oM 154 23,oD 155 107 153 154,oM 156 23,o 157 (.lit 1 2 [s0,s0] [(0,1,(.k (.str ⟨#[114,111,119]⟩))),(1,1,(.t 156))]),oD 158 162 155 157,oC 159 161 158,oB 160 .add 152 159,oM 13 160]))) (.reg [oZ 161 148 1,oM 148 161])))))) (rg [oM 162 13,oM 2 162] .ret))))))))))))⟩
theorem Zf:A4 Tryz.prog 67=some On:=by kernel_rfl
theorem K6 (N:St) (cs:List GV) (s:State) (hR:A8.R N s cs) (hl:A7 s<=1048576) (hI:stI s):Ret Tryz.prog 67 [.agg cs] N (.str (Oi s)) N:=by
 have hR0:=hR
 obtain⟨a,b,c,v,rfl,ha,hb,hc,hv⟩:=hR
 have hl':A7 s<=1099511627776:=by omega
 have gl:([a,b,c,v]:List GV).length=4:=rfl
 refine Jj Zf (Z0z rfl) trivial ?_
 simp +contextual (disch:=omega) only[go_sem,On]
 intro n f U H
 refine by_b H (Mu U _ s (A8.pre hR0 H.sub) hl') (fun hok=> ?_) (fun hok=> ?_)
 rotate_left
 ·simp +contextual (disch:=omega) only[go_sem]
  simp[Oi,hok]
 have O:=A9n.1 hok
 have hS:Oi s=shw3 s:=by simp[Oi,hok]
 rw[hS]
 simp +contextual (disch:=omega) only[go_sem,hb.len]
 intro n1 f1 U1 _ n2 f2 U2 _ n3 f3 U3 _ n4 f4 U4 H4
 have H4:=(((((H4.emp pS.kd rfl).re [1,0,2,3,4] (by decide)).emp pS.kd rfl).re [2,0,1,3,4] (by decide)).emp pS.kd rfl)
 have H4:=(H4.re [3,0,1,2,4] (by decide)).emp pS.kd rfl
 have hr0:=hS
 clear hS hr0 H
 refine Cr s.tallies.length 34 0 (fun i env h=>env 1= .ptr n 0/\env 32=b/\env 33=gi s.tallies.length/\∃ u1 u2 u3 u4,env 3=u1/\env 4=u2/\env 5=u3/\env 6=u4/\h=[.th (ow pS.kd u1 ((s.tallies.take i).map (·.obj))),.th (ow pS.kd u2 []),.th (ow pS.kd u3 []),.th (ow pS.kd u4 []),.box 1 n [a,b,c,v]]) (fun env h=>env 1= .ptr n 0/\∃ u1 u2 u3 u4,env 3=u1/\env 4=u2/\env 5=u3/\env 6=u4/\h=[.th (ow pS.kd u1 (Dx s)),.th (ow pS.kd u2 []),.th (ow pS.kd u3 []),.th (ow pS.kd u4 []),.box 1 n [a,b,c,v]]) (fun env h=>False) _ H4 (by simp +contextual (disch:=omega) only[go_sem]) ⟨by simp +contextual (disch:=omega) only[go_sem],by simp +contextual (disch:=omega) only[go_sem],by simp +contextual (disch:=omega) only[go_sem],_,_,_,_,by simp +contextual (disch:=omega) only[go_sem],by simp +contextual (disch:=omega) only[go_sem],by simp +contextual (disch:=omega) only[go_sem],by simp +contextual (disch:=omega) only[go_sem],rfl⟩ ?_ ?_ ?_ (fun _ _ _ _ h=>h.elim)
 ·clear H4
  rintro J Yq Wq hJ hY hW i env h U hi ei c0 H ⟨e1,e32,e33,u1,u2,u3,u4,e3,e4,e5,e6,rfl⟩
  have L1:=Aa hb hi
  have htn:=O.tn
  simp +contextual (disch:=omega) only[go_sem,c0,e1,e32,e33,e3,ei,A1,L1]
  intro n8 f8 U8 _ U9 _ n41 f41 U10 H10
  refine Pj (p:=pS) H10 2 rfl s.tallies[i].obj Pi (by decide) (by rw[Zae,Zag];omega) fun w' U5 H5=> ?_
  simp +contextual (disch:=omega) only[go_sem,e1,e32,e33,e3,e4,e5,e6,ei]
  exact hJ _ _ _ _ (H5.re [2,3,4,5,6] (by decide)) ⟨by simp +contextual (disch:=omega) only[go_sem,e1],by simp +contextual (disch:=omega) only[go_sem,e32],by simp +contextual (disch:=omega) only[go_sem,e33],w',u2,u3,u4,by simp +contextual (disch:=omega) only[go_sem],by simp +contextual (disch:=omega) only[go_sem,e4],by simp +contextual (disch:=omega) only[go_sem,e5],by simp +contextual (disch:=omega) only[go_sem,e6],by rw[Mm hi];rfl⟩
 ·clear H4
  rintro Yq hY env h U ei c0 H ⟨e1,e32,e33,u1,u2,u3,u4,e3,e4,e5,e6,rfl⟩
  rw[Zab] at H
  simp +contextual (disch:=omega) only[go_sem,c0,e33,ei]
  exact hY _ _ _ H ⟨by simp +contextual (disch:=omega) only[go_sem,e1],u1,u2,u3,u4,by simp +contextual (disch:=omega) only[go_sem,e3],by simp +contextual (disch:=omega) only[go_sem,e4],by simp +contextual (disch:=omega) only[go_sem,e5],by simp +contextual (disch:=omega) only[go_sem,e6],rfl⟩
 clear H4
 rintro env h U H ⟨e1,u1,u2,u3,u4,e3,e4,e5,e6,rfl⟩
 simp +contextual (disch:=omega) only[go_sem,e1,hc.len]
 refine Cr s.lives.length 47 2 (fun i env h=>env 1= .ptr n 0/\env 45=c/\env 46=gi s.lives.length/\∃ u1 u2 u3 u4,env 3=u1/\env 4=u2/\env 5=u3/\env 6=u4/\h=[.th (ow pS.kd u1 (Dx s)),.th (ow pS.kd u2 (((s.lives.take i).filter fun x=>x.map==false).map (·.obj))),.th (ow pS.kd u3 (((s.lives.take i).filter fun x=>x.map==true).map (·.obj))),.th (ow pS.kd u4 []),.box 1 n [a,b,c,v]]) (fun env h=>env 1= .ptr n 0/\∃ u1 u2 u3 u4,env 3=u1/\env 4=u2/\env 5=u3/\env 6=u4/\h=[.th (ow pS.kd u1 (Dx s)),.th (ow pS.kd u2 (Ba s false)),.th (ow pS.kd u3 (Ba s true)),.th (ow pS.kd u4 []),.box 1 n [a,b,c,v]]) (fun env h=>False) _ H (by simp +contextual (disch:=omega) only[go_sem]) ⟨by simp +contextual (disch:=omega) only[go_sem,e1],by simp +contextual (disch:=omega) only[go_sem],by simp +contextual (disch:=omega) only[go_sem],u1,u2,u3,u4,by simp +contextual (disch:=omega) only[go_sem,e3],by simp +contextual (disch:=omega) only[go_sem,e4],by simp +contextual (disch:=omega) only[go_sem,e5],by simp +contextual (disch:=omega) only[go_sem,e6],rfl⟩ ?_ ?_ ?_ (fun _ _ _ _ h=>h.elim)
 ·clear H e1 e3 e4 e5 e6
  rintro J Yq Wq hJ hY hW i env h U hi ei c0 H ⟨e1,e45,e46,u1,u2,u3,u4,e3,e4,e5,e6,rfl⟩
  have L1:=A3 hc hi
  have hln:=O.ln
  have hfl:∀ m,(((s.lives.take i).filter fun x=>x.map==m).map (·.obj)).length<=s.lives.length:=fun m=>by
   have:=Zan (fun x:Live=>x.map==m) (s.lives.take i)
   rw[Zag] at this
   rw[Zae];omega
  have hf1:=hfl true
  have hf2:=hfl false
  cases hm:s.lives[i].map with
  |true=>
   simp +contextual (disch:=omega) only[go_sem,c0,e1,e45,e46,e5,ei,A1,L1,hm]
   intro n10 f10 U8 _ U9 _ n56 f56 U10 H10
   refine Pj (p:=pS) H10 4 rfl s.lives[i].obj Pi (by decide) (by omega) fun w' U5 H5=> ?_
   simp +contextual (disch:=omega) only[go_sem,e1,e45,e46,e3,e4,e5,e6,ei]
   exact hJ _ _ _ _ (H5.re [2,3,4,5,6] (by decide)) ⟨by simp +contextual (disch:=omega) only[go_sem,e1],by simp +contextual (disch:=omega) only[go_sem,e45],by simp +contextual (disch:=omega) only[go_sem,e46],u1,u2,w',u4,by simp +contextual (disch:=omega) only[go_sem,e3],by simp +contextual (disch:=omega) only[go_sem,e4],by simp +contextual (disch:=omega) only[go_sem],by simp +contextual (disch:=omega) only[go_sem,e6],by rw[A3i hi (m:=true) (by rw[hm];rfl),A3j hi (m:=false) (by rw[hm];rfl)];rfl⟩
  |false=>
   simp +contextual (disch:=omega) only[go_sem,c0,e1,e45,e46,e4,ei,A1,L1,hm]
   intro n10 f10 U8 _ U9 _ n56 f56 U10 H10
   refine Pj (p:=pS) H10 3 rfl s.lives[i].obj Pi (by decide) (by omega) fun w' U5 H5=> ?_
   simp +contextual (disch:=omega) only[go_sem,e1,e45,e46,e3,e4,e5,e6,ei]
   exact hJ _ _ _ _ (H5.re [2,3,4,5,6] (by decide)) ⟨by simp +contextual (disch:=omega) only[go_sem,e1],by simp +contextual (disch:=omega) only[go_sem,e45],by simp +contextual (disch:=omega) only[go_sem,e46],u1,w',u3,u4,by simp +contextual (disch:=omega) only[go_sem,e3],by simp +contextual (disch:=omega) only[go_sem],by simp +contextual (disch:=omega) only[go_sem,e5],by simp +contextual (disch:=omega) only[go_sem,e6],by rw[A3j hi (m:=true) (by rw[hm];rfl),A3i hi (m:=false) (by rw[hm];rfl)];rfl⟩
 ·clear H e1 e3 e4 e5 e6
  rintro Yq hY env h U ei c0 H ⟨e1,e45,e46,u1,u2,u3,u4,e3,e4,e5,e6,rfl⟩
  rw[Zab] at H
  simp +contextual (disch:=omega) only[go_sem,c0,e46,ei]
  exact hY _ _ _ H ⟨by simp +contextual (disch:=omega) only[go_sem,e1],u1,u2,u3,u4,by simp +contextual (disch:=omega) only[go_sem,e3],by simp +contextual (disch:=omega) only[go_sem,e4],by simp +contextual (disch:=omega) only[go_sem,e5],by simp +contextual (disch:=omega) only[go_sem,e6],rfl⟩
 clear H e1 e3 e4 e5 e6
 rintro env h U H ⟨e1,u1,u2,u3,u4,e3,e4,e5,e6,rfl⟩
 simp +contextual (disch:=omega) only[go_sem,e1,hv.len]
 refine Cr s.cells.length 67 4 (fun i env h=>env 1= .ptr n 0/\env 65=v/\env 66=gi s.cells.length/\∃ u1 u2 u3 u4,env 3=u1/\env 4=u2/\env 5=u3/\env 6=u4/\h=[.th (ow pS.kd u1 (Dx s)),.th (ow pS.kd u2 (Ba s false)),.th (ow pS.kd u3 (Ba s true)),.th (ow pS.kd u4 ((s.cells.take i).map (·.obj))),.box 1 n [a,b,c,v]]) (fun env h=>env 1= .ptr n 0/\∃ u1 u2 u3 u4,env 3=u1/\env 4=u2/\env 5=u3/\env 6=u4/\h=[.th (ow pS.kd u1 (Dx s)),.th (ow pS.kd u2 (Ba s false)),.th (ow pS.kd u3 (Ba s true)),.th (ow pS.kd u4 (Dy s)),.box 1 n [a,b,c,v]]) (fun env h=>False) _ H (by simp +contextual (disch:=omega) only[go_sem]) ⟨by simp +contextual (disch:=omega) only[go_sem,e1],by simp +contextual (disch:=omega) only[go_sem],by simp +contextual (disch:=omega) only[go_sem],u1,u2,u3,u4,by simp +contextual (disch:=omega) only[go_sem,e3],by simp +contextual (disch:=omega) only[go_sem,e4],by simp +contextual (disch:=omega) only[go_sem,e5],by simp +contextual (disch:=omega) only[go_sem,e6],rfl⟩ ?_ ?_ ?_ (fun _ _ _ _ h=>h.elim)
 ·clear H e1 e3 e4 e5 e6
  rintro J Yq Wq hJ hY hW i env h U hi ei c0 H ⟨e1,e65,e66,u1,u2,u3,u4,e3,e4,e5,e6,rfl⟩
  have L1:=A5 hv hi
  have hcn:=O.cn
  simp +contextual (disch:=omega) only[go_sem,c0,e1,e65,e66,e6,ei,A1,L1]
  intro n12 f12 U8 _ U9 _ n74 f74 U10 H10
  refine Pj (p:=pS) H10 5 rfl s.cells[i].obj Pi (by decide) (by rw[Zae,Zag];omega) fun w' U5 H5=> ?_
  simp +contextual (disch:=omega) only[go_sem,e1,e65,e66,e3,e4,e5,e6,ei]
  exact hJ _ _ _ _ (H5.re [2,3,4,5,6] (by decide)) ⟨by simp +contextual (disch:=omega) only[go_sem,e1],by simp +contextual (disch:=omega) only[go_sem,e65],by simp +contextual (disch:=omega) only[go_sem,e66],u1,u2,u3,w',by simp +contextual (disch:=omega) only[go_sem,e3],by simp +contextual (disch:=omega) only[go_sem,e4],by simp +contextual (disch:=omega) only[go_sem,e5],by simp +contextual (disch:=omega) only[go_sem],by rw[Mm hi];rfl⟩
 ·clear H e1 e3 e4 e5 e6
  rintro Yq hY env h U ei c0 H ⟨e1,e65,e66,u1,u2,u3,u4,e3,e4,e5,e6,rfl⟩
  rw[Zab] at H
  simp +contextual (disch:=omega) only[go_sem,c0,e66,ei]
  exact hY _ _ _ H ⟨by simp +contextual (disch:=omega) only[go_sem,e1],u1,u2,u3,u4,by simp +contextual (disch:=omega) only[go_sem,e3],by simp +contextual (disch:=omega) only[go_sem,e4],by simp +contextual (disch:=omega) only[go_sem,e5],by simp +contextual (disch:=omega) only[go_sem,e6],rfl⟩
 clear H e1 e3 e4 e5 e6
 rintro env h U H ⟨e1,u1,u2,u3,u4,e3,e4,e5,e6,rfl⟩
 have hkl:s.know.length<=1048576:=Zap (show s.know.length<=A7 s by unfold A7;omega) hl
 simp +contextual (disch:=omega) only[go_sem,e1]
 intro n79 f79 U79 H79
 obtain⟨r80,U80,R80,K80⟩:=D9 U79 a s.know (ha.pre H79.sub) (.sl n79 0 1) [⟨#[107,110,111,119]⟩] (A0e (p:=pS) (H79.hp.pt 0 rfl)) (A6q O) (by omega) (by simp)
 refine by_c H79 R80 K80 fun H80=> ?_
 simp +contextual (disch:=omega) only[go_sem,e1,e3,e4,e5,e6]
 obtain⟨fp80,ho80,_⟩:=H80.hp.see (i:=0) rfl
 have eK:Oe ([⟨#[107,110,111,119]⟩]++Ax s.know)=M3 s:=Og (by simp) _
 have hkw:∀ x∈([⟨#[107,110,111,119]⟩]++Ax s.know:List ByteArray),x.size<=21:=fun x hx=>by
  rcases Zas.1 hx with h|h
  ·rw[Zar] at h;subst h;exact Z0z rfl
  ·exact Ff (A6q O) x h
 have hkn:([⟨#[107,110,111,119]⟩]++Ax s.know:List ByteArray).length<=1048577:=by simp only[Zah,Zai,Zaj,Ax,Zae];omega
 refine by_r H80 (E4 U80 r80 _ fp80 ho80 21 hkw (Zap (Zao _ hkn) (by decide)) (by omega)) ?_
 rw[eK]
 have z0:=Pz O hl
 obtain⟨q1,q2,q3⟩:=Kw hl
 obtain⟨m1,m2,m3⟩:=Px O
 have m2f:=m2 false
 have m2t:=m2 true
 obtain⟨r83,U83,R83,K83⟩:=G9 H80 2 rfl (by have:=O.tn;simp only[Dx,Zae];omega)
 simp +contextual (disch:=omega) only[go_sem,e1,e3,e4,e5,e6]
 refine by_m R83 K83 ?_
 have L83:=(K83.hp.sl 2 rfl).len
 simp +contextual (disch:=omega) only[go_sem,L83]
 refine Cr (A9 txLt (Dx s)).length 85 6 (fun i env h=>env 1= .ptr n 0/\env 4=u2/\env 5=u3/\env 6=u4/\env 13= .str (M3 s++catS (((A9 txLt (Dx s)).take i).map (cntL s)))/\env 83=r83/\env 84=gi (A9 txLt (Dx s)).length/\h=[.th (ow pS.kd r83 (A9 txLt (Dx s))),.th (ow pS.kd u2 (Ba s false)),.th (ow pS.kd u3 (Ba s true)),.th (ow pS.kd u4 (Dy s)),.box 1 n [a,b,c,v]]) (fun env h=>env 1= .ptr n 0/\env 4=u2/\env 5=u3/\env 6=u4/\env 13= .str (shw0 s)/\h=[.th (ow pS.kd u2 (Ba s false)),.th (ow pS.kd u3 (Ba s true)),.th (ow pS.kd u4 (Dy s)),.box 1 n [a,b,c,v]]) (fun env h=>False) _ (K83.re [2,3,4,5,6] (by decide)) (by simp +contextual (disch:=omega) only[go_sem]) ⟨by simp +contextual (disch:=omega) only[go_sem,e1],by simp +contextual (disch:=omega) only[go_sem,e4],by simp +contextual (disch:=omega) only[go_sem,e5],by simp +contextual (disch:=omega) only[go_sem,e6],by simp +contextual (disch:=omega) only[go_sem,Jz],by simp +contextual (disch:=omega) only[go_sem],by simp +contextual (disch:=omega) only[go_sem],rfl⟩ ?_ ?_ ?_ (fun _ _ _ _ h=>h.elim)
 ·clear H H79 H80 K80 K83 R80 R83 ho80 L83 e1 e3 e4 e5 e6
  rintro J Yq Wq hJ hY hW i env h U hi ei c0 H ⟨e1,e4,e5,e6,e13,e83,e84,rfl⟩
  have L1:=Gs (H.hp.sl 0 rfl) hi
  have ho:=q1 _ (Zaf hi)
  have hT:=Cg (B:=M3 s) (f:=cntL s) (fun o ho=>Oj (q1 o ho)) m1 i
  have hn:=Cy (B:=M3 s) (f:=cntL s) hi
  have hf:=Oj (s:=s) ho
  have eL:Oe ([⟨#[99,111,117,110,116]⟩,(A9 txLt (Dx s))[i]]++Ax [By s (A9 txLt (Dx s))[i]])=cntL s (A9 txLt (Dx s))[i]:=Og (by simp) _
  generalize(A9 txLt (Dx s))[i]=o at*
  generalize M3 s++catS (((A9 txLt (Dx s)).take i).map (cntL s))=T at*
  simp +contextual (disch:=omega) only[go_sem,c0,e1,e4,e5,e6,e13,e83,e84,ei,A1,Ed H L1.2,L1]
  refine by_r H (A3c U _ s (A8.pre hR0 H.sub) o hl') ?_
  simp +contextual (disch:=omega) only[go_sem]
  intro n93 f93 U93 _ n95 f95 U95 H95
  obtain⟨r96,U96,R96,K96⟩:=D9 U95 (.sl n93 0 1) [By s o] (A0e (p:=pI) (H95.hp.pt 1 rfl)) (.sl n95 0 2) [⟨#[99,111,117,110,116]⟩,o] ((Hx.row (p:=pS) H95 [⟨#[99,111,117,110,116]⟩,o] rfl rfl).hp.sl 0 rfl) (Oc s o) (by simp) (by simp)
  refine by_c H95 R96 K96 fun H96=> ?_
  simp +contextual (disch:=omega) only[go_sem]
  obtain⟨fp,hof,_⟩:=H96.hp.see (i:=0) rfl
  refine by_r H96 (E4 U96 r96 _ fp hof 1048576 (fun x hx=>by
   rcases Zas.1 hx with h|h
   ·simp only[Zax,Zaq,or_false] at h
    rcases h with rfl|rfl
    ·exact Z0z rfl
    ·exact ho
   ·exact Zap (Ff (Oc s o) x h) (by decide)) (by simp only[Zah,Zai,Zaj,Ax,Zae];decide) (by simp[Ax])) ?_
  rw[eL]
  have b1:T.size+(cntL s o).size<=9223372036854775807:=by omega
  simp +contextual (disch:=omega) only[go_sem,e1,e4,e5,e6,e13,e83,e84,ei,b1]
  exact hJ _ _ _ _ (H96.re [3,4,5,6,7] (by decide)) ⟨by simp +contextual (disch:=omega) only[go_sem,e1],by simp +contextual (disch:=omega) only[go_sem,e4],by simp +contextual (disch:=omega) only[go_sem,e5],by simp +contextual (disch:=omega) only[go_sem,e6],by rw[hn];simp +contextual (disch:=omega) only[go_sem],by simp +contextual (disch:=omega) only[go_sem,e83],by simp +contextual (disch:=omega) only[go_sem,e84],rfl⟩
 ·clear H H79 H80 K80 K83 R80 R83 ho80 L83 e1 e3 e4 e5 e6
  rintro Yq hY env h U ei c0 H ⟨e1,e4,e5,e6,e13,e83,e84,rfl⟩
  rw[Zab] at e13
  simp +contextual (disch:=omega) only[go_sem,c0,e84,ei]
  exact hY _ _ _ (H.re [1,2,3,4] (by decide)) ⟨by simp +contextual (disch:=omega) only[go_sem,e1],by simp +contextual (disch:=omega) only[go_sem,e4],by simp +contextual (disch:=omega) only[go_sem,e5],by simp +contextual (disch:=omega) only[go_sem,e6],by simp +contextual (disch:=omega) only[go_sem,e13];rfl,rfl⟩
 clear H H79 H80 K80 K83 R80 R83 ho80 L83 e1 e3 e4 e5 e6
 rintro env h U H ⟨e1,e4,e5,e6,e13,rfl⟩
 have z1:=X9 O hl
 obtain⟨r101,U101,R101,K101⟩:=G9 H 0 rfl (by have:=Zan (fun x:Live=>x.map==false) s.lives;have:=O.ln;simp only[Ba,Zae];omega)
 simp +contextual (disch:=omega) only[go_sem,e1,e4,e5,e6,e13]
 refine by_m R101 K101 ?_
 have L101:=(K101.hp.sl 0 rfl).len
 simp +contextual (disch:=omega) only[go_sem,L101]
 refine Cr (A9 txLt (Ba s false)).length 103 8 (fun i env h=>env 1= .ptr n 0/\env 5=u3/\env 6=u4/\env 13= .str (shw0 s++catS (((A9 txLt (Ba s false)).take i).map (setL s)))/\env 101=r101/\env 102=gi (A9 txLt (Ba s false)).length/\h=[.th (ow pS.kd r101 (A9 txLt (Ba s false))),.th (ow pS.kd u3 (Ba s true)),.th (ow pS.kd u4 (Dy s)),.box 1 n [a,b,c,v]]) (fun env h=>env 1= .ptr n 0/\env 5=u3/\env 6=u4/\env 13= .str (shw1 s)/\h=[.th (ow pS.kd u3 (Ba s true)),.th (ow pS.kd u4 (Dy s)),.box 1 n [a,b,c,v]]) (fun env h=>False) _ K101 (by simp +contextual (disch:=omega) only[go_sem]) ⟨by simp +contextual (disch:=omega) only[go_sem,e1],by simp +contextual (disch:=omega) only[go_sem,e5],by simp +contextual (disch:=omega) only[go_sem,e6],by simp +contextual (disch:=omega) only[go_sem,e13,Jz],by simp +contextual (disch:=omega) only[go_sem],by simp +contextual (disch:=omega) only[go_sem],rfl⟩ ?_ ?_ ?_ (fun _ _ _ _ h=>h.elim)
 ·clear H K101 R101 L101 e1 e4 e5 e6 e13
  rintro J Yq Wq hJ hY hW i env h U hi ei c0 H ⟨e1,e5,e6,e13,e101,e102,rfl⟩
  have L1:=Gs (H.hp.sl 0 rfl) hi
  have ho:=q2 _ _ (Zaf hi)
  have hT:=Cg (B:=shw0 s) (f:=setL s) (fun o ho=>Ok O hl (q2 _ o ho)) m2f i
  have hn:=Cy (B:=shw0 s) (f:=setL s) hi
  have hf:=Ok O hl ho
  generalize(A9 txLt (Ba s false))[i]=o at*
  generalize shw0 s++catS (((A9 txLt (Ba s false)).take i).map (setL s))=T at*
  have hk:=Ky O false o
  simp +contextual (disch:=omega) only[go_sem,c0,e1,e5,e6,e13,e101,e102,ei,A1,Ed H L1.2,L1]
  intro n109 f109 U109 H109
  obtain⟨r112,U112,R112,K112⟩:=A9g U109 _ s (A8.pre hR0 H109.sub) o hl'
  refine by_c H109 R112 K112 fun H112=> ?_
  simp +contextual (disch:=omega) only[go_sem]
  have H112:=(H112.re [1,0,2,3,4,5] (by decide)).row (p:=pS) [⟨#[115,101,116]⟩,o] rfl rfl
  refine Ah3 (p:=pS) H112 0 rfl (H112.hp.sl 1 rfl) (by decide) (by simp only[Zai,Zaj];omega) fun w' U5 H5=> ?_
  simp +contextual (disch:=omega) only[go_sem]
  obtain⟨fp,hof,_⟩:=H5.hp.see (i:=0) rfl
  refine by_r H5 (E4 U5 w' _ fp hof 1048576 (A6r hl ho) (Zap (Zao _ (show _<=122 by simp only[Zah,Zai,Zaj];omega)) (by decide)) (by simp only[Zah,Zai,Zaj];omega)) ?_
  have eL:Oe ([⟨#[115,101,116]⟩,o]++B8 s false o)=setL s o:=rfl
  rw[eL]
  have b1:T.size+(setL s o).size<=9223372036854775807:=by omega
  simp +contextual (disch:=omega) only[go_sem,e1,e5,e6,e13,e101,e102,ei,b1]
  exact hJ _ _ _ _ (H5.re [2,3,4,5] (by decide)) ⟨by simp +contextual (disch:=omega) only[go_sem,e1],by simp +contextual (disch:=omega) only[go_sem,e5],by simp +contextual (disch:=omega) only[go_sem,e6],by rw[hn];simp +contextual (disch:=omega) only[go_sem],by simp +contextual (disch:=omega) only[go_sem,e101],by simp +contextual (disch:=omega) only[go_sem,e102],rfl⟩
 ·clear H K101 R101 L101 e1 e4 e5 e6 e13
  rintro Yq hY env h U ei c0 H ⟨e1,e5,e6,e13,e101,e102,rfl⟩
  rw[Zab] at e13
  simp +contextual (disch:=omega) only[go_sem,c0,e102,ei]
  exact hY _ _ _ (H.re [1,2,3] (by decide)) ⟨by simp +contextual (disch:=omega) only[go_sem,e1],by simp +contextual (disch:=omega) only[go_sem,e5],by simp +contextual (disch:=omega) only[go_sem,e6],by simp +contextual (disch:=omega) only[go_sem,e13];rfl,rfl⟩
 clear H K101 R101 L101 e1 e4 e5 e6 e13
 rintro env h U H ⟨e1,e5,e6,e13,rfl⟩
 have z2:=Xa O hl
 obtain⟨r118,U118,R118,K118⟩:=G9 H 0 rfl (by have:=Zan (fun x:Live=>x.map==true) s.lives;have:=O.ln;simp only[Ba,Zae];omega)
 simp +contextual (disch:=omega) only[go_sem,e1,e5,e6,e13]
 refine by_m R118 K118 ?_
 have L118:=(K118.hp.sl 0 rfl).len
 simp +contextual (disch:=omega) only[go_sem,L118]
 refine Cr (A9 txLt (Ba s true)).length 120 10 (fun i env h=>env 1= .ptr n 0/\env 6=u4/\env 13= .str (shw1 s++catS (((A9 txLt (Ba s true)).take i).map (Oh s)))/\env 118=r118/\env 119=gi (A9 txLt (Ba s true)).length/\h=[.th (ow pS.kd r118 (A9 txLt (Ba s true))),.th (ow pS.kd u4 (Dy s)),.box 1 n [a,b,c,v]]) (fun env h=>env 1= .ptr n 0/\env 6=u4/\env 13= .str (shw2 s)/\h=[.th (ow pS.kd u4 (Dy s)),.box 1 n [a,b,c,v]]) (fun env h=>False) _ K118 (by simp +contextual (disch:=omega) only[go_sem]) ⟨by simp +contextual (disch:=omega) only[go_sem,e1],by simp +contextual (disch:=omega) only[go_sem,e6],by simp +contextual (disch:=omega) only[go_sem,e13,Jz],by simp +contextual (disch:=omega) only[go_sem],by simp +contextual (disch:=omega) only[go_sem],rfl⟩ ?_ ?_ ?_ (fun _ _ _ _ h=>h.elim)
 ·clear H K118 R118 L118 e1 e5 e6 e13
  rintro J Yq Wq hJ hY hW i env h U hi ei c0 H ⟨e1,e6,e13,e118,e119,rfl⟩
  have L1:=Gs (H.hp.sl 0 rfl) hi
  have ho:=q2 _ _ (Zaf hi)
  have hT:=Cg (B:=shw1 s) (f:=Oh s) (fun o ho=>Py O hI hl (q2 _ o ho)) m2t i
  have hn:=Cy (B:=shw1 s) (f:=Oh s) hi
  generalize(A9 txLt (Ba s true))[i]=o at*
  generalize shw1 s++catS (((A9 txLt (Ba s true)).take i).map (Oh s))=T at*
  have hk:=Ky O true o
  have hko:=Od hl true o
  simp +contextual (disch:=omega) only[go_sem,c0,e1,e6,e13,e118,e119,ei,A1,Ed H L1.2,L1]
  obtain⟨r126,U126,R126,K126⟩:=A6h U _ s (A8.pre hR0 H.sub) o hl'
  refine by_c H R126 K126 fun H126=> ?_
  have L126:=(H126.hp.sl 0 rfl).len
  simp +contextual (disch:=omega) only[go_sem,L126]
  refine Cr (B8 s true o).length 128 12 (fun j env h=>env 1= .ptr n 0/\env 6=u4/\env 13= .str (T++catS (((B8 s true o).take j).map (mapL s o)))/\env 19= .str o/\env 118=r118/\env 119=gi (A9 txLt (Ba s true)).length/\env 120=gi i/\env 126=r126/\env 127=gi (B8 s true o).length/\h=[.th (ow pS.kd r126 (B8 s true o)),.th (ow pS.kd r118 (A9 txLt (Ba s true))),.th (ow pS.kd u4 (Dy s)),.box 1 n [a,b,c,v]]) (fun env h=>env 1= .ptr n 0/\env 6=u4/\env 13= .str (T++Oh s o)/\env 118=r118/\env 119=gi (A9 txLt (Ba s true)).length/\env 120=gi i/\h=[.th (ow pS.kd r118 (A9 txLt (Ba s true))),.th (ow pS.kd u4 (Dy s)),.box 1 n [a,b,c,v]]) (fun env h=>False) _ H126 (by simp +contextual (disch:=omega) only[go_sem]) ⟨by simp +contextual (disch:=omega) only[go_sem,e1],by simp +contextual (disch:=omega) only[go_sem,e6],by simp +contextual (disch:=omega) only[go_sem,e13,Jz],by simp +contextual (disch:=omega) only[go_sem],by simp +contextual (disch:=omega) only[go_sem,e118],by simp +contextual (disch:=omega) only[go_sem,e119],by simp +contextual (disch:=omega) only[go_sem,ei],by simp +contextual (disch:=omega) only[go_sem],by simp +contextual (disch:=omega) only[go_sem],rfl⟩ ?_ ?_ ?_ (fun _ _ _ _ h=>h.elim)
  ·clear H H126 K126 R126 L126 L1 e1 e6 e13 e118 e119 ei c0 hJ
   rintro J Yq Wq hJ hY hW j env h U hj ej c0 H ⟨e1,e6,e13,e19,e118,e119,e120,e126,e127,rfl⟩
   have L1:=Gs (H.hp.sl 0 rfl) hj
   have hkk:=hko _ (Zaf hj)
   have hT2:=Cg (B:=T) (f:=mapL s o) (fun k hk=>Ol hI hl ho (hko k hk)) hk j
   have hn2:=Cy (B:=T) (f:=mapL s o) hj
   have hf:=Ol hI hl ho hkk
   have eL:Oe ([⟨#[109,97,112]⟩,o,(B8 s true o)[j]]++Ax (Pp s o (B8 s true o)[j]))=mapL s o (B8 s true o)[j]:=Og (by simp) _
   generalize(B8 s true o)[j]=k at*
   generalize T++catS (((B8 s true o).take j).map (mapL s o))=T2 at*
   have hml:=A3d s o k
   simp +contextual (disch:=omega) only[go_sem,c0,e1,e6,e13,e19,e118,e119,e120,e126,e127,ej,A1,Ed H L1.2,L1]
   obtain⟨r136,U136,R136,K136⟩:=A9i U _ s (A8.pre hR0 H.sub) o k hl'
   refine by_c H R136 K136 fun H136=> ?_
   simp +contextual (disch:=omega) only[go_sem,e19]
   intro n139 f139 U139 H139
   obtain⟨r140,U140,R140,K140⟩:=D9 U139 r136 (Pp s o k) (H139.hp.sl 1 rfl) (.sl n139 0 3) [⟨#[109,97,112]⟩,o,k] ((Hx.row (p:=pS) H139 [⟨#[109,97,112]⟩,o,k] rfl rfl).hp.sl 0 rfl) (X1 hI o k) (by omega) (by simp)
   refine by_c H139 R140 K140 fun H140=> ?_
   simp +contextual (disch:=omega) only[go_sem]
   obtain⟨fp,hof,_⟩:=H140.hp.see (i:=0) rfl
   refine by_r H140 (E4 U140 r140 _ fp hof 1048576 (fun x hx=>by
    rcases Zas.1 hx with h|h
    ·simp only[Zax,Zaq,or_false] at h
     rcases h with rfl|rfl|rfl
     ·exact Z0z rfl
     ·exact ho
     ·exact hkk
    ·exact Zap (Ff (X1 hI o k) x h) (by decide)) (Zap (Zao _ (show _<=1048579 by simp only[Zah,Zai,Zaj,Ax,Zae];omega)) (by decide)) (by simp only[Zah,Zai,Zaj,Ax,Zae];omega)) ?_
   rw[eL]
   have b1:T2.size+(mapL s o k).size<=9223372036854775807:=by omega
   simp +contextual (disch:=omega) only[go_sem,e1,e6,e13,e19,e118,e119,e120,e126,e127,ej,b1]
   exact hJ _ _ _ _ (H140.re [3,4,5,6] (by decide)) ⟨by simp +contextual (disch:=omega) only[go_sem,e1],by simp +contextual (disch:=omega) only[go_sem,e6],by rw[hn2];simp +contextual (disch:=omega) only[go_sem],by simp +contextual (disch:=omega) only[go_sem,e19],by simp +contextual (disch:=omega) only[go_sem,e118],by simp +contextual (disch:=omega) only[go_sem,e119],by simp +contextual (disch:=omega) only[go_sem,e120],by simp +contextual (disch:=omega) only[go_sem,e126],by simp +contextual (disch:=omega) only[go_sem,e127],rfl⟩
  ·clear H H126 K126 R126 L126 L1 e1 e6 e13 e118 e119 ei c0 hJ
   rintro Yq hY env h U ej c0 H ⟨e1,e6,e13,e19,e118,e119,e120,e126,e127,rfl⟩
   rw[Zab] at e13
   simp +contextual (disch:=omega) only[go_sem,c0,e127,ej]
   exact hY _ _ _ (H.re [1,2,3] (by decide)) ⟨by simp +contextual (disch:=omega) only[go_sem,e1],by simp +contextual (disch:=omega) only[go_sem,e6],by simp +contextual (disch:=omega) only[go_sem,e13];rfl,by simp +contextual (disch:=omega) only[go_sem,e118],by simp +contextual (disch:=omega) only[go_sem,e119],by simp +contextual (disch:=omega) only[go_sem,e120],rfl⟩
  ·clear H H126 K126 R126 L126 L1 e1 e6 e13 e118 e119 ei c0
   rintro env h U H ⟨e1,e6,e13,e118,e119,e120,rfl⟩
   simp +contextual (disch:=omega) only[go_sem,e1,e6,e13,e118,e119,e120]
   exact hJ _ _ _ _ H ⟨by simp +contextual (disch:=omega) only[go_sem,e1],by simp +contextual (disch:=omega) only[go_sem,e6],by rw[hn];simp +contextual (disch:=omega) only[go_sem,e13],by simp +contextual (disch:=omega) only[go_sem,e118],by simp +contextual (disch:=omega) only[go_sem,e119],rfl⟩
 ·clear H K118 R118 L118 e1 e5 e6 e13
  rintro Yq hY env h U ei c0 H ⟨e1,e6,e13,e118,e119,rfl⟩
  rw[Zab] at e13
  simp +contextual (disch:=omega) only[go_sem,c0,e119,ei]
  exact hY _ _ _ (H.re [1,2] (by decide)) ⟨by simp +contextual (disch:=omega) only[go_sem,e1],by simp +contextual (disch:=omega) only[go_sem,e6],by simp +contextual (disch:=omega) only[go_sem,e13];rfl,rfl⟩
 clear H K118 R118 L118 e1 e5 e6 e13
 rintro env h U H ⟨e1,e6,e13,rfl⟩
 have z3:=Xb O hI hl
 obtain⟨r146,U146,R146,K146⟩:=G9 H 0 rfl (by have:=O.cn;simp only[Dy,Zae];omega)
 simp +contextual (disch:=omega) only[go_sem,e1,e6,e13]
 refine by_m R146 K146 ?_
 have L146:=(K146.hp.sl 0 rfl).len
 simp +contextual (disch:=omega) only[go_sem,L146]
 refine Cr (A9 txLt (Dy s)).length 148 14 (fun i env h=>env 1= .ptr n 0/\env 13= .str (shw2 s++catS (((A9 txLt (Dy s)).take i).map (La s)))/\env 146=r146/\env 147=gi (A9 txLt (Dy s)).length/\h=[.th (ow pS.kd r146 (A9 txLt (Dy s))),.box 1 n [a,b,c,v]]) (fun env h=>env 13= .str (shw3 s)) (fun env h=>False) _ K146 (by simp +contextual (disch:=omega) only[go_sem]) ⟨by simp +contextual (disch:=omega) only[go_sem,e1],by simp +contextual (disch:=omega) only[go_sem,e13,Jz],by simp +contextual (disch:=omega) only[go_sem],by simp +contextual (disch:=omega) only[go_sem],rfl⟩ ?_ ?_ ?_ (fun _ _ _ _ h=>h.elim)
 ·clear H K146 R146 L146 e1 e6 e13
  rintro J Yq Wq hJ hY hW i env h U hi ei c0 H ⟨e1,e13,e146,e147,rfl⟩
  have L1:=Gs (H.hp.sl 0 rfl) hi
  have ho:=q3 _ (Zaf hi)
  have hT:=Cg (B:=shw2 s) (f:=La s) (fun o ho=>Kz hI (q3 o ho)) m3 i
  have hn:=Cy (B:=shw2 s) (f:=La s) hi
  have hf:=Kz hI ho
  have eL:Oe ([⟨#[114,111,119]⟩,(A9 txLt (Dy s))[i]]++Ax (Lu s (A9 txLt (Dy s))[i]))=La s (A9 txLt (Dy s))[i]:=Og (by simp) _
  generalize(A9 txLt (Dy s))[i]=o at*
  generalize shw2 s++catS (((A9 txLt (Dy s)).take i).map (La s))=T at*
  have hrl:=A3e s o
  simp +contextual (disch:=omega) only[go_sem,c0,e1,e13,e146,e147,ei,A1,Ed H L1.2,L1]
  obtain⟨r155,U155,R155,K155⟩:=A9j U _ s (A8.pre hR0 H.sub) o hl'
  refine by_c H R155 K155 fun H155=> ?_
  simp +contextual (disch:=omega) only[go_sem]
  intro n157 f157 U157 H157
  obtain⟨r158,U158,R158,K158⟩:=D9 U157 r155 (Lu s o) (H157.hp.sl 1 rfl) (.sl n157 0 2) [⟨#[114,111,119]⟩,o] ((Hx.row (p:=pS) H157 [⟨#[114,111,119]⟩,o] rfl rfl).hp.sl 0 rfl) (X2 hI o) (by omega) (by simp)
  refine by_c H157 R158 K158 fun H158=> ?_
  simp +contextual (disch:=omega) only[go_sem]
  obtain⟨fp,hof,_⟩:=H158.hp.see (i:=0) rfl
  refine by_r H158 (E4 U158 r158 _ fp hof 1048576 (fun x hx=>by
   rcases Zas.1 hx with h|h
   ·simp only[Zax,Zaq,or_false] at h
    rcases h with rfl|rfl
    ·exact Z0z rfl
    ·exact ho
   ·exact Zap (Ff (X2 hI o) x h) (by decide)) (Zap (Zao _ (show _<=1200122 by simp only[Zah,Zai,Zaj,Ax,Zae];omega)) (by decide)) (by simp only[Zah,Zai,Zaj,Ax,Zae];omega)) ?_
  rw[eL]
  have b1:T.size+(La s o).size<=9223372036854775807:=by omega
  simp +contextual (disch:=omega) only[go_sem,e1,e13,e146,e147,ei,b1]
  exact hJ _ _ _ _ (H158.re [3,4] (by decide)) ⟨by simp +contextual (disch:=omega) only[go_sem,e1],by rw[hn];simp +contextual (disch:=omega) only[go_sem],by simp +contextual (disch:=omega) only[go_sem,e146],by simp +contextual (disch:=omega) only[go_sem,e147],rfl⟩
 ·clear H K146 R146 L146 e1 e6 e13
  rintro Yq hY env h U ei c0 H ⟨e1,e13,e146,e147,rfl⟩
  rw[Zab] at e13
  simp +contextual (disch:=omega) only[go_sem,c0,e147,ei]
  exact hY _ _ _ H (by simp +contextual (disch:=omega) only[go_sem,e13];rfl)
 ·rintro env h U H e13
  simp +contextual (disch:=omega) only[go_sem,e13]
def Oq:Fn1:=⟨150,[.t 2],(rg [oX 1 0,o 2 (.mov (.k s0))] (.seq (rg [oW 13 4 1,oC 14 54 13,oU 15 14] (oG 15 (rg [o 2 (.mov (.k s0))] .ret))) (rg [oF 16 0 1,oL 17 16,oC 18 157 17,o 19 (.bin .add (.k (.str ⟨#[107,110,111,119]⟩)) (.t 18)),oM 3 19] (rg [oW 20 4 1,o 21 (.call 158 [(.t 20),(ki 0)]),oM 4 21] (.seq (rg [oV 5 (ki 0)] (oH 0 (.seq (rg [oM 22 5,oM 23 4,oN 24 23,oB 25 .lss 22 24] (oJ 25 0)) (.seq (.blk 1 (.drw [oM 28 3,o 29 (.bin .add (.t 28) (.k (.str ⟨#[99,111,117,110,116,32]⟩))),oM 30 4,oM 31 5,oI 32 1 30 31,oL 33 32,oB 34 .add 29 33,o 35 (.bin .add (.t 34) (.k (.str ⟨#[32]⟩))),oW 36 4 1,oM 37 4,oM 38 5,oI 39 1 37 38,oL 40 39,oD 41 131 36 40,oC 42 159 41] [oB 43 .add 35 42,o 44 (.bin .add (.t 43) (.k (.str ⟨#[10]⟩))),oM 3 44])) (.reg [oM 26 5,oZ 27 26 1,oM 5 27]))))) (rg [oW 45 4 1,o 46 (.call 158 [(.t 45),(ki 1)]),oM 4 46] (.seq (rg [oV 6 (ki 0)] (oH 2 (.seq (rg [oM 47 6,oM 48 4,oN 49 48,oB 50 .lss 47 49] (oJ 50 2)) (.seq (.blk 3 (rg [oM 53 3,o 54 (.bin .add (.t 53) (.k (.str ⟨#[115,101,116,32]⟩))),oM 55 4,oM 56 6,oI 57 1 55 56,oL 58 57,oB 59 .add 54 58,oM 3 59] (dw [oW 60 4 1,oM 61 4,oM 62 6,oI 63 1 61 62,oL 64 63] [oD 65 116 60 64,oM 7 65] (.seq (rg [oV 8 (ki 0)] (oH 4 (.seq (rg [oM 66 8,oM 67 7,oN 68 67,oB 69 .lss 66 68] (oJ 69 4)) (.seq (.blk 5 (.reg [oM 72 3,o 73 (.bin .add (.t 72) (.k (.str ⟨#[32]⟩))),oM 74 7,oM 75 8,oI 76 1 74 75,oL 77 76,oB 78 .add 73 77,oM 3 78])) (.reg [oM 70 8,oZ 71 70 1,oM 8 71]))))) (.reg [oM 79 3,o 80 (.bin .add (.t 79) (.k (.str ⟨#[10]⟩))),oM 3 80]))))) (.reg [oM 51 6,oZ 52 51 1,oM 6 52]))))) (rg [oW 81 4 1,o 82 (.call 158 [(.t 81),(ki 2)]),oM 4 82] (.seq (rg [oV 9 (ki 0)] (oH 6 (.seq (rg [oM 83 9,oM 84 4,oN 85 84,oB 86 .lss 83 85] (oJ 86 6)) (.seq (.blk 7 (dw [oW 89 4 1,oM 90 4,oM 91 9,oI 92 1 90 91,oL 93 92] [oD 94 151 89 93,oM 10 94] (rg [oV 11 (ki 0)] (oH 8 (.seq (rg [oM 95 11,oM 96 10,oN 97 96,oB 98 .lss 95 97] (oJ 98 8)) (.seq (.blk 9 (.drw [oM 101 3,o 102 (.bin .add (.t 101) (.k (.str ⟨#[109,97,112,32]⟩))),oM 103 4,oM 104 9,oI 105 1 103 104,oL 106 105,oB 107 .add 102 106,o 108 (.bin .add (.t 107) (.k (.str ⟨#[32]⟩))),oM 109 10,oM 110 11,oI 111 1 109 110,oL 112 111,oB 113 .add 108 112,oW 114 4 1,oM 115 4,oM 116 9,oI 117 1 115 116,oL 118 117,oM 119 10,oM 120 11,oI 121 1 119 120,oL 122 121,o 123 (.call 50 (oT [114,118,122])),oC 124 157 123] [oB 125 .add 113 124,oM 3 125])) (.reg [oM 99 11,oZ 100 99 1,oM 11 100]))))))) (.reg [oM 87 9,oZ 88 87 1,oM 9 88]))))) (rg [oW 126 4 1,o 127 (.call 158 [(.t 126),(ki 3)]),oM 4 127] (.seq (rg [oV 12 (ki 0)] (oH 10 (.seq (rg [oM 128 12,oM 129 4,oN 130 129,oB 131 .lss 128 130] (oJ 131 10)) (.seq (.blk 11 (.drw [oM 134 3,o 135 (.bin .add (.t 134) (.k (.str ⟨#[114,111,119,32]⟩))),oM 136 4,oM 137 12,oI 138 1 136 137,oL 139 138,oB 140 .add 135 139,oW 141 4 1,oM 142 4,oM 143 12,oI 144 1 142 143,oL 145 144,oD 146 133 141 145,oC 147 157 146] [oB 148 .add 140 147,oM 3 148])) (.reg [oM 132 12,oZ 133 132 1,oM 12 133]))))) (rg [oM 149 3,oM 2 149] .ret))))))))))))⟩
theorem Zg:A4 Tryz.prog 66=some Oq:=by kernel_rfl
theorem A1k {s:State} (h:OkS s) (o:ByteArray):0<=By s o:=by
 have key:∀(l:List Tally) (n:Int),(∀ t∈l,0≤t.sum)->0<=n->0<=l.foldl (Fy o) n:=by
  intro l
  induction l with
  |nil=>intro n _ h;exact h
  |cons t l ih=>
   intro n ht hn
   refine ih _ (fun t h=>ht t (List.mem_cons_of_mem _ h)) ?_
   unfold Fy
   split
   ·have h1:=ht t List.mem_cons_self
    have h2:=Za6 1000000 h1
    exact Za6 _ (by omega)
   ·exact hn
 refine key s.tallies 0 (fun t ht=> ?_) (by omega)
 have:=h.t1 t ht
 simp only[tal1,Za4] at this
 exact(Tn.1 this.2.2).1
theorem cnt_eq {s:State} (h:OkS s) (T o:ByteArray):T++⟨#[99,111,117,110,116,32]⟩++o++⟨#[32]⟩++itB (By s o)++⟨#[10]⟩=T++cntL s o:=by
 have hm:mx0 (By s o)=By s o:=by have:=A1k h o;unfold mx0;rw[if_neg (by omega)]
 have e:catS ((Ax [By s o]).map fun x=>⟨#[32]⟩++x)=⟨#[32]⟩++itB (By s o):=by
  show catS [⟨#[32]⟩++itB (mx0 (By s o))]=_
  rw[hm,X8];exact X7 _
 rw[cntL,Pw,L9,e]
 refine Cx ?_
 simp only[Fh,Zam]
 rfl
theorem set_eq (s:State) (T o:ByteArray):T++⟨#[115,101,116,32]⟩++o++catS ((B8 s false o).map fun x=>⟨#[32]⟩++x)++⟨#[10]⟩=T++setL s o:=by
 rw[setL,Oe,A9q _ _ (by simp),Pw]
 refine Cx ?_
 simp only[Fh,Zam]
 rfl
theorem map_eq (s:State) (T o k:ByteArray):T++⟨#[109,97,112,32]⟩++o++⟨#[32]⟩++k++L9 (Pp s o k)=T++mapL s o k:=by
 rw[mapL,A6p]
 refine Cx ?_
 simp only[Fh,Zam]
 rfl
theorem row_eq (s:State) (T o:ByteArray):T++⟨#[114,111,119,32]⟩++o++L9 (Lu s o)=T++La s o:=by
 rw[La,Pw]
 refine Cx ?_
 simp only[Fh,Zam]
 rfl
theorem sz4 {a b c d:UInt8}:(#[a,b,c,d]:Array UInt8).size=4:=rfl
theorem sz6 {a b c d e f:UInt8}:(#[a,b,c,d,e,f]:Array UInt8).size=6:=rfl
theorem K8 (N:St) (cs:List GV) (s:State) (hR:A8.R N s cs) (hl:A7 s<=1048576) (hI:stI s):Ret Tryz.prog 66 [.agg cs] N (.str (Oi s)) N:=by
 have hR0:=hR
 obtain⟨a,b,c,v,rfl,ha,hb,hc,hv⟩:=hR
 have hl':A7 s<=1099511627776:=by omega
 refine Jj Zg (Z0z rfl) trivial ?_
 simp +contextual (disch:=omega) only[go_sem,Oq]
 intro n f U H
 refine by_b H (Mv U _ s (A8.pre hR0 H.sub) hl') (fun hok=> ?_) (fun hok=> ?_)
 rotate_left
 ·simp +contextual (disch:=omega) only[go_sem]
  simp[Oi,hok]
 have O:=A9n.1 hok
 have hS:Oi s=shw3 s:=by simp[Oi,hok]
 rw[hS]
 have z0:=Pz O hl
 have z1:=X9 O hl
 have z2:=Xa O hl
 have z3:=Xb O hI hl
 obtain⟨q1,q2,q3⟩:=Kw hl
 obtain⟨m1,m2,m3⟩:=Px O
 have m2f:=m2 false
 have m2t:=m2 true
 have hkl:s.know.length<=1048576:=Zap (show s.know.length<=A7 s by unfold A7;omega) hl
 simp +contextual (disch:=omega) only[go_sem]
 refine by_r H (Iv U a s.know (ha.pre H.sub) (A6q O) (by omega)) ?_
 have hkv:=Fg (A6q O)
 have b1:(#[107,110,111,119]:Array UInt8).size+(L9 s.know).size<=9223372036854775807:=by rw[sz4];omega
 simp +contextual (disch:=omega) only[go_sem,b1]
 obtain⟨r21,U21,R21,K21⟩:=Zb U _ s (A8.pre hR0 H.sub) hl'
 refine by_c H R21 K21 fun H21=> ?_
 have eK:(⟨#[107,110,111,119]⟩:ByteArray)++L9 s.know=M3 s:=by rw[M3,Pu]
 simp +contextual (disch:=omega) only[go_sem,eK]
 refine Cr (A9 txLt (Dx s)).length 5 0 (fun i env h=>env 1= .ptr n 0/\env 3= .str (M3 s++catS (((A9 txLt (Dx s)).take i).map (cntL s)))/\env 4=r21/\h=[.th (ow pS.kd r21 (A9 txLt (Dx s))),.box 1 n [a,b,c,v]]) (fun env h=>env 1= .ptr n 0/\env 3= .str (shw0 s)/\h=[.box 1 n [a,b,c,v]]) (fun env h=>False) _ H21 (by simp +contextual (disch:=omega) only[go_sem]) ⟨by simp +contextual (disch:=omega) only[go_sem],by simp +contextual (disch:=omega) only[go_sem,Jz],by simp +contextual (disch:=omega) only[go_sem],rfl⟩ ?_ ?_ ?_ (fun _ _ _ _ h=>h.elim)
 ·clear H H21 K21 R21
  rintro J Yq Wq hJ hY hW i env h U hi ei c0 H ⟨e1,e3,e4,rfl⟩
  have L1:=Gs (H.hp.sl 0 rfl) hi
  have L2:=(H.hp.sl 0 rfl).len
  have ho:=q1 _ (Zaf hi)
  have hT:=Cg (B:=M3 s) (f:=cntL s) (fun o ho=>Oj (q1 o ho)) m1 i
  have hn:=Cy (B:=M3 s) (f:=cntL s) hi
  generalize(A9 txLt (Dx s))[i]=o at*
  generalize M3 s++catS (((A9 txLt (Dx s)).take i).map (cntL s))=T at*
  have hE:=cnt_eq O T o
  have hnn:=A1k O o
  have hcb:=Oc s o _ (Zar.2 rfl)
  obtain⟨u,hu⟩:∃ u:Nat,By s o=u:=⟨(By s o).toNat,by omega⟩
  have hd:=Dp hnn hcb
  rw[hu] at hd hE
  have b1:T.size+(#[99,111,117,110,116,32]:Array UInt8).size<=9223372036854775807:=by rw[sz6];omega
  have b2:T.size+(#[99,111,117,110,116,32]:Array UInt8).size+o.size<=9223372036854775807:=by rw[sz6];omega
  have b3:T.size+(#[99,111,117,110,116,32]:Array UInt8).size+o.size+(#[32]:Array UInt8).size<=9223372036854775807:=by rw[sz6,sz1];omega
  have b4:T.size+(#[99,111,117,110,116,32]:Array UInt8).size+o.size+(#[32]:Array UInt8).size+(itB u).size<=9223372036854775807:=by rw[sz6,sz1];omega
  have b5:T.size+(#[99,111,117,110,116,32]:Array UInt8).size+o.size+(#[32]:Array UInt8).size+(itB u).size+(#[10]:Array UInt8).size<=9223372036854775807:=by rw[sz6,sz1,sz1];omega
  simp +contextual (disch:=omega) only[go_sem,c0,e1,e3,e4,ei,L2,A1,Ed H L1.2,L1,ByteArray.size_append,b1,b2,b3]
  refine by_r H (A3b U _ s (A8.pre hR0 H.sub) o hl') ?_
  rw[hu]
  simp +contextual (disch:=omega) only[go_sem]
  refine by_r H (Eq U u (by omega)) ?_
  simp +contextual (disch:=omega) only[go_sem,e1,e3,e4,ei,ByteArray.size_append,b4,b5]
  exact hJ _ _ _ _ H ⟨by simp +contextual (disch:=omega) only[go_sem,e1],by rw[hn,<-hE];simp +contextual (disch:=omega) only[go_sem],by simp +contextual (disch:=omega) only[go_sem,e4],rfl⟩
 ·clear H H21 K21 R21
  rintro Yq hY env h U ei c0 H ⟨e1,e3,e4,rfl⟩
  have L2:=(H.hp.sl 0 rfl).len
  rw[Zab] at e3
  simp +contextual (disch:=omega) only[go_sem,c0,e4,ei,L2]
  exact hY _ _ _ (H.re [1] (by decide)) ⟨by simp +contextual (disch:=omega) only[go_sem,e1],by simp +contextual (disch:=omega) only[go_sem,e3];rfl,rfl⟩
 clear H H21 K21 R21
 rintro env h U H ⟨e1,e3,rfl⟩
 simp +contextual (disch:=omega) only[go_sem,e1,e3]
 obtain⟨r46,U46,R46,K46⟩:=Zc U _ s (A8.pre hR0 H.sub) hl'
 refine by_c H R46 K46 fun H46=> ?_
 simp +contextual (disch:=omega) only[go_sem,e1,e3]
 refine Cr (A9 txLt (Ba s false)).length 6 2 (fun i env h=>env 1= .ptr n 0/\env 3= .str (shw0 s++catS (((A9 txLt (Ba s false)).take i).map (setL s)))/\env 4=r46/\h=[.th (ow pS.kd r46 (A9 txLt (Ba s false))),.box 1 n [a,b,c,v]]) (fun env h=>env 1= .ptr n 0/\env 3= .str (shw1 s)/\h=[.box 1 n [a,b,c,v]]) (fun env h=>False) _ H46 (by simp +contextual (disch:=omega) only[go_sem]) ⟨by simp +contextual (disch:=omega) only[go_sem,e1],by simp +contextual (disch:=omega) only[go_sem,e3,Jz],by simp +contextual (disch:=omega) only[go_sem],rfl⟩ ?_ ?_ ?_ (fun _ _ _ _ h=>h.elim)
 ·clear H H46 K46 R46 e1 e3
  rintro J Yq Wq hJ hY hW i env h U hi ei c0 H ⟨e1,e3,e4,rfl⟩
  have L1:=Gs (H.hp.sl 0 rfl) hi
  have L2:=(H.hp.sl 0 rfl).len
  have ho:=q2 _ _ (Zaf hi)
  have hT:=Cg (B:=shw0 s) (f:=setL s) (fun o ho=>Ok O hl (q2 _ o ho)) m2f i
  have hn:=Cy (B:=shw0 s) (f:=setL s) hi
  generalize hoe:(A9 txLt (Ba s false))[i]=o at*
  generalize shw0 s++catS (((A9 txLt (Ba s false)).take i).map (setL s))=T at*
  have hE:=set_eq s T o
  have hk:=Ky O false o
  have hko:=Od hl false o
  have b1:T.size+(#[115,101,116,32]:Array UInt8).size<=9223372036854775807:=by rw[sz4];omega
  have b2:T.size+(#[115,101,116,32]:Array UInt8).size+o.size<=9223372036854775807:=by rw[sz4];omega
  simp +contextual (disch:=omega) only[go_sem,c0,e1,e3,e4,ei,L2,A1,Ed H L1.2,L1,ByteArray.size_append,b1,b2]
  obtain⟨r65,U65,R65,K65⟩:=A9f U _ s (A8.pre hR0 H.sub) o hl'
  refine by_c H R65 K65 fun H65=> ?_
  simp +contextual (disch:=omega) only[go_sem,e1,e3,e4,ei]
  have hbt:(T++⟨#[115,101,116,32]⟩++o).size<=15501117401:=by rw[ByteArray.size_append,ByteArray.size_append];have:(⟨#[115,101,116,32]⟩:ByteArray).size=4:=rfl;omega
  generalize T++⟨#[115,101,116,32]⟩++o=T3 at*
  refine Cr (B8 s false o).length 8 4 (fun j env h=>env 1= .ptr n 0/\env 3= .str (T3++catS (((B8 s false o).take j).map fun x=>⟨#[32]⟩++x))/\env 4=r46/\env 6=gi i/\env 7=r65/\h=[.th (ow pS.kd r65 (B8 s false o)),.th (ow pS.kd r46 (A9 txLt (Ba s false))),.box 1 n [a,b,c,v]]) (fun env h=>env 1= .ptr n 0/\env 3= .str (T3++catS ((B8 s false o).map fun x=>⟨#[32]⟩++x))/\env 4=r46/\env 6=gi i/\h=[.th (ow pS.kd r46 (A9 txLt (Ba s false))),.box 1 n [a,b,c,v]]) (fun env h=>False) _ H65 (by simp +contextual (disch:=omega) only[go_sem]) ⟨by simp +contextual (disch:=omega) only[go_sem,e1],by simp +contextual (disch:=omega) only[go_sem,Jz],by simp +contextual (disch:=omega) only[go_sem,e4],by simp +contextual (disch:=omega) only[go_sem,ei],by simp +contextual (disch:=omega) only[go_sem],rfl⟩ ?_ ?_ ?_ (fun _ _ _ _ h=>h.elim)
  ·clear H H65 K65 R65 L1 L2 e1 e3 e4 ei c0 hJ
   rintro J Yq Wq hJ hY hW j env h U hj ej c0 H ⟨e1,e3,e4,e6,e7,rfl⟩
   have L1:=Gs (H.hp.sl 0 rfl) hj
   have L2:=(H.hp.sl 0 rfl).len
   have hkk:=hko _ (Zaf hj)
   have hT2:=Cg (B:=T3) (f:=fun x=>⟨#[32]⟩++x) (c:=1048577) (fun k hk=>by have:=hko k hk;rw[A9r];omega) hk j
   have hn2:=Cy (B:=T3) (f:=fun x=>⟨#[32]⟩++x) hj
   generalize(B8 s false o)[j]=k at*
   generalize T3++catS (((B8 s false o).take j).map fun x=>⟨#[32]⟩++x)=T2 at*
   have b3:T2.size+(#[32]:Array UInt8).size<=9223372036854775807:=by rw[sz1];omega
   have b4:T2.size+(#[32]:Array UInt8).size+k.size<=9223372036854775807:=by rw[sz1];omega
   simp +contextual (disch:=omega) only[go_sem,c0,e1,e3,e4,e6,e7,ej,L2,A1,Ed H L1.2,L1,ByteArray.size_append,b3,b4]
   exact hJ _ _ _ _ H ⟨by simp +contextual (disch:=omega) only[go_sem,e1],by rw[hn2,<-ByteArray.append_assoc];simp +contextual (disch:=omega) only[go_sem],by simp +contextual (disch:=omega) only[go_sem,e4],by simp +contextual (disch:=omega) only[go_sem,e6],by simp +contextual (disch:=omega) only[go_sem,e7],rfl⟩
  ·clear H H65 K65 R65 L1 L2 e1 e3 e4 ei c0 hJ
   rintro Yq hY env h U ej c0 H ⟨e1,e3,e4,e6,e7,rfl⟩
   have L2:=(H.hp.sl 0 rfl).len
   rw[Zab] at e3
   simp +contextual (disch:=omega) only[go_sem,c0,e7,ej,L2]
   exact hY _ _ _ (H.re [1,2] (by decide)) ⟨by simp +contextual (disch:=omega) only[go_sem,e1],by simp +contextual (disch:=omega) only[go_sem,e3],by simp +contextual (disch:=omega) only[go_sem,e4],by simp +contextual (disch:=omega) only[go_sem,e6],rfl⟩
  ·clear H H65 K65 R65 L1 L2 e1 e3 e4 ei c0
   rintro env h U H ⟨e1,e3,e4,e6,rfl⟩
   have hT2:=Kv (B:=T3) (f:=fun x=>⟨#[32]⟩++x) (c:=1048577) (fun k hk=>by have:=hko k hk;rw[A9r];omega) hk
   generalize T3++catS ((B8 s false o).map fun x=>⟨#[32]⟩++x)=T2 at*
   have b5:T2.size+(#[10]:Array UInt8).size<=9223372036854775807:=by rw[sz1];omega
   simp +contextual (disch:=omega) only[go_sem,e1,e3,e4,e6,b5]
   exact hJ _ _ _ _ H ⟨by simp +contextual (disch:=omega) only[go_sem,e1],by rw[hn,<-hE];simp +contextual (disch:=omega) only[go_sem],by simp +contextual (disch:=omega) only[go_sem,e4],rfl⟩
 ·clear H H46 K46 R46 e1 e3
  rintro Yq hY env h U ei c0 H ⟨e1,e3,e4,rfl⟩
  have L2:=(H.hp.sl 0 rfl).len
  rw[Zab] at e3
  simp +contextual (disch:=omega) only[go_sem,c0,e4,ei,L2]
  exact hY _ _ _ (H.re [1] (by decide)) ⟨by simp +contextual (disch:=omega) only[go_sem,e1],by simp +contextual (disch:=omega) only[go_sem,e3];rfl,rfl⟩
 clear H H46 K46 R46 e1 e3
 rintro env h U H ⟨e1,e3,rfl⟩
 simp +contextual (disch:=omega) only[go_sem,e1,e3]
 obtain⟨r82,U82,R82,K82⟩:=Zd U _ s (A8.pre hR0 H.sub) hl'
 refine by_c H R82 K82 fun H82=> ?_
 simp +contextual (disch:=omega) only[go_sem,e1,e3]
 refine Cr (A9 txLt (Ba s true)).length 9 6 (fun i env h=>env 1= .ptr n 0/\env 3= .str (shw1 s++catS (((A9 txLt (Ba s true)).take i).map (Oh s)))/\env 4=r82/\h=[.th (ow pS.kd r82 (A9 txLt (Ba s true))),.box 1 n [a,b,c,v]]) (fun env h=>env 1= .ptr n 0/\env 3= .str (shw2 s)/\h=[.box 1 n [a,b,c,v]]) (fun env h=>False) _ H82 (by simp +contextual (disch:=omega) only[go_sem]) ⟨by simp +contextual (disch:=omega) only[go_sem,e1],by simp +contextual (disch:=omega) only[go_sem,e3,Jz],by simp +contextual (disch:=omega) only[go_sem],rfl⟩ ?_ ?_ ?_ (fun _ _ _ _ h=>h.elim)
 ·clear H H82 K82 R82 e1 e3
  rintro J Yq Wq hJ hY hW i env h U hi ei c0 H ⟨e1,e3,e4,rfl⟩
  have L1:=Gs (H.hp.sl 0 rfl) hi
  have L2:=(H.hp.sl 0 rfl).len
  have ho:=q2 _ _ (Zaf hi)
  have hT:=Cg (B:=shw1 s) (f:=Oh s) (fun o ho=>Py O hI hl (q2 _ o ho)) m2t i
  have hn:=Cy (B:=shw1 s) (f:=Oh s) hi
  generalize hoe:(A9 txLt (Ba s true))[i]=o at*
  generalize shw1 s++catS (((A9 txLt (Ba s true)).take i).map (Oh s))=T at*
  have hk:=Ky O true o
  have hko:=Od hl true o
  simp +contextual (disch:=omega) only[go_sem,c0,e1,e3,e4,ei,L2,A1,Ed H L1.2,L1]
  obtain⟨r94,U94,R94,K94⟩:=A6g U _ s (A8.pre hR0 H.sub) o hl'
  refine by_c H R94 K94 fun H94=> ?_
  simp +contextual (disch:=omega) only[go_sem,e1,e3,e4,ei]
  refine Cr (B8 s true o).length 11 8 (fun j env h=>env 1= .ptr n 0/\env 3= .str (T++catS (((B8 s true o).take j).map (mapL s o)))/\env 4=r82/\env 9=gi i/\env 10=r94/\h=[.th (ow pS.kd r94 (B8 s true o)),.th (ow pS.kd r82 (A9 txLt (Ba s true))),.box 1 n [a,b,c,v]]) (fun env h=>env 1= .ptr n 0/\env 3= .str (T++Oh s o)/\env 4=r82/\env 9=gi i/\h=[.th (ow pS.kd r82 (A9 txLt (Ba s true))),.box 1 n [a,b,c,v]]) (fun env h=>False) _ H94 (by simp +contextual (disch:=omega) only[go_sem]) ⟨by simp +contextual (disch:=omega) only[go_sem,e1],by simp +contextual (disch:=omega) only[go_sem,e3,Jz],by simp +contextual (disch:=omega) only[go_sem,e4],by simp +contextual (disch:=omega) only[go_sem,ei],by simp +contextual (disch:=omega) only[go_sem],rfl⟩ ?_ ?_ ?_ (fun _ _ _ _ h=>h.elim)
  ·clear H H94 K94 R94 L1 L2 e1 e3 e4 ei c0 hJ
   rintro J Yq Wq hJ hY hW j env h U hj ej c0 H ⟨e1,e3,e4,e9,e10,rfl⟩
   have L1:=Gs (H.hp.sl 0 rfl) hj
   have L2:=(H.hp.sl 0 rfl).len
   have L3:=Gs (H.hp.sl 1 rfl) hi
   rw[hoe] at L3
   have hkk:=hko _ (Zaf hj)
   have hT2:=Cg (B:=T) (f:=mapL s o) (fun k hk=>Ol hI hl ho (hko k hk)) hk j
   have hn2:=Cy (B:=T) (f:=mapL s o) hj
   generalize(B8 s true o)[j]=k at*
   generalize T++catS (((B8 s true o).take j).map (mapL s o))=T2 at*
   have hE:=map_eq s T2 o k
   have hml:=A3d s o k
   have hvs:=Fg (X1 hI o k)
   have b1:T2.size+(#[109,97,112,32]:Array UInt8).size<=9223372036854775807:=by rw[sz4];omega
   have b2:T2.size+(#[109,97,112,32]:Array UInt8).size+o.size<=9223372036854775807:=by rw[sz4];omega
   have b3:T2.size+(#[109,97,112,32]:Array UInt8).size+o.size+(#[32]:Array UInt8).size<=9223372036854775807:=by rw[sz4,sz1];omega
   have b4:T2.size+(#[109,97,112,32]:Array UInt8).size+o.size+(#[32]:Array UInt8).size+k.size<=9223372036854775807:=by rw[sz4,sz1];omega
   have b5:T2.size+(#[109,97,112,32]:Array UInt8).size+o.size+(#[32]:Array UInt8).size+k.size+(L9 (Pp s o k)).size<=9223372036854775807:=by rw[sz4,sz1];omega
   simp +contextual (disch:=omega) only[go_sem,c0,e1,e3,e4,e9,e10,ej,L2,A1,Ed H L1.2,L1,Ed H L3.2,L3,ByteArray.size_append,b1,b2,b3,b4]
   obtain⟨r123,U123,R123,K123⟩:=A9h U _ s (A8.pre hR0 H.sub) o k hl'
   refine by_c H R123 K123 fun H123=> ?_
   simp +contextual (disch:=omega) only[go_sem]
   refine by_r H123 (Iv U123 r123 _ (H123.hp.sl 0 rfl) (X1 hI o k) (by omega)) ?_
   simp +contextual (disch:=omega) only[go_sem,e1,e3,e4,e9,e10,ej,ByteArray.size_append,b5]
   exact hJ _ _ _ _ (H123.re [1,2,3] (by decide)) ⟨by simp +contextual (disch:=omega) only[go_sem,e1],by rw[hn2,<-hE];simp +contextual (disch:=omega) only[go_sem],by simp +contextual (disch:=omega) only[go_sem,e4],by simp +contextual (disch:=omega) only[go_sem,e9],by simp +contextual (disch:=omega) only[go_sem,e10],rfl⟩
  ·clear H H94 K94 R94 L1 L2 e1 e3 e4 ei c0 hJ
   rintro Yq hY env h U ej c0 H ⟨e1,e3,e4,e9,e10,rfl⟩
   have L2:=(H.hp.sl 0 rfl).len
   rw[Zab] at e3
   simp +contextual (disch:=omega) only[go_sem,c0,e10,ej,L2]
   exact hY _ _ _ (H.re [1,2] (by decide)) ⟨by simp +contextual (disch:=omega) only[go_sem,e1],by simp +contextual (disch:=omega) only[go_sem,e3];rfl,by simp +contextual (disch:=omega) only[go_sem,e4],by simp +contextual (disch:=omega) only[go_sem,e9],rfl⟩
  ·clear H H94 K94 R94 L1 L2 e1 e3 e4 ei c0
   rintro env h U H ⟨e1,e3,e4,e9,rfl⟩
   simp +contextual (disch:=omega) only[go_sem,e1,e3,e4,e9]
   exact hJ _ _ _ _ H ⟨by simp +contextual (disch:=omega) only[go_sem,e1],by rw[hn];simp +contextual (disch:=omega) only[go_sem,e3],by simp +contextual (disch:=omega) only[go_sem,e4],rfl⟩
 ·clear H H82 K82 R82 e1 e3
  rintro Yq hY env h U ei c0 H ⟨e1,e3,e4,rfl⟩
  have L2:=(H.hp.sl 0 rfl).len
  rw[Zab] at e3
  simp +contextual (disch:=omega) only[go_sem,c0,e4,ei,L2]
  exact hY _ _ _ (H.re [1] (by decide)) ⟨by simp +contextual (disch:=omega) only[go_sem,e1],by simp +contextual (disch:=omega) only[go_sem,e3];rfl,rfl⟩
 clear H H82 K82 R82 e1 e3
 rintro env h U H ⟨e1,e3,rfl⟩
 simp +contextual (disch:=omega) only[go_sem,e1,e3]
 obtain⟨r127,U127,R127,K127⟩:=Ze U _ s (A8.pre hR0 H.sub) hl'
 refine by_c H R127 K127 fun H127=> ?_
 simp +contextual (disch:=omega) only[go_sem,e1,e3]
 refine Cr (A9 txLt (Dy s)).length 12 10 (fun i env h=>env 1= .ptr n 0/\env 3= .str (shw2 s++catS (((A9 txLt (Dy s)).take i).map (La s)))/\env 4=r127/\h=[.th (ow pS.kd r127 (A9 txLt (Dy s))),.box 1 n [a,b,c,v]]) (fun env h=>env 3= .str (shw3 s)) (fun env h=>False) _ H127 (by simp +contextual (disch:=omega) only[go_sem]) ⟨by simp +contextual (disch:=omega) only[go_sem,e1],by simp +contextual (disch:=omega) only[go_sem,e3,Jz],by simp +contextual (disch:=omega) only[go_sem],rfl⟩ ?_ ?_ ?_ (fun _ _ _ _ h=>h.elim)
 ·clear H H127 K127 R127 e1 e3
  rintro J Yq Wq hJ hY hW i env h U hi ei c0 H ⟨e1,e3,e4,rfl⟩
  have L1:=Gs (H.hp.sl 0 rfl) hi
  have L2:=(H.hp.sl 0 rfl).len
  have ho:=q3 _ (Zaf hi)
  have hT:=Cg (B:=shw2 s) (f:=La s) (fun o ho=>Kz hI (q3 o ho)) m3 i
  have hn:=Cy (B:=shw2 s) (f:=La s) hi
  generalize(A9 txLt (Dy s))[i]=o at*
  generalize shw2 s++catS (((A9 txLt (Dy s)).take i).map (La s))=T at*
  have hE:=row_eq s T o
  have hrl:=A3e s o
  have hvs:=Fg (X2 hI o)
  have b1:T.size+(#[114,111,119,32]:Array UInt8).size<=9223372036854775807:=by rw[sz4];omega
  have b2:T.size+(#[114,111,119,32]:Array UInt8).size+o.size<=9223372036854775807:=by rw[sz4];omega
  have b3:T.size+(#[114,111,119,32]:Array UInt8).size+o.size+(L9 (Lu s o)).size<=9223372036854775807:=by rw[sz4];omega
  simp +contextual (disch:=omega) only[go_sem,c0,e1,e3,e4,ei,L2,A1,Ed H L1.2,L1,ByteArray.size_append,b1,b2]
  obtain⟨r146,U146,R146,K146⟩:=A9k U _ s (A8.pre hR0 H.sub) o hl'
  refine by_c H R146 K146 fun H146=> ?_
  simp +contextual (disch:=omega) only[go_sem]
  refine by_r H146 (Iv U146 r146 _ (H146.hp.sl 0 rfl) (X2 hI o) (by omega)) ?_
  simp +contextual (disch:=omega) only[go_sem,e1,e3,e4,ei,ByteArray.size_append,b3]
  exact hJ _ _ _ _ (H146.re [1,2] (by decide)) ⟨by simp +contextual (disch:=omega) only[go_sem,e1],by rw[hn,<-hE];simp +contextual (disch:=omega) only[go_sem],by simp +contextual (disch:=omega) only[go_sem,e4],rfl⟩
 ·clear H H127 K127 R127 e1 e3
  rintro Yq hY env h U ei c0 H ⟨e1,e3,e4,rfl⟩
  have L2:=(H.hp.sl 0 rfl).len
  rw[Zab] at e3
  simp +contextual (disch:=omega) only[go_sem,c0,e4,ei,L2]
  exact hY _ _ _ H (by simp +contextual (disch:=omega) only[go_sem,e3];rfl)
 ·rintro env h U H e3
  simp +contextual (disch:=omega) only[go_sem,e3]
theorem Afg {x:Tally} (h:zTally x):Sn x:=h.1
theorem A6s {x:List Tally} (h:((x).length<=9223372036854775807/\∀ y6∈x,zTally (y6))):x.length<=9223372036854775807/\∀ y∈x,Sn y:=⟨h.1,fun y hy=>Afg (h.2 y hy)⟩
theorem Ahl {x:Live} (h:zLive x):Abl x:=⟨h.2.1,h.2.2.1⟩
theorem Ab4 {x:List Live} (h:((x).length<=9223372036854775807/\∀ y5∈x,zLive (y5))):x.length<=9223372036854775807/\∀ y∈x,Abl y:=⟨h.1,fun y hy=>Ahl (h.2 y hy)⟩
theorem Ahm {x:Cell} (h:zCell x):A84 x:=h.1
theorem Ab5 {x:List Cell} (h:((x).length<=9223372036854775807/\∀ y5∈x,zCell (y5))):x.length<=9223372036854775807/\∀ y∈x,A84 y:=⟨h.1,fun y hy=>Ahm (h.2 y hy)⟩
theorem Ahn {x:File} (h:zFile x):Af2 x:=h.1
theorem zAct_w {x:Act} (h:zAct x):wAct x:=⟨h.2.2.1.1,h.2.2.2.2.1,h.2.2.2.2.2.1⟩
theorem A3k {x:State} (h:zState x):Aal x:=⟨h.1.1,A6s h.2.1,Ab4 h.2.2.1,Ab5 h.2.2.2⟩
theorem Afh {x:Delta} (h:zDelta x):Adm x:=⟨h.1.1,h.2.1.1,A6s h.2.2.1,Ab4 h.2.2.2.1,h.2.2.2.2.1.1,Ab5 h.2.2.2.2.2⟩
theorem Afi {x:Unit_} (h:zUnit_ x):A85 x:=⟨zAct_w h.2.1,Afh h.2.2⟩
theorem A3l {x:List Unit_} (h:((x).length<=9223372036854775807/\∀ y6∈x,zUnit_ (y6))):x.length<=9223372036854775807/\∀ y∈x,A85 y:=⟨h.1,fun y hy=>Afi (h.2 y hy)⟩
theorem zLog_w {x:Log} (h:zLog x):wLog x:=⟨A3k h.2.2.1,A3l h.2.2.2.1,A3l h.2.2.2.2⟩
theorem Aed {x:Commit} (h:zCommit x):Sp x:=⟨h.2.1.1,A3k h.2.2⟩
theorem Acb {x:List Commit} (h:((x).length<=9223372036854775807/\∀ y7∈x,zCommit (y7))):x.length<=9223372036854775807/\∀ y∈x,Sp y:=⟨h.1,fun y hy=>Aed (h.2 y hy)⟩
theorem Afj {x:Graph} (h:zGraph x):Aam x:=Acb h.1
theorem Acc {x:Replica} (h:zReplica x):Aan x:=⟨zLog_w h.2.1,Afj h.2.2.1,Ahn h.2.2.2.1,A3l h.2.2.2.2⟩
def G0:Fn1:=⟨27,[.t 2],(rg [oX 1 0,oV 2 kf] (rg [oV 3 (ki 1048576)] (rg [oW 7 4 1,oM 8 3,oD 9 14 7 8,oM 3 9] (.seq (rg [oM 10 3,oE 11 .lss 10 0] (oG 11 (oR 2 kt))) (rg [oW 12 4 1,oC 13 17 12,oC 14 66 13,oM 4 14] (rg [oW 15 4 1,oC 16 17 15,o 5 (.new [.nilS,.nilS,.nilS,.nilS]),oS 4 5 16] (rg [oW 17 4 5,oC 18 67 17,oM 6 18] (.seq (rg [oM 19 6,oM 20 4,oB 21 .neq 19 20] (oG 21 (oR 2 kf))) (.seq (dw [oW 22 4 5,oW 23 4 1,oC 24 17 23] [oD 25 21 22 24,oU 26 25] (oG 26 (oR 2 kf))) (oR 2 kt))))))))))⟩
theorem Ka:A4 Tryz.prog 12=some G0:=by kernel_rfl
theorem law_ShowState (N:St) (cs0:List GV) (x0:State) (hR0:eState.R N x0 cs0) (hw0:zState x0):∃ r U,Ret Tryz.prog 12 [.agg cs0] N r U/\r= .bool true:=by
 have hst:stI x0:=⟨fun x hx=>(hw0.2.2.1.2 x hx).2.2.2.1.2,fun x hx=>(hw0.2.2.2.2 x hx).2.2.2.2.1.2⟩
 have hR0:=A81 hR0
 have hl0:=A8.len hR0
 have hw0:=A3k hw0
 refine Adi Ka (Z0z rfl) ?_
 have hB:N <+: N++[some (Blk.row 1 (cs0))]:=pre1 _ _
 have hb0:rdB (N++[some (Blk.row 1 (cs0))]) (N).length=some (cs0):=Je (Zal _)
 have hs0:(seg cs0 0 4).bind (mkv true)=some (.agg cs0):=Bb hl0
 simp +contextual (disch:=omega) only[go_sem,G0,A2 (Aq (Zal _) hb0),hs0,Zaa]
 refine A6 (Il _ cs0 x0 (A8.pre hR0 (hB.trans (Zal _))) (1048576) hw0 (by omega) (by omega)) ?_
 have ge0:= @A83 (1048576) (A7 x0)
 have gm0:= @E5 (1048576) (A7 x0) (by omega)
 try simp +contextual (disch:=omega) only[go_sem,Zaa,ite_self,ne_eq,not_true_eq_false,bne_self_eq_false,beq_self_eq_true,A2 (Aq (Zal _) hb0),hs0]
 refine⟨fun _=>hB.length_le,fun hn=> ?_⟩
 have hn:=of_decide_eq_false hn
 have hf0:=B5 hn
 have hu0:A7 x0<=1048576:=by omega
 try simp +contextual (disch:=omega) only[go_sem,Zaa,ite_self,ne_eq,not_true_eq_false,bne_self_eq_false,beq_self_eq_true,A2 (Aq (Zal _) hb0),hs0]
 have H:=Hp.refl (N++[some (Blk.row 1 (cs0))])
 try simp +contextual (disch:=omega) only[go_sem,Zaa,ite_self,ne_eq,not_true_eq_false,bne_self_eq_false,beq_self_eq_true,A2 (Aq H.sub hb0),hs0]
 obtain⟨_,U1,R1,_,d1,rfl,K1⟩:=Ec _ cs0 x0 (A8.pre hR0 (hB.trans H.sub)) (by omega)
 refine F6 R1 K1 ?_
 have H:=H.add K1
 try simp only[Zaw,Zat] at H
 have g1:=Bb (A8.len (K1.rd 0 rfl))
 have g1:(seg d1 0 4).bind (mkv true)=some (.agg d1):=g1
 have gl1:d1.length=4:=A8.len (K1.rd 0 rfl)
 try simp +contextual (disch:=omega) only[go_sem,Zaa,ite_self,ne_eq,not_true_eq_false,bne_self_eq_false,beq_self_eq_true,A2 (Aq H.sub hb0),hs0,g1]
 refine A6 (K8 _ d1 x0 (H.rd 0 rfl) (by omega) hst) ?_
 have hpw:=H.sub
 have H:=H.restart
 try simp +contextual (disch:=omega) only[go_sem,Zaa,ite_self,ne_eq,not_true_eq_false,bne_self_eq_false,beq_self_eq_true,A2 (Aq (hpw.trans H.sub) hb0),hs0,g1]
 obtain⟨_,U3,R3,_,d3,rfl,K3⟩:=Ec _ cs0 x0 (A8.pre hR0 (hB.trans (hpw.trans H.sub))) (by omega)
 refine F6 R3 K3 ?_
 have H:=H.add K3
 try simp only[Zaw,Zat] at H
 have g3:=Bb (A8.len (K3.rd 0 rfl))
 have g3:(seg d3 0 4).bind (mkv true)=some (.agg d3):=g3
 have gl3:d3.length=4:=A8.len (K3.rd 0 rfl)
 try simp +contextual (disch:=omega) only[go_sem,Zaa,ite_self,ne_eq,not_true_eq_false,bne_self_eq_false,beq_self_eq_true,A2 (Aq (hpw.trans H.sub) hb0),hs0,g1,g3]
 have H:=H.new 1 d3
 try simp +contextual (disch:=omega) only[go_sem,Zaa,ite_self,ne_eq,not_true_eq_false,bne_self_eq_false,beq_self_eq_true,A2 (Aq (hpw.trans H.sub) hb0),hs0,A2 (H.pt 0 rfl),g1,g3,Sm (cs:=[GV.nilS,GV.nilS,GV.nilS,GV.nilS]) gl3 rfl,gl3]
 refine A6 (K6 _ d3 x0 (H.rd 1 rfl) (by omega) hst) ?_
 try simp +contextual (disch:=omega) only[go_sem,Zaa,ite_self,ne_eq,not_true_eq_false,bne_self_eq_false,beq_self_eq_true,A2 (Aq (hpw.trans H.sub) hb0),hs0,A2 (H.pt 0 rfl),g1,g3]
 try simp +contextual (disch:=omega) only[go_sem,Zaa,ite_self,ne_eq,not_true_eq_false,bne_self_eq_false,beq_self_eq_true,A2 (Aq (hpw.trans H.sub) hb0),hs0,A2 (H.pt 0 rfl),g1,g3]
 try simp +contextual (disch:=omega) only[go_sem,Zaa,ite_self,ne_eq,not_true_eq_false,bne_self_eq_false,beq_self_eq_true,A2 (Aq (hpw.trans H.sub) hb0),hs0,A2 (H.pt 0 rfl),g1,g3]
 obtain⟨_,U5,R5,_,d5,rfl,K5⟩:=Ec _ cs0 x0 (A8.pre hR0 (hB.trans (hpw.trans H.sub))) (by omega)
 refine F6 R5 K5 ?_
 have H:=H.add K5
 try simp only[Zaw,Zat] at H
 have g5:=Bb (A8.len (K5.rd 0 rfl))
 have g5:(seg d5 0 4).bind (mkv true)=some (.agg d5):=g5
 have gl5:d5.length=4:=A8.len (K5.rd 0 rfl)
 try simp +contextual (disch:=omega) only[go_sem,Zaa,ite_self,ne_eq,not_true_eq_false,bne_self_eq_false,beq_self_eq_true,A2 (Aq (hpw.trans H.sub) hb0),hs0,A2 (H.pt 1 rfl),g1,g3,g5]
 refine A6 (Ik _ _ _ _ _ (H.rd 2 rfl) (H.rd 0 rfl) (by omega)) ?_
 try simp +contextual (disch:=omega) only[go_sem,Zaa,ite_self,ne_eq,not_true_eq_false,bne_self_eq_false,beq_self_eq_true,A2 (Aq (hpw.trans H.sub) hb0),hs0,A2 (H.pt 1 rfl),g1,g3,g5,decide_true,eq_self]
 exact(hB.trans (hpw.trans H.sub)).length_le
def A1m:Fn1:=⟨15,[.t 4],(rg [oX 2 0,oX 3 1,oV 4 kf] (.seq (rg [oF 5 0 2,oL 6 5,oF 7 0 3,oL 8 7,oB 9 .neq 6 8] (oG 9 (oR 4 kf))) (.seq (rg [oF 10 1 2,oL 11 10,oF 12 1 3,oL 13 12,oB 14 .neq 11 13] (oG 14 (oR 4 kf))) (oR 4 kt))))⟩
theorem A9s:A4 Tryz.prog 176=some A1m:=by kernel_rfl
theorem A6t (N:St) (x y:File):Ret Tryz.prog 176 [.agg [.str x.text,.int .i64 x.synced],.agg [.str y.text,.int .i64 y.synced]] N (.bool (decide (x=y))) N:=by
 refine Ab A9s (Z0z rfl) trivial ?_
 simp +contextual (disch:=omega) only[go_sem,A1m,Zaa]
 refine⟨fun hn=> ?_,fun hn=> ?_⟩
 ·simp only[File.eq_iff];simp at hn ⊢;simp[hn]
 have q0:x.text=y.text:=by simpa using hn
 refine⟨fun hn=> ?_,fun hn=> ?_⟩
 ·simp only[File.eq_iff];simp at hn ⊢;simp[hn]
 have q1:x.synced=y.synced:=by simpa using hn
 simp only[File.eq_iff,q0,q1,and_self,decide_true]
def Re:Fn1:=⟨17,[.c 2 true 7],(rg [oX 1 0,o 2 (.new [z0,z0,.nilS,.nilS,.nilS,.nilS,.nilS])] (rg [o 3 (.new [z0,z0,.nilS,.nilS,.nilS,.nilS,.nilS])] (rg [oF 4 0 1,oW 5 2 4,oC 6 252 5,oF 7 0 3,oS 2 7 6] (rg [oF 8 2 1,oL 9 8,oC 10 77 9,oF 11 2 3,oS 1 11 10] (rg [oF 12 3 1,oW 13 4 12,oC 14 17 13,oF 15 3 3,oS 4 15 14] (rg [oW 16 7 3,oS 7 2 16] .ret))))))⟩
theorem A3m:A4 Tryz.prog 270=some Re:=by kernel_rfl
theorem Zh (N:St) (cs:List GV) (x:Commit) (hR:Bo.R N x cs) (hl:Av x<=1099511627776):∃ r U,Ret Tryz.prog 270 [.agg cs] N r U/\N <+: U/\∃ ds,r= .agg ds/\Hp N U [own Bo ds x]:=by
 obtain⟨v1,v2,rfl,hA,hD⟩:=hR
 have hD0:=hD
 obtain⟨d0,d1,d2,d3,rfl,_⟩:=hD
 have hma:x.ups.length<=1099511627776/\A7 x.state<=1099511627776:=by unfold Av at hl;omega
 have key:∃ r U,Ret Tryz.prog 270 [.agg [.int .i64 x.id.rep,.int .i64 x.id.seq,v1,d0,d1,d2,d3]] N r U/\∃ ds,r= .agg ds/\Hp N U [own Bo ds x]:=by
  refine Ri A3m (Z0z rfl) (Hx.refl N) ?_
  simp +contextual (disch:=omega) only[go_sem,Re]
  intro n1 f1 U1 H1 n2 f2 U2 H2 n3 f3 U3 H3
  refine by_r H3 (Ds U3 x.id) ?_
  simp +contextual (disch:=omega) only[go_sem]
  intro U4 H4
  obtain⟨u',U5,R5,K5⟩:=Fl U4 v1 x.ups (hA.pre H4.sub) (by omega)
  refine by_c H4 R5 K5 fun H5=> ?_
  have c5:=(K5.sl 0 rfl).cell
  simp +contextual (disch:=omega) only[go_sem,c5]
  intro U6 H6
  obtain⟨_,U7,R7,_,fs,rfl,K7⟩:=Ec U6 _ x.state (A8.pre hD0 H6.sub) hma.2
  refine by_c H6 R7 K7 fun H7=> ?_
  obtain⟨e0,e1,e2,e3,rfl,_⟩:=K7.rd 0 rfl
  simp +contextual (disch:=omega) only[go_sem]
  intro U8 _ U9 H9
  exact⟨_,rfl,_,rfl,Hp.ownCommit (x:=x) (H9.sel [1,0] (by decide))⟩
 obtain⟨r,U,R,ds,rfl,h⟩:=key
 exact⟨_,U,R,h.sub,ds,rfl,h⟩
def Ot:Fn1:=⟨23,[.t 2],(rg [o 2 (.mov (.k .nilS))] (rg [oM 5 0,oN 6 5,o 7 (.mks 7 136 [z0,z0,.nilS,.nilS,.nilS,.nilS,.nilS] (.t 6) (.t 6)),oM 3 7] (.seq (rg [oV 4 (ki 0)] (oH 0 (.seq (rg [oM 8 4,oM 9 0,oN 10 9,oB 11 .lss 8 10] (oJ 11 0)) (.seq (.blk 1 (.reg [oM 14 3,oM 15 4,oM 16 0,oM 17 4,oI 18 7 16 17,oW 19 7 18,oC 20 270 19,oI 21 7 14 15,oS 7 21 20])) (.reg [oM 12 4,oZ 13 12 1,oM 4 13]))))) (rg [oM 22 3,oM 2 22] .ret))))⟩
theorem Zi:A4 Tryz.prog 247=some Ot:=by kernel_rfl
def Aee:Commit:=⟨⟨0,0⟩,[],⟨[],[],[],[]⟩⟩
abbrev zeS:List GV:=[.nilS,.nilS,.nilS,.nilS]
theorem Acd (U:St):A8.O U ⟨[],[],[],[]⟩ zeS []:=⟨.nilS,.nilS,.nilS,.nilS,[],[],[],[],rfl,.inl ⟨rfl,rfl,rfl⟩,.inl ⟨rfl,rfl,rfl⟩,.inl ⟨rfl,rfl,rfl⟩,.inl ⟨rfl,rfl,rfl⟩,rfl⟩
theorem A9t (U:St):Bo.O U Aee (gi 0::gi 0::.nilS::zeS++[]) []:=⟨.nilS,zeS,[],[],rfl,.inl ⟨rfl,rfl,rfl⟩,Acd U,rfl⟩
theorem L4 {N:St} {v:GV} {l:List Commit} (h:RS Bo N v l) {i:Nat} (hi:i<l.length):∃ cs,(iadG 7 v (some i)=some (atz 7 v i)/\ldG true 7 N (atz 7 v i)=some (.agg cs))/\Bo.R N l[i] cs:=by
 obtain⟨cs,⟨h1,_,_,h4,_⟩,h5⟩:=RdN.cellsN h hi
 exact⟨cs,⟨h1,h4⟩,h5⟩
theorem Aef {Y:Type} {l:List Y} {x0:Y} {i:Nat} (hi:i<l.length):(l.take i++Zak (l.length - i) x0).set i l[i]=l.take (i+1)++Zak (l.length - (i+1)) x0:=by
 have e:Zak (l.length - i) x0=x0::Zak (l.length - (i+1)) x0:=by
  rw[show l.length - i=(l.length - (i+1))+1 by omega,Za2]
 rw[e,Aw hi,Zam,Zaz _ _ (by rw[Zag];omega)]
 congr 1
 rw[Zag,Za7 (by omega),Nat.sub_self]
 rfl
theorem Xc (N:St) (v:GV) (l:List Commit) (hR:RS Bo N v l) (hl:l.length+sumL Av l<=1073741824):∃ r U,Ret Tryz.prog 247 [v] N r U/\Hp N U [ow Bo r l]:=by
 refine Ri Zi (Z0z rfl) (Hx.refl N) ?_
 simp +contextual (disch:=omega) only[go_sem,Ot,hR.len,A1]
 refine⟨by omega,?_⟩
 intro n f U H
 have H1:=H.mk Bo rfl A9t
 refine Cr l.length 4 0 (fun i env h=>env 0=v/\env 3= .sl n 0 l.length/\h=[.th (ow Bo (.sl n 0 l.length) (l.take i++Zak (l.length - i) Aee))]) (fun env h=>env 3= .sl n 0 l.length/\h=[.th (ow Bo (.sl n 0 l.length) l)]) (fun env h=>False) _ H1 (by simp +contextual (disch:=omega) only[go_sem]) ⟨by simp +contextual (disch:=omega) only[go_sem],by simp +contextual (disch:=omega) only[go_sem],by simp⟩ ?_ ?_ ?_ (fun _ _ _ _ h=>h.elim)
 ·clear H H1
  rintro J Yq Wq hJ hY hW i env h' U hi ei c0 H ⟨e0,e3,rfl⟩
  obtain⟨cs,Uq1,hU⟩:=L4 hR hi
  have hmu:Av l[i]<=sumL Av l:=Cj (f:=Av) (Zaf hi)
  have i3:iadG 7 (.sl n 0 l.length) (some i)=some (atz 7 (.sl n 0 l.length) i):=by simp[iadG,hi,atz]
  simp +contextual (disch:=omega) only[go_sem,c0,e0,e3,ei,A1,hR.len,Uq1]
  obtain⟨_,U2,R2,_,ds,rfl,K2⟩:=Zh U cs l[i] (Bo.pre hU H.sub) (by omega)
  refine by_c H R2 K2 fun H2=> ?_
  simp +contextual (disch:=omega) only[go_sem,i3,A1]
  refine Adt (d:=Bo) H2 0 0 rfl rfl (by decide) (by rw[Zah,Zag,Za0];omega) fun U3 H3=> ?_
  simp +contextual (disch:=omega) only[go_sem,ei]
  exact hJ _ _ _ _ H3 ⟨by simp +contextual (disch:=omega) only[go_sem,e0],by simp +contextual (disch:=omega) only[go_sem,e3],by rw[Aef hi];rfl⟩
 ·clear H H1
  rintro Yq hY env h' U ei c0 H ⟨e0,e3,rfl⟩
  simp +contextual (disch:=omega) only[go_sem,c0,e0,ei,hR.len]
  exact hY _ _ _ H ⟨e3,by simp⟩
 ·clear H H1
  rintro env h' U H ⟨e3,rfl⟩
  simp +contextual (disch:=omega) only[go_sem,e3]
  exact fun _=>⟨_,rfl,H.hp⟩
def Rf:Fn1:=⟨23,[.t 4],(rg [oX 2 0,oX 3 1,oV 4 kf] (.seq (rg [oF 5 0 2,oW 6 2 5,oF 7 0 3,oW 8 2 7,oD 9 253 6 8,oU 10 9] (oG 10 (oR 4 kf))) (.seq (rg [oF 11 2 2,oL 12 11,oF 13 2 3,oL 14 13,oD 15 20 12 14,oU 16 15] (oG 16 (oR 4 kf))) (.seq (rg [oF 17 3 2,oW 18 4 17,oF 19 3 3,oW 20 4 19,oD 21 21 18 20,oU 22 21] (oG 22 (oR 4 kf))) (oR 4 kt)))))⟩
theorem A3n:A4 Tryz.prog 274=some Rf:=by kernel_rfl
theorem Zj (N:St) (cs ds:List GV) (x y:Commit) (hx:Bo.R N x cs) (hy:Bo.R N y ds) (hl:Av x<=1099511627776):Ret Tryz.prog 274 [.agg cs,.agg ds] N (.bool (decide (x=y))) N:=by
 obtain⟨v1,v2,rfl,q1_,q2_⟩:=hx
 obtain⟨u1,u2,rfl,p1_,p2_⟩:=hy
 unfold Av at hl
 have a2:=q2_
 have b2:=p2_
 obtain⟨d0,d1,d2,d3,rfl,_⟩:=q2_
 obtain⟨e0,e1,e2,e3,rfl,_⟩:=p2_
 suffices key:Ret Tryz.prog 274 [.agg [.int .i64 x.id.rep,.int .i64 x.id.seq,v1,d0,d1,d2,d3],.agg [.int .i64 y.id.rep,.int .i64 y.id.seq,u1,e0,e1,e2,e3]] N (.bool (decide (x=y))) N from key
 refine Ab A3n (Z0z rfl) trivial ?_
 simp +contextual (disch:=omega) only[go_sem,Rf,Zaa]
 refine A6 (Dr _ x.id y.id) ?_
 simp +contextual (disch:=omega) only[go_sem,Zaa]
 refine⟨fun hn=> ?_,fun hn=> ?_⟩
 ·simp only[Commit.eq_iff];simp at hn ⊢;simp[hn]
 have q0:x.id=y.id:=by simpa using hn
 refine A6 (Fj _ v1 u1 x.ups y.ups (q1_.pre pre2) (p1_.pre pre2) (by omega)) ?_
 simp +contextual (disch:=omega) only[go_sem,Zaa]
 refine⟨fun hn=> ?_,fun hn=> ?_⟩
 ·simp only[Commit.eq_iff];simp at hn ⊢;simp[hn]
 have q1:x.ups=y.ups:=by simpa using hn
 refine A6 (Ik _ _ _ x.state y.state (A8.pre a2 pre2) (A8.pre b2 pre2) (by omega)) ?_
 simp +contextual (disch:=omega) only[go_sem,Zaa]
 refine⟨fun hn=> ?_,fun hn=> ?_⟩
 ·simp only[Commit.eq_iff];simp at hn ⊢;simp[hn]
 have q2:x.state=y.state:=by simpa using hn
 simp only[Commit.eq_iff,q0,q1,q2,and_self,decide_true]
def Ov:Fn1:=⟨27,[.t 4],(rg [oV 4 kf] (.seq (rg [oM 6 0,oN 7 6,oM 8 1,oN 9 8,oB 10 .neq 7 9] (oG 10 (oR 4 kf))) (.seq (rg [oV 5 (ki 0)] (oH 0 (.seq (rg [oM 11 5,oM 12 0,oN 13 12,oB 14 .lss 11 13] (oJ 14 0)) (.seq (.blk 1 (dw [oM 17 0,oM 18 5,oI 19 7 17 18,oW 20 7 19,oM 21 1,oM 22 5,oI 23 7 21 22,oW 24 7 23] [oD 25 274 20 24,oU 26 25] (oG 26 (oR 4 kf)))) (.reg [oM 15 5,oZ 16 15 1,oM 5 16]))))) (oR 4 kt))))⟩
theorem Zk:A4 Tryz.prog 250=some Ov:=by kernel_rfl
theorem Xd (N:St) (v u:GV) (l m:List Commit) (hv:RS Bo N v l) (hu:RS Bo N u m) (hl:(l.length+sumL Av l)<=1099511627776):Ret Tryz.prog 250 [v,u] N (.bool (decide (l=m))) N:=by
 refine Ab Zk (Z0z rfl) trivial ?_
 simp +contextual (disch:=omega) only[go_sem,Ov,hv.len,hu.len]
 refine⟨fun hn=> ?_,fun hn=> ?_⟩
 ·have:l≠m:=fun h=>by subst h;simp at hn
  simp[this]
 have hlm:l.length=m.length:=by
                    have h2:(l.length:Int)=m.length:=by simpa using hn
                    omega
 refine Bc l.length 5 (fun i env U=>env 0=v/\env 1=u/\l.take i=m.take i/\N <+: U) rfl ⟨rfl,rfl,rfl,Zal _⟩ ?_ ?_
 ·rintro i env U hi e5 c0 ⟨e0,e1,he,hp⟩
  have hj:i<m.length:=by omega
  have h1:=hv.pre hp
  have h2:=hu.pre hp
  have hne:l[i]≠m[i]->l≠m:=fun h h'=>h (by subst h';rfl)
  have hst:l[i]=m[i]->l.take (i+1)=m.take (i+1):=fun h=>by rw[Aw hi,Aw hj,he,h]
  have hms:Av l[i]<=sumL Av l:=Cj (Zaf hi)
  obtain⟨c,hc,hcr⟩:=L4 h1 hi
  obtain⟨d,hd,hdr⟩:=L4 h2 hj
  simp +contextual (disch:=omega) only[go_sem,c0,e0,e1,e5,hv.len,hu.len,hc,hd]
  refine A6 (Zj U c d l[i] m[i] hcr hdr (by omega)) ?_
  simp +contextual (disch:=omega) only[go_sem,e0,e1,e5,hp]
  refine⟨fun h=> ?_,fun h=> ?_⟩
  ·simp[hne (by simpa using h)]
  ·simpa using hst (by simpa using h)
 ·rintro env U e5 c0 ⟨e0,e1,he,hp⟩
  rw[Zab,hlm,Zab] at he
  simp +contextual (disch:=omega) only[go_sem,c0,e0,e1,e5,hv.len,hu.len,hp]
  simp[he]
def Xf:Fn1:=⟨16,[.t 4],(rg [oX 2 0,oX 3 1,oV 4 kf] (.seq (rg [oF 5 0 2,oL 6 5,oF 7 0 3,oL 8 7,oD 9 250 6 8,oU 10 9] (oG 10 (oR 4 kf))) (.seq (rg [oF 11 1 2,oL 12 11,oF 13 1 3,oL 14 13,oB 15 .neq 12 14] (oG 15 (oR 4 kf))) (oR 4 kt))))⟩
theorem A6u:A4 Tryz.prog 175=some Xf:=by kernel_rfl
theorem A3o (N:St) (cs ds:List GV) (x y:Graph) (hx:E1.R N x cs) (hy:E1.R N y ds) (hl:C7 x<=1099511627776):Ret Tryz.prog 175 [.agg cs,.agg ds] N (.bool (decide (x=y))) N:=by
 obtain⟨v0,rfl,q0_⟩:=hx
 obtain⟨u0,rfl,p0_⟩:=hy
 unfold C7 at hl
 refine Ab A6u (Z0z rfl) trivial ?_
 simp +contextual (disch:=omega) only[go_sem,Xf,Zaa]
 refine A6 (Xd _ v0 u0 x.commits y.commits (q0_.pre pre2) (p0_.pre pre2) (by omega)) ?_
 simp +contextual (disch:=omega) only[go_sem,Zaa]
 refine⟨fun hn=> ?_,fun hn=> ?_⟩
 ·simp only[Graph.eq_iff];simp at hn ⊢;simp[hn]
 have q0:x.commits=y.commits:=by simpa using hn
 refine⟨fun hn=> ?_,fun hn=> ?_⟩
 ·simp only[Graph.eq_iff];simp at hn ⊢;simp[hn]
 have q1:x.head=y.head:=by simpa using hn
 simp only[Graph.eq_iff,q0,q1,and_self,decide_true]
def A6w:Fn1:=⟨32,[.c 2 true 10],(rg [oX 1 0,o 2 (.new [z0,z0,z0,.nilS,z0,s0,s0,z0,z0,z0])] (rg [o 3 (.new [z0,z0,z0,.nilS,z0,s0,s0,z0,z0,z0])] (rg [oF 4 0 1,oW 5 2 4,oC 6 252 5,oF 7 0 3,oS 2 7 6] (rg [oF 8 2 1,oL 9 8,oF 10 2 3,oS 1 10 9] (rg [oF 11 3 1,oL 12 11,oC 13 77 12,oF 14 3 3,oS 1 14 13] (rg [oF 15 4 1,oL 16 15,oF 17 4 3,oS 1 17 16] (rg [oF 18 5 1,oL 19 18,oF 20 5 3,oS 1 20 19] (rg [oF 21 6 1,oL 22 21,oF 23 6 3,oS 1 23 22] (rg [oF 24 7 1,oL 25 24,oF 26 7 3,oS 1 26 25] (rg [oF 27 8 1,oW 28 2 27,oC 29 252 28,oF 30 8 3,oS 2 30 29] (rg [oW 31 10 3,oS 10 2 31] .ret)))))))))))⟩
theorem Ace:A4 Tryz.prog 271=some A6w:=by kernel_rfl
theorem A9u (N:St) (cs:List GV) (x:Act) (hR:kAct.R N x cs) (hl:L6 x<=1099511627776):∃ r U,Ret Tryz.prog 271 [.agg cs] N r U/\N <+: U/\∃ ds,r= .agg ds/\Hp N U [own kAct ds x]:=by
 have hlen:=kAct.len hR
 have hlen:cs.length=10:=hlen
 obtain⟨v2,rfl,q2⟩:=hR
 unfold L6 at hl
 refine Sb Ace (Z0z rfl) ?_
 simp +contextual (disch:=omega) only[go_sem,A6w,Zaa]
 refine A6 (Ds _ x.dot) ?_
 simp +contextual (disch:=omega) only[go_sem,Zaa]
 have H:=(((Hp.refl N).new 1 ((GV.int .i64 x.dot.rep)::(GV.int .i64 x.dot.seq)::(GV.int .i64 x.time)::v2::(GV.int .i64 x.kind)::(GV.str x.obj)::(GV.str x.key)::(GV.int .i64 x.val)::(GV.int .i64 x.ref.rep)::(GV.int .i64 x.ref.seq)::[])).new 1 [(GV.int .i64 0),(GV.int .i64 0),(GV.int .i64 0),GV.nilS,(GV.int .i64 0),(GV.str ⟨#[]⟩),(GV.str ⟨#[]⟩),(GV.int .i64 0),(GV.int .i64 0),(GV.int .i64 0)]).new 1 [(GV.int .i64 x.dot.rep),(GV.int .i64 x.dot.seq),(GV.int .i64 x.time),GV.nilS,(GV.int .i64 0),(GV.str ⟨#[]⟩),(GV.str ⟨#[]⟩),(GV.int .i64 0),(GV.int .i64 0),(GV.int .i64 0)]
 obtain⟨r2,U2,R2,K2⟩:=Fl _ v2 x.knew (q2.pre H.sub) (by omega)
 refine F6 R2 K2 ?_
 have e2:=(K2.sl 0 rfl).cell
 have H:=H.add K2
 try simp only[go_sem] at H
 try simp +contextual (disch:=omega) only[go_sem,Zaa,A2 (H.pt 3 rfl),A2 (H.pt 1 rfl)]
 obtain⟨_,es,H,_⟩:=H.st 1 rfl 1 3 (r2) (by rw[e2];rfl) (by decide) (Z0z rfl)
 try simp only[go_sem,Zac,Zad,e2] at H
 try simp +contextual (disch:=omega) only[go_sem,Zaa,es,A2 (H.pt 3 rfl),A2 (H.pt 1 rfl)]
 try simp +contextual (disch:=omega) only[go_sem,Zaa,A2 (H.pt 3 rfl),A2 (H.pt 1 rfl)]
 obtain⟨_,es,H,_⟩:=H.st 1 rfl 1 4 (.int .i64 x.kind) (rfl) (by decide) (Z0z rfl)
 try simp only[go_sem,Zac,Zad] at H
 try simp +contextual (disch:=omega) only[go_sem,Zaa,es,A2 (H.pt 3 rfl),A2 (H.pt 1 rfl)]
 try simp +contextual (disch:=omega) only[go_sem,Zaa,A2 (H.pt 3 rfl),A2 (H.pt 1 rfl)]
 obtain⟨_,es,H,_⟩:=H.st 1 rfl 1 5 (.str x.obj) (rfl) (by decide) (Z0z rfl)
 try simp only[go_sem,Zac,Zad] at H
 try simp +contextual (disch:=omega) only[go_sem,Zaa,es,A2 (H.pt 3 rfl),A2 (H.pt 1 rfl)]
 try simp +contextual (disch:=omega) only[go_sem,Zaa,A2 (H.pt 3 rfl),A2 (H.pt 1 rfl)]
 obtain⟨_,es,H,_⟩:=H.st 1 rfl 1 6 (.str x.key) (rfl) (by decide) (Z0z rfl)
 try simp only[go_sem,Zac,Zad] at H
 try simp +contextual (disch:=omega) only[go_sem,Zaa,es,A2 (H.pt 3 rfl),A2 (H.pt 1 rfl)]
 try simp +contextual (disch:=omega) only[go_sem,Zaa,A2 (H.pt 3 rfl),A2 (H.pt 1 rfl)]
 obtain⟨_,es,H,_⟩:=H.st 1 rfl 1 7 (.int .i64 x.val) (rfl) (by decide) (Z0z rfl)
 try simp only[go_sem,Zac,Zad] at H
 try simp +contextual (disch:=omega) only[go_sem,Zaa,es,A2 (H.pt 3 rfl),A2 (H.pt 1 rfl)]
 refine A6 (Ds _ x.ref) ?_
 try simp +contextual (disch:=omega) only[go_sem,Zaa,A2 (H.pt 3 rfl),A2 (H.pt 1 rfl)]
 obtain⟨_,es,H,_⟩:=H.st 1 rfl 2 8 (.agg [.int .i64 x.ref.rep,.int .i64 x.ref.seq]) (rfl) (by decide) (Z0z rfl)
 try simp only[go_sem,Zac,Zad] at H
 try simp +contextual (disch:=omega) only[go_sem,Zaa,es,A2 (H.pt 3 rfl),A2 (H.pt 1 rfl)]
 obtain⟨_,es,H,_⟩:=H.st 2 rfl 10 0 (.agg ((GV.int .i64 x.dot.rep)::(GV.int .i64 x.dot.seq)::(GV.int .i64 x.time)::r2::(GV.int .i64 x.kind)::(GV.str x.obj)::(GV.str x.key)::(GV.int .i64 x.val)::(GV.int .i64 x.ref.rep)::(GV.int .i64 x.ref.seq)::[])) (rfl) (by decide) (Z0z rfl)
 try simp only[go_sem,Zac,Zad] at H
 try simp +contextual (disch:=omega) only[go_sem,Zaa,es,A2 (H.pt 2 rfl)]
 have h0:=H.sub
 have H:=H
 try simp only[Zau,Zav] at H
 exact⟨_,rfl,h0,_,rfl,H.ownAct.one⟩
def A1o:Fn1:=⟨23,[.t 2],(rg [o 2 (.mov (.k .nilS))] (rg [oM 5 0,oN 6 5,o 7 (.mks 2 16 [z0,z0] (.t 6) (.t 6)),oM 3 7] (.seq (rg [oV 4 (ki 0)] (oH 0 (.seq (rg [oM 8 4,oM 9 0,oN 10 9,oB 11 .lss 8 10] (oJ 11 0)) (.seq (.blk 1 (.reg [oM 14 3,oM 15 4,oM 16 0,oM 17 4,oI 18 2 16 17,oW 19 2 18,oC 20 252 19,oI 21 2 14 15,oS 2 21 20])) (.reg [oM 12 4,oZ 13 12 1,oM 4 13]))))) (rg [oM 22 3,oM 2 22] .ret))))⟩
theorem A9v:A4 Tryz.prog 307=some A1o:=by kernel_rfl
theorem A6x (N:St) (v:GV) (l:List Dot) (hR:RS pDot.kd N v l) (hl:l.length<=1099511627776):∃ r U,Ret Tryz.prog 307 [v] N r U/\Hp N U [ow pDot.kd r l]:=by
 refine A4c (rs:=fun r=>[ow pDot.kd r l]) A9v (Z0z rfl) ?_
 have hmk:∀ ze,mksG 2 16 ze N (some l.length) (some l.length)=some (.sl N.length 0 l.length,N++[some (.row 2 (reps l.length ze))]):=fun ze=>A4a (by omega)
 simp +contextual (disch:=omega) only[go_sem,A1o,hR.len,hmk]
 have H0:=((Hp.refl N).new 2 (reps l.length (pDot.enc ⟨0,0⟩))).toRow 0 (p:=pDot) rfl (Zak l.length ⟨0,0⟩) rfl (Mb _ _ _) l.length (by simp)
 refine Bc l.length 4 (fun i env U=>env 0=v/\env 3= .sl N.length 0 l.length/\Hp N U [ow pDot.kd (.sl N.length 0 l.length) (l.take i++Zak (l.length - i) ⟨0,0⟩)]) rfl ⟨rfl,rfl,by rw[List.take_zero,Zat,Nat.sub_zero];exact H0⟩ ?_ ?_
 ·rintro i env U hi e4 c0 ⟨e0,e3,H⟩
  have h1:=hR.pre H.sub
  have h2:=H.sl 0 rfl
  have hj:=Mc (z:=(⟨0,0⟩:Dot)) hi
  simp +contextual (disch:=omega) only[go_sem,e0,e3,e4,c0,hR.len,Sh h1 hi]
  refine A6 (Ds U l[i]) ?_
  obtain⟨U',es,H'⟩:=H.stw 0 rfl hj 2 (.agg [.int .i64 l[i].rep,.int .i64 l[i].seq]) l[i] rfl rfl (by decide)
  rw[Jh hi] at H'
  have es:stG 2 U (atz 2 (.sl N.length 0 l.length) i) (.agg [.int .i64 l[i].rep,.int .i64 l[i].seq])=some (.tup [],U'):=es
  simp +contextual (disch:=omega) only[go_sem,e0,e3,e4,c0,hR.len,Sh h1 hi,Sh h2 hj,es]
  exact H'
 ·rintro env U e4 c0 ⟨e0,e3,H⟩
  rw[Md] at H
  simp +contextual (disch:=omega) only[go_sem,e0,e3,e4,c0,hR.len]
  exact⟨_,rfl,H⟩
def Xh:Fn1:=⟨29,[.c 2 true 6],(rg [oX 1 0,o 2 (.new [.nilS,.nilS,.nilS,.nilS,.nilS,.nilS])] (rg [o 3 (.new [.nilS,.nilS,.nilS,.nilS,.nilS,.nilS])] (rg [oF 4 0 1,oL 5 4,oC 6 77 5,oF 7 0 3,oS 1 7 6] (rg [oF 8 1 1,oL 9 8,oC 10 77 9,oF 11 1 3,oS 1 11 10] (rg [oF 12 2 1,oL 13 12,oC 14 78 13,oF 15 2 3,oS 1 15 14] (rg [oF 16 3 1,oL 17 16,oC 18 79 17,oF 19 3 3,oS 1 19 18] (rg [oF 20 4 1,oL 21 20,oC 22 307 21,oF 23 4 3,oS 1 23 22] (rg [oF 24 5 1,oL 25 24,oC 26 80 25,oF 27 5 3,oS 1 27 26] (rg [oW 28 6 3,oS 6 2 28] .ret)))))))))⟩
theorem A6y:A4 Tryz.prog 272=some Xh:=by kernel_rfl
theorem A3p (N:St) (cs:List GV) (x:Delta) (hR:Dk.R N x cs) (hl:Cq x<=1099511627776):∃ r U,Ret Tryz.prog 272 [.agg cs] N r U/\N <+: U/\∃ ds,r= .agg ds/\Hp N U [own Dk ds x]:=by
 have hlen:=Dk.len hR
 have hlen:cs.length=6:=hlen
 obtain⟨v0,v1,v2,v3,v4,v5,rfl,q0,q1,q2,q3,q4,q5⟩:=hR
 unfold Cq at hl
 refine Sb A6y (Z0z rfl) ?_
 simp +contextual (disch:=omega) only[go_sem,Xh,Zaa]
 have H:=(((Hp.refl N).new 1 (v0::v1::v2::v3::v4::v5::[])).new 1 [GV.nilS,GV.nilS,GV.nilS,GV.nilS,GV.nilS,GV.nilS]).new 1 [GV.nilS,GV.nilS,GV.nilS,GV.nilS,GV.nilS,GV.nilS]
 obtain⟨r0,U0,R0,K0⟩:=Fl _ v0 x.base (q0.pre H.sub) (by omega)
 refine F6 R0 K0 ?_
 have e0:=(K0.sl 0 rfl).cell
 have H:=H.add K0
 try simp only[go_sem] at H
 try simp +contextual (disch:=omega) only[go_sem,Zaa,A2 (H.pt 3 rfl),A2 (H.pt 1 rfl)]
 obtain⟨_,es,H,_⟩:=H.st 1 rfl 1 0 (r0) (by rw[e0];rfl) (by decide) (Z0z rfl)
 try simp only[go_sem,Zac,Zad,e0] at H
 try simp +contextual (disch:=omega) only[go_sem,Zaa,es,A2 (H.pt 3 rfl),A2 (H.pt 1 rfl)]
 obtain⟨r1,U1,R1,K1⟩:=Fl _ v1 x.know (q1.pre H.sub) (by omega)
 refine F6 R1 K1 ?_
 have e1:=(K1.sl 0 rfl).cell
 have H:=H.add K1
 try simp only[go_sem] at H
 try simp +contextual (disch:=omega) only[go_sem,Zaa,A2 (H.pt 4 rfl),A2 (H.pt 2 rfl)]
 obtain⟨_,es,H,_⟩:=H.st 2 rfl 1 1 (r1) (by rw[e1];rfl) (by decide) (Z0z rfl)
 try simp only[go_sem,Zac,Zad,e1] at H
 try simp +contextual (disch:=omega) only[go_sem,Zaa,es,A2 (H.pt 4 rfl),A2 (H.pt 2 rfl)]
 obtain⟨r2,U2,R2,K2⟩:=Lg _ v2 x.tallies (q2.pre H.sub) (by omega)
 refine F6 R2 K2 ?_
 have e2:=(K2.sl 0 rfl).cell
 have H:=H.add K2
 try simp only[go_sem] at H
 try simp +contextual (disch:=omega) only[go_sem,Zaa,A2 (H.pt 5 rfl),A2 (H.pt 3 rfl)]
 obtain⟨_,es,H,_⟩:=H.st 3 rfl 1 2 (r2) (by rw[e2];rfl) (by decide) (Z0z rfl)
 try simp only[go_sem,Zac,Zad,e2] at H
 try simp +contextual (disch:=omega) only[go_sem,Zaa,es,A2 (H.pt 5 rfl),A2 (H.pt 3 rfl)]
 obtain⟨r3,U3,R3,K3⟩:=Mk _ v3 x.lives (q3.pre H.sub) (by omega)
 refine F6 R3 K3 ?_
 have e3:=(K3.sl 0 rfl).cell
 have H:=H.add K3
 try simp only[go_sem] at H
 try simp +contextual (disch:=omega) only[go_sem,Zaa,A2 (H.pt 6 rfl),A2 (H.pt 4 rfl)]
 obtain⟨_,es,H,_⟩:=H.st 4 rfl 1 3 (r3) (by rw[e3];rfl) (by decide) (Z0z rfl)
 try simp only[go_sem,Zac,Zad,e3] at H
 try simp +contextual (disch:=omega) only[go_sem,Zaa,es,A2 (H.pt 6 rfl),A2 (H.pt 4 rfl)]
 obtain⟨r4,U4,R4,K4⟩:=A6x _ v4 x.dead (q4.pre H.sub) (by omega)
 refine F6 R4 K4 ?_
 have e4:=(K4.sl 0 rfl).cell
 have H:=H.add K4
 try simp only[go_sem] at H
 try simp +contextual (disch:=omega) only[go_sem,Zaa,A2 (H.pt 7 rfl),A2 (H.pt 5 rfl)]
 obtain⟨_,es,H,_⟩:=H.st 5 rfl 1 4 (r4) (by rw[e4];rfl) (by decide) (Z0z rfl)
 try simp only[go_sem,Zac,Zad,e4] at H
 try simp +contextual (disch:=omega) only[go_sem,Zaa,es,A2 (H.pt 7 rfl),A2 (H.pt 5 rfl)]
 obtain⟨r5,U5,R5,K5⟩:=Mj _ v5 x.cells (q5.pre H.sub) (by omega)
 refine F6 R5 K5 ?_
 have e5:=(K5.sl 0 rfl).cell
 have H:=H.add K5
 try simp only[go_sem] at H
 try simp +contextual (disch:=omega) only[go_sem,Zaa,A2 (H.pt 8 rfl),A2 (H.pt 6 rfl)]
 obtain⟨_,es,H,_⟩:=H.st 6 rfl 1 5 (r5) (by rw[e5];rfl) (by decide) (Z0z rfl)
 try simp only[go_sem,Zac,Zad,e5] at H
 try simp +contextual (disch:=omega) only[go_sem,Zaa,es,A2 (H.pt 8 rfl),A2 (H.pt 6 rfl)]
 obtain⟨_,es,H,_⟩:=H.st 7 rfl 6 0 (.agg (r0::r1::r2::r3::r4::r5::[])) (rfl) (by decide) (Z0z rfl)
 try simp only[go_sem,Zac,Zad] at H
 try simp +contextual (disch:=omega) only[go_sem,Zaa,es,A2 (H.pt 7 rfl)]
 have h0:=H.sub
 have H:=(((((H.pick 1 rfl).pick 2 rfl).pick 3 rfl).pick 4 rfl).pick 5 rfl)
 try simp only[Zau,Zav] at H
 exact⟨_,rfl,h0,_,rfl,H.ownDelta.one⟩
def A1p:Fn1:=⟨16,[.c 2 true 17],(rg [oX 1 0,o 2 (.new [(.bool false),z0,z0,z0,.nilS,z0,s0,s0,z0,z0,z0,.nilS,.nilS,.nilS,.nilS,.nilS,.nilS])] (rg [o 3 (.new [(.bool false),z0,z0,z0,.nilS,z0,s0,s0,z0,z0,z0,.nilS,.nilS,.nilS,.nilS,.nilS,.nilS])] (rg [oF 4 0 1,oL 5 4,oF 6 0 3,oS 1 6 5] (rg [oF 7 1 1,oW 8 10 7,oC 9 271 8,oF 10 1 3,oS 10 10 9] (rg [oF 11 11 1,oW 12 6 11,oC 13 272 12,oF 14 11 3,oS 6 14 13] (rg [oW 15 17 3,oS 17 2 15] .ret))))))⟩
theorem A9w:A4 Tryz.prog 248=some A1p:=by kernel_rfl
theorem A6z (N:St) (cs:List GV) (x:Unit_) (hR:Bt.R N x cs) (hl:B7 x<=1099511627776):∃ r U,Ret Tryz.prog 248 [.agg cs] N r U/\N <+: U/\∃ ds,r= .agg ds/\Hp N U [own Bt ds x]:=by
 obtain⟨v1,v2,rfl,hA,hD⟩:=hR
 have hA0:=hA
 have hD0:=hD
 obtain⟨kv,rfl,_⟩:=hA
 obtain⟨d0,d1,d2,d3,d4,d5,rfl,_⟩:=hD
 have hma:L6 x.act<=1099511627776/\Cq x.delta<=1099511627776:=by unfold B7 at hl;omega
 have key:∃ r U,Ret Tryz.prog 248 [.agg (.bool x.batch::[.int .i64 x.act.dot.rep,.int .i64 x.act.dot.seq,.int .i64 x.act.time,kv,.int .i64 x.act.kind,.str x.act.obj,.str x.act.key,.int .i64 x.act.val,.int .i64 x.act.ref.rep,.int .i64 x.act.ref.seq]++([d0,d1,d2,d3,d4,d5]++[]))] N r U/\∃ ds,r= .agg ds/\Hp N U [own Bt ds x]:=by
  refine Ri A9w (Z0z rfl) (Hx.refl N) ?_
  simp +contextual (disch:=omega) only[go_sem,A1p]
  intro n1 f1 U1 H1 n2 f2 U2 H2 n3 f3 U3 _ U4 H4
  obtain⟨_,U5,R5,_,es,rfl,K5⟩:=A9u U4 _ x.act (kAct.pre hA0 H4.sub) hma.1
  refine by_c H4 R5 K5 fun H5=> ?_
  obtain⟨kv',rfl,_⟩:=K5.rd 0 rfl
  simp +contextual (disch:=omega) only[go_sem]
  intro U6 H6
  obtain⟨_,U7,R7,_,fs,rfl,K7⟩:=A3p U6 _ x.delta (Dk.pre hD0 H6.sub) hma.2
  refine by_c H6 R7 K7 fun H7=> ?_
  obtain⟨e0,e1,e2,e3,e4,e5,rfl,_⟩:=K7.rd 0 rfl
  simp +contextual (disch:=omega) only[go_sem]
  intro U8 _ U9 H9
  exact⟨_,rfl,_,rfl,Hp.ownUnit_ (x:=x) (H9.sel [1,0] (by decide))⟩
 obtain⟨r,U,R,ds,rfl,h⟩:=key
 exact⟨_,U,R,h.sub,ds,rfl,h⟩
def Xj:Fn1:=⟨23,[.t 2],(rg [o 2 (.mov (.k .nilS))] (rg [oM 5 0,oN 6 5,o 7 (.mks 17 264 [(.bool false),z0,z0,z0,.nilS,z0,s0,s0,z0,z0,z0,.nilS,.nilS,.nilS,.nilS,.nilS,.nilS] (.t 6) (.t 6)),oM 3 7] (.seq (rg [oV 4 (ki 0)] (oH 0 (.seq (rg [oM 8 4,oM 9 0,oN 10 9,oB 11 .lss 8 10] (oJ 11 0)) (.seq (.blk 1 (.reg [oM 14 3,oM 15 4,oM 16 0,oM 17 4,oI 18 17 16 17,oW 19 17 18,oC 20 248 19,oI 21 17 14 15,oS 17 21 20])) (.reg [oM 12 4,oZ 13 12 1,oM 4 13]))))) (rg [oM 22 3,oM 2 22] .ret))))⟩
theorem A70:A4 Tryz.prog 172=some Xj:=by kernel_rfl
def act00:Act:=⟨⟨0,0⟩,0,[],0,⟨#[]⟩,⟨#[]⟩,0,⟨0,0⟩⟩
def unit0:Unit_:=⟨false,act00,⟨[],[],[],[],[],[]⟩⟩
abbrev zeA:List GV:=[gi 0,gi 0,gi 0,.nilS,gi 0,.str ⟨#[]⟩,.str ⟨#[]⟩,gi 0,gi 0,gi 0]
abbrev zeD:List GV:=[.nilS,.nilS,.nilS,.nilS,.nilS,.nilS]
theorem Afk (U:St):kAct.O U act00 zeA []:=⟨.nilS,[],rfl,.inl ⟨rfl,rfl,rfl⟩,rfl⟩
theorem Acf (U:St):Dk.O U ⟨[],[],[],[],[],[]⟩ zeD []:=⟨.nilS,.nilS,.nilS,.nilS,.nilS,.nilS,[],[],[],[],[],[],rfl,.inl ⟨rfl,rfl,rfl⟩,.inl ⟨rfl,rfl,rfl⟩,.inl ⟨rfl,rfl,rfl⟩,.inl ⟨rfl,rfl,rfl⟩,.inl ⟨rfl,rfl,rfl⟩,.inl ⟨rfl,rfl,rfl⟩,rfl⟩
theorem Aeg (U:St):Bt.O U unit0 (.bool false::zeA++(zeD++[])) []:=⟨zeA,zeD,[],[],rfl,Afk U,Acf U,rfl⟩
theorem Rz {N:St} {v:GV} {l:List Unit_} (h:RS Bt N v l) {i:Nat} (hi:i<l.length):∃ cs,(iadG 17 v (some i)=some (atz 17 v i)/\ldG true 17 N (atz 17 v i)=some (.agg cs))/\Bt.R N l[i] cs:=by
 obtain⟨cs,⟨h1,_,_,h4,_⟩,h5⟩:=RdN.cellsN h hi
 exact⟨cs,⟨h1,h4⟩,h5⟩
theorem Aeh {Y:Type} {l:List Y} {x0:Y} {i:Nat} (hi:i<l.length):(l.take i++Zak (l.length - i) x0).set i l[i]=l.take (i+1)++Zak (l.length - (i+1)) x0:=by
 have e:Zak (l.length - i) x0=x0::Zak (l.length - (i+1)) x0:=by
  rw[show l.length - i=(l.length - (i+1))+1 by omega,Za2]
 rw[e,Aw hi,Zam,Zaz _ _ (by rw[Zag];omega)]
 congr 1
 rw[Zag,Za7 (by omega),Nat.sub_self]
 rfl
theorem Iw (N:St) (v:GV) (l:List Unit_) (hR:RS Bt N v l) (hl:l.length+sumL B7 l<=1073741824):∃ r U,Ret Tryz.prog 172 [v] N r U/\Hp N U [ow Bt r l]:=by
 refine Ri A70 (Z0z rfl) (Hx.refl N) ?_
 simp +contextual (disch:=omega) only[go_sem,Xj,hR.len,A1]
 refine⟨by omega,?_⟩
 intro n f U H
 have H1:=H.mk Bt rfl Aeg
 refine Cr l.length 4 0 (fun i env h=>env 0=v/\env 3= .sl n 0 l.length/\h=[.th (ow Bt (.sl n 0 l.length) (l.take i++Zak (l.length - i) unit0))]) (fun env h=>env 3= .sl n 0 l.length/\h=[.th (ow Bt (.sl n 0 l.length) l)]) (fun env h=>False) _ H1 (by simp +contextual (disch:=omega) only[go_sem]) ⟨by simp +contextual (disch:=omega) only[go_sem],by simp +contextual (disch:=omega) only[go_sem],by simp⟩ ?_ ?_ ?_ (fun _ _ _ _ h=>h.elim)
 ·clear H H1
  rintro J Yq Wq hJ hY hW i env h' U hi ei c0 H ⟨e0,e3,rfl⟩
  obtain⟨cs,Uq1,hU⟩:=Rz hR hi
  have hmu:B7 l[i]<=sumL B7 l:=Cj (f:=B7) (Zaf hi)
  have i3:iadG 17 (.sl n 0 l.length) (some i)=some (atz 17 (.sl n 0 l.length) i):=by simp[iadG,hi,atz]
  simp +contextual (disch:=omega) only[go_sem,c0,e0,e3,ei,A1,hR.len,Uq1]
  obtain⟨_,U2,R2,_,ds,rfl,K2⟩:=A6z U cs l[i] (Bt.pre hU H.sub) (by omega)
  refine by_c H R2 K2 fun H2=> ?_
  simp +contextual (disch:=omega) only[go_sem,i3,A1]
  refine Adt (d:=Bt) H2 0 0 rfl rfl (by decide) (by rw[Zah,Zag,Za0];omega) fun U3 H3=> ?_
  simp +contextual (disch:=omega) only[go_sem,ei]
  exact hJ _ _ _ _ H3 ⟨by simp +contextual (disch:=omega) only[go_sem,e0],by simp +contextual (disch:=omega) only[go_sem,e3],by rw[Aeh hi];rfl⟩
 ·clear H H1
  rintro Yq hY env h' U ei c0 H ⟨e0,e3,rfl⟩
  simp +contextual (disch:=omega) only[go_sem,c0,e0,ei,hR.len]
  exact hY _ _ _ H ⟨e3,by simp⟩
 ·clear H H1
  rintro env h' U H ⟨e3,rfl⟩
  simp +contextual (disch:=omega) only[go_sem,e3]
  exact fun _=>⟨_,rfl,H.hp⟩
def A72:Fn1:=⟨48,[.t 4],(rg [oX 2 0,oX 3 1,oV 4 kf] (.seq (rg [oF 5 0 2,oW 6 2 5,oF 7 0 3,oW 8 2 7,oD 9 253 6 8,oU 10 9] (oG 10 (oR 4 kf))) (.seq (rg [oF 11 2 2,oL 12 11,oF 13 2 3,oL 14 13,oB 15 .neq 12 14] (oG 15 (oR 4 kf))) (.seq (rg [oF 16 3 2,oL 17 16,oF 18 3 3,oL 19 18,oD 20 20 17 19,oU 21 20] (oG 21 (oR 4 kf))) (.seq (rg [oF 22 4 2,oL 23 22,oF 24 4 3,oL 25 24,oB 26 .neq 23 25] (oG 26 (oR 4 kf))) (.seq (rg [oF 27 5 2,oL 28 27,oF 29 5 3,oL 30 29,oB 31 .neq 28 30] (oG 31 (oR 4 kf))) (.seq (rg [oF 32 6 2,oL 33 32,oF 34 6 3,oL 35 34,oB 36 .neq 33 35] (oG 36 (oR 4 kf))) (.seq (rg [oF 37 7 2,oL 38 37,oF 39 7 3,oL 40 39,oB 41 .neq 38 40] (oG 41 (oR 4 kf))) (.seq (rg [oF 42 8 2,oW 43 2 42,oF 44 8 3,oW 45 2 44,oD 46 253 43 45,oU 47 46] (oG 47 (oR 4 kf))) (oR 4 kt))))))))))⟩
theorem Acg:A4 Tryz.prog 275=some A72:=by kernel_rfl
theorem A9x (N:St) (cs ds:List GV) (x y:Act) (hx:kAct.R N x cs) (hy:kAct.R N y ds) (hl:L6 x<=1099511627776):Ret Tryz.prog 275 [.agg cs,.agg ds] N (.bool (decide (x=y))) N:=by
 obtain⟨v2,rfl,q2_⟩:=hx
 obtain⟨u2,rfl,p2_⟩:=hy
 unfold L6 at hl
 refine Ab Acg (Z0z rfl) trivial ?_
 simp +contextual (disch:=omega) only[go_sem,A72,Zaa]
 refine A6 (Dr _ x.dot y.dot) ?_
 simp +contextual (disch:=omega) only[go_sem,Zaa]
 refine⟨fun hn=> ?_,fun hn=> ?_⟩
 ·simp only[Act.eq_iff];simp at hn ⊢;simp[hn]
 have q0:x.dot=y.dot:=by simpa using hn
 refine⟨fun hn=> ?_,fun hn=> ?_⟩
 ·simp only[Act.eq_iff];simp at hn ⊢;simp[hn]
 have q1:x.time=y.time:=by simpa using hn
 refine A6 (Fj _ v2 u2 x.knew y.knew (q2_.pre pre2) (p2_.pre pre2) (by omega)) ?_
 simp +contextual (disch:=omega) only[go_sem,Zaa]
 refine⟨fun hn=> ?_,fun hn=> ?_⟩
 ·simp only[Act.eq_iff];simp at hn ⊢;simp[hn]
 have q2:x.knew=y.knew:=by simpa using hn
 refine⟨fun hn=> ?_,fun hn=> ?_⟩
 ·simp only[Act.eq_iff];simp at hn ⊢;simp[hn]
 have q3:x.kind=y.kind:=by simpa using hn
 refine⟨fun hn=> ?_,fun hn=> ?_⟩
 ·simp only[Act.eq_iff];simp at hn ⊢;simp[hn]
 have q4:x.obj=y.obj:=by simpa using hn
 refine⟨fun hn=> ?_,fun hn=> ?_⟩
 ·simp only[Act.eq_iff];simp at hn ⊢;simp[hn]
 have q5:x.key=y.key:=by simpa using hn
 refine⟨fun hn=> ?_,fun hn=> ?_⟩
 ·simp only[Act.eq_iff];simp at hn ⊢;simp[hn]
 have q6:x.val=y.val:=by simpa using hn
 refine A6 (Dr _ x.ref y.ref) ?_
 simp +contextual (disch:=omega) only[go_sem,Zaa]
 refine⟨fun hn=> ?_,fun hn=> ?_⟩
 ·simp only[Act.eq_iff];simp at hn ⊢;simp[hn]
 have q7:x.ref=y.ref:=by simpa using hn
 simp only[Act.eq_iff,q0,q1,q2,q3,q4,q5,q6,q7,and_self,decide_true]
def A1r:Fn1:=⟨27,[.t 4],(rg [oV 4 kf] (.seq (rg [oM 6 0,oN 7 6,oM 8 1,oN 9 8,oB 10 .neq 7 9] (oG 10 (oR 4 kf))) (.seq (rg [oV 5 (ki 0)] (oH 0 (.seq (rg [oM 11 5,oM 12 0,oN 13 12,oB 14 .lss 11 13] (oJ 14 0)) (.seq (.blk 1 (dw [oM 17 0,oM 18 5,oI 19 2 17 18,oW 20 2 19,oM 21 1,oM 22 5,oI 23 2 21 22,oW 24 2 23] [oD 25 253 20 24,oU 26 25] (oG 26 (oR 4 kf)))) (.reg [oM 15 5,oZ 16 15 1,oM 5 16]))))) (oR 4 kt))))⟩
theorem A9y:A4 Tryz.prog 309=some A1r:=by kernel_rfl
theorem A73 (N:St) (v u:GV) (l m:List Dot) (hv:RS pDot.kd N v l) (hu:RS pDot.kd N u m) (hl:l.length<=1099511627776):Ret Tryz.prog 309 [v,u] N (.bool (decide (l=m))) N:=by
 refine Ab A9y (Z0z rfl) trivial ?_
 simp +contextual (disch:=omega) only[go_sem,A1r,hv.len,hu.len]
 refine⟨fun hn=> ?_,fun hn=> ?_⟩
 ·have:l≠m:=fun h=>by subst h;simp at hn
  simp[this]
 have hlm:l.length=m.length:=by
                    have h2:(l.length:Int)=m.length:=by simpa using hn
                    omega
 refine Bc l.length 5 (fun i env U=>env 0=v/\env 1=u/\l.take i=m.take i/\N <+: U) rfl ⟨rfl,rfl,rfl,Zal _⟩ ?_ ?_
 ·rintro i env U hi e5 c0 ⟨e0,e1,he,hp⟩
  have hj:i<m.length:=by omega
  have h1:=hv.pre hp
  have h2:=hu.pre hp
  have hne:l[i]≠m[i]->l≠m:=fun h h'=>h (by subst h';rfl)
  have hst:l[i]=m[i]->l.take (i+1)=m.take (i+1):=fun h=>by rw[Aw hi,Aw hj,he,h]
  simp +contextual (disch:=omega) only[go_sem,c0,e0,e1,e5,hv.len,hu.len,Sh h1 hi,Sh h2 hj]
  refine A6 (Dr U l[i] m[i]) ?_
  simp +contextual (disch:=omega) only[go_sem,e0,e1,e5,hp]
  refine⟨fun h=> ?_,fun h=> ?_⟩
  ·simp[hne (by simpa using h)]
  ·simpa using hst (by simpa using h)
 ·rintro env U e5 c0 ⟨e0,e1,he,hp⟩
  rw[Zab,hlm,Zab] at he
  simp +contextual (disch:=omega) only[go_sem,c0,e0,e1,e5,hv.len,hu.len,hp]
  simp[he]
def Xl:Fn1:=⟨41,[.t 4],(rg [oX 2 0,oX 3 1,oV 4 kf] (.seq (rg [oF 5 0 2,oL 6 5,oF 7 0 3,oL 8 7,oD 9 20 6 8,oU 10 9] (oG 10 (oR 4 kf))) (.seq (rg [oF 11 1 2,oL 12 11,oF 13 1 3,oL 14 13,oD 15 20 12 14,oU 16 15] (oG 16 (oR 4 kf))) (.seq (rg [oF 17 2 2,oL 18 17,oF 19 2 3,oL 20 19,oD 21 81 18 20,oU 22 21] (oG 22 (oR 4 kf))) (.seq (rg [oF 23 3 2,oL 24 23,oF 25 3 3,oL 26 25,oD 27 82 24 26,oU 28 27] (oG 28 (oR 4 kf))) (.seq (rg [oF 29 4 2,oL 30 29,oF 31 4 3,oL 32 31,oD 33 309 30 32,oU 34 33] (oG 34 (oR 4 kf))) (.seq (rg [oF 35 5 2,oL 36 35,oF 37 5 3,oL 38 37,oD 39 83 36 38,oU 40 39] (oG 40 (oR 4 kf))) (oR 4 kt))))))))⟩
theorem A74:A4 Tryz.prog 276=some Xl:=by kernel_rfl
theorem A3q (N:St) (cs ds:List GV) (x y:Delta) (hx:Dk.R N x cs) (hy:Dk.R N y ds) (hl:Cq x<=1099511627776):Ret Tryz.prog 276 [.agg cs,.agg ds] N (.bool (decide (x=y))) N:=by
 obtain⟨v0,v1,v2,v3,v4,v5,rfl,q0_,q1_,q2_,q3_,q4_,q5_⟩:=hx
 obtain⟨u0,u1,u2,u3,u4,u5,rfl,p0_,p1_,p2_,p3_,p4_,p5_⟩:=hy
 unfold Cq at hl
 refine Ab A74 (Z0z rfl) trivial ?_
 simp +contextual (disch:=omega) only[go_sem,Xl,Zaa]
 refine A6 (Fj _ v0 u0 x.base y.base (q0_.pre pre2) (p0_.pre pre2) (by omega)) ?_
 simp +contextual (disch:=omega) only[go_sem,Zaa]
 refine⟨fun hn=> ?_,fun hn=> ?_⟩
 ·simp only[Delta.eq_iff];simp at hn ⊢;simp[hn]
 have q0:x.base=y.base:=by simpa using hn
 refine A6 (Fj _ v1 u1 x.know y.know (q1_.pre pre2) (p1_.pre pre2) (by omega)) ?_
 simp +contextual (disch:=omega) only[go_sem,Zaa]
 refine⟨fun hn=> ?_,fun hn=> ?_⟩
 ·simp only[Delta.eq_iff];simp at hn ⊢;simp[hn]
 have q1:x.know=y.know:=by simpa using hn
 refine A6 (Ld _ v2 u2 x.tallies y.tallies (q2_.pre pre2) (p2_.pre pre2) (by omega)) ?_
 simp +contextual (disch:=omega) only[go_sem,Zaa]
 refine⟨fun hn=> ?_,fun hn=> ?_⟩
 ·simp only[Delta.eq_iff];simp at hn ⊢;simp[hn]
 have q2:x.tallies=y.tallies:=by simpa using hn
 refine A6 (Mg _ v3 u3 x.lives y.lives (q3_.pre pre2) (p3_.pre pre2) (by omega)) ?_
 simp +contextual (disch:=omega) only[go_sem,Zaa]
 refine⟨fun hn=> ?_,fun hn=> ?_⟩
 ·simp only[Delta.eq_iff];simp at hn ⊢;simp[hn]
 have q3:x.lives=y.lives:=by simpa using hn
 refine A6 (A73 _ v4 u4 x.dead y.dead (q4_.pre pre2) (p4_.pre pre2) (by omega)) ?_
 simp +contextual (disch:=omega) only[go_sem,Zaa]
 refine⟨fun hn=> ?_,fun hn=> ?_⟩
 ·simp only[Delta.eq_iff];simp at hn ⊢;simp[hn]
 have q4:x.dead=y.dead:=by simpa using hn
 refine A6 (Mf _ v5 u5 x.cells y.cells (q5_.pre pre2) (p5_.pre pre2) (by omega)) ?_
 simp +contextual (disch:=omega) only[go_sem,Zaa]
 refine⟨fun hn=> ?_,fun hn=> ?_⟩
 ·simp only[Delta.eq_iff];simp at hn ⊢;simp[hn]
 have q5:x.cells=y.cells:=by simpa using hn
 simp only[Delta.eq_iff,q0,q1,q2,q3,q4,q5,and_self,decide_true]
def A1s:Fn1:=⟨22,[.t 4],(rg [oX 2 0,oX 3 1,oV 4 kf] (.seq (rg [oF 5 0 2,oL 6 5,oF 7 0 3,oL 8 7,o 9 (.eqb true (.t 6) (.t 8))] (oG 9 (oR 4 kf))) (.seq (rg [oF 10 1 2,oW 11 10 10,oF 12 1 3,oW 13 10 12,oD 14 275 11 13,oU 15 14] (oG 15 (oR 4 kf))) (.seq (rg [oF 16 11 2,oW 17 6 16,oF 18 11 3,oW 19 6 18,oD 20 276 17 19,oU 21 20] (oG 21 (oR 4 kf))) (oR 4 kt)))))⟩
theorem A9z:A4 Tryz.prog 251=some A1s:=by kernel_rfl
theorem A75 (N:St) (cs ds:List GV) (x y:Unit_) (hx:Bt.R N x cs) (hy:Bt.R N y ds) (hl:B7 x<=1099511627776):Ret Tryz.prog 251 [.agg cs,.agg ds] N (.bool (decide (x=y))) N:=by
 obtain⟨v1,v2,rfl,q1_,q2_⟩:=hx
 obtain⟨u1,u2,rfl,p1_,p2_⟩:=hy
 unfold B7 at hl
 have a1:=q1_
 have a2:=q2_
 have b1:=p1_
 have b2:=p2_
 obtain⟨kv,rfl,_⟩:=q1_
 obtain⟨d0,d1,d2,d3,d4,d5,rfl,_⟩:=q2_
 obtain⟨ku,rfl,_⟩:=p1_
 obtain⟨e0,e1,e2,e3,e4,e5,rfl,_⟩:=p2_
 suffices key:Ret Tryz.prog 251 [.agg (.bool x.batch::[.int .i64 x.act.dot.rep,.int .i64 x.act.dot.seq,.int .i64 x.act.time,kv,.int .i64 x.act.kind,.str x.act.obj,.str x.act.key,.int .i64 x.act.val,.int .i64 x.act.ref.rep,.int .i64 x.act.ref.seq,d0,d1,d2,d3,d4,d5]),.agg (.bool y.batch::[.int .i64 y.act.dot.rep,.int .i64 y.act.dot.seq,.int .i64 y.act.time,ku,.int .i64 y.act.kind,.str y.act.obj,.str y.act.key,.int .i64 y.act.val,.int .i64 y.act.ref.rep,.int .i64 y.act.ref.seq,e0,e1,e2,e3,e4,e5])] N (.bool (decide (x=y))) N from key
 refine Ab A9z (Z0z rfl) trivial ?_
 simp +contextual (disch:=omega) only[go_sem,A1s,Zaa]
 refine⟨fun hn=> ?_,fun hn=> ?_⟩
 ·simp only[Unit_.eq_iff];simp at hn ⊢;simp[hn]
 have q0:x.batch=y.batch:=by simpa using hn
 refine A6 (A9x _ _ _ x.act y.act (kAct.pre a1 pre2) (kAct.pre b1 pre2) (by omega)) ?_
 simp +contextual (disch:=omega) only[go_sem,Zaa]
 refine⟨fun hn=> ?_,fun hn=> ?_⟩
 ·simp only[Unit_.eq_iff];simp at hn ⊢;simp[hn]
 have q1:x.act=y.act:=by simpa using hn
 refine A6 (A3q _ _ _ x.delta y.delta (Dk.pre a2 pre2) (Dk.pre b2 pre2) (by omega)) ?_
 simp +contextual (disch:=omega) only[go_sem,Zaa]
 refine⟨fun hn=> ?_,fun hn=> ?_⟩
 ·simp only[Unit_.eq_iff];simp at hn ⊢;simp[hn]
 have q2:x.delta=y.delta:=by simpa using hn
 simp only[Unit_.eq_iff,q0,q1,q2,and_self,decide_true]
def Xn:Fn1:=⟨27,[.t 4],(rg [oV 4 kf] (.seq (rg [oM 6 0,oN 7 6,oM 8 1,oN 9 8,oB 10 .neq 7 9] (oG 10 (oR 4 kf))) (.seq (rg [oV 5 (ki 0)] (oH 0 (.seq (rg [oM 11 5,oM 12 0,oN 13 12,oB 14 .lss 11 13] (oJ 14 0)) (.seq (.blk 1 (dw [oM 17 0,oM 18 5,oI 19 17 17 18,oW 20 17 19,oM 21 1,oM 22 5,oI 23 17 21 22,oW 24 17 23] [oD 25 251 20 24,oU 26 25] (oG 26 (oR 4 kf)))) (.reg [oM 15 5,oZ 16 15 1,oM 5 16]))))) (oR 4 kt))))⟩
theorem A76:A4 Tryz.prog 177=some Xn:=by kernel_rfl
theorem Ix (N:St) (v u:GV) (l m:List Unit_) (hv:RS Bt N v l) (hu:RS Bt N u m) (hl:(l.length+sumL B7 l)<=1099511627776):Ret Tryz.prog 177 [v,u] N (.bool (decide (l=m))) N:=by
 refine Ab A76 (Z0z rfl) trivial ?_
 simp +contextual (disch:=omega) only[go_sem,Xn,hv.len,hu.len]
 refine⟨fun hn=> ?_,fun hn=> ?_⟩
 ·have:l≠m:=fun h=>by subst h;simp at hn
  simp[this]
 have hlm:l.length=m.length:=by
                    have h2:(l.length:Int)=m.length:=by simpa using hn
                    omega
 refine Bc l.length 5 (fun i env U=>env 0=v/\env 1=u/\l.take i=m.take i/\N <+: U) rfl ⟨rfl,rfl,rfl,Zal _⟩ ?_ ?_
 ·rintro i env U hi e5 c0 ⟨e0,e1,he,hp⟩
  have hj:i<m.length:=by omega
  have h1:=hv.pre hp
  have h2:=hu.pre hp
  have hne:l[i]≠m[i]->l≠m:=fun h h'=>h (by subst h';rfl)
  have hst:l[i]=m[i]->l.take (i+1)=m.take (i+1):=fun h=>by rw[Aw hi,Aw hj,he,h]
  have hms:B7 l[i]<=sumL B7 l:=Cj (Zaf hi)
  obtain⟨c,hc,hcr⟩:=Rz h1 hi
  obtain⟨d,hd,hdr⟩:=Rz h2 hj
  simp +contextual (disch:=omega) only[go_sem,c0,e0,e1,e5,hv.len,hu.len,hc,hd]
  refine A6 (A75 U c d l[i] m[i] hcr hdr (by omega)) ?_
  simp +contextual (disch:=omega) only[go_sem,e0,e1,e5,hp]
  refine⟨fun h=> ?_,fun h=> ?_⟩
  ·simp[hne (by simpa using h)]
  ·simpa using hst (by simpa using h)
 ·rintro env U e5 c0 ⟨e0,e1,he,hp⟩
  rw[Zab,hlm,Zab] at he
  simp +contextual (disch:=omega) only[go_sem,c0,e0,e1,e5,hv.len,hu.len,hp]
  simp[he]
def A78:Fn1:=⟨33,[.t 4],(rg [oX 2 0,oX 3 1,oV 4 kf] (.seq (rg [oF 5 0 2,oL 6 5,oF 7 0 3,oL 8 7,oB 9 .neq 6 8] (oG 9 (oR 4 kf))) (.seq (rg [oF 10 1 2,oL 11 10,oF 12 1 3,oL 13 12,oB 14 .neq 11 13] (oG 14 (oR 4 kf))) (.seq (rg [oF 15 2 2,oW 16 4 15,oF 17 2 3,oW 18 4 17,oD 19 21 16 18,oU 20 19] (oG 20 (oR 4 kf))) (.seq (rg [oF 21 6 2,oL 22 21,oF 23 6 3,oL 24 23,oD 25 177 22 24,oU 26 25] (oG 26 (oR 4 kf))) (.seq (rg [oF 27 7 2,oL 28 27,oF 29 7 3,oL 30 29,oD 31 177 28 30,oU 32 31] (oG 32 (oR 4 kf))) (oR 4 kt)))))))⟩
theorem Ach:A4 Tryz.prog 174=some A78:=by kernel_rfl
theorem Aa0 (N:St) (cs ds:List GV) (x y:Log) (hx:kLog.R N x cs) (hy:kLog.R N y ds) (hl:Gi x<=1099511627776):Ret Tryz.prog 174 [.agg cs,.agg ds] N (.bool (decide (x=y))) N:=by
 obtain⟨v2,v3,v4,rfl,q2_,q3_,q4_⟩:=hx
 obtain⟨u2,u3,u4,rfl,p2_,p3_,p4_⟩:=hy
 have q20:=q2_
 have p20:=p2_
 obtain⟨s0,s1,s2,s3,rfl,_⟩:=q2_
 obtain⟨t0,t1,t2,t3,rfl,_⟩:=p2_
 unfold Gi at hl
 refine Ab Ach (Z0z rfl) trivial ?_
 simp +contextual (disch:=omega) only[go_sem,A78,Zaa]
 refine⟨fun hn=> ?_,fun hn=> ?_⟩
 ·simp only[Log.eq_iff];simp at hn ⊢;simp[hn]
 have q0:x.rep=y.rep:=by simpa using hn
 refine⟨fun hn=> ?_,fun hn=> ?_⟩
 ·simp only[Log.eq_iff];simp at hn ⊢;simp[hn]
 have q1:x.time=y.time:=by simpa using hn
 refine A6 (Ik _ _ _ x.state y.state (A8.pre q20 pre2) (A8.pre p20 pre2) (by omega)) ?_
 simp +contextual (disch:=omega) only[go_sem,Zaa]
 refine⟨fun hn=> ?_,fun hn=> ?_⟩
 ·simp only[Log.eq_iff];simp at hn ⊢;simp[hn]
 have q2:x.state=y.state:=by simpa using hn
 refine A6 (Ix _ v3 u3 x.units y.units (q3_.pre pre2) (p3_.pre pre2) (by omega)) ?_
 simp +contextual (disch:=omega) only[go_sem,Zaa]
 refine⟨fun hn=> ?_,fun hn=> ?_⟩
 ·simp only[Log.eq_iff];simp at hn ⊢;simp[hn]
 have q3:x.units=y.units:=by simpa using hn
 refine A6 (Ix _ v4 u4 x.waits y.waits (q4_.pre pre2) (p4_.pre pre2) (by omega)) ?_
 simp +contextual (disch:=omega) only[go_sem,Zaa]
 refine⟨fun hn=> ?_,fun hn=> ?_⟩
 ·simp only[Log.eq_iff];simp at hn ⊢;simp[hn]
 have q4:x.waits=y.waits:=by simpa using hn
 simp only[Log.eq_iff,q0,q1,q2,q3,q4,and_self,decide_true]
def Ox:Fn1:=⟨34,[.t 4],(rg [oX 2 0,oX 3 1,oV 4 kf] (.seq (rg [oF 5 0 2,oL 6 5,oF 7 0 3,oL 8 7,oB 9 .neq 6 8] (oG 9 (oR 4 kf))) (.seq (rg [oF 10 1 2,oW 11 8 10,oF 12 1 3,oW 13 8 12,oD 14 174 11 13,oU 15 14] (oG 15 (oR 4 kf))) (.seq (rg [oF 16 9 2,oW 17 2 16,oF 18 9 3,oW 19 2 18,oD 20 175 17 19,oU 21 20] (oG 21 (oR 4 kf))) (.seq (rg [oF 22 11 2,oW 23 2 22,oF 24 11 3,oW 25 2 24,oD 26 176 23 25,oU 27 26] (oG 27 (oR 4 kf))) (.seq (rg [oF 28 13 2,oL 29 28,oF 30 13 3,oL 31 30,oD 32 177 29 31,oU 33 32] (oG 33 (oR 4 kf))) (oR 4 kt)))))))⟩
theorem Zl:A4 Tryz.prog 72=some Ox:=by kernel_rfl
theorem Xo (N:St) (cs ds:List GV) (x y:Replica) (hx:Bi.R N x cs) (hy:Bi.R N y ds) (hl:Az x<=1099511627776):Ret Tryz.prog 72 [.agg cs,.agg ds] N (.bool (decide (x=y))) N:=by
 obtain⟨v1,v2,v4,rfl,q1_,q2_,q4_⟩:=hx
 obtain⟨u1,u2,u4,rfl,p1_,p2_,p4_⟩:=hy
 have a10:=q1_
 have a20:=q2_
 obtain⟨w2,w3,w4,rfl,hD,_⟩:=q1_
 obtain⟨d0,d1,d2,d3,rfl,_⟩:=hD
 obtain⟨g0,rfl,_⟩:=q2_
 have b10:=p1_
 have b20:=p2_
 obtain⟨y2,y3,y4,rfl,hE,_⟩:=p1_
 obtain⟨e0,e1,e2,e3,rfl,_⟩:=hE
 obtain⟨h0,rfl,_⟩:=p2_
 unfold Az at hl
 refine Ab Zl (Z0z rfl) trivial ?_
 simp +contextual (disch:=omega) only[go_sem,Ox,Zaa]
 refine⟨fun hn=> ?_,fun hn=> ?_⟩
 ·simp only[Replica.eq_iff];simp at hn ⊢;simp[hn]
 have q0:x.way=y.way:=by simpa using hn
 refine A6 (Aa0 _ _ _ x.log y.log (kLog.pre a10 pre2) (kLog.pre b10 pre2) (by omega)) ?_
 simp +contextual (disch:=omega) only[go_sem,Zaa]
 refine⟨fun hn=> ?_,fun hn=> ?_⟩
 ·simp only[Replica.eq_iff];simp at hn ⊢;simp[hn]
 have q1:x.log=y.log:=by simpa using hn
 refine A6 (A3o _ _ _ x.graph y.graph (E1.pre a20 pre2) (E1.pre b20 pre2) (by omega)) ?_
 simp +contextual (disch:=omega) only[go_sem,Zaa]
 refine⟨fun hn=> ?_,fun hn=> ?_⟩
 ·simp only[Replica.eq_iff];simp at hn ⊢;simp[hn]
 have q2:x.graph=y.graph:=by simpa using hn
 refine A6 (A6t _ x.file y.file) ?_
 simp +contextual (disch:=omega) only[go_sem,Zaa]
 refine⟨fun hn=> ?_,fun hn=> ?_⟩
 ·simp only[Replica.eq_iff];simp at hn ⊢;simp[hn]
 have q3:x.file=y.file:=by simpa using hn
 refine A6 (Ix _ v4 u4 x.out y.out (q4_.pre pre2) (p4_.pre pre2) (by omega)) ?_
 simp +contextual (disch:=omega) only[go_sem,Zaa]
 refine⟨fun hn=> ?_,fun hn=> ?_⟩
 ·simp only[Replica.eq_iff];simp at hn ⊢;simp[hn]
 have q4:x.out=y.out:=by simpa using hn
 simp only[Replica.eq_iff,q0,q1,q2,q3,q4,and_self,decide_true]
def A1u:Fn1:=⟨13,[.t 4],(rg [oX 2 0,oV 4 (ki 0)] (rg [oM 5 1,oF 6 0 2,oL 7 6,o 8 (.len true (.t 7)),oB 9 .sub 5 8,oM 1 9] (.seq (rg [oM 10 1,oE 11 .lss 10 0] (oG 11 (rg [o 4 (.mov (ki (-1)))] .ret))) (rg [oM 12 1,oM 4 12] .ret))))⟩
theorem Aa1:A4 Tryz.prog 166=some A1u:=by kernel_rfl
theorem A79 (N:St) (x:File) (n:Int) (hw:Af2 x) (h0:0<=n) (h1:n<=1099511627776):Ret Tryz.prog 166 [.agg [.str x.text,.int .i64 x.synced],gi n] N (gi (lf n (Me x))) N:=by
 have w0:=hw;unfold Af2 at w0
 refine Ab Aa1 (Z0z rfl) trivial ?_
 simp +contextual (disch:=omega) only[go_sem,A1u,Zaa]
 refine⟨fun hn=> ?_,fun hn=> ?_⟩
 ·have hn:=of_decide_eq_true hn
  unfold Me lf;rw[if_pos (by omega)]
 have hn:=of_decide_eq_false hn
 try simp(disch:=omega) only[Af]
 unfold Me;rw[show lf n (x.text.size)=n - ((x.text.size:Nat):Int) by unfold lf;rw[if_neg (by omega)]];try omega
def Rg:Fn1:=⟨18,[.t 4],(rg [oX 2 0,oV 4 (ki 0)] (rg [oF 5 2 2,oL 6 5,oM 7 1,oD 8 73 6 7,oM 1 8] (.seq (rg [oM 9 1,oE 10 .lss 9 0] (oG 10 (rg [o 4 (.mov (ki (-1)))] .ret))) (rg [oF 11 3 2,oW 12 4 11,oM 13 1,oD 14 14 12 13,oM 1 14] (.seq (rg [oM 15 1,oE 16 .lss 15 0] (oG 16 (rg [o 4 (.mov (ki (-1)))] .ret))) (rg [oM 17 1,oM 4 17] .ret))))))⟩
theorem A3r:A4 Tryz.prog 267=some Rg:=by kernel_rfl
theorem Zm (N:St) (cs:List GV) (x:Commit) (hR:Bo.R N x cs) (n:Int) (hw:Sp x) (h0:0<=n) (h1:n<=1099511627776):Ret Tryz.prog 267 [.agg cs,gi n] N (gi (lf n (Av x))) N:=by
 obtain⟨v1,v2,rfl,q1,q2⟩:=hR
 obtain⟨w0,w1⟩:=hw
 have a2:=q2
 obtain⟨d0,d1,d2,d3,rfl,_⟩:=q2
 suffices key:Ret Tryz.prog 267 [.agg [.int .i64 x.id.rep,.int .i64 x.id.seq,v1,d0,d1,d2,d3],gi n] N (gi (lf n (Av x))) N from key
 refine Ab A3r (Z0z rfl) trivial ?_
 simp +contextual (disch:=omega) only[go_sem,Rg,Zaa]
 refine A6 (Fk _ v1 x.ups (q1.pre (pre1 _ _)) (n) w0 (by omega) (by omega)) ?_
 simp +contextual (disch:=omega) only[go_sem,Zaa]
 have g0:= @E5 (n) (x.ups.length) (by omega)
 refine⟨fun hn=> ?_,fun hn=> ?_⟩
 ·have hn:=of_decide_eq_true hn
  have hn:=Bv.1 hn
  unfold Av lf;rw[if_pos (by omega)]
 have hn:=of_decide_eq_false hn
 have f0:=B5 hn
 try simp(disch:=omega) only[Af]
 refine A6 (Il _ _ x.state (A8.pre a2 (pre1 _ _)) (lf (n) (x.ups.length)) w1 (by omega) (by omega)) ?_
 simp +contextual (disch:=omega) only[go_sem,Zaa]
 have g1:= @E5 (lf (n) (x.ups.length)) (A7 x.state) (by omega)
 refine⟨fun hn=> ?_,fun hn=> ?_⟩
 ·have hn:=of_decide_eq_true hn
  have hn:=Bv.1 hn
  unfold Av lf;rw[if_pos (by omega)]
 have hn:=of_decide_eq_false hn
 have f1:=B5 hn
 try simp(disch:=omega) only[Af]
 unfold Av;rw[show lf n (x.ups.length+A7 x.state)=n - ((x.ups.length+A7 x.state:Nat):Int) by unfold lf;rw[if_neg (by omega)]];try omega
def Oz:Fn1:=⟨27,[.t 4],(rg [oV 4 (ki 0)] (rg [oM 6 1,oM 7 0,oN 8 7,oB 9 .sub 6 8,oM 1 9] (.seq (rg [oM 10 1,oE 11 .lss 10 0] (oG 11 (rg [o 4 (.mov (ki (-1)))] .ret))) (.seq (rg [oV 5 (ki 0)] (oH 0 (.seq (rg [oM 12 5,oM 13 0,oN 14 13,oB 15 .lss 12 14] (oJ 15 0)) (.seq (.blk 1 (rg [oM 18 0,oM 19 5,oI 20 7 18 19,oW 21 7 20,oM 22 1,oD 23 267 21 22,oM 1 23] (rg [oM 24 1,oE 25 .lss 24 0] (oG 25 (rg [o 4 (.mov (ki (-1)))] .ret))))) (.reg [oM 16 5,oZ 17 16 1,oM 5 17]))))) (rg [oM 26 1,oM 4 26] .ret)))))⟩
theorem Zn:A4 Tryz.prog 245=some Oz:=by kernel_rfl
theorem Xp (N:St) (v:GV) (l:List Commit) (hR:RS Bo N v l) (n:Int) (hw:l.length<=9223372036854775807/\∀ y∈l,Sp y) (h0:0<=n) (h1:n<=1099511627776):Ret Tryz.prog 245 [v,gi n] N (gi (lf n (l.length+sumL Av l))) N:=by
 obtain⟨wl,we⟩:=hw
 refine Ab Zn (Z0z rfl) trivial ?_
 simp +contextual (disch:=omega) only[go_sem,Oz,hR.len]
 refine⟨fun hn=> ?_,fun hn=> ?_⟩
 ·have hn:=of_decide_eq_true hn
  unfold lf;rw[if_pos (by omega)]
 have hn:=of_decide_eq_false hn
 refine Bc l.length 5 (fun i env U=>∃ m:Int,env 0=v/\env 1=gi m/\m=n - l.length - sumL Av (l.take i)/\0<=m/\N <+: U) rfl ⟨n - l.length,rfl,rfl,by simp[sumL],by omega,Zal _⟩ ?_ ?_
 ·rintro i env U hi e5 c0 ⟨m,e0,e1,em,hm,hp⟩
  have h1:=hR.pre hp
  have hs:=Jg (f:=Av) hi
  have hst:=Fi Av l (i+1)
  obtain⟨cs,hc,hcr⟩:=L4 h1 hi
  simp +contextual (disch:=omega) only[go_sem,c0,e0,e1,e5,hR.len,hc]
  refine A6 (Zm U cs l[i] hcr m (we _ (Zaf hi)) hm (by omega)) ?_
  simp +contextual (disch:=omega) only[go_sem,c0,e0,e1,e5,hp]
  have g0:= @E5 m (Av l[i]) hm
  have g1:= @A83 m (Av l[i])
  refine⟨fun hn=> ?_,fun hn=> ?_⟩
  ·have hn:=Bv.1 (of_decide_eq_true hn)
   unfold lf;rw[if_pos (by omega)]
  ·have hn:=of_decide_eq_false hn
   have f:=B5 hn
   exact⟨_,rfl,by omega,by omega⟩
 ·rintro env U e5 c0 ⟨m,e0,e1,em,hm,hp⟩
  rw[Zab] at em
  simp +contextual (disch:=omega) only[go_sem,c0,e0,e1,e5,hR.len,hp]
  unfold lf;rw[if_neg (by omega)];omega
def Xr:Fn1:=⟨12,[.t 4],(rg [oX 2 0,oV 4 (ki 0)] (rg [oF 5 0 2,oL 6 5,oM 7 1,oD 8 245 6 7,oM 1 8] (.seq (rg [oM 9 1,oE 10 .lss 9 0] (oG 10 (rg [o 4 (.mov (ki (-1)))] .ret))) (rg [oM 11 1,oM 4 11] .ret))))⟩
theorem A7a:A4 Tryz.prog 165=some Xr:=by kernel_rfl
theorem A3s (N:St) (cs:List GV) (x:Graph) (hR:E1.R N x cs) (n:Int) (hw:Aam x) (h0:0<=n) (h1:n<=1099511627776):Ret Tryz.prog 165 [.agg cs,gi n] N (gi (lf n (C7 x))) N:=by
 obtain⟨v0,rfl,q0⟩:=hR
 have w0:=hw;unfold Aam at w0
 refine Ab A7a (Z0z rfl) trivial ?_
 simp +contextual (disch:=omega) only[go_sem,Xr,Zaa]
 refine A6 (Xp _ v0 x.commits (q0.pre (pre1 _ _)) (n) w0 (by omega) (by omega)) ?_
 simp +contextual (disch:=omega) only[go_sem,Zaa]
 have g0:= @E5 (n) ((x.commits.length+sumL Av x.commits)) (by omega)
 refine⟨fun hn=> ?_,fun hn=> ?_⟩
 ·have hn:=of_decide_eq_true hn
  have hn:=Bv.1 hn
  unfold C7 lf;rw[if_pos (by omega)]
 have hn:=of_decide_eq_false hn
 have f0:=B5 hn
 try simp(disch:=omega) only[Af]
 unfold C7;rw[show lf n ((x.commits.length+sumL Av x.commits))=n - (((x.commits.length+sumL Av x.commits):Nat):Int) by unfold lf;rw[if_neg (by omega)]];try omega
def A7c:Fn1:=⟨26,[.t 4],(rg [oX 2 0,oV 4 (ki 0)] (rg [oF 5 3 2,oL 6 5,oM 7 1,oD 8 73 6 7,oM 1 8] (.seq (rg [oM 9 1,oE 10 .lss 9 0] (oG 10 (rg [o 4 (.mov (ki (-1)))] .ret))) (rg [oM 11 1,oF 12 5 2,oL 13 12,o 14 (.len true (.t 13)),oB 15 .sub 11 14,oM 1 15] (.seq (rg [oM 16 1,oE 17 .lss 16 0] (oG 17 (rg [o 4 (.mov (ki (-1)))] .ret))) (rg [oM 18 1,oF 19 6 2,oL 20 19,o 21 (.len true (.t 20)),oB 22 .sub 18 21,oM 1 22] (.seq (rg [oM 23 1,oE 24 .lss 23 0] (oG 24 (rg [o 4 (.mov (ki (-1)))] .ret))) (rg [oM 25 1,oM 4 25] .ret))))))))⟩
theorem Aci:A4 Tryz.prog 268=some A7c:=by kernel_rfl
theorem Aa2 (N:St) (cs:List GV) (x:Act) (hR:kAct.R N x cs) (n:Int) (hw:wAct x) (h0:0<=n) (h1:n<=1099511627776):Ret Tryz.prog 268 [.agg cs,gi n] N (gi (lf n (L6 x))) N:=by
 obtain⟨v2,rfl,q2⟩:=hR
 obtain⟨w0,w1,w2⟩:=hw
 refine Ab Aci (Z0z rfl) trivial ?_
 simp +contextual (disch:=omega) only[go_sem,A7c,Zaa]
 refine A6 (Fk _ v2 x.knew (q2.pre (pre1 _ _)) (n) w0 (by omega) (by omega)) ?_
 simp +contextual (disch:=omega) only[go_sem,Zaa]
 have g0:= @E5 (n) (x.knew.length) (by omega)
 refine⟨fun hn=> ?_,fun hn=> ?_⟩
 ·have hn:=of_decide_eq_true hn
  have hn:=Bv.1 hn
  unfold L6 lf;rw[if_pos (by omega)]
 have hn:=of_decide_eq_false hn
 have f0:=B5 hn
 try simp(disch:=omega) only[Af]
 refine⟨fun hn=> ?_,fun hn=> ?_⟩
 ·have hn:=of_decide_eq_true hn
  unfold L6 lf;rw[if_pos (by omega)]
 have hn:=of_decide_eq_false hn
 try simp(disch:=omega) only[Af]
 refine⟨fun hn=> ?_,fun hn=> ?_⟩
 ·have hn:=of_decide_eq_true hn
  unfold L6 lf;rw[if_pos (by omega)]
 have hn:=of_decide_eq_false hn
 try simp(disch:=omega) only[Af]
 unfold L6;rw[show lf n (x.knew.length+x.obj.size+x.key.size)=n - ((x.knew.length+x.obj.size+x.key.size:Nat):Int) by unfold lf;rw[if_neg (by omega)]];try omega
def A1w:Fn1:=⟨12,[.t 4],(rg [oV 4 (ki 0)] (rg [oM 5 1,oM 6 0,oN 7 6,oB 8 .sub 5 7,oM 1 8] (.seq (rg [oM 9 1,oE 10 .lss 9 0] (oG 10 (rg [o 4 (.mov (ki (-1)))] .ret))) (rg [oM 11 1,oM 4 11] .ret))))⟩
theorem Aa3:A4 Tryz.prog 306=some A1w:=by kernel_rfl
theorem A7d (N:St) (v:GV) (l:List Dot) (hR:RS pDot.kd N v l) (n:Int) (hw:l.length<=9223372036854775807) (h0:0<=n) (h1:n<=1099511627776):Ret Tryz.prog 306 [v,gi n] N (gi (lf n l.length)) N:=by
 refine Ab Aa3 (Z0z rfl) trivial ?_
 simp +contextual (disch:=omega) only[go_sem,A1w,hR.len]
 refine⟨fun h=> ?_,fun h=> ?_⟩
 ·rw[lf,if_pos (of_decide_eq_true h)]
 ·rw[lf,if_neg (of_decide_eq_false h)]
def Xt:Fn1:=⟨42,[.t 4],(rg [oX 2 0,oV 4 (ki 0)] (rg [oF 5 0 2,oL 6 5,oM 7 1,oD 8 73 6 7,oM 1 8] (.seq (rg [oM 9 1,oE 10 .lss 9 0] (oG 10 (rg [o 4 (.mov (ki (-1)))] .ret))) (rg [oF 11 1 2,oL 12 11,oM 13 1,oD 14 73 12 13,oM 1 14] (.seq (rg [oM 15 1,oE 16 .lss 15 0] (oG 16 (rg [o 4 (.mov (ki (-1)))] .ret))) (rg [oF 17 2 2,oL 18 17,oM 19 1,oD 20 74 18 19,oM 1 20] (.seq (rg [oM 21 1,oE 22 .lss 21 0] (oG 22 (rg [o 4 (.mov (ki (-1)))] .ret))) (rg [oF 23 3 2,oL 24 23,oM 25 1,oD 26 75 24 25,oM 1 26] (.seq (rg [oM 27 1,oE 28 .lss 27 0] (oG 28 (rg [o 4 (.mov (ki (-1)))] .ret))) (rg [oF 29 4 2,oL 30 29,oM 31 1,oD 32 306 30 31,oM 1 32] (.seq (rg [oM 33 1,oE 34 .lss 33 0] (oG 34 (rg [o 4 (.mov (ki (-1)))] .ret))) (rg [oF 35 5 2,oL 36 35,oM 37 1,oD 38 76 36 37,oM 1 38] (.seq (rg [oM 39 1,oE 40 .lss 39 0] (oG 40 (rg [o 4 (.mov (ki (-1)))] .ret))) (rg [oM 41 1,oM 4 41] .ret))))))))))))))⟩
theorem A7e:A4 Tryz.prog 269=some Xt:=by kernel_rfl
theorem A3t (N:St) (cs:List GV) (x:Delta) (hR:Dk.R N x cs) (n:Int) (hw:Adm x) (h0:0<=n) (h1:n<=1099511627776):Ret Tryz.prog 269 [.agg cs,gi n] N (gi (lf n (Cq x))) N:=by
 obtain⟨v0,v1,v2,v3,v4,v5,rfl,q0,q1,q2,q3,q4,q5⟩:=hR
 obtain⟨w0,w1,w2,w3,w4,w5⟩:=hw
 refine Ab A7e (Z0z rfl) trivial ?_
 simp +contextual (disch:=omega) only[go_sem,Xt,Zaa]
 refine A6 (Fk _ v0 x.base (q0.pre (pre1 _ _)) (n) w0 (by omega) (by omega)) ?_
 simp +contextual (disch:=omega) only[go_sem,Zaa]
 have g0:= @E5 (n) (x.base.length) (by omega)
 refine⟨fun hn=> ?_,fun hn=> ?_⟩
 ·have hn:=of_decide_eq_true hn
  have hn:=Bv.1 hn
  unfold Cq lf;rw[if_pos (by omega)]
 have hn:=of_decide_eq_false hn
 have f0:=B5 hn
 try simp(disch:=omega) only[Af]
 refine A6 (Fk _ v1 x.know (q1.pre (pre1 _ _)) (lf (n) (x.base.length)) w1 (by omega) (by omega)) ?_
 simp +contextual (disch:=omega) only[go_sem,Zaa]
 have g1:= @E5 (lf (n) (x.base.length)) (x.know.length) (by omega)
 refine⟨fun hn=> ?_,fun hn=> ?_⟩
 ·have hn:=of_decide_eq_true hn
  have hn:=Bv.1 hn
  unfold Cq lf;rw[if_pos (by omega)]
 have hn:=of_decide_eq_false hn
 have f1:=B5 hn
 try simp(disch:=omega) only[Af]
 refine A6 (Lf _ v2 x.tallies (q2.pre (pre1 _ _)) (lf (lf (n) (x.base.length)) (x.know.length)) w2 (by omega) (by omega)) ?_
 simp +contextual (disch:=omega) only[go_sem,Zaa]
 have g2:= @E5 (lf (lf (n) (x.base.length)) (x.know.length)) ((x.tallies.length+sumL Ar x.tallies)) (by omega)
 refine⟨fun hn=> ?_,fun hn=> ?_⟩
 ·have hn:=of_decide_eq_true hn
  have hn:=Bv.1 hn
  unfold Cq lf;rw[if_pos (by omega)]
 have hn:=of_decide_eq_false hn
 have f2:=B5 hn
 try simp(disch:=omega) only[Af]
 refine A6 (Mi _ v3 x.lives (q3.pre (pre1 _ _)) (lf (lf (lf (n) (x.base.length)) (x.know.length)) ((x.tallies.length+sumL Ar x.tallies))) w3 (by omega) (by omega)) ?_
 simp +contextual (disch:=omega) only[go_sem,Zaa]
 have g3:= @E5 (lf (lf (lf (n) (x.base.length)) (x.know.length)) ((x.tallies.length+sumL Ar x.tallies))) ((x.lives.length+sumL Bk x.lives)) (by omega)
 refine⟨fun hn=> ?_,fun hn=> ?_⟩
 ·have hn:=of_decide_eq_true hn
  have hn:=Bv.1 hn
  unfold Cq lf;rw[if_pos (by omega)]
 have hn:=of_decide_eq_false hn
 have f3:=B5 hn
 try simp(disch:=omega) only[Af]
 refine A6 (A7d _ v4 x.dead (q4.pre (pre1 _ _)) (lf (lf (lf (lf (n) (x.base.length)) (x.know.length)) ((x.tallies.length+sumL Ar x.tallies))) ((x.lives.length+sumL Bk x.lives))) w4 (by omega) (by omega)) ?_
 simp +contextual (disch:=omega) only[go_sem,Zaa]
 have g4:= @E5 (lf (lf (lf (lf (n) (x.base.length)) (x.know.length)) ((x.tallies.length+sumL Ar x.tallies))) ((x.lives.length+sumL Bk x.lives))) (x.dead.length) (by omega)
 refine⟨fun hn=> ?_,fun hn=> ?_⟩
 ·have hn:=of_decide_eq_true hn
  have hn:=Bv.1 hn
  unfold Cq lf;rw[if_pos (by omega)]
 have hn:=of_decide_eq_false hn
 have f4:=B5 hn
 try simp(disch:=omega) only[Af]
 refine A6 (Mh _ v5 x.cells (q5.pre (pre1 _ _)) (lf (lf (lf (lf (lf (n) (x.base.length)) (x.know.length)) ((x.tallies.length+sumL Ar x.tallies))) ((x.lives.length+sumL Bk x.lives))) (x.dead.length)) w5 (by omega) (by omega)) ?_
 simp +contextual (disch:=omega) only[go_sem,Zaa]
 have g5:= @E5 (lf (lf (lf (lf (lf (n) (x.base.length)) (x.know.length)) ((x.tallies.length+sumL Ar x.tallies))) ((x.lives.length+sumL Bk x.lives))) (x.dead.length)) ((x.cells.length+sumL Ce x.cells)) (by omega)
 refine⟨fun hn=> ?_,fun hn=> ?_⟩
 ·have hn:=of_decide_eq_true hn
  have hn:=Bv.1 hn
  unfold Cq lf;rw[if_pos (by omega)]
 have hn:=of_decide_eq_false hn
 have f5:=B5 hn
 try simp(disch:=omega) only[Af]
 unfold Cq;rw[show lf n (x.base.length+x.know.length+(x.tallies.length+sumL Ar x.tallies)+(x.lives.length+sumL Bk x.lives)+x.dead.length+(x.cells.length+sumL Ce x.cells))=n - ((x.base.length+x.know.length+(x.tallies.length+sumL Ar x.tallies)+(x.lives.length+sumL Bk x.lives)+x.dead.length+(x.cells.length+sumL Ce x.cells):Nat):Int) by unfold lf;rw[if_neg (by omega)]];try omega
def A1x:Fn1:=⟨18,[.t 4],(rg [oX 2 0,oV 4 (ki 0)] (rg [oF 5 1 2,oW 6 10 5,oM 7 1,oD 8 268 6 7,oM 1 8] (.seq (rg [oM 9 1,oE 10 .lss 9 0] (oG 10 (rg [o 4 (.mov (ki (-1)))] .ret))) (rg [oF 11 11 2,oW 12 6 11,oM 13 1,oD 14 269 12 13,oM 1 14] (.seq (rg [oM 15 1,oE 16 .lss 15 0] (oG 16 (rg [o 4 (.mov (ki (-1)))] .ret))) (rg [oM 17 1,oM 4 17] .ret))))))⟩
theorem Aa4:A4 Tryz.prog 246=some A1x:=by kernel_rfl
theorem A7f (N:St) (cs:List GV) (x:Unit_) (hR:Bt.R N x cs) (n:Int) (hw:A85 x) (h0:0<=n) (h1:n<=1099511627776):Ret Tryz.prog 246 [.agg cs,gi n] N (gi (lf n (B7 x))) N:=by
 obtain⟨v1,v2,rfl,q1,q2⟩:=hR
 obtain⟨w0,w1⟩:=hw
 have a1:=q1
 have a2:=q2
 obtain⟨kv,rfl,_⟩:=q1
 obtain⟨d0,d1,d2,d3,d4,d5,rfl,_⟩:=q2
 suffices key:Ret Tryz.prog 246 [.agg (.bool x.batch::[.int .i64 x.act.dot.rep,.int .i64 x.act.dot.seq,.int .i64 x.act.time,kv,.int .i64 x.act.kind,.str x.act.obj,.str x.act.key,.int .i64 x.act.val,.int .i64 x.act.ref.rep,.int .i64 x.act.ref.seq,d0,d1,d2,d3,d4,d5]),gi n] N (gi (lf n (B7 x))) N from key
 refine Ab Aa4 (Z0z rfl) trivial ?_
 simp +contextual (disch:=omega) only[go_sem,A1x,Zaa]
 refine A6 (Aa2 _ _ x.act (kAct.pre a1 (pre1 _ _)) (n) w0 (by omega) (by omega)) ?_
 simp +contextual (disch:=omega) only[go_sem,Zaa]
 have g0:= @E5 (n) (L6 x.act) (by omega)
 refine⟨fun hn=> ?_,fun hn=> ?_⟩
 ·have hn:=of_decide_eq_true hn
  have hn:=Bv.1 hn
  unfold B7 lf;rw[if_pos (by omega)]
 have hn:=of_decide_eq_false hn
 have f0:=B5 hn
 try simp(disch:=omega) only[Af]
 refine A6 (A3t _ _ x.delta (Dk.pre a2 (pre1 _ _)) (lf (n) (L6 x.act)) w1 (by omega) (by omega)) ?_
 simp +contextual (disch:=omega) only[go_sem,Zaa]
 have g1:= @E5 (lf (n) (L6 x.act)) (Cq x.delta) (by omega)
 refine⟨fun hn=> ?_,fun hn=> ?_⟩
 ·have hn:=of_decide_eq_true hn
  have hn:=Bv.1 hn
  unfold B7 lf;rw[if_pos (by omega)]
 have hn:=of_decide_eq_false hn
 have f1:=B5 hn
 try simp(disch:=omega) only[Af]
 unfold B7;rw[show lf n (L6 x.act+Cq x.delta)=n - ((L6 x.act+Cq x.delta:Nat):Int) by unfold lf;rw[if_neg (by omega)]];try omega
def Xv:Fn1:=⟨27,[.t 4],(rg [oV 4 (ki 0)] (rg [oM 6 1,oM 7 0,oN 8 7,oB 9 .sub 6 8,oM 1 9] (.seq (rg [oM 10 1,oE 11 .lss 10 0] (oG 11 (rg [o 4 (.mov (ki (-1)))] .ret))) (.seq (rg [oV 5 (ki 0)] (oH 0 (.seq (rg [oM 12 5,oM 13 0,oN 14 13,oB 15 .lss 12 14] (oJ 15 0)) (.seq (.blk 1 (rg [oM 18 0,oM 19 5,oI 20 17 18 19,oW 21 17 20,oM 22 1,oD 23 246 21 22,oM 1 23] (rg [oM 24 1,oE 25 .lss 24 0] (oG 25 (rg [o 4 (.mov (ki (-1)))] .ret))))) (.reg [oM 16 5,oZ 17 16 1,oM 5 17]))))) (rg [oM 26 1,oM 4 26] .ret)))))⟩
theorem A7g:A4 Tryz.prog 167=some Xv:=by kernel_rfl
theorem Iy (N:St) (v:GV) (l:List Unit_) (hR:RS Bt N v l) (n:Int) (hw:l.length<=9223372036854775807/\∀ y∈l,A85 y) (h0:0<=n) (h1:n<=1099511627776):Ret Tryz.prog 167 [v,gi n] N (gi (lf n (l.length+sumL B7 l))) N:=by
 obtain⟨wl,we⟩:=hw
 refine Ab A7g (Z0z rfl) trivial ?_
 simp +contextual (disch:=omega) only[go_sem,Xv,hR.len]
 refine⟨fun hn=> ?_,fun hn=> ?_⟩
 ·have hn:=of_decide_eq_true hn
  unfold lf;rw[if_pos (by omega)]
 have hn:=of_decide_eq_false hn
 refine Bc l.length 5 (fun i env U=>∃ m:Int,env 0=v/\env 1=gi m/\m=n - l.length - sumL B7 (l.take i)/\0<=m/\N <+: U) rfl ⟨n - l.length,rfl,rfl,by simp[sumL],by omega,Zal _⟩ ?_ ?_
 ·rintro i env U hi e5 c0 ⟨m,e0,e1,em,hm,hp⟩
  have h1:=hR.pre hp
  have hs:=Jg (f:=B7) hi
  have hst:=Fi B7 l (i+1)
  obtain⟨cs,hc,hcr⟩:=Rz h1 hi
  simp +contextual (disch:=omega) only[go_sem,c0,e0,e1,e5,hR.len,hc]
  refine A6 (A7f U cs l[i] hcr m (we _ (Zaf hi)) hm (by omega)) ?_
  simp +contextual (disch:=omega) only[go_sem,c0,e0,e1,e5,hp]
  have g0:= @E5 m (B7 l[i]) hm
  have g1:= @A83 m (B7 l[i])
  refine⟨fun hn=> ?_,fun hn=> ?_⟩
  ·have hn:=Bv.1 (of_decide_eq_true hn)
   unfold lf;rw[if_pos (by omega)]
  ·have hn:=of_decide_eq_false hn
   have f:=B5 hn
   exact⟨_,rfl,by omega,by omega⟩
 ·rintro env U e5 c0 ⟨m,e0,e1,em,hm,hp⟩
  rw[Zab] at em
  simp +contextual (disch:=omega) only[go_sem,c0,e0,e1,e5,hR.len,hp]
  unfold lf;rw[if_neg (by omega)];omega
def A7i:Fn1:=⟨24,[.t 4],(rg [oX 2 0,oV 4 (ki 0)] (rg [oF 5 2 2,oW 6 4 5,oM 7 1,oD 8 14 6 7,oM 1 8] (.seq (rg [oM 9 1,oE 10 .lss 9 0] (oG 10 (rg [o 4 (.mov (ki (-1)))] .ret))) (rg [oF 11 6 2,oL 12 11,oM 13 1,oD 14 167 12 13,oM 1 14] (.seq (rg [oM 15 1,oE 16 .lss 15 0] (oG 16 (rg [o 4 (.mov (ki (-1)))] .ret))) (rg [oF 17 7 2,oL 18 17,oM 19 1,oD 20 167 18 19,oM 1 20] (.seq (rg [oM 21 1,oE 22 .lss 21 0] (oG 22 (rg [o 4 (.mov (ki (-1)))] .ret))) (rg [oM 23 1,oM 4 23] .ret))))))))⟩
theorem Acj:A4 Tryz.prog 164=some A7i:=by kernel_rfl
theorem Aa5 (N:St) (cs:List GV) (x:Log) (hR:kLog.R N x cs) (n:Int) (hw:wLog x) (h0:0<=n) (h1:n<=1099511627776):Ret Tryz.prog 164 [.agg cs,gi n] N (gi (lf n (Gi x))) N:=by
 obtain⟨v2,v3,v4,rfl,q2,q3,q4⟩:=hR
 have q20:=q2
 obtain⟨s0,s1,s2,s3,rfl,_⟩:=q2
 obtain⟨w0,w1,w2⟩:=hw
 refine Ab Acj (Z0z rfl) trivial ?_
 simp +contextual (disch:=omega) only[go_sem,A7i,Zaa]
 refine A6 (Il _ [s0,s1,s2,s3] x.state (A8.pre q20 (pre1 _ _)) (n) w0 (by omega) (by omega)) ?_
 simp +contextual (disch:=omega) only[go_sem,Zaa]
 have g0:= @E5 (n) (A7 x.state) (by omega)
 refine⟨fun hn=> ?_,fun hn=> ?_⟩
 ·have hn:=of_decide_eq_true hn
  have hn:=Bv.1 hn
  unfold Gi lf;rw[if_pos (by omega)]
 have hn:=of_decide_eq_false hn
 have f0:=B5 hn
 try simp(disch:=omega) only[Af]
 refine A6 (Iy _ v3 x.units (q3.pre (pre1 _ _)) (lf (n) (A7 x.state)) w1 (by omega) (by omega)) ?_
 simp +contextual (disch:=omega) only[go_sem,Zaa]
 have g1:= @E5 (lf (n) (A7 x.state)) ((x.units.length+sumL B7 x.units)) (by omega)
 refine⟨fun hn=> ?_,fun hn=> ?_⟩
 ·have hn:=of_decide_eq_true hn
  have hn:=Bv.1 hn
  unfold Gi lf;rw[if_pos (by omega)]
 have hn:=of_decide_eq_false hn
 have f1:=B5 hn
 try simp(disch:=omega) only[Af]
 refine A6 (Iy _ v4 x.waits (q4.pre (pre1 _ _)) (lf (lf (n) (A7 x.state)) ((x.units.length+sumL B7 x.units))) w2 (by omega) (by omega)) ?_
 simp +contextual (disch:=omega) only[go_sem,Zaa]
 have g2:= @E5 (lf (lf (n) (A7 x.state)) ((x.units.length+sumL B7 x.units))) ((x.waits.length+sumL B7 x.waits)) (by omega)
 refine⟨fun hn=> ?_,fun hn=> ?_⟩
 ·have hn:=of_decide_eq_true hn
  have hn:=Bv.1 hn
  unfold Gi lf;rw[if_pos (by omega)]
 have hn:=of_decide_eq_false hn
 have f2:=B5 hn
 try simp(disch:=omega) only[Af]
 unfold Gi;rw[show lf n (A7 x.state+(x.units.length+sumL B7 x.units)+(x.waits.length+sumL B7 x.waits))=n - ((A7 x.state+(x.units.length+sumL B7 x.units)+(x.waits.length+sumL B7 x.waits):Nat):Int) by unfold lf;rw[if_neg (by omega)]];try omega
def P2:Fn1:=⟨30,[.t 4],(rg [oX 2 0,oV 4 (ki 0)] (rg [oF 5 1 2,oW 6 8 5,oM 7 1,oD 8 164 6 7,oM 1 8] (.seq (rg [oM 9 1,oE 10 .lss 9 0] (oG 10 (rg [o 4 (.mov (ki (-1)))] .ret))) (rg [oF 11 9 2,oW 12 2 11,oM 13 1,oD 14 165 12 13,oM 1 14] (.seq (rg [oM 15 1,oE 16 .lss 15 0] (oG 16 (rg [o 4 (.mov (ki (-1)))] .ret))) (rg [oF 17 11 2,oW 18 2 17,oM 19 1,oD 20 166 18 19,oM 1 20] (.seq (rg [oM 21 1,oE 22 .lss 21 0] (oG 22 (rg [o 4 (.mov (ki (-1)))] .ret))) (rg [oF 23 13 2,oL 24 23,oM 25 1,oD 26 167 24 25,oM 1 26] (.seq (rg [oM 27 1,oE 28 .lss 27 0] (oG 28 (rg [o 4 (.mov (ki (-1)))] .ret))) (rg [oM 29 1,oM 4 29] .ret))))))))))⟩
theorem Zo:A4 Tryz.prog 68=some P2:=by kernel_rfl
theorem Xw (N:St) (cs:List GV) (x:Replica) (hR:Bi.R N x cs) (n:Int) (hw:Aan x) (h0:0<=n) (h1:n<=1099511627776):Ret Tryz.prog 68 [.agg cs,gi n] N (gi (lf n (Az x))) N:=by
 obtain⟨v1,v2,v4,rfl,q1,q2,q4⟩:=hR
 have q10:=q1
 have q20:=q2
 obtain⟨w2,w3_,w4,rfl,hD,_⟩:=q1
 obtain⟨d0,d1,d2,d3,rfl,_⟩:=hD
 obtain⟨g0,rfl,_⟩:=q2
 obtain⟨w0,w1,w2,w3⟩:=hw
 refine Ab Zo (Z0z rfl) trivial ?_
 simp +contextual (disch:=omega) only[go_sem,P2,Zaa]
 refine A6 (Aa5 _ _ x.log (kLog.pre q10 (pre1 _ _)) (n) w0 (by omega) (by omega)) ?_
 simp +contextual (disch:=omega) only[go_sem,Zaa]
 have g0:= @E5 (n) (Gi x.log) (by omega)
 refine⟨fun hn=> ?_,fun hn=> ?_⟩
 ·have hn:=of_decide_eq_true hn
  have hn:=Bv.1 hn
  unfold Az lf;rw[if_pos (by omega)]
 have hn:=of_decide_eq_false hn
 have f0:=B5 hn
 try simp(disch:=omega) only[Af]
 refine A6 (A3s _ _ x.graph (E1.pre q20 (pre1 _ _)) (lf (n) (Gi x.log)) w1 (by omega) (by omega)) ?_
 simp +contextual (disch:=omega) only[go_sem,Zaa]
 have g1:= @E5 (lf (n) (Gi x.log)) (C7 x.graph) (by omega)
 refine⟨fun hn=> ?_,fun hn=> ?_⟩
 ·have hn:=of_decide_eq_true hn
  have hn:=Bv.1 hn
  unfold Az lf;rw[if_pos (by omega)]
 have hn:=of_decide_eq_false hn
 have f1:=B5 hn
 try simp(disch:=omega) only[Af]
 refine A6 (A79 _ x.file (lf (lf (n) (Gi x.log)) (C7 x.graph)) w2 (by omega) (by omega)) ?_
 simp +contextual (disch:=omega) only[go_sem,Zaa]
 have g2:= @E5 (lf (lf (n) (Gi x.log)) (C7 x.graph)) (Me x.file) (by omega)
 refine⟨fun hn=> ?_,fun hn=> ?_⟩
 ·have hn:=of_decide_eq_true hn
  have hn:=Bv.1 hn
  unfold Az lf;rw[if_pos (by omega)]
 have hn:=of_decide_eq_false hn
 have f2:=B5 hn
 try simp(disch:=omega) only[Af]
 refine A6 (Iy _ v4 x.out (q4.pre (pre1 _ _)) (lf (lf (lf (n) (Gi x.log)) (C7 x.graph)) (Me x.file)) w3 (by omega) (by omega)) ?_
 simp +contextual (disch:=omega) only[go_sem,Zaa]
 have g3:= @E5 (lf (lf (lf (n) (Gi x.log)) (C7 x.graph)) (Me x.file)) ((x.out.length+sumL B7 x.out)) (by omega)
 refine⟨fun hn=> ?_,fun hn=> ?_⟩
 ·have hn:=of_decide_eq_true hn
  have hn:=Bv.1 hn
  unfold Az lf;rw[if_pos (by omega)]
 have hn:=of_decide_eq_false hn
 have f3:=B5 hn
 try simp(disch:=omega) only[Af]
 unfold Az;rw[show lf n (Gi x.log+C7 x.graph+Me x.file+(x.out.length+sumL B7 x.out))=n - ((Gi x.log+C7 x.graph+Me x.file+(x.out.length+sumL B7 x.out):Nat):Int) by unfold lf;rw[if_neg (by omega)]];try omega
def A1z:Fn1:=⟨11,[.c 2 true 2],(rg [oX 1 0,o 2 (.new [s0,z0])] (rg [o 3 (.new [s0,z0])] (rg [oF 4 0 1,oL 5 4,oF 6 0 3,oS 1 6 5] (rg [oF 7 1 1,oL 8 7,oF 9 1 3,oS 1 9 8] (rg [oW 10 2 3,oS 2 2 10] .ret)))))⟩
theorem Aa6:A4 Tryz.prog 171=some A1z:=by kernel_rfl
theorem A7j (N:St) (x:File):Ret Tryz.prog 171 [.agg [.str x.text,.int .i64 x.synced]] N (.agg [.str x.text,.int .i64 x.synced]) N:=by
 refine Ab Aa6 (Z0z rfl) (by simp[vLt,cLt,sLt]) ?_
 simp +contextual (disch:=omega) only[go_sem,A1z]
def Xy:Fn1:=⟨12,[.c 2 true 2],(rg [oX 1 0,o 2 (.new [.nilS,z0])] (rg [o 3 (.new [.nilS,z0])] (rg [oF 4 0 1,oL 5 4,oC 6 247 5,oF 7 0 3,oS 1 7 6] (rg [oF 8 1 1,oL 9 8,oF 10 1 3,oS 1 10 9] (rg [oW 11 2 3,oS 2 2 11] .ret)))))⟩
theorem A7k:A4 Tryz.prog 170=some Xy:=by kernel_rfl
theorem A3u (N:St) (cs:List GV) (x:Graph) (hR:E1.R N x cs) (hl:C7 x<=1073741824):∃ r U,Ret Tryz.prog 170 [.agg cs] N r U/\N <+: U/\∃ ds,r= .agg ds/\Hp N U [own E1 ds x]:=by
 have hlen:=E1.len hR
 have hlen:cs.length=2:=hlen
 obtain⟨v0,rfl,q0⟩:=hR
 unfold C7 at hl
 refine Sb A7k (Z0z rfl) ?_
 simp +contextual (disch:=omega) only[go_sem,Xy,Zaa]
 have H:=(((Hp.refl N).new 1 (v0::(GV.int .i64 x.head)::[])).new 1 [GV.nilS,(GV.int .i64 0)]).new 1 [GV.nilS,(GV.int .i64 0)]
 obtain⟨r0,U0,R0,K0⟩:=Xc _ v0 x.commits (q0.pre H.sub) (by omega)
 refine F6 R0 K0 ?_
 have e0:=(K0.sl 0 rfl).cell
 have H:=H.add K0
 try simp only[go_sem] at H
 try simp +contextual (disch:=omega) only[go_sem,Zaa,A2 (H.pt 3 rfl),A2 (H.pt 1 rfl)]
 obtain⟨_,es,H,_⟩:=H.st 1 rfl 1 0 (r0) (by rw[e0];rfl) (by decide) (Z0z rfl)
 try simp only[go_sem,Zac,Zad,e0] at H
 try simp +contextual (disch:=omega) only[go_sem,Zaa,es,A2 (H.pt 3 rfl),A2 (H.pt 1 rfl)]
 try simp +contextual (disch:=omega) only[go_sem,Zaa,A2 (H.pt 3 rfl),A2 (H.pt 1 rfl)]
 obtain⟨_,es,H,_⟩:=H.st 1 rfl 1 1 (.int .i64 x.head) (rfl) (by decide) (Z0z rfl)
 try simp only[go_sem,Zac,Zad] at H
 try simp +contextual (disch:=omega) only[go_sem,Zaa,es,A2 (H.pt 3 rfl),A2 (H.pt 1 rfl)]
 obtain⟨_,es,H,_⟩:=H.st 2 rfl 2 0 (.agg (r0::(GV.int .i64 x.head)::[])) (rfl) (by decide) (Z0z rfl)
 try simp only[go_sem,Zac,Zad] at H
 try simp +contextual (disch:=omega) only[go_sem,Zaa,es,A2 (H.pt 2 rfl)]
 have h0:=H.sub
 have H:=H
 try simp only[Zau,Zav] at H
 exact⟨_,rfl,h0,_,rfl,H.ownGraph.one⟩
def A7l:Fn1:=⟨23,[.c 2 true 8],(rg [oX 1 0,o 2 (.new [z0,z0,.nilS,.nilS,.nilS,.nilS,.nilS,.nilS])] (rg [o 3 (.new [z0,z0,.nilS,.nilS,.nilS,.nilS,.nilS,.nilS])] (rg [oF 4 0 1,oL 5 4,oF 6 0 3,oS 1 6 5] (rg [oF 7 1 1,oL 8 7,oF 9 1 3,oS 1 9 8] (rg [oF 10 2 1,oW 11 4 10,oC 12 17 11,oF 13 2 3,oS 4 13 12] (rg [oF 14 6 1,oL 15 14,oC 16 172 15,oF 17 6 3,oS 1 17 16] (rg [oF 18 7 1,oL 19 18,oC 20 172 19,oF 21 7 3,oS 1 21 20] (rg [oW 22 8 3,oS 8 2 22] .ret))))))))⟩
theorem Ack:A4 Tryz.prog 169=some A7l:=by kernel_rfl
theorem Aa7 (N:St) (cs:List GV) (x:Log) (hR:kLog.R N x cs) (hl:Gi x<=1073741824):∃ r U,Ret Tryz.prog 169 [.agg cs] N r U/\N <+: U/\∃ ds,r= .agg ds/\Hp N U [own kLog ds x]:=by
 obtain⟨v2,v3,v4,rfl,hD,q3,q4⟩:=hR
 have hD0:=hD
 obtain⟨d0,d1,d2,d3,rfl,_⟩:=hD
 have hma:A7 x.state<=1099511627776/\x.units.length+sumL B7 x.units<=1073741824/\x.waits.length+sumL B7 x.waits<=1073741824:=by unfold Gi at hl;omega
 have key:∃ r U,Ret Tryz.prog 169 [.agg [.int .i64 x.rep,.int .i64 x.time,d0,d1,d2,d3,v3,v4]] N r U/\∃ ds,r= .agg ds/\Hp N U [own kLog ds x]:=by
  refine Ri Ack (Z0z rfl) (Hx.refl N) ?_
  simp +contextual (disch:=omega) only[go_sem,A7l]
  intro n1 f1 U1 _ n2 f2 U2 _ n3 f3 U3 _ U4 _ U5 H5
  obtain⟨_,U7,R7,_,fs,rfl,K7⟩:=Ec U5 _ x.state (A8.pre hD0 H5.sub) hma.1
  refine by_c H5 R7 K7 fun H7=> ?_
  obtain⟨e0,e1,e2,e3,rfl,_⟩:=K7.rd 0 rfl
  simp +contextual (disch:=omega) only[go_sem]
  intro U8 H8
  obtain⟨u9,U9,R9,K9⟩:=Iw U8 v3 x.units (q3.pre H8.sub) hma.2.1
  refine by_c H8 R9 K9 fun H9=> ?_
  have c9:=(K9.sl 0 rfl).cell
  simp +contextual (disch:=omega) only[go_sem,c9]
  intro U10 H10
  obtain⟨u11,U11,R11,K11⟩:=Iw U10 v4 x.waits (q4.pre H10.sub) hma.2.2
  refine by_c H10 R11 K11 fun H11=> ?_
  have c11:=(K11.sl 0 rfl).cell
  simp +contextual (disch:=omega) only[go_sem,c11]
  intro U12 _ U13 H13
  exact⟨_,rfl,_,rfl,(Hp.ownLog (x:=x) (H13.sel [2,1,0] (by decide))).sel [0] (by decide)⟩
 obtain⟨r,U,R,ds,rfl,h⟩:=key
 exact⟨_,U,R,h.sub,ds,rfl,h⟩
def P3:Fn1:=⟨24,[.c 2 true 14],(rg [oX 1 0,o 2 (.new [z0,z0,z0,.nilS,.nilS,.nilS,.nilS,.nilS,.nilS,.nilS,z0,s0,z0,.nilS])] (rg [o 3 (.new [z0,z0,z0,.nilS,.nilS,.nilS,.nilS,.nilS,.nilS,.nilS,z0,s0,z0,.nilS])] (rg [oF 4 0 1,oL 5 4,oF 6 0 3,oS 1 6 5] (rg [oF 7 1 1,oW 8 8 7,oC 9 169 8,oF 10 1 3,oS 8 10 9] (rg [oF 11 9 1,oW 12 2 11,oC 13 170 12,oF 14 9 3,oS 2 14 13] (rg [oF 15 11 1,oW 16 2 15,oC 17 171 16,oF 18 11 3,oS 2 18 17] (rg [oF 19 13 1,oL 20 19,oC 21 172 20,oF 22 13 3,oS 1 22 21] (rg [oW 23 14 3,oS 14 2 23] .ret))))))))⟩
theorem Zp:A4 Tryz.prog 70=some P3:=by kernel_rfl
theorem Gn (N:St) (cs:List GV) (x:Replica) (hR:Bi.R N x cs) (hl:Az x<=1073741824):∃ r U,Ret Tryz.prog 70 [.agg cs] N r U/\N <+: U/\∃ ds,r= .agg ds/\Hp N U [own Bi ds x]:=by
 obtain⟨v1,v2,v4,rfl,hL,hG,q4⟩:=hR
 have hL0:=hL
 obtain⟨w2,w3,w4,rfl,hD,_⟩:=hL
 obtain⟨d0,d1,d2,d3,rfl,_⟩:=hD
 have hG0:=hG
 obtain⟨g0,rfl,_⟩:=hG
 have hma:Gi x.log<=1073741824/\C7 x.graph<=1073741824/\x.out.length+sumL B7 x.out<=1073741824:=by unfold Az at hl;omega
 have key:∃ r U,Ret Tryz.prog 70 [.agg [.int .i64 x.way,.int .i64 x.log.rep,.int .i64 x.log.time,d0,d1,d2,d3,w3,w4,g0,.int .i64 x.graph.head,.str x.file.text,.int .i64 x.file.synced,v4]] N r U/\∃ ds,r= .agg ds/\Hp N U [own Bi ds x]:=by
  refine Ri Zp (Z0z rfl) (Hx.refl N) ?_
  simp +contextual (disch:=omega) only[go_sem,P3]
  intro n1 f1 U1 _ n2 f2 U2 _ n3 f3 U3 _ U4 H4
  obtain⟨_,U7,R7,_,fs,rfl,K7⟩:=Aa7 U4 _ x.log (kLog.pre hL0 H4.sub) hma.1
  refine by_c H4 R7 K7 fun H7=> ?_
  obtain⟨a2,a3,a4,rfl,b2,_⟩:=K7.rd 0 rfl
  obtain⟨e0,e1,e2,e3,rfl,_⟩:=b2
  simp +contextual (disch:=omega) only[go_sem]
  intro U8 H8
  obtain⟨_,U9,R9,_,gs,rfl,K9⟩:=A3u U8 _ x.graph (E1.pre hG0 H8.sub) hma.2.1
  refine by_c H8 R9 K9 fun H9=> ?_
  obtain⟨h0,rfl,_⟩:=K9.rd 0 rfl
  simp +contextual (disch:=omega) only[go_sem]
  intro U10 H10
  refine by_r H10 (A7j U10 x.file) ?_
  simp +contextual (disch:=omega) only[go_sem]
  intro U11 H11
  obtain⟨u12,U12,R12,K12⟩:=Iw U11 v4 x.out (q4.pre H11.sub) hma.2.2
  refine by_c H11 R12 K12 fun H12=> ?_
  have c12:=(K12.sl 0 rfl).cell
  simp +contextual (disch:=omega) only[go_sem,c12]
  intro U13 _ U14 H14
  exact⟨_,rfl,_,rfl,(Hp.ownReplica (x:=x) (H14.sel [2,1,0] (by decide))).sel [0] (by decide)⟩
 obtain⟨r,U,R,ds,rfl,h⟩:=key
 exact⟨_,U,R,h.sub,ds,rfl,h⟩
def Kg:Fn1:=⟨32,[.t 2],(rg [oX 1 0,o 2 (.mov (.k s0))] (dw [oF 4 1 1,oF 5 0 4,oL 6 5,o 7 (.lit 1 1 [z0] [(0,1,(.t 6))]),o 8 (.call 102 [(.t 7),(.k s0)]),oF 9 1 1,oF 10 6 9,oL 11 10,oN 12 11,oC 13 173 12,oF 14 1 1,oF 15 7 14,oL 16 15,oN 17 16,oC 18 173 17,oF 19 9 1,oF 20 0 19,oL 21 20] [oN 22 21,oC 23 173 22,o 24 (.lit 1 8 [s0,s0,s0,s0,s0,s0,s0,s0] [(0,1,(.k (.str ⟨#[114,101,112,108,105,99,97]⟩))),(1,1,(.t 8)),(2,1,(.k (.str ⟨#[117,110,105,116,115]⟩))),(3,1,(.t 13)),(4,1,(.k (.str ⟨#[119,97,105,116,115]⟩))),(5,1,(.t 18)),(6,1,(.k (.str ⟨#[99,111,109,109,105,116,115]⟩))),(7,1,(.t 23))]),oM 3 24] (dw [oM 25 3,oC 26 161 25,oF 27 1 1,oF 28 2 27,oW 29 4 28] [oC 30 67 29,oB 31 .add 26 30,oM 2 31] .ret)))⟩
theorem Rp:A4 Tryz.prog 71=some Kg:=by kernel_rfl
def Ki:Fn1:=⟨35,[.t 2],(rg [oX 1 0,o 2 (.mov (.k s0))] (dw [oF 3 1 1,oF 4 0 3,oL 5 4,oC 6 168 5,o 7 (.bin .add (.k (.str ⟨#[114,101,112,108,105,99,97,32]⟩)) (.t 6)),o 8 (.bin .add (.t 7) (.k (.str ⟨#[32,117,110,105,116,115,32]⟩))),oF 9 1 1,oF 10 6 9,oL 11 10,oN 12 11,oC 13 159 12,oB 14 .add 8 13,o 15 (.bin .add (.t 14) (.k (.str ⟨#[32,119,97,105,116,115,32]⟩))),oF 16 1 1,oF 17 7 16,oL 18 17,oN 19 18,oC 20 159 19,oB 21 .add 15 20,o 22 (.bin .add (.t 21) (.k (.str ⟨#[32,99,111,109,109,105,116,115,32]⟩))),oF 23 9 1,oF 24 0 23,oL 25 24,oN 26 25,oC 27 159 26,oB 28 .add 22 27,o 29 (.bin .add (.t 28) (.k (.str ⟨#[10]⟩))),oF 30 1 1,oF 31 2 30,oW 32 4 31] [oC 33 66 32,oB 34 .add 29 33,oM 2 34] .ret))⟩
theorem Rq:A4 Tryz.prog 69=some Ki:=by kernel_rfl
def Aa8 (r:Replica):ByteArray:=Oe [⟨#[114,101,112,108,105,99,97]⟩,itB (mx0 r.log.rep),⟨#[117,110,105,116,115]⟩,itB r.log.units.length,⟨#[119,97,105,116,115]⟩,itB r.log.waits.length,⟨#[99,111,109,109,105,116,115]⟩,itB r.graph.commits.length]
def showR (r:Replica):ByteArray:=Aa8 r++Oi r.log.state
theorem Aho (r:Replica):(⟨#[114,101,112,108,105,99,97,32]⟩:ByteArray)++itB (mx0 r.log.rep)++⟨#[32,117,110,105,116,115,32]⟩++itB r.log.units.length++⟨#[32,119,97,105,116,115,32]⟩++itB r.log.waits.length++⟨#[32,99,111,109,109,105,116,115,32]⟩++itB r.graph.commits.length++⟨#[10]⟩=Aa8 r:=by
 have e:=A9q [itB (mx0 r.log.rep),⟨#[117,110,105,116,115]⟩,itB r.log.units.length,⟨#[119,97,105,116,115]⟩,itB r.log.waits.length,⟨#[99,111,109,109,105,116,115]⟩,itB r.graph.commits.length] ⟨#[32]⟩ (pre:=[⟨#[114,101,112,108,105,99,97]⟩]) (by simp)
 rw[Aa8,Oe]
 rw[Zaw,Zat] at e
 rw[e,Pu]
 simp only[Za3,List.map_nil,X8,show catS []=⟨#[]⟩ from rfl,X7]
 refine Cx ?_
 simp only[Fh,Zam]
 rfl
theorem A20 {r:Replica} (h0:r.log.rep<=9223372036854775807) (hl:Az r<=1048576):∀ x∈([⟨#[114,101,112,108,105,99,97]⟩,itB (mx0 r.log.rep),⟨#[117,110,105,116,115]⟩,itB r.log.units.length,⟨#[119,97,105,116,115]⟩,itB r.log.waits.length,⟨#[99,111,109,109,105,116,115]⟩,itB r.graph.commits.length]:List ByteArray),x.size<=21:=fun x hx=>by
 have hu:r.log.units.length<=1048576/\r.log.waits.length<=1048576/\r.graph.commits.length<=1048576:=by unfold Az Gi C7 at hl;omega
 simp only[Zax,Zaq,or_false] at hx
 rcases hx with rfl|rfl|rfl|rfl|rfl|rfl|rfl|rfl
 ·exact Z0z rfl
 ·exact Dp (A6j _) (A6k h0 (by omega))
 ·exact Z0z rfl
 ·exact Dp (by omega) (by omega)
 ·exact Z0z rfl
 ·exact Dp (by omega) (by omega)
 ·exact Z0z rfl
 ·exact Dp (by omega) (by omega)
theorem A7m {r:Replica} (h0:r.log.rep<=9223372036854775807) (hl:Az r<=1048576):(Aa8 r).size<=177:=A1i (A20 h0 hl)
theorem Q3 (N:St) (cs:List GV) (r:Replica) (hR:Bi.R N r cs) (hl:Az r<=1048576) (h0:r.log.rep<=9223372036854775807) (hI:stI r.log.state):Ret Tryz.prog 71 [.agg cs] N (.str (showR r)) N:=by
 obtain⟨v1,v2,v4,rfl,q1,q2,q4⟩:=hR
 obtain⟨st,vu,vw,rfl,hst,hu,hw⟩:=q1
 obtain⟨vg,rfl,hg⟩:=q2
 have hst0:=hst
 obtain⟨a,b,c,v,rfl,_,_,_,_⟩:=hst
 have hb:r.log.units.length<=1048576/\r.log.waits.length<=1048576/\r.graph.commits.length<=1048576/\A7 r.log.state<=1048576:=by unfold Az Gi C7 at hl;omega
 obtain⟨hb1,hb2,hb3,hb4⟩:=hb
 refine Jj Rp (Z0z rfl) trivial ?_
 simp +contextual (disch:=omega) only[go_sem,Kg]
 intro n f U _ n7 f7 U7 H
 refine by_r H (A1e U7 _ [r.log.rep] (A0e (p:=pI) (H.hp.pt 0 rfl)) ⟨#[]⟩ (by decide) (fun x hx'=>by rw[Zar] at hx';subst hx';exact h0) (by simp)) ?_
 have e1:tolB [r.log.rep] ⟨#[]⟩=itB (mx0 r.log.rep):=Pu _ _
 rw[e1]
 simp +contextual (disch:=omega) only[go_sem,hu.len]
 refine by_r H (G8 U7 r.log.units.length (by omega) (by omega)) ?_
 simp +contextual (disch:=omega) only[go_sem,hw.len]
 refine by_r H (G8 U7 r.log.waits.length (by omega) (by omega)) ?_
 simp +contextual (disch:=omega) only[go_sem,hg.len]
 refine by_r H (G8 U7 r.graph.commits.length (by omega) (by omega)) ?_
 simp +contextual (disch:=omega) only[go_sem]
 intro n24 f24 U24 H24
 have H':=Hx.row (p:=pS) H24 [⟨#[114,101,112,108,105,99,97]⟩,itB (mx0 r.log.rep),⟨#[117,110,105,116,115]⟩,itB r.log.units.length,⟨#[119,97,105,116,115]⟩,itB r.log.waits.length,⟨#[99,111,109,109,105,116,115]⟩,itB r.graph.commits.length] rfl rfl
 obtain⟨fp,ho,_⟩:=H'.hp.see (i:=0) rfl
 refine by_r H24 (E4 U24 _ _ fp ho 21 (A20 h0 hl) (by simp) (by simp)) ?_
 simp +contextual (disch:=omega) only[go_sem]
 refine by_r H24 (K6 U24 _ r.log.state (A8.pre hst0 H24.sub) hb4 hI) ?_
 have z1:=A7m h0 hl
 have z2:=A1j hI hb4
 have b1:(Aa8 r).size+(Oi r.log.state).size<=9223372036854775807:=by omega
 unfold Aa8 at b1
 simp +contextual (disch:=omega) only[go_sem,b1]
 exact fun _=>rfl
theorem sz7 {a b c d e f g:UInt8}:(#[a,b,c,d,e,f,g]:Array UInt8).size=7:=rfl
theorem sz8 {a b c d e f g h:UInt8}:(#[a,b,c,d,e,f,g,h]:Array UInt8).size=8:=rfl
theorem sz9 {a b c d e f g h i:UInt8}:(#[a,b,c,d,e,f,g,h,i]:Array UInt8).size=9:=rfl
theorem Q4 (N:St) (cs:List GV) (r:Replica) (hR:Bi.R N r cs) (hl:Az r<=1048576) (h0:r.log.rep<=9223372036854775807) (hI:stI r.log.state):Ret Tryz.prog 69 [.agg cs] N (.str (showR r)) N:=by
 have z3:=A7m h0 hl
 obtain⟨v1,v2,v4,rfl,q1,q2,q4⟩:=hR
 obtain⟨st,vu,vw,rfl,hst,hu,hw⟩:=q1
 obtain⟨vg,rfl,hg⟩:=q2
 have hst0:=hst
 obtain⟨a,b,c,v,rfl,_,_,_,_⟩:=hst
 have hb:r.log.units.length<=1048576/\r.log.waits.length<=1048576/\r.graph.commits.length<=1048576/\A7 r.log.state<=1048576:=by unfold Az Gi C7 at hl;omega
 obtain⟨hb1,hb2,hb3,hb4⟩:=hb
 have y1:=Dp (A6j r.log.rep) (A6k h0 (by omega))
 have y2:=Dp (n:=r.log.units.length) (by omega) (by omega)
 have y3:=Dp (n:=r.log.waits.length) (by omega) (by omega)
 have y4:=Dp (n:=r.graph.commits.length) (by omega) (by omega)
 have z2:=A1j hI hb4
 have hE:=Aho r
 refine Jj Rq (Z0z rfl) trivial ?_
 simp +contextual (disch:=omega) only[go_sem,Ki]
 intro n f U H
 refine by_r H (Rc U r.log.rep h0) ?_
 generalize itB (mx0 r.log.rep)=t1 at*
 have b1:(#[114,101,112,108,105,99,97,32]:Array UInt8).size+t1.size<=9223372036854775807:=by rw[sz8];omega
 have b2:(#[114,101,112,108,105,99,97,32]:Array UInt8).size+t1.size+(#[32,117,110,105,116,115,32]:Array UInt8).size<=9223372036854775807:=by rw[sz8,sz7];omega
 simp +contextual (disch:=omega) only[go_sem,hu.len,ByteArray.size_append,b1,b2]
 refine by_r H (Eq U r.log.units.length (by omega)) ?_
 generalize itB (r.log.units.length:Int)=t2 at*
 have b3:(#[114,101,112,108,105,99,97,32]:Array UInt8).size+t1.size+(#[32,117,110,105,116,115,32]:Array UInt8).size+t2.size<=9223372036854775807:=by rw[sz8,sz7];omega
 have b4:(#[114,101,112,108,105,99,97,32]:Array UInt8).size+t1.size+(#[32,117,110,105,116,115,32]:Array UInt8).size+t2.size+(#[32,119,97,105,116,115,32]:Array UInt8).size<=9223372036854775807:=by rw[sz8,sz7,sz7];omega
 simp +contextual (disch:=omega) only[go_sem,hw.len,ByteArray.size_append,b3,b4]
 refine by_r H (Eq U r.log.waits.length (by omega)) ?_
 generalize itB (r.log.waits.length:Int)=t3 at*
 have b5:(#[114,101,112,108,105,99,97,32]:Array UInt8).size+t1.size+(#[32,117,110,105,116,115,32]:Array UInt8).size+t2.size+(#[32,119,97,105,116,115,32]:Array UInt8).size+t3.size<=9223372036854775807:=by rw[sz8,sz7,sz7];omega
 have b6:(#[114,101,112,108,105,99,97,32]:Array UInt8).size+t1.size+(#[32,117,110,105,116,115,32]:Array UInt8).size+t2.size+(#[32,119,97,105,116,115,32]:Array UInt8).size+t3.size+(#[32,99,111,109,109,105,116,115,32]:Array UInt8).size<=9223372036854775807:=by rw[sz8,sz7,sz7,sz9];omega
 simp +contextual (disch:=omega) only[go_sem,hg.len,ByteArray.size_append,b5,b6]
 refine by_r H (Eq U r.graph.commits.length (by omega)) ?_
 generalize itB (r.graph.commits.length:Int)=t4 at*
 have b7:(#[114,101,112,108,105,99,97,32]:Array UInt8).size+t1.size+(#[32,117,110,105,116,115,32]:Array UInt8).size+t2.size+(#[32,119,97,105,116,115,32]:Array UInt8).size+t3.size+(#[32,99,111,109,109,105,116,115,32]:Array UInt8).size+t4.size<=9223372036854775807:=by rw[sz8,sz7,sz7,sz9];omega
 have b8:(#[114,101,112,108,105,99,97,32]:Array UInt8).size+t1.size+(#[32,117,110,105,116,115,32]:Array UInt8).size+t2.size+(#[32,119,97,105,116,115,32]:Array UInt8).size+t3.size+(#[32,99,111,109,109,105,116,115,32]:Array UInt8).size+t4.size+(#[10]:Array UInt8).size<=9223372036854775807:=by rw[sz8,sz7,sz7,sz9,sz1];omega
 simp +contextual (disch:=omega) only[go_sem,ByteArray.size_append,b7,b8]
 refine by_r H (K8 U _ r.log.state (A8.pre hst0 H.sub) hb4 hI) ?_
 have b9:(#[114,101,112,108,105,99,97,32]:Array UInt8).size+t1.size+(#[32,117,110,105,116,115,32]:Array UInt8).size+t2.size+(#[32,119,97,105,116,115,32]:Array UInt8).size+t3.size+(#[32,99,111,109,109,105,116,115,32]:Array UInt8).size+t4.size+(#[10]:Array UInt8).size+(Oi r.log.state).size<=9223372036854775807:=by rw[sz8,sz7,sz7,sz9,sz1];omega
 have b10:(Aa8 r).size+(Oi r.log.state).size<=9223372036854775807:=by omega
 simp +contextual (disch:=omega) only[go_sem,ByteArray.size_append,b9,hE,b10]
 exact fun _=>rfl
end Go.Proofs.YtnknigikcdgebaaGreatDoor.Sy
