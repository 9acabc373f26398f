/- Texts of this proof, one behind the other. -/
import Derived.Test.YtnknigikcdgebaaGreatDoorBTa5
import Derived.Test.YtnknigikcdgebaaGreatDoorProg
import Derived.KernelRfl
set_option linter.unusedSimpArgs false
set_option linter.unusedVariables false
set_option maxRecDepth 4000
set_option maxHeartbeats 4000000
open Option renaming map_none→Zaa,bind_some→Zab
open Nat renaming zero_le→Zac
namespace Go.Proofs.YtnknigikcdgebaaGreatDoor.Sy
open Go Go.RowKit
def Xw:Fn1:=⟨17,[.c 2 true 3],(rg [o 2 (.new [z0,s0,s0])] (rg [oM 4 0,o 5 (.call 92 [(.t 4),(ki 4)]),o 6 (.bin .add (ki 1) (.t 5)),oM 7 0,oC 8 150 7,o 9 (.build [z0,s0,s0] [(0,1,(.t 6)),(1,1,(.t 8))]),o 3 (.new [z0,s0,s0]),oS 3 3 9] (.seq (rg [oF 10 0 3,oL 11 10,oE 12 .eql 11 3] (oG 12 (.reg [oM 13 0,oC 14 194 13,oF 15 2 3,oS 1 15 14]))) (rg [oW 16 3 3,oS 3 2 16] .ret))))⟩
theorem A9n:A6 Tryz.prog 101=some Xw:=by kernel_rfl
def A7f:Fn1:=⟨26,[.c 2 true 3],(rg [o 2 (.new [z0,s0,s0])] (rg [oM 5 0,o 6 (.call 92 [(.t 5),(ki 10)]),oM 3 6] (rg [oM 7 0,oC 8 101 7,o 4 (.new [z0,s0,s0]),oS 3 4 8] (.seq (rg [oM 9 3] (.blk 0 (rg [oE 11 .eql 9 0,oM 10 11] (cn 10 (.reg [oM 12 0,o 13 (.lit 1 2 [z0,z0] [(0,1,(ki 0)),(1,1,(ki 5))]),oD 14 192 12 13,oF 15 0 4,oS 1 15 14]) (rg [oE 17 .eql 9 1,oM 16 17] (cn 16 (.reg [oM 18 0,o 19 (.lit 1 3 [s0,s0,s0] [(0,1,(.k s0)),(1,1,(.k (.str ⟨#[120]⟩))),(2,1,(.k (.str ⟨#[88]⟩)))]),oD 20 215 18 19,oF 21 2 4,oS 1 21 20]) (rg [oE 23 .eql 9 2,oM 22 23] (oG 22 (.reg [oF 24 1 4,on (.st 1 (.t 24) (.k s0))]))))))))) (rg [oW 25 3 4,oS 3 2 25] .ret)))))⟩
theorem Afw:A6 Tryz.prog 121=some A7f:=by kernel_rfl
def O7:Fn1:=⟨6,[.c 2 true 3],(rg [o 2 (.new [z0,s0,s0])] (rg [oM 3 0,oC 4 89 3,oC 5 121 4,oS 3 2 5] .ret))⟩
theorem Zb:A6 Tryz.prog 41=some O7:=by kernel_rfl
def Ke:Fn1:=⟨13,[.c 2 true 4,.c 3 true 3],(rg [o 2 (.new [.nilS,.nilS,.nilS,.nilS]),o 3 (.new [z0,s0,s0])] (rg [oM 6 0,oC 7 89 6,oM 4 7] (rg [oM 8 4,oC 9 121 8,o 5 (.new [z0,s0,s0]),oS 3 5 9] (dw [oW 12 3 5] [oM 10 4,oC 11 122 10,on (.chk 12 (.ld true 3 (.t 5))),oS 4 2 11,on (.chk 12 (.ld true 3 (.t 5))),oS 3 3 12] .ret))))⟩
theorem T4:E4 true Tryz.prog 42=some Ke:=by kernel_rfl
def Pf:Fn1:=⟨34,[.c 2 true 4,.c 3 true 4,.t 4],(rg [o 2 (.new [.nilS,.nilS,.nilS,.nilS]),o 3 (.new [.nilS,.nilS,.nilS,.nilS]),o 4 (.mov (.k .nilS))] (rg [oM 11 0,oC 12 89 11,oM 5 12] (rg [o 13 (.lit 3 0 [] []),oM 6 13] (.seq (rg [oV 7 (ki 0)] (oH 0 (.seq (rg [oM 14 7,oM 15 5,o 16 (.call 92 [(.t 15),(ki 5)]),oB 17 .lss 14 16] (oJ 17 0)) (.seq (.blk 1 (.reg [oM 20 6,oM 21 5,oC 22 121 21,o 23 (.lit 3 1 [z0,s0,s0] [(0,3,(.t 22))]),o 24 (.app 3 40 [z0,s0,s0] (.t 20) (.t 23)),oM 6 24])) (.reg [oM 18 7,oZ 19 18 1,oM 7 19]))))) (rg [oM 26 5,oC 27 123 26,oM 25 27,o 28 (.ext 0 (.t 25)),o 29 (.ext 1 (.t 25)),o 30 (.ext 2 (.t 25)),o 8 (.new [.nilS,.nilS,.nilS,.nilS]),o 9 (.new [.nilS,.nilS,.nilS,.nilS]),o 10 (.new [.nilS,.nilS,.nilS,.nilS]),oS 4 8 28,oS 4 9 29,oS 4 10 30] (dw [] [oW 31 4 8,oW 32 4 9,oM 33 6,oS 4 2 31,on (.chk 32 (.ld true 4 (.t 9))),oS 4 3 32,oM 4 33] .ret))))))⟩
theorem A42:A6 Tryz.prog 43=some Pf:=by kernel_rfl
def Kf:Fn1:=⟨16,[.t 2],(rg [o 2 (.mov (.k s0))] (rg [oM 5 0,oC 6 89 5,oM 3 6] (rg [oM 7 3,oC 8 121 7,oC 9 48 8,oM 4 9] (.seq (rg [oM 10 3,o 11 (.call 124 [(.t 10),(ki 3)])] (oG 11 (rg [oM 12 3,oM 13 4,oD 14 125 12 13,oM 2 14] .ret))) (rg [oM 15 4,oM 2 15] .ret)))))⟩
theorem T5:A6 Tryz.prog 44=some Kf:=by kernel_rfl
def T6:Fn1:=⟨45,[.t 4],(rg [o 4 (.mov (.k s0))] (.seq (rg [oM 6 0,o 7 (.call 92 [(.t 6),(ki 12)])] (.blk 0 (rg [oE 9 .eql 7 0,oM 8 9] (cn 8 (rg [oM 10 1,oM 11 0,o 12 (.call 217 [(.t 11),(ki 1)]),oB 13 .add 10 12,oM 4 13] .ret) (rg [oE 15 .eql 7 1,oM 14 15] (cn 14 (rg [oM 16 1,oM 17 0,oM 18 1,o 19 (.len true (.t 18)),oZ 20 19 1,oD 21 92 17 20,o 22 (.cutS (.t 16) none (some (.t 21))),oM 4 22] .ret) (.seq (rg [oE 24 .eql 7 2,oM 23 24] (cn 23 .skip (.reg [oE 25 .eql 7 3,oM 23 25]))) (oG 23 (rg [oM 26 1,o 27 (.len true (.t 26)),oE 28 .gtr 27 0] (oG 28 (rg [oM 29 0,oM 30 1,o 31 (.len true (.t 30)),oD 32 92 29 31,oM 5 32] (dw [] [oM 33 1,oM 34 5,o 35 (.cutS (.t 33) none (some (.t 34))),oM 36 0,o 37 (.call 217 [(.t 36),(ki 1)]),oB 38 .add 35 37,oM 39 1,oM 40 5,oZ 41 40 1,o 42 (.cutS (.t 39) (some (.t 41)) none),oB 43 .add 38 42,oM 4 43] .ret)))))))))))) (rg [oM 44 1,oM 4 44] .ret)))⟩
theorem A4z:A6 Tryz.prog 125=some T6:=by kernel_rfl
def A43:Fn1:=⟨23,[.t 4],(rg [o 4 (.mov (.k s0))] (.seq (rg [oM 7 1,oE 8 .gtr 7 5000] (oG 8 (.reg [oV 1 (ki 5000)]))) (rg [o 9 (.lit 1 0 [] []),oM 5 9] (.seq (rg [oV 6 (ki 0)] (oH 0 (.seq (rg [oM 10 6,oM 11 1,oB 12 .lss 10 11] (oJ 12 0)) (.seq (.blk 1 (.reg [oM 15 5,oM 16 0,oC 17 191 16,o 18 (.cvi .u8 (.t 17)),o 19 (.lit 1 1 [(.int .u8 0)] [(0,1,(.t 18))]),o 20 (.app 1 1 [(.int .u8 0)] (.t 15) (.t 19)),oM 5 20])) (.reg [oM 13 6,oZ 14 13 1,oM 6 14]))))) (rg [oM 21 5,o 22 (.bts (.t 21)),oM 4 22] .ret)))))⟩
theorem Adh:A6 Tryz.prog 217=some A43:=by kernel_rfl
def WtD (w:Watch):Prop:=w.obj.size<=5/\w.key.size<=3
theorem WtD.ms {w:Watch} (h:WtD w):Bm w<=8:=by
 have:=h.1;have:=h.2;simp only[Bm];omega
theorem Amq:∀ {l:List Watch},(∀ w∈l,WtD w)->sumL Bm l<=8*l.length
 |[],_=>by simp[sumL]
 |w::l,h=>by
  have h1:=(h w List.mem_cons_self).ms
  have h2:=Amq fun x hx=>h x (List.mem_cons_of_mem _ hx)
  have e:sumL Bm (w::l)=Bm w+sumL Bm l:=by simp[sumL]
  rw[e,List.length_cons];omega
theorem Adi (w:Watch):(Cn w).size<=100000:=by
 unfold Cn
 split
 ·have:=Oj w.kind;have:=Es w.obj;have:=Es w.key
  simp only[ByteArray.size_append];omega
 ·exact Zac _
theorem ext_2 {a b c:GV} (h:Al c=true):extG 2 (.tup [a,b,c])=some c:=Am6 rfl h
theorem Adj {t:ByteArray} {n:Nat} (h:n<=t.size):Qg (.str t) none (some (gi (n:Int)))=some (.str (t.extract 0 n)):=by
 have n1:B5 (some (gi ((n:Nat):Int)))=some n:=A5
 simp only[Qg,bndG,n1,Zab]
 rw[if_pos h]
 simp only[Zab]
theorem Amr {t:ByteArray} {n:Nat} (h:n+1<=t.size):Qg (.str t) (some (gi ((n:Int)+1))) none=some (.str (t.extract (n+1) t.size)):=by
 have n1:B5 (some (gi ((n:Int)+1)))=some (n+1):=A5 (n:=n+1)
 simp only[Qg,bndG,n1,Zab]
 rw[if_pos h]
 simp only[Zab]
section
variable {U0 U N:St} {h:List Item} {bs:List Int} {c v:GV}
abbrev wtV (w:Watch):List GV:=[gi w.kind,.str w.obj,.str w.key]
theorem A50 (H:Hx U0 U h) (k:Nat) (hk:h[k]? =some (cuI c v bs)) (D:Dr U0 v bs):∃(w:Watch) (N:St),WtD w/\Ret Tryz.prog 101 [c] U (.agg (wtV w)) N/\Hx U0 N h:=by
 have key:∃ r N,Ret Tryz.prog 101 [c] U r N/\∃ w:Watch,r= .agg (wtV w)/\WtD w/\Hx U0 N h:=by
  refine Gi A9n (Z0z rfl) H ?_
  simp +contextual (disch:=omega) only[go_sem,Xw]
  intro n2 f2 N2 H2
  have g2:=Ap (h:=h) f2
  obtain⟨x,N3,hx,R3,H3⟩:=Co H2 (k+1) hk D 4 (by decide) (by decide)
  refine by_k R3 H3 ?_
  simp +contextual (disch:=omega) only[go_sem]
  obtain⟨o,N4,ho,R4,H4⟩:=O1 H3 (k+1) hk D
  have hos:=(A9e ho).2
  refine by_k R4 H4 ?_
  simp +contextual (disch:=omega) only[go_sem]
  intro n5 f5 N5 _ N6 H6
  have g5:=Ap (h:=h) f5.2
  cases hb:((1:Int)+(x:Int)==3) with
  |true=>
   simp +contextual (disch:=omega) only[go_sem,hb]
   obtain⟨y,N7,hy,R7,H7⟩:=Gp H6 (k+2) hk D
   have hys:=(Afk hy).2
   refine by_k R7 H7 ?_
   simp +contextual (disch:=omega) only[go_sem]
   intro N8 _ N9 H9
   exact⟨_,rfl,⟨1+x,o,y⟩,rfl,⟨hos,hys⟩,H9.tl.tl⟩
  |false=>
   simp +contextual (disch:=omega) only[go_sem,hb]
   intro N9 H9
   exact⟨_,rfl,⟨1+x,o,⟨#[]⟩⟩,rfl,⟨hos,Zac 3⟩,H9.tl.tl⟩
 obtain⟨r,N,R,w,rfl,h1,h2⟩:=key
 exact⟨w,N,h1,R,h2⟩
theorem J4 (H:Hx U0 U h) (k:Nat) (hk:h[k]? =some (cuI c v bs)) (D:Dr U0 v bs):∃(w:Watch) (N:St),WtD w/\Ret Tryz.prog 121 [c] U (.agg (wtV w)) N/\Hx U0 N h:=by
 have key:∃ r N,Ret Tryz.prog 121 [c] U r N/\∃ w:Watch,r= .agg (wtV w)/\WtD w/\Hx U0 N h:=by
  refine Gi Afw (Z0z rfl) H ?_
  simp +contextual (disch:=omega) only[go_sem,A7f]
  intro n2 f2 N2 H2
  have g2:=Ap (h:=h) f2
  obtain⟨x,N3,hx,R3,H3⟩:=Co H2 (k+1) hk D 10 (by decide) (by decide)
  refine by_k R3 H3 ?_
  simp +contextual (disch:=omega) only[go_sem]
  obtain⟨w,N4,hw,R4,H4⟩:=A50 H3 (k+1) hk D
  refine by_k R4 H4 ?_
  simp +contextual (disch:=omega) only[go_sem]
  intro n5 f5 N5 _ N6 H6
  have g5:=Ap (h:=h) f5.2
  cases h0:((x:Int)==0) with
  |true=>
   simp +contextual (disch:=omega) only[go_sem,h0]
   intro n7 f7 N7 H7
   have g7:=Ap (h:=h) f7.2.2
   obtain⟨y,N8,hy,R8,H8⟩:=Cg H7 (k+3) hk D (litI (l:=[0,5]) rfl (by decide)) (by decide) (by decide)
   refine by_k R8 H8 ?_
   simp +contextual (disch:=omega) only[go_sem]
   intro N9 _ N10 H10
   exact⟨_,rfl,⟨y,w.obj,w.key⟩,rfl,hw,H10.tl.tl.tl⟩
  |false=>
   cases h1:((x:Int)==1) with
   |true=>
    simp +contextual (disch:=omega) only[go_sem,h0,h1]
    intro n7 f7 N7 H7
    have g7:=Ap (h:=h) f7.2.2
    obtain⟨y,N8,hy,R8,H8⟩:=Lg H7 (k+3) hk D (litS (l:=[⟨#[]⟩,⟨#[120]⟩,⟨#[88]⟩]) rfl (by decide)) (by decide) (by decide)
    have hys:y.size<=3:=by
     simp only[List.mem_cons,List.not_mem_nil,or_false] at hy
     rcases hy with rfl|rfl|rfl<;>decide
    refine by_k R8 H8 ?_
    simp +contextual (disch:=omega) only[go_sem]
    intro N9 _ N10 H10
    exact⟨_,rfl,⟨w.kind,w.obj,y⟩,rfl,⟨hw.1,hys⟩,H10.tl.tl.tl⟩
   |false=>
    cases h2:((x:Int)==2) with
    |true=>
     simp +contextual (disch:=omega) only[go_sem,h0,h1,h2]
     intro N9 _ N10 H10
     exact⟨_,rfl,⟨w.kind,⟨#[]⟩,w.key⟩,rfl,⟨Zac 5,hw.2⟩,H10.tl.tl⟩
    |false=>
     simp +contextual (disch:=omega) only[go_sem,h0,h1,h2]
     intro N10 H10
     exact⟨_,rfl,w,rfl,hw,H10.tl.tl⟩
 obtain⟨r,N,R,w,rfl,h1,h2⟩:=key
 exact⟨w,N,h1,R,h2⟩
theorem V9 (H:Hx U0 U h) (D:Dr U0 v bs):∃(w:Watch) (N:St),WtD w/\Ret Tryz.prog 41 [v] U (.agg (wtV w)) N/\Hx U0 N h:=by
 have key:∃ r N,Ret Tryz.prog 41 [v] U r N/\∃ w:Watch,r= .agg (wtV w)/\WtD w/\Hx U0 N h:=by
  refine Gi Zb (Z0z rfl) H ?_
  simp +contextual (disch:=omega) only[go_sem,O7]
  intro n2 f2 N2 H2
  have g2:=Ap (h:=h) f2
  obtain⟨c,N3,R3,H3⟩:=Aia H2 D
  refine by_k R3 H3 ?_
  simp +contextual (disch:=omega) only[go_sem]
  obtain⟨w,N4,hw,R4,H4⟩:=J4 H3 0 rfl D
  refine by_k R4 H4 ?_
  simp +contextual (disch:=omega) only[go_sem]
  intro N5 H5
  exact⟨_,rfl,w,rfl,hw,H5.tl.tl⟩
 obtain⟨r,N,R,w,rfl,h1,h2⟩:=key
 exact⟨w,N,h1,R,h2⟩
theorem Qe (H:Hx U0 U h) (D:Dr U0 v bs):∃(ds:List GV) (s:State) (w:Watch) (N:St),(Aa s<=6000/\nmS s)/\WtD w/\Ret Tryz.prog 42 [v] U (.tup [.agg ds,.agg (wtV w)]) N/\Hx U0 N (.th (own A4 ds s)::h):=by
 have key:∃ r N,Ret Tryz.prog 42 [v] U r N/\∃(ds:List GV) (s:State) (w:Watch),r= .tup [.agg ds,.agg (wtV w)]/\(Aa s<=6000/\nmS s)/\WtD w/\Hx U0 N (.th (own A4 ds s)::h):=by
  refine Gi T4 (Z0z rfl) H ?_
  simp +contextual (disch:=omega) only[go_sem,Ke]
  intro n2 f2 N2 _ n3 f3 N3 H3
  have g2:=Ap (h:=h) f2
  have g3:=Ap (h:=h) f3.2
  have ne23:=f3.1
  obtain⟨c,N4,R4,H4⟩:=Aia H3 D
  refine by_k R4 H4 ?_
  simp +contextual (disch:=omega) only[go_sem]
  obtain⟨w,N5,hw,R5,H5⟩:=J4 H4 0 rfl D
  refine by_k R5 H5 ?_
  simp +contextual (disch:=omega) only[go_sem]
  intro n6 f6 N6 _ N7 H7
  have g6:=Ap (h:=h) (by simpa [frX] using f6.2.2)
  have ne6:=f6.1
  have ne6':=f6.2.1
  try simp +contextual (disch:=omega) only[go_sem]
  obtain⟨ds,s,N8,hs,ns,R8,H8⟩:=V6 H7 1 rfl D
  have gl:ds.length=4:=A4.len (H8.hp.rd 0 rfl)
  refine by_k R8 H8 ?_
  simp +contextual (disch:=omega) only[go_sem,Ab (cs:=z4) gl rfl,gl,A2 gl]
  intro N9 _ N10 H10
  exact⟨_,rfl,ds,s,w,rfl,⟨hs,ns⟩,hw,(((H10.era 4).era 3).era 2).era 1⟩
 obtain⟨r,N,R,ds,s,w,rfl,h1,h2,h3⟩:=key
 exact⟨ds,s,w,N,h1,h2,R,h3⟩
theorem Zc (H:Hx U0 U h) (D:Dr U0 v bs):∃(ca cd:List GV) (a d:State) (L:List (List GV×State)) (r:GV) (l:List Watch) (N:St),OkS a/\OkS d/\(∀ w∈l,WtD w)/\l.length<=5/\(ca,a)∈L/\(cd,d)∈L/\Al r=true/\Ret Tryz.prog 43 [v] U (.tup [.agg ca,.agg cd,r]) N/\Hx U0 N (.th (shs A4 L)::.th (ow Lp.kd r l)::h):=by
 have key:∃ w N,Ret Tryz.prog 43 [v] U w N/\∃(ca cd:List GV) (a d:State) (L:List (List GV×State)) (r:GV) (l:List Watch),w= .tup [.agg ca,.agg cd,r]/\OkS a/\OkS d/\(∀ w∈l,WtD w)/\l.length<=5/\(ca,a)∈L/\(cd,d)∈L/\Al r=true/\Hx U0 N (.th (shs A4 L)::.th (ow Lp.kd r l)::h):=by
  refine Gi A42 (Z0z rfl) H ?_
  simp +contextual (disch:=omega) only[go_sem,Pf]
  intro n2 f2 N2 _ n3 f3 N3 H3
  have g2:=Ap (h:=h) f2
  have g3:=Ap (h:=h) f3.2
  have ne23:=f3.1
  obtain⟨c,N4,R4,H4⟩:=Aia H3 D
  refine by_k R4 H4 ?_
  simp +contextual (disch:=omega) only[go_sem]
  intro n5 f5 N5 H5
  refine Ab0 6 0 (fun kk env hh=>env 2= .ptr n2 0/\env 3= .ptr n3 0/\env 5=c/\∃(i:Int) (u:GV) (l:List Watch),env 7=gi i/\env 6=u/\0<=i/\i<=5/\kk=(6 - i).toNat/\l.length=i/\(∀ w∈l,WtD w)/\hh= .th (ow Lp.kd u l)::cuI c v bs::.box 1 n3 z4::.box 1 n2 z4::h) (fun env hh=>env 2= .ptr n2 0/\env 3= .ptr n3 0/\env 5=c/\∃(u:GV) (l:List Watch),env 6=u/\l.length<=5/\(∀ w∈l,WtD w)/\hh= .th (ow Lp.kd u l)::cuI c v bs::.box 1 n3 z4::.box 1 n2 z4::h) (fun _ _=>False) _ (H5.emp Lp.kd rfl) ⟨by simp +contextual (disch:=omega) only[go_sem],by simp +contextual (disch:=omega) only[go_sem],by simp +contextual (disch:=omega) only[go_sem],0,_,[],by simp +contextual (disch:=omega) only[go_sem],by simp +contextual (disch:=omega) only[go_sem],by decide,by decide,rfl,rfl,by simp,rfl⟩ ?_ ?_ (fun _ _ _ _ h=>h.elim)
  ·clear H5 H4 H3
   rintro J Yq Wq hJ hY hW kk env h' N H ⟨e2,e3,e5,i,u,l,e7,e6,hi0,hi5,rfl,hl,hwl,rfl⟩
   simp +contextual (disch:=omega) only[go_sem,e5,e7]
   obtain⟨x,N6,hx,R6,H6⟩:=Co H 1 rfl D 5 (by decide) (by decide)
   refine by_k R6 H6 ?_
   cases hb:decide (i<(x:Int)) with
   |false=>
    simp +contextual (disch:=omega) only[go_sem,hb]
    exact hY _ _ _ H6 ⟨by simp +contextual (disch:=omega) only[go_sem,e2],by simp +contextual (disch:=omega) only[go_sem,e3],by simp +contextual (disch:=omega) only[go_sem,e5],u,l,by simp +contextual (disch:=omega) only[go_sem,e6],by omega,hwl,rfl⟩
   |true=>
    have hlt:=of_decide_eq_true hb
    simp +contextual (disch:=omega) only[go_sem,hb,e5,e6]
    obtain⟨w,N7,hw,R7,H7⟩:=J4 H6 1 rfl D
    refine by_k R7 H7 ?_
    simp +contextual (disch:=omega) only[go_sem]
    intro n8 f8 N8 H8
    refine J7 (p:=Lp) H8 1 rfl w J6 (by decide) (by omega) fun v' N9 H9=> ?_
    simp +contextual (disch:=omega) only[go_sem,e7]
    exact⟨(6 - (i+1)).toNat,by omega,hJ _ _ _ _ H9.tl ⟨by simp +contextual (disch:=omega) only[go_sem,e2],by simp +contextual (disch:=omega) only[go_sem,e3],by simp +contextual (disch:=omega) only[go_sem,e5],i+1,v',l++[w],by simp +contextual (disch:=omega) only[go_sem],by simp +contextual (disch:=omega) only[go_sem],by omega,by omega,rfl,by simp;omega,fun y hy=>by
     rcases List.mem_append.1 hy with hy|hy
     ·exact hwl y hy
     ·rw[List.mem_singleton.1 hy];exact hw,rfl⟩⟩
  ·clear H5 H4 H3
   rintro env h' N H ⟨e2,e3,e5,u,l,e6,hl,hwl,rfl⟩
   simp +contextual (disch:=omega) only[go_sem,e5]
   obtain⟨cb,ca,cd,b0,a,d,N6,hb,ha,hd,R6,H6⟩:=Aib H 1 rfl D
   have ob:=hb.ok A3m
   have gb:cb.length=4:=A4.len (H6.hp.shs_rd 0 rfl (y:=(cb,b0)) (by simp))
   have ga:ca.length=4:=A4.len (H6.hp.shs_rd 0 rfl (y:=(ca,a)) (by simp))
   have gd:cd.length=4:=A4.len (H6.hp.shs_rd 0 rfl (y:=(cd,d)) (by simp))
   refine by_k R6 H6 ?_
   simp +contextual (disch:=omega) only[go_sem,ext_2 (a:=.agg cb) (b:=.agg ca) (c:=.agg cd) rfl,e2,e3,e6,A2 gb,A2 ga,A2 gd,Ab (cs:=z4) gb rfl,Ab (cs:=z4) ga rfl,Ab (cs:=z4) gd rfl,gb,ga,gd]
   intro n8 f8 N8 _ n9 f9 N9 _ n10 f10 N10 _ N11 _ N12 _ N13 H13
   have ne98:=f9.1
   have ne108:=f10.2.1
   have ne109:=f10.1
   intro N14 _ N15 H15
   have nt:=RdN.notup (H15.hp.sl 4 rfl)
   refine⟨_,if_pos nt,cb,ca,b0,a,[(cb,b0),(ca,a),(cd,d)],u,l,rfl,ob,ha.ok ob,hwl,hl,by simp,by simp,nt,(((((H15.era 7).era 6).era 5).era 2).era 1).era 0⟩
 obtain⟨w,N,R,ca,cd,a,d,L,r,l,rfl,h1,h2,h3,h4,h5,h6,h7,h8⟩:=key
 exact⟨ca,cd,a,d,L,r,l,N,h1,h2,h3,h4,h5,h6,h7,R,h8⟩
theorem Ln (H:Hx U0 U h) (k:Nat) (hk:h[k]? =some (cuI c v bs)) (D:Dr U0 v bs) (n:Nat) (hn:n<=5000):∃(s:ByteArray) (N:St),s.size=n/\Ret Tryz.prog 217 [c,gi n] U (.str s) N/\Hx U0 N h:=by
 have key:∃ r N,Ret Tryz.prog 217 [c,gi n] U r N/\∃ s:ByteArray,r= .str s/\s.size=n/\Hx U0 N h:=by
  refine Gi Adh (Z0z rfl) H ?_
  have hd:decide ((5000:Int)<(n:Int))=false:=by simp;omega
  simp +contextual (disch:=omega) only[go_sem,A43,hd]
  intro n2 f2 N2 H2
  refine M8 n 6 0 (fun i env hh=>env 0=c/\env 1=gi n/\∃ u l,env 5=u/\l.length=i/\hh= .th (ow pB.kd u l)::h) (fun env hh=>∃ u l,env 5=u/\l.length=n/\hh= .th (ow pB.kd u l)::h) (fun _ _=>False) _ (H2.emp pB.kd rfl) (by simp +contextual (disch:=omega) only[go_sem]) ⟨by simp +contextual (disch:=omega) only[go_sem],by simp +contextual (disch:=omega) only[go_sem],_,[],by simp +contextual (disch:=omega) only[go_sem],rfl,rfl⟩ ?_ ?_ ?_ (fun _ _ _ _ h=>h.elim)
  ·clear H2
   rintro J Yq Wq hJ hY hW i env h' N hi ei c0 H ⟨e0,e1,u,l,e5,hl,rfl⟩
   simp +contextual (disch:=omega) only[go_sem,c0,e0,e1,e5,ei]
   obtain⟨y,N5,hy,R5,H5⟩:=byte_x H (k+1) hk D
   refine by_k R5 H5 ?_
   have hw8:IntKind.u8.wrap (y:Int)=y:=Ahb (by omega) (by omega)
   simp +contextual (disch:=omega) only[go_sem,e0,e1,e5,ei,hw8]
   intro n6 f6 N6 H6
   refine J7 (p:=pB) H6 1 rfl (y:Int) J6 (by decide) (by omega) fun v' N7 H7=> ?_
   simp +contextual (disch:=omega) only[go_sem,e0,e1,e5,ei]
   exact hJ _ _ _ _ H7.tl ⟨by simp +contextual (disch:=omega) only[go_sem,e0],by simp +contextual (disch:=omega) only[go_sem,e1],v',l++[(y:Int)],by simp +contextual (disch:=omega) only[go_sem],by simp[hl],rfl⟩
  ·clear H2
   rintro Yq hY env h' N ei c0 H ⟨e0,e1,u,l,e5,hl,rfl⟩
   simp +contextual (disch:=omega) only[go_sem,c0,ei,e1]
   exact hY _ _ _ H ⟨u,l,e5,hl,rfl⟩
  ·rintro env h' N H ⟨u,l,e5,hl,rfl⟩
   simp +contextual (disch:=omega) only[go_sem,e5,Alc (H.hp.sl 0 rfl)]
   exact fun H=>⟨_,rfl,_,rfl,by rw[Ii];exact hl,H.tl⟩
 obtain⟨r,N,R,s,rfl,h1,h2⟩:=key
 exact⟨s,N,h1,R,h2⟩
theorem A44 (H:Hx U0 U h) (k:Nat) (hk:h[k]? =some (cuI c v bs)) (D:Dr U0 v bs) (s:ByteArray) (hs:s.size<=1099511627776):∃(t:ByteArray) (N:St),t.size<=s.size+1/\Ret Tryz.prog 125 [c,.str s] U (.str t) N/\Hx U0 N h:=by
 have key:∃ r N,Ret Tryz.prog 125 [c,.str s] U r N/\∃ t:ByteArray,r= .str t/\t.size<=s.size+1/\Hx U0 N h:=by
  refine Gi A4z (Z0z rfl) H ?_
  simp +contextual (disch:=omega) only[go_sem,T6]
  obtain⟨x,N1,hx,R1,H1⟩:=Co H k hk D 12 (by decide) (by decide)
  refine by_k R1 H1 ?_
  cases h0:((x:Int)==0) with
  |true=>
   simp +contextual (disch:=omega) only[go_sem,h0]
   obtain⟨t,N2,ht,R2,H2⟩:=Ln H1 k hk D 1 (by decide)
   refine by_k R2 H2 ?_
   have hle:s.size+t.size<=9223372036854775807:=by omega
   simp +contextual (disch:=omega) only[go_sem,hle]
   first|exact fun H=>⟨_,rfl,_,rfl,by rw[ByteArray.size_append];omega,H⟩|exact fun _=>⟨_,rfl,_,rfl,by rw[ByteArray.size_append];omega⟩
  |false=>
  cases h1:((x:Int)==1) with
  |true=>
   simp +contextual (disch:=omega) only[go_sem,h0,h1]
   obtain⟨y,N2,hy,R2,H2⟩:=Co H1 k hk D ((s.size:Int)+1) (by omega) (by omega)
   refine by_k R2 H2 ?_
   simp +contextual (disch:=omega) only[go_sem,Zaa,Adj (t:=s) (n:=y) (by omega)]
   first|exact fun H=>⟨_,rfl,_,rfl,by rw[ByteArray.size_extract];omega,H⟩|exact fun _=>⟨_,rfl,_,rfl,by rw[ByteArray.size_extract];omega⟩
  |false=>
  cases h4:decide ((0:Int)<(s.size:Int)) with
  |false=>
   cases h2:((x:Int)==2) with
   |true=>
    simp +contextual (disch:=omega) only[go_sem,h0,h1,h2,h4]
    first|exact fun H=>⟨_,rfl,_,rfl,by omega,H⟩|exact fun _=>⟨_,rfl,_,rfl,by omega⟩
   |false=>
    cases h3:((x:Int)==3) with
    |true=>
     simp +contextual (disch:=omega) only[go_sem,h0,h1,h2,h3,h4]
     first|exact fun H=>⟨_,rfl,_,rfl,by omega,H⟩|exact fun _=>⟨_,rfl,_,rfl,by omega⟩
    |false=>
     simp +contextual (disch:=omega) only[go_sem,h0,h1,h2,h3,h4]
     first|exact fun H=>⟨_,rfl,_,rfl,by omega,H⟩|exact fun _=>⟨_,rfl,_,rfl,by omega⟩
  |true=>
   have hp:=of_decide_eq_true h4
   cases h2:((x:Int)==2) with
   |true=>
    simp +contextual (disch:=omega) only[go_sem,h0,h1,h2,h4]
    obtain⟨y,N2,hy,R2,H2⟩:=Co H1 k hk D (s.size:Int) hp (by omega)
    refine by_k R2 H2 ?_
    simp +contextual (disch:=omega) only[go_sem,Zaa,Adj (t:=s) (n:=y) (by omega)]
    obtain⟨t,N3,ht,R3,H3⟩:=Ln H2 k hk D 1 (by decide)
    refine by_k R3 H3 ?_
    have hle:(s.extract 0 y).size+t.size<=9223372036854775807:=by rw[ByteArray.size_extract];omega
    have hle2:(s.extract 0 y).size+t.size+(s.extract (y+1) s.size).size<=9223372036854775807:=by simp only[ByteArray.size_extract];omega
    simp +contextual (disch:=omega) only[go_sem,Zaa,Adj (t:=s) (n:=y) (by omega),Amr (t:=s) (n:=y) (by omega),ByteArray.size_append,hle,hle2]
    first|exact fun H=>⟨_,rfl,_,rfl,by simp only[ByteArray.size_append,ByteArray.size_extract];omega,H⟩|exact fun _=>⟨_,rfl,_,rfl,by simp only[ByteArray.size_append,ByteArray.size_extract];omega⟩
   |false=>
    cases h3:((x:Int)==3) with
    |true=>
     simp +contextual (disch:=omega) only[go_sem,h0,h1,h2,h3,h4]
     obtain⟨y,N2,hy,R2,H2⟩:=Co H1 k hk D (s.size:Int) hp (by omega)
     refine by_k R2 H2 ?_
     simp +contextual (disch:=omega) only[go_sem,Zaa,Adj (t:=s) (n:=y) (by omega)]
     obtain⟨t,N3,ht,R3,H3⟩:=Ln H2 k hk D 1 (by decide)
     refine by_k R3 H3 ?_
     have hle:(s.extract 0 y).size+t.size<=9223372036854775807:=by rw[ByteArray.size_extract];omega
     have hle2:(s.extract 0 y).size+t.size+(s.extract (y+1) s.size).size<=9223372036854775807:=by simp only[ByteArray.size_extract];omega
     simp +contextual (disch:=omega) only[go_sem,Zaa,Adj (t:=s) (n:=y) (by omega),Amr (t:=s) (n:=y) (by omega),ByteArray.size_append,hle,hle2]
     first|exact fun H=>⟨_,rfl,_,rfl,by simp only[ByteArray.size_append,ByteArray.size_extract];omega,H⟩|exact fun _=>⟨_,rfl,_,rfl,by simp only[ByteArray.size_append,ByteArray.size_extract];omega⟩
    |false=>
     simp +contextual (disch:=omega) only[go_sem,h0,h1,h2,h3,h4]
     first|exact fun H=>⟨_,rfl,_,rfl,by omega,H⟩|exact fun _=>⟨_,rfl,_,rfl,by omega⟩
 obtain⟨r,N,R,t,rfl,h1,h2⟩:=key
 exact⟨t,N,h1,R,h2⟩
theorem Qf (H:Hx U0 U h) (D:Dr U0 v bs):∃(t:ByteArray) (N:St),t.size<=1099511627776/\Ret Tryz.prog 44 [v] U (.str t) N/\Hx U0 N h:=by
 have key:∃ r N,Ret Tryz.prog 44 [v] U r N/\∃ t:ByteArray,r= .str t/\t.size<=1099511627776/\Hx U0 N h:=by
  refine Gi T5 (Z0z rfl) H ?_
  simp +contextual (disch:=omega) only[go_sem,Kf]
  obtain⟨c,N3,R3,H3⟩:=Aia H D
  refine by_k R3 H3 ?_
  simp +contextual (disch:=omega) only[go_sem]
  obtain⟨w,N4,hw,R4,H4⟩:=J4 H3 0 rfl D
  refine by_k R4 H4 ?_
  simp +contextual (disch:=omega) only[go_sem]
  have hm:=hw.ms
  refine by_r H4 (Ia N4 w (by omega)) ?_
  have hts:=Adi w
  simp +contextual (disch:=omega) only[go_sem]
  obtain⟨b,N8,R8,H8⟩:=Se H4 0 rfl D 3 (by decide)
  refine by_k R8 H8 ?_
  cases b with
  |true=>
   simp +contextual (disch:=omega) only[go_sem]
   obtain⟨t,N9,ht,R9,H9⟩:=A44 H8 0 rfl D (Cn w) (by omega)
   refine by_k R9 H9 ?_
   simp +contextual (disch:=omega) only[go_sem]
   first|exact fun H=>⟨_,rfl,_,rfl,by omega,H.tl⟩|exact fun H=>⟨by omega,H.tl⟩
  |false=>
   simp +contextual (disch:=omega) only[go_sem]
   first|exact fun H=>⟨_,rfl,_,rfl,by omega,H.tl⟩|exact fun H=>⟨by omega,H.tl⟩
 obtain⟨r,N,R,t,rfl,h1,h2⟩:=key
 exact⟨t,N,h1,R,h2⟩
end
def O9:Fn1:=⟨83,[.t 2],(rg [oV 2 kf] (.seq (rg [oM 14 0,oC 15 27 14] (oG 15 (oR 2 kt))) (rg [oM 16 0,oC 17 41 16,o 3 (.new [z0,s0,s0]),oS 3 3 17] (rg [oM 19 0,oC 20 42 19,oM 18 20,o 21 (.ext 0 (.t 18)),o 22 (.ext 1 (.t 18)),o 4 (.new [.nilS,.nilS,.nilS,.nilS]),o 5 (.new [z0,s0,s0]),oS 4 4 21,oS 3 5 22] (rg [oM 24 0,oC 25 43 24,oM 23 25,o 26 (.ext 0 (.t 23)),o 27 (.ext 1 (.t 23)),o 28 (.ext 2 (.t 23)),o 6 (.new [.nilS,.nilS,.nilS,.nilS]),o 7 (.new [.nilS,.nilS,.nilS,.nilS]),oS 4 6 26,oS 4 7 27,oM 8 28] (rg [oM 29 0,oC 30 44 29,oM 9 30] (rg [oM 32 9,oC 33 34 32,oM 31 33,o 34 (.ext 0 (.t 31)),o 35 (.ext 1 (.t 31)),o 10 (.new [z0,s0,s0]),oS 3 10 34,oM 11 35] (rg [oM 37 9,oC 38 45 37,oM 36 38,o 39 (.ext 0 (.t 36)),o 40 (.ext 1 (.t 36)),o 12 (.new [z0,s0,s0]),oS 3 12 39,oM 13 40] (dw [oW 41 3 3,oC 42 33 41,oW 43 3 3,oC 44 46 43,o 45 (.eqb false (.t 42) (.t 44)),oM 46 45,jW 47 46 4 4,jW 48 46 3 5,jD 49 46 32 47 48,jW 50 46 4 4,jW 51 46 3 5,jD 52 46 47 50 51,jB 53 46 .eql 49 52,oQ 54 46 53,oM 55 54,jW 56 55 4 6,jW 57 55 4 7,jM 58 55 8,og 59 55 true (.call 19 (oT [56,57,58])),jW 60 55 4 6,jW 61 55 4 7,jM 62 55 8,og 63 55 true (.call 16 (oT [60,61,62])),jD 64 55 40 59 63,oQ 65 55 64,oM 66 65,jW 67 66 3 3,jC 68 66 35 67,jW 69 66 3 3,jC 70 66 48 69,jB 71 66 .eql 68 70,oQ 72 66 71,oM 73 72,jM 74 73 11,jM 75 73 13,og 76 73 true (.eqb false (.t 74) (.t 75)),oQ 77 73 76,oM 78 77,jW 79 78 3 10,jW 80 78 3 12] [og 81 78 true (.eqs false [.i .i64,.s,.s] (.t 79) (.t 80)),oQ 82 78 81,oM 2 82] .ret)))))))))⟩
theorem Zd:A6 Tryz.prog 6=some O9:=by kernel_rfl
def rwW:Option Watch->Watch
 |none=>⟨0,⟨#[]⟩,⟨#[]⟩⟩
 |some w=>w
theorem Ams (r:Option Watch):rwG r= .tup [.agg (wtV (rwW r)),.bool r.isSome]:=by cases r<;>rfl
theorem law_TurnsTold (U:St) (v:GV) (bs:List Int) (hv:Sl (Ek.int .u8) U v bs) (hw:bs.length<=9223372036854775807/\∀ y∈bs,(Lit.int .u8 y).wf=true):∃ r N,Ret Tryz.prog 6 [v] U r N/\r= .bool true:=by
 have hv:RS pB.kd U v bs:=hv.rs rfl (fun h=>h)
 refine Gi Zd (Z0z rfl) (Hx.refl U) ?_
 simp +contextual (disch:=omega) only[go_sem,O9]
 refine by_b (Hx.refl U) (Ad7 U v bs hv) (fun h0=> ?_) (fun h0=> ?_)
 ·simp +contextual (disch:=omega) only[go_sem]
  try exact fun _=>⟨_,rfl,rfl⟩
 have h0:=of_decide_eq_false h0
 have D:Dr U v bs:=⟨hv,by omega⟩
 simp +contextual (disch:=omega) only[go_sem]
 obtain⟨w,N1,hw,R1,H1⟩:=V9 (Hx.refl U) D
 refine by_k R1 H1 ?_
 simp +contextual (disch:=omega) only[go_sem]
 intro n3 f3 N2 _ N3 H3
 obtain⟨ds,s,x,N4,⟨hs,ns⟩,hx,R4,H4⟩:=Qe H3 D
 have gl:ds.length=4:=A4.len (H4.hp.rd 0 rfl)
 refine by_k R4 H4 ?_
 simp +contextual (disch:=omega) only[go_sem,Ab (cs:=z4) gl rfl,gl,A2 gl]
 intro n4 f4 N5 _ n5 f5 N6 _ N7 _ N8 H8
 have ne43:n3<n4:=f4.1
 have ne54:n4<n5:=f5.1
 have ne53:n3<n5:=f5.2.1
 try simp +contextual (disch:=omega) only[go_sem,Ab (cs:=z4) gl rfl,gl,A2 gl]
 obtain⟨ca,cd,a,d,L,u,l,N9,oa,od,hwl,hl,mca,mcd,nt,R9,H9⟩:=Zc H8 D
 have ga:ca.length=4:=A4.len (H9.hp.shs_rd 0 rfl mca)
 have gd:cd.length=4:=A4.len (H9.hp.shs_rd 0 rfl mcd)
 refine by_k R9 H9 ?_
 have x2:extG 2 (.tup [.agg ca,.agg cd,u])=some u:=Am6 rfl nt
 simp +contextual (disch:=omega) only[go_sem,x2,Ab (cs:=z4) ga rfl,ga,A2 ga,Ab (cs:=z4) gd rfl,gd,A2 gd]
 intro n6 f6 N10 _ n7 f7 N11 _ N12 _ N13 H13
 have ne76:n6<n7:=f7.1
 have ne64:n4<n6:=f6.2.1
 have ne65:n5<n6:=f6.1
 try simp +contextual (disch:=omega) only[go_sem,x2,Ab (cs:=z4) ga rfl,ga,A2 ga,Ab (cs:=z4) gd rfl,gd,A2 gd]
 obtain⟨t,N14,ht,R14,H14⟩:=Qf H13 D
 refine by_k R14 H14 ?_
 simp +contextual (disch:=omega) only[go_sem]
 refine by_r H14 (Ams (Jz t) ▸ A41 N14 t ht) ?_
 simp +contextual (disch:=omega) only[go_sem]
 intro n8 f8 N15 _ N16 H16
 refine by_r H16 (Ams (Jz t) ▸ A40 N16 t ht) ?_
 simp +contextual (disch:=omega) only[go_sem]
 intro n9 f9 N17 _ N18 H18
 have w1:=hw.1;have w2:=hw.2
 have mx:=hx.ms
 have ms1:=oa.ms
 have ms2:=od.ms
 have msl:=Amq hwl
 refine by_r H18 (Ho N18 w (by omega) (by omega)) ?_
 simp +contextual (disch:=omega) only[go_sem]
 refine by_r H18 (Lf N18 w (by omega) (by omega)) ?_
 simp +contextual (disch:=omega) only[go_sem,beq_self_eq_true,decide_true,A2 gl,gl,A2 ga,ga,A2 gd,gd]
 refine by_r H18 (Fi N18 ds s (H18.hp.rd 8 rfl) x (by omega) (by omega) ns.stI) ?_
 simp +contextual (disch:=omega) only[go_sem,beq_self_eq_true,decide_true,A2 gl,gl,A2 ga,ga,A2 gd,gd]
 refine by_r H18 (Fj N18 ds s (H18.hp.rd 8 rfl) x (by omega) (by omega) ns.stI) ?_
 simp +contextual (disch:=omega) only[go_sem,beq_self_eq_true,decide_true,A2 gl,gl,A2 ga,ga,A2 gd,gd]
 obtain⟨q1,N19,R19,K19⟩:=Adb N18 ca a (H18.hp.shs_rd 4 rfl mca) cd d (H18.hp.shs_rd 4 rfl mcd) u l (H18.hp.sl 5 rfl) (by omega) (by omega) (by omega) oa.nm.stI od.nm.stI
 refine by_c H18 R19 K19 fun H19=> ?_
 simp +contextual (disch:=omega) only[go_sem,beq_self_eq_true,decide_true,A2 gl,gl,A2 ga,ga,A2 gd,gd]
 obtain⟨q2,N20,R20,K20⟩:=Adc N19 ca a (H19.hp.shs_rd 5 rfl mca) cd d (H19.hp.shs_rd 5 rfl mcd) u l (H19.hp.sl 6 rfl) (by omega) (by omega) (by omega) oa.nm.stI od.nm.stI
 refine by_c H19 R20 K20 fun H20=> ?_
 simp +contextual (disch:=omega) only[go_sem,beq_self_eq_true,decide_true,A2 gl,gl,A2 ga,ga,A2 gd,gd]
 have hle:=A3s a d l l.length
 refine by_r H20 (A4t N20 q1 q2 _ _ (H20.hp.sl 1 rfl) (H20.hp.sl 0 rfl) (by omega)) ?_
 simp +contextual (disch:=omega) only[go_sem,beq_self_eq_true,decide_true,A2 gl,gl,A2 ga,ga,A2 gd,gd]
 have mw:=hw.ms
 refine by_r H20 (Mx N20 w (by omega)) ?_
 simp +contextual (disch:=omega) only[go_sem,beq_self_eq_true,decide_true,A2 gl,gl,A2 ga,ga,A2 gd,gd]
 refine by_r H20 (Ia N20 w (by omega)) ?_
 simp +contextual (disch:=omega) only[go_sem,beq_self_eq_true,decide_true,A2 gl,gl,A2 ga,ga,A2 gd,gd]
 try exact fun _=>⟨_,rfl,rfl⟩
end Go.Proofs.YtnknigikcdgebaaGreatDoor.Sy
