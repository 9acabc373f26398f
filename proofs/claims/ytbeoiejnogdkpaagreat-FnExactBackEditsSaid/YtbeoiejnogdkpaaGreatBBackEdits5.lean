/- Texts of this proof, one behind the other. -/
import Derived.Test.YtbeoiejnogdkpaaGreatBBackEdits4
import Derived.Test.YtbeoiejnogdkpaaGreatProg
import Derived.KernelRfl
set_option linter.unusedSimpArgs false
set_option linter.unusedVariables false
set_option maxRecDepth 4000
namespace Go.Proofs.YtbeoiejnogdkpaaGreat.Sy
section
open Go Go.RowKit
abbrev Q7:Nat:=109
def Q8:Fn1:=⟨19,[.t 4],(.seq (.reg [o 4 (.mov (.k (.int .i64 0)))]) (.seq (.seq (.reg [o 5 (.mov (.k (.int .i64 0)))]) (.blk 0 (.lop (.seq (.seq (.reg [o 6 (.mov (.t 5)),o 7 (.mov (.t 0)),o 8 (.len false (.t 7)),o 9 (.bin .lss (.t 6) (.t 8))]) (.cnd (.t 9) .skip (.ext 0))) (.seq (.blk 1 (.seq (.reg [o 12 (.mov (.t 0)),o 13 (.mov (.t 5)),o 14 (.mov (.t 1)),o 15 (.iad 1 (.t 12) (.t 13)),on (.st 1 (.t 15) (.t 14))]) (.reg [o 16 (.mov (.t 1)),o 17 (.bin .add (.t 16) (.k (.int .i64 1))),o 1 (.mov (.t 17))]))) (.reg [o 10 (.mov (.t 5)),o 11 (.bin .add (.t 10) (.k (.int .i64 1))),o 5 (.mov (.t 11))])))))) (.seq (.reg [o 18 (.mov (.t 1)),o 4 (.mov (.t 18))]) .ret)))⟩
theorem Zq:A5 Tryz.prog Q7=some Q8:=by kernel_rfl
theorem Ly {σ τ:St} {rs:List Thg} (i0:Nat) (v:GV) (l:List Int) (k:Int) (H:Hp σ τ rs) (hi0:rs[i0]? =some (ow pI.kd v l)) (h0:0≤k) (hk:k+1*l.length≤4611686018427387904):∃ τ',Ret Tryz.prog Q7 [v,gi k] τ (gi (k+1*l.length)) τ'∧Hp σ τ' (rs.set i0 (ow pI.kd v (mkF mInt 1 k l.length))):=by
 have H:=H.pick i0 hi0
 have hlt:=(List.getElem?_eq_some_iff.1 hi0).1
 obtain⟨r,τ',hR,rfl,H'⟩:=Ao (P:=Tryz.prog) (σ:=τ) (args:=[v,gi k]) (Post:=fun r τ'=>r=gi (k+1*l.length)∧Hp σ τ' (ow pI.kd v (mkF mInt 1 k l.length)::rs.eraseIdx i0)) Zq (Z0z rfl) (by
  simp +contextual (disch:=omega) only[go_sem,Q8]
  refine B8 l.length 5 (fun i env τ'=>env 0=v∧env 1=gi (k+1*(i:Int))∧τ.length≤τ'.length∧Hp σ τ' (ow pI.kd v ((mkF mInt 1 k l.length).take i++l.drop i)::rs.eraseIdx i0)) rfl ⟨rfl,(by show gi k=gi (k+1*0);simp),Nat.le_refl _,by simpa using H⟩ ?_ ?_
  ·rintro i env τ' hi e5 c0 ⟨e0,e1,hle,H⟩
   have hL:=Mq (l:=l) (e:=mInt) (c:=1) (k:=k) (i:=i)
   have hst:=Kc (e:=mInt) (c:=1) (k:=k) hi
   generalize(mkF mInt 1 k l.length).take i++l.drop i=L at H hL hst
   have hj:i<L.length:=by omega
   have h1:=H.sl 0 rfl
   have hln:=h1.len
   rw[hL] at hln
   have hat:=Ef h1 hj
   simp +contextual (disch:=omega) only[go_sem,c0,e0,e1,e5,hln,hat]
   obtain⟨τ2,es,H2⟩:=H.stw 0 rfl hj 1 (.int .i64 (k+1*(i:Int))) (mInt (k+1*(i:Int))) rfl rfl (by decide)
   have es:stG 1 τ' (atz 1 v i) (.int .i64 (k+1*(i:Int)))=some (.tup [],τ2):=es
   have hlen:=Bq es
   have H2:Hp σ τ2 (ow pI.kd v (L.set i (mInt (k+(1:Nat)*(i:Int))))::rs.eraseIdx i0):=H2
   rw[hst] at H2
   simp +contextual (disch:=omega) only[go_sem,c0,e0,e1,e5,hln,hat,es]
   exact⟨by omega,by omega,H2⟩
  ·rintro env τ' e5 c0 ⟨e0,e1,hle,H⟩
   rw[Mr] at H
   have hln:=(H.sl 0 rfl).len
   rw[Cg] at hln
   simp +contextual (disch:=omega) only[go_sem,c0,e0,e1,e5,hln]
   exact⟨_,rfl,hle,rfl,H⟩)
 exact⟨τ',hR,H'.unpick hlt⟩
end
section
open Go Go.RowKit
abbrev Ub:Nat:=37
def Uc:Fn1:=⟨10,[.t 4],(.seq (.reg [o 2 (.box (.t 0)),o 4 (.mov (.k (.int .i64 0)))]) (.seq (.reg [o 5 (.fad 3 (.t 2)),o 6 (.ld false 1 (.t 5)),o 7 (.mov (.t 1)),o 8 (.call 109 [(.t 6),(.t 7)]),o 1 (.mov (.t 8))]) (.seq (.reg [o 9 (.mov (.t 1)),o 4 (.mov (.t 9))]) .ret)))⟩
theorem A2q:A5 Tryz.prog Ub=some Uc:=by kernel_rfl
theorem Zr {σ τ:St} {rs:List Thg} (i0:Nat) (cs:List GV) (x:Act) (k:Int) (H:Hp σ τ rs) (hi0:rs[i0]? =some (own kAct cs x)) (h0:0≤k) (hk:k+A2p x≤4611686018427387904):∃ τ',Ret Tryz.prog Ub [.agg cs,gi k] τ (gi (k+A2p x)) τ'∧Hp σ τ' (rs.set i0 (own kAct cs (Aek k x))):=by
 have hlt:=(List.getElem?_eq_some_iff.1 hi0).1
 have hlen:=kAct.len (H.rd i0 hi0)
 have hlen:cs.length=10:=hlen
 obtain⟨v2,rfl,H⟩:=(H.pick i0 hi0).splitAct
 unfold A2p at hk
 obtain⟨r,τ',hR,rfl,H'⟩:=Ao (P:=Tryz.prog) (σ:=τ) (args:=[.agg ((GV.int .i64 x.dot.rep)::(GV.int .i64 x.dot.seq)::(GV.int .i64 x.time)::v2::(GV.int .i64 x.kind)::(GV.str x.obj)::(GV.str x.key)::(GV.int .i64 x.val)::(GV.int .i64 x.ref.rep)::(GV.int .i64 x.ref.seq)::[]),gi k]) (Post:=fun r τ'=>r=gi (k+A2p x)∧Hp σ τ' (own kAct ((GV.int .i64 x.dot.rep)::(GV.int .i64 x.dot.seq)::(GV.int .i64 x.time)::v2::(GV.int .i64 x.kind)::(GV.str x.obj)::(GV.str x.key)::(GV.int .i64 x.val)::(GV.int .i64 x.ref.rep)::(GV.int .i64 x.ref.seq)::[]) (Aek k x)::rs.eraseIdx i0)) A2q (Z0z rfl) (by
  have H:=H.new 1 ((GV.int .i64 x.dot.rep)::(GV.int .i64 x.dot.seq)::(GV.int .i64 x.time)::v2::(GV.int .i64 x.kind)::(GV.str x.obj)::(GV.str x.key)::(GV.int .i64 x.val)::(GV.int .i64 x.ref.rep)::(GV.int .i64 x.ref.seq)::[])
  simp +contextual (disch:=omega) only[go_sem,Uc,List.append_nil]
  obtain⟨τ0,R0,H⟩:=Ly 1 v2 x.knew (k) H rfl (by omega) (by omega)
  refine Aj R0 ?_
  try simp only[List.set_cons_succ,List.set_cons_zero] at H
  have hl0:=R0.2.1
  try simp +contextual (disch:=omega) only[go_sem,List.append_nil,A0 (H.pt 0 rfl)]
  try simp only[List.length_append,List.length_cons,List.length_nil] at hl0
  refine⟨_,rfl,by omega,by unfold A2p;congr 1<;>omega,H.drop1.ownAct (x:=Aek k x)⟩)
 exact⟨τ',hR,H'.unpick hlt⟩
end
section
open Go Go.RowKit
abbrev Ns:Nat:=38
def Nt:Fn1:=⟨50,[.t 4],(.seq (.reg [o 4 (.mov (.k (.int .i64 0)))]) (.seq (.seq (.reg [o 5 (.mov (.k (.int .i64 0)))]) (.blk 0 (.lop (.seq (.seq (.reg [o 6 (.mov (.t 5)),o 7 (.mov (.t 0)),o 8 (.len false (.t 7)),o 9 (.bin .lss (.t 6) (.t 8))]) (.cnd (.t 9) .skip (.ext 0))) (.seq (.blk 1 (.seq (.reg [o 12 (.mov (.t 0)),o 13 (.mov (.t 5)),o 14 (.mov (.t 1)),o 15 (.iad 5 (.t 12) (.t 13)),o 16 (.fad 0 (.t 15)),on (.st 1 (.t 16) (.t 14))]) (.seq (.reg [o 17 (.mov (.t 1)),o 18 (.bin .add (.t 17) (.k (.int .i64 1))),o 1 (.mov (.t 18))]) (.seq (.reg [o 19 (.mov (.t 0)),o 20 (.mov (.t 5)),o 21 (.mov (.t 1)),o 22 (.call 110 [(.t 21)]),o 23 (.iad 5 (.t 19) (.t 20)),o 24 (.fad 1 (.t 23)),on (.st 1 (.t 24) (.t 22))]) (.seq (.reg [o 25 (.mov (.t 1)),o 26 (.bin .add (.t 25) (.k (.int .i64 1))),o 1 (.mov (.t 26))]) (.seq (.reg [o 27 (.mov (.t 0)),o 28 (.mov (.t 5)),o 29 (.mov (.t 1)),o 30 (.call 110 [(.t 29)]),o 31 (.iad 5 (.t 27) (.t 28)),o 32 (.fad 2 (.t 31)),on (.st 1 (.t 32) (.t 30))]) (.seq (.reg [o 33 (.mov (.t 1)),o 34 (.bin .add (.t 33) (.k (.int .i64 1))),o 1 (.mov (.t 34))]) (.seq (.reg [o 35 (.mov (.t 0)),o 36 (.mov (.t 5)),o 37 (.mov (.t 1)),o 38 (.iad 5 (.t 35) (.t 36)),o 39 (.fad 3 (.t 38)),on (.st 1 (.t 39) (.t 37))]) (.seq (.reg [o 40 (.mov (.t 1)),o 41 (.bin .add (.t 40) (.k (.int .i64 1))),o 1 (.mov (.t 41))]) (.seq (.reg [o 42 (.mov (.t 0)),o 43 (.mov (.t 5)),o 44 (.mov (.t 1)),o 45 (.iad 5 (.t 42) (.t 43)),o 46 (.fad 4 (.t 45)),on (.st 1 (.t 46) (.t 44))]) (.reg [o 47 (.mov (.t 1)),o 48 (.bin .add (.t 47) (.k (.int .i64 1))),o 1 (.mov (.t 48))]))))))))))) (.reg [o 10 (.mov (.t 5)),o 11 (.bin .add (.t 10) (.k (.int .i64 1))),o 5 (.mov (.t 11))])))))) (.seq (.reg [o 49 (.mov (.t 1)),o 4 (.mov (.t 49))]) .ret)))⟩
theorem Vm:A5 Tryz.prog Ns=some Nt:=by kernel_rfl
theorem Ud {σ τ:St} {rs:List Thg} (i0:Nat) (v:GV) (l:List Edit) (k:Int) (H:Hp σ τ rs) (hi0:rs[i0]? =some (ow Ca.kd v l)) (h0:0≤k) (hk:k+5*l.length≤4611686018427387904):∃ τ',Ret Tryz.prog Ns [v,gi k] τ (gi (k+5*l.length)) τ'∧Hp σ τ' (rs.set i0 (ow Ca.kd v (mkF Vk 5 k l.length))):=by
 have H:=H.pick i0 hi0
 have hlt:=(List.getElem?_eq_some_iff.1 hi0).1
 obtain⟨r,τ',hR,rfl,H'⟩:=Ao (P:=Tryz.prog) (σ:=τ) (args:=[v,gi k]) (Post:=fun r τ'=>r=gi (k+5*l.length)∧Hp σ τ' (ow Ca.kd v (mkF Vk 5 k l.length)::rs.eraseIdx i0)) Vm (Z0z rfl) (by
  simp +contextual (disch:=omega) only[go_sem,Nt]
  refine B8 l.length 5 (fun i env τ'=>env 0=v∧env 1=gi (k+5*(i:Int))∧τ.length≤τ'.length∧Hp σ τ' (ow Ca.kd v ((mkF Vk 5 k l.length).take i++l.drop i)::rs.eraseIdx i0)) rfl ⟨rfl,(by show gi k=gi (k+5*0);simp),Nat.le_refl _,by simpa using H⟩ ?_ ?_
  ·rintro i env τ' hi e5 c0 ⟨e0,e1,hle,H⟩
   have hL:=Mq (l:=l) (e:=Vk) (c:=5) (k:=k) (i:=i)
   have hst:=Kc (e:=Vk) (c:=5) (k:=k) hi
   generalize(mkF Vk 5 k l.length).take i++l.drop i=L at H hL hst
   have hj:i<L.length:=by omega
   have h1:=H.sl 0 rfl
   have hln:=h1.len
   rw[hL] at hln
   have hat:=Yg h1 hj
   rw[Qy hj] at H
   generalize hy:L[i]=y at H hat
   simp +contextual (disch:=omega) only[go_sem,c0,e0,e1,e5,hln,hat]
   obtain⟨τ0,es,H⟩:=H.sts hj 1 0 (.int .i64 (k+5*(i:Int))) (⟨k+5*(i:Int),y.obj,y.key,y.val,y.place⟩) rfl (by decide) (by decide) rfl
   have es:stG 1 τ' (fld 0 (atz 5 v i)) (.int .i64 (k+5*(i:Int)))=some (.tup [],τ0):=es
   have hl0:=Bq es
   simp +contextual (disch:=omega) only[go_sem,e0,e1,e5,hat,es]
   refine A7 (C8 _ _ (by omega)) ?_
   simp +contextual (disch:=omega) only[go_sem,e0,e1,hat]
   obtain⟨τ1,es,H⟩:=H.sts hj 1 1 (.str (mtx (k+5*(i:Int)+1))) (⟨k+5*(i:Int),mtx (k+5*(i:Int)+1),y.key,y.val,y.place⟩) rfl (by decide) (by decide) rfl
   have es:stG 1 τ0 (fld 1 (atz 5 v i)) (.str (mtx (k+5*(i:Int)+1)))=some (.tup [],τ1):=es
   have hl1:=Bq es
   simp +contextual (disch:=omega) only[go_sem,e0,e1,e5,hat,es]
   refine A7 (C8 _ _ (by omega)) ?_
   simp +contextual (disch:=omega) only[go_sem,e0,e1,hat]
   obtain⟨τ2,es,H⟩:=H.sts hj 1 2 (.str (mtx (k+5*(i:Int)+1+1))) (⟨k+5*(i:Int),mtx (k+5*(i:Int)+1),mtx (k+5*(i:Int)+1+1),y.val,y.place⟩) rfl (by decide) (by decide) rfl
   have es:stG 1 τ1 (fld 2 (atz 5 v i)) (.str (mtx (k+5*(i:Int)+1+1)))=some (.tup [],τ2):=es
   have hl2:=Bq es
   simp +contextual (disch:=omega) only[go_sem,e0,e1,e5,hat,es]
   obtain⟨τ3,es,H⟩:=H.sts hj 1 3 (.int .i64 (k+5*(i:Int)+1+1+1)) (⟨k+5*(i:Int),mtx (k+5*(i:Int)+1),mtx (k+5*(i:Int)+1+1),k+5*(i:Int)+1+1+1,y.place⟩) rfl (by decide) (by decide) rfl
   have es:stG 1 τ2 (fld 3 (atz 5 v i)) (.int .i64 (k+5*(i:Int)+1+1+1))=some (.tup [],τ3):=es
   have hl3:=Bq es
   simp +contextual (disch:=omega) only[go_sem,e0,e1,e5,hat,es]
   obtain⟨τ4,es,H⟩:=H.sts hj 1 4 (.int .i64 (k+5*(i:Int)+1+1+1+1)) (⟨k+5*(i:Int),mtx (k+5*(i:Int)+1),mtx (k+5*(i:Int)+1+1),k+5*(i:Int)+1+1+1,k+5*(i:Int)+1+1+1+1⟩) rfl (by decide) (by decide) rfl
   have es:stG 1 τ3 (fld 4 (atz 5 v i)) (.int .i64 (k+5*(i:Int)+1+1+1+1))=some (.tup [],τ4):=es
   have hl4:=Bq es
   simp +contextual (disch:=omega) only[go_sem,e0,e1,e5,hat,es]
   have H2:Hp σ τ4 (ow Ca.kd v (L.set i (Vk (k+(5:Nat)*(i:Int))))::rs.eraseIdx i0):=H
   rw[hst] at H2
   exact⟨by omega,by omega,H2⟩
  ·rintro env τ' e5 c0 ⟨e0,e1,hle,H⟩
   rw[Mr] at H
   have hln:=(H.sl 0 rfl).len
   rw[Cg] at hln
   simp +contextual (disch:=omega) only[go_sem,c0,e0,e1,e5,hln]
   exact⟨_,rfl,hle,rfl,H⟩)
 exact⟨τ',hR,H'.unpick hlt⟩
end
section
open Go Go.RowKit
abbrev Nu:Nat:=114
def Nv:Fn1:=⟨76,[.t 4],(.seq (.reg [o 4 (.mov (.k (.int .i64 0)))]) (.seq (.seq (.reg [o 5 (.mov (.k (.int .i64 0)))]) (.blk 0 (.lop (.seq (.seq (.reg [o 6 (.mov (.t 5)),o 7 (.mov (.t 0)),o 8 (.len false (.t 7)),o 9 (.bin .lss (.t 6) (.t 8))]) (.cnd (.t 9) .skip (.ext 0))) (.seq (.blk 1 (.seq (.reg [o 12 (.mov (.t 0)),o 13 (.mov (.t 5)),o 14 (.mov (.t 1)),o 15 (.call 110 [(.t 14)]),o 16 (.iad 8 (.t 12) (.t 13)),o 17 (.fad 0 (.t 16)),on (.st 1 (.t 17) (.t 15))]) (.seq (.reg [o 18 (.mov (.t 1)),o 19 (.bin .add (.t 18) (.k (.int .i64 1))),o 1 (.mov (.t 19))]) (.seq (.reg [o 20 (.mov (.t 0)),o 21 (.mov (.t 5)),o 22 (.mov (.t 1)),o 23 (.iad 8 (.t 20) (.t 21)),o 24 (.fad 1 (.t 23)),o 25 (.fad 0 (.t 24)),on (.st 1 (.t 25) (.t 22))]) (.seq (.reg [o 26 (.mov (.t 1)),o 27 (.bin .add (.t 26) (.k (.int .i64 1))),o 1 (.mov (.t 27))]) (.seq (.reg [o 28 (.mov (.t 0)),o 29 (.mov (.t 5)),o 30 (.mov (.t 1)),o 31 (.iad 8 (.t 28) (.t 29)),o 32 (.fad 1 (.t 31)),o 33 (.fad 1 (.t 32)),on (.st 1 (.t 33) (.t 30))]) (.seq (.reg [o 34 (.mov (.t 1)),o 35 (.bin .add (.t 34) (.k (.int .i64 1))),o 1 (.mov (.t 35))]) (.seq (.reg [o 36 (.mov (.t 0)),o 37 (.mov (.t 5)),o 38 (.mov (.t 1)),o 39 (.iad 8 (.t 36) (.t 37)),o 40 (.fad 3 (.t 39)),on (.st 1 (.t 40) (.t 38))]) (.seq (.reg [o 41 (.mov (.t 1)),o 42 (.bin .add (.t 41) (.k (.int .i64 1))),o 1 (.mov (.t 42))]) (.seq (.reg [o 43 (.mov (.t 0)),o 44 (.mov (.t 5)),o 45 (.mov (.t 1)),o 46 (.iad 8 (.t 43) (.t 44)),o 47 (.fad 4 (.t 46)),o 48 (.fad 0 (.t 47)),on (.st 1 (.t 48) (.t 45))]) (.seq (.reg [o 49 (.mov (.t 1)),o 50 (.bin .add (.t 49) (.k (.int .i64 1))),o 1 (.mov (.t 50))]) (.seq (.reg [o 51 (.mov (.t 0)),o 52 (.mov (.t 5)),o 53 (.mov (.t 1)),o 54 (.iad 8 (.t 51) (.t 52)),o 55 (.fad 4 (.t 54)),o 56 (.fad 1 (.t 55)),on (.st 1 (.t 56) (.t 53))]) (.seq (.reg [o 57 (.mov (.t 1)),o 58 (.bin .add (.t 57) (.k (.int .i64 1))),o 1 (.mov (.t 58))]) (.seq (.reg [o 59 (.mov (.t 0)),o 60 (.mov (.t 5)),o 61 (.mov (.t 1)),o 62 (.iad 8 (.t 59) (.t 60)),o 63 (.fad 6 (.t 62)),on (.st 1 (.t 63) (.t 61))]) (.seq (.reg [o 64 (.mov (.t 1)),o 65 (.bin .add (.t 64) (.k (.int .i64 1))),o 1 (.mov (.t 65))]) (.seq (.reg [o 66 (.mov (.t 0)),o 67 (.mov (.t 5)),o 68 (.mov (.t 1)),o 69 (.bin .rem (.t 68) (.k (.int .i64 3))),o 70 (.bin .eql (.t 69) (.k (.int .i64 0))),o 71 (.iad 8 (.t 66) (.t 67)),o 72 (.fad 7 (.t 71)),on (.st 1 (.t 72) (.t 70))]) (.reg [o 73 (.mov (.t 1)),o 74 (.bin .add (.t 73) (.k (.int .i64 1))),o 1 (.mov (.t 74))]))))))))))))))))) (.reg [o 10 (.mov (.t 5)),o 11 (.bin .add (.t 10) (.k (.int .i64 1))),o 5 (.mov (.t 11))])))))) (.seq (.reg [o 75 (.mov (.t 1)),o 4 (.mov (.t 75))]) .ret)))⟩
theorem Vn:A5 Tryz.prog Nu=some Nv:=by kernel_rfl
theorem Ue {σ τ:St} {rs:List Thg} (i0:Nat) (v:GV) (l:List Cell) (k:Int) (H:Hp σ τ rs) (hi0:rs[i0]? =some (ow Ai.kd v l)) (h0:0≤k) (hk:k+8*l.length≤4611686018427387904):∃ τ',Ret Tryz.prog Nu [v,gi k] τ (gi (k+8*l.length)) τ'∧Hp σ τ' (rs.set i0 (ow Ai.kd v (mkF Zp 8 k l.length))):=by
 have H:=H.pick i0 hi0
 have hlt:=(List.getElem?_eq_some_iff.1 hi0).1
 obtain⟨r,τ',hR,rfl,H'⟩:=Ao (P:=Tryz.prog) (σ:=τ) (args:=[v,gi k]) (Post:=fun r τ'=>r=gi (k+8*l.length)∧Hp σ τ' (ow Ai.kd v (mkF Zp 8 k l.length)::rs.eraseIdx i0)) Vn (Z0z rfl) (by
  simp +contextual (disch:=omega) only[go_sem,Nv]
  refine B8 l.length 5 (fun i env τ'=>env 0=v∧env 1=gi (k+8*(i:Int))∧τ.length≤τ'.length∧Hp σ τ' (ow Ai.kd v ((mkF Zp 8 k l.length).take i++l.drop i)::rs.eraseIdx i0)) rfl ⟨rfl,(by show gi k=gi (k+8*0);simp),Nat.le_refl _,by simpa using H⟩ ?_ ?_
  ·rintro i env τ' hi e5 c0 ⟨e0,e1,hle,H⟩
   have hL:=Mq (l:=l) (e:=Zp) (c:=8) (k:=k) (i:=i)
   have hst:=Kc (e:=Zp) (c:=8) (k:=k) hi
   generalize(mkF Zp 8 k l.length).take i++l.drop i=L at H hL hst
   have hj:i<L.length:=by omega
   have h1:=H.sl 0 rfl
   have hln:=h1.len
   rw[hL] at hln
   have hat:=A4 h1 hj
   rw[Qy hj] at H
   generalize hy:L[i]=y at H hat
   simp +contextual (disch:=omega) only[go_sem,c0,e0,e1,e5,hln,hat]
   refine A7 (C8 _ _ (by omega)) ?_
   simp +contextual (disch:=omega) only[go_sem,e0,e1,hat]
   obtain⟨τ0,es,H⟩:=H.sts hj 1 0 (.str (mtx (k+8*(i:Int)))) (⟨mtx (k+8*(i:Int)),⟨y.dot.rep,y.dot.seq⟩,y.time,⟨y.ref.rep,y.ref.seq⟩,y.val,y.gone⟩) rfl (by decide) (by decide) rfl
   have es:stG 1 τ' (fld 0 (atz 8 v i)) (.str (mtx (k+8*(i:Int))))=some (.tup [],τ0):=es
   have hl0:=Bq es
   simp +contextual (disch:=omega) only[go_sem,e0,e1,e5,hat,es]
   obtain⟨τ1,es,H⟩:=H.sts hj 1 1 (.int .i64 (k+8*(i:Int)+1)) (⟨mtx (k+8*(i:Int)),⟨k+8*(i:Int)+1,y.dot.seq⟩,y.time,⟨y.ref.rep,y.ref.seq⟩,y.val,y.gone⟩) rfl (by decide) (by decide) rfl
   have es:stG 1 τ0 (fld 1 (atz 8 v i)) (.int .i64 (k+8*(i:Int)+1))=some (.tup [],τ1):=es
   have hl1:=Bq es
   simp +contextual (disch:=omega) only[go_sem,e0,e1,e5,hat,es]
   obtain⟨τ2,es,H⟩:=H.sts hj 1 2 (.int .i64 (k+8*(i:Int)+1+1)) (⟨mtx (k+8*(i:Int)),⟨k+8*(i:Int)+1,k+8*(i:Int)+1+1⟩,y.time,⟨y.ref.rep,y.ref.seq⟩,y.val,y.gone⟩) rfl (by decide) (by decide) rfl
   have es:stG 1 τ1 (fld 2 (atz 8 v i)) (.int .i64 (k+8*(i:Int)+1+1))=some (.tup [],τ2):=es
   have hl2:=Bq es
   simp +contextual (disch:=omega) only[go_sem,e0,e1,e5,hat,es]
   obtain⟨τ3,es,H⟩:=H.sts hj 1 3 (.int .i64 (k+8*(i:Int)+1+1+1)) (⟨mtx (k+8*(i:Int)),⟨k+8*(i:Int)+1,k+8*(i:Int)+1+1⟩,k+8*(i:Int)+1+1+1,⟨y.ref.rep,y.ref.seq⟩,y.val,y.gone⟩) rfl (by decide) (by decide) rfl
   have es:stG 1 τ2 (fld 3 (atz 8 v i)) (.int .i64 (k+8*(i:Int)+1+1+1))=some (.tup [],τ3):=es
   have hl3:=Bq es
   simp +contextual (disch:=omega) only[go_sem,e0,e1,e5,hat,es]
   obtain⟨τ4,es,H⟩:=H.sts hj 1 4 (.int .i64 (k+8*(i:Int)+1+1+1+1)) (⟨mtx (k+8*(i:Int)),⟨k+8*(i:Int)+1,k+8*(i:Int)+1+1⟩,k+8*(i:Int)+1+1+1,⟨k+8*(i:Int)+1+1+1+1,y.ref.seq⟩,y.val,y.gone⟩) rfl (by decide) (by decide) rfl
   have es:stG 1 τ3 (fld 4 (atz 8 v i)) (.int .i64 (k+8*(i:Int)+1+1+1+1))=some (.tup [],τ4):=es
   have hl4:=Bq es
   simp +contextual (disch:=omega) only[go_sem,e0,e1,e5,hat,es]
   obtain⟨τ5,es,H⟩:=H.sts hj 1 5 (.int .i64 (k+8*(i:Int)+1+1+1+1+1)) (⟨mtx (k+8*(i:Int)),⟨k+8*(i:Int)+1,k+8*(i:Int)+1+1⟩,k+8*(i:Int)+1+1+1,⟨k+8*(i:Int)+1+1+1+1,k+8*(i:Int)+1+1+1+1+1⟩,y.val,y.gone⟩) rfl (by decide) (by decide) rfl
   have es:stG 1 τ4 (fld 5 (atz 8 v i)) (.int .i64 (k+8*(i:Int)+1+1+1+1+1))=some (.tup [],τ5):=es
   have hl5:=Bq es
   simp +contextual (disch:=omega) only[go_sem,e0,e1,e5,hat,es]
   obtain⟨τ6,es,H⟩:=H.sts hj 1 6 (.int .i64 (k+8*(i:Int)+1+1+1+1+1+1)) (⟨mtx (k+8*(i:Int)),⟨k+8*(i:Int)+1,k+8*(i:Int)+1+1⟩,k+8*(i:Int)+1+1+1,⟨k+8*(i:Int)+1+1+1+1,k+8*(i:Int)+1+1+1+1+1⟩,k+8*(i:Int)+1+1+1+1+1+1,y.gone⟩) rfl (by decide) (by decide) rfl
   have es:stG 1 τ5 (fld 6 (atz 8 v i)) (.int .i64 (k+8*(i:Int)+1+1+1+1+1+1))=some (.tup [],τ6):=es
   have hl6:=Bq es
   simp +contextual (disch:=omega) only[go_sem,e0,e1,e5,hat,es]
   obtain⟨τ7,es,H⟩:=H.sts hj 1 7 (.bool ((k+8*(i:Int)+1+1+1+1+1+1+1).tmod 3==0)) (⟨mtx (k+8*(i:Int)),⟨k+8*(i:Int)+1,k+8*(i:Int)+1+1⟩,k+8*(i:Int)+1+1+1,⟨k+8*(i:Int)+1+1+1+1,k+8*(i:Int)+1+1+1+1+1⟩,k+8*(i:Int)+1+1+1+1+1+1,((k+8*(i:Int)+1+1+1+1+1+1+1).tmod 3==0)⟩) rfl (by decide) (by decide) rfl
   have es:stG 1 τ6 (fld 7 (atz 8 v i)) (.bool ((k+8*(i:Int)+1+1+1+1+1+1+1).tmod 3==0))=some (.tup [],τ7):=es
   have hl7:=Bq es
   simp +contextual (disch:=omega) only[go_sem,e0,e1,e5,hat,es]
   have H2:Hp σ τ7 (ow Ai.kd v (L.set i (Zp (k+(8:Nat)*(i:Int))))::rs.eraseIdx i0):=H
   rw[hst] at H2
   exact⟨by omega,by omega,H2⟩
  ·rintro env τ' e5 c0 ⟨e0,e1,hle,H⟩
   rw[Mr] at H
   have hln:=(H.sl 0 rfl).len
   rw[Cg] at hln
   simp +contextual (disch:=omega) only[go_sem,c0,e0,e1,e5,hln]
   exact⟨_,rfl,hle,rfl,H⟩)
 exact⟨τ',hR,H'.unpick hlt⟩
end
section
open Go Go.RowKit
abbrev Nw:Nat:=112
def Nx:Fn1:=⟨61,[.t 4],(.seq (.reg [o 4 (.mov (.k (.int .i64 0)))]) (.seq (.seq (.reg [o 5 (.mov (.k (.int .i64 0)))]) (.blk 0 (.lop (.seq (.seq (.reg [o 6 (.mov (.t 5)),o 7 (.mov (.t 0)),o 8 (.len false (.t 7)),o 9 (.bin .lss (.t 6) (.t 8))]) (.cnd (.t 9) .skip (.ext 0))) (.seq (.blk 1 (.seq (.reg [o 12 (.mov (.t 0)),o 13 (.mov (.t 5)),o 14 (.mov (.t 1)),o 15 (.bin .rem (.t 14) (.k (.int .i64 3))),o 16 (.bin .eql (.t 15) (.k (.int .i64 0))),o 17 (.iad 6 (.t 12) (.t 13)),o 18 (.fad 0 (.t 17)),on (.st 1 (.t 18) (.t 16))]) (.seq (.reg [o 19 (.mov (.t 1)),o 20 (.bin .add (.t 19) (.k (.int .i64 1))),o 1 (.mov (.t 20))]) (.seq (.reg [o 21 (.mov (.t 0)),o 22 (.mov (.t 5)),o 23 (.mov (.t 1)),o 24 (.call 110 [(.t 23)]),o 25 (.iad 6 (.t 21) (.t 22)),o 26 (.fad 1 (.t 25)),on (.st 1 (.t 26) (.t 24))]) (.seq (.reg [o 27 (.mov (.t 1)),o 28 (.bin .add (.t 27) (.k (.int .i64 1))),o 1 (.mov (.t 28))]) (.seq (.reg [o 29 (.mov (.t 0)),o 30 (.mov (.t 5)),o 31 (.mov (.t 1)),o 32 (.call 110 [(.t 31)]),o 33 (.iad 6 (.t 29) (.t 30)),o 34 (.fad 2 (.t 33)),on (.st 1 (.t 34) (.t 32))]) (.seq (.reg [o 35 (.mov (.t 1)),o 36 (.bin .add (.t 35) (.k (.int .i64 1))),o 1 (.mov (.t 36))]) (.seq (.reg [o 37 (.mov (.t 0)),o 38 (.mov (.t 5)),o 39 (.mov (.t 1)),o 40 (.iad 6 (.t 37) (.t 38)),o 41 (.fad 3 (.t 40)),on (.st 1 (.t 41) (.t 39))]) (.seq (.reg [o 42 (.mov (.t 1)),o 43 (.bin .add (.t 42) (.k (.int .i64 1))),o 1 (.mov (.t 43))]) (.seq (.reg [o 44 (.mov (.t 0)),o 45 (.mov (.t 5)),o 46 (.mov (.t 1)),o 47 (.iad 6 (.t 44) (.t 45)),o 48 (.fad 4 (.t 47)),o 49 (.fad 0 (.t 48)),on (.st 1 (.t 49) (.t 46))]) (.seq (.reg [o 50 (.mov (.t 1)),o 51 (.bin .add (.t 50) (.k (.int .i64 1))),o 1 (.mov (.t 51))]) (.seq (.reg [o 52 (.mov (.t 0)),o 53 (.mov (.t 5)),o 54 (.mov (.t 1)),o 55 (.iad 6 (.t 52) (.t 53)),o 56 (.fad 4 (.t 55)),o 57 (.fad 1 (.t 56)),on (.st 1 (.t 57) (.t 54))]) (.reg [o 58 (.mov (.t 1)),o 59 (.bin .add (.t 58) (.k (.int .i64 1))),o 1 (.mov (.t 59))]))))))))))))) (.reg [o 10 (.mov (.t 5)),o 11 (.bin .add (.t 10) (.k (.int .i64 1))),o 5 (.mov (.t 11))])))))) (.seq (.reg [o 60 (.mov (.t 1)),o 4 (.mov (.t 60))]) .ret)))⟩
theorem Vo:A5 Tryz.prog Nw=some Nx:=by kernel_rfl
theorem Uf {σ τ:St} {rs:List Thg} (i0:Nat) (v:GV) (l:List Live) (k:Int) (H:Hp σ τ rs) (hi0:rs[i0]? =some (ow Ay.kd v l)) (h0:0≤k) (hk:k+6*l.length≤4611686018427387904):∃ τ',Ret Tryz.prog Nw [v,gi k] τ (gi (k+6*l.length)) τ'∧Hp σ τ' (rs.set i0 (ow Ay.kd v (mkF Zo 6 k l.length))):=by
 have H:=H.pick i0 hi0
 have hlt:=(List.getElem?_eq_some_iff.1 hi0).1
 obtain⟨r,τ',hR,rfl,H'⟩:=Ao (P:=Tryz.prog) (σ:=τ) (args:=[v,gi k]) (Post:=fun r τ'=>r=gi (k+6*l.length)∧Hp σ τ' (ow Ay.kd v (mkF Zo 6 k l.length)::rs.eraseIdx i0)) Vo (Z0z rfl) (by
  simp +contextual (disch:=omega) only[go_sem,Nx]
  refine B8 l.length 5 (fun i env τ'=>env 0=v∧env 1=gi (k+6*(i:Int))∧τ.length≤τ'.length∧Hp σ τ' (ow Ay.kd v ((mkF Zo 6 k l.length).take i++l.drop i)::rs.eraseIdx i0)) rfl ⟨rfl,(by show gi k=gi (k+6*0);simp),Nat.le_refl _,by simpa using H⟩ ?_ ?_
  ·rintro i env τ' hi e5 c0 ⟨e0,e1,hle,H⟩
   have hL:=Mq (l:=l) (e:=Zo) (c:=6) (k:=k) (i:=i)
   have hst:=Kc (e:=Zo) (c:=6) (k:=k) hi
   generalize(mkF Zo 6 k l.length).take i++l.drop i=L at H hL hst
   have hj:i<L.length:=by omega
   have h1:=H.sl 0 rfl
   have hln:=h1.len
   rw[hL] at hln
   have hat:=A3 h1 hj
   rw[Qy hj] at H
   generalize hy:L[i]=y at H hat
   simp +contextual (disch:=omega) only[go_sem,c0,e0,e1,e5,hln,hat]
   obtain⟨τ0,es,H⟩:=H.sts hj 1 0 (.bool ((k+6*(i:Int)).tmod 3==0)) (⟨((k+6*(i:Int)).tmod 3==0),y.obj,y.key,y.val,⟨y.dot.rep,y.dot.seq⟩⟩) rfl (by decide) (by decide) rfl
   have es:stG 1 τ' (fld 0 (atz 6 v i)) (.bool ((k+6*(i:Int)).tmod 3==0))=some (.tup [],τ0):=es
   have hl0:=Bq es
   simp +contextual (disch:=omega) only[go_sem,e0,e1,e5,hat,es]
   refine A7 (C8 _ _ (by omega)) ?_
   simp +contextual (disch:=omega) only[go_sem,e0,e1,hat]
   obtain⟨τ1,es,H⟩:=H.sts hj 1 1 (.str (mtx (k+6*(i:Int)+1))) (⟨((k+6*(i:Int)).tmod 3==0),mtx (k+6*(i:Int)+1),y.key,y.val,⟨y.dot.rep,y.dot.seq⟩⟩) rfl (by decide) (by decide) rfl
   have es:stG 1 τ0 (fld 1 (atz 6 v i)) (.str (mtx (k+6*(i:Int)+1)))=some (.tup [],τ1):=es
   have hl1:=Bq es
   simp +contextual (disch:=omega) only[go_sem,e0,e1,e5,hat,es]
   refine A7 (C8 _ _ (by omega)) ?_
   simp +contextual (disch:=omega) only[go_sem,e0,e1,hat]
   obtain⟨τ2,es,H⟩:=H.sts hj 1 2 (.str (mtx (k+6*(i:Int)+1+1))) (⟨((k+6*(i:Int)).tmod 3==0),mtx (k+6*(i:Int)+1),mtx (k+6*(i:Int)+1+1),y.val,⟨y.dot.rep,y.dot.seq⟩⟩) rfl (by decide) (by decide) rfl
   have es:stG 1 τ1 (fld 2 (atz 6 v i)) (.str (mtx (k+6*(i:Int)+1+1)))=some (.tup [],τ2):=es
   have hl2:=Bq es
   simp +contextual (disch:=omega) only[go_sem,e0,e1,e5,hat,es]
   obtain⟨τ3,es,H⟩:=H.sts hj 1 3 (.int .i64 (k+6*(i:Int)+1+1+1)) (⟨((k+6*(i:Int)).tmod 3==0),mtx (k+6*(i:Int)+1),mtx (k+6*(i:Int)+1+1),k+6*(i:Int)+1+1+1,⟨y.dot.rep,y.dot.seq⟩⟩) rfl (by decide) (by decide) rfl
   have es:stG 1 τ2 (fld 3 (atz 6 v i)) (.int .i64 (k+6*(i:Int)+1+1+1))=some (.tup [],τ3):=es
   have hl3:=Bq es
   simp +contextual (disch:=omega) only[go_sem,e0,e1,e5,hat,es]
   obtain⟨τ4,es,H⟩:=H.sts hj 1 4 (.int .i64 (k+6*(i:Int)+1+1+1+1)) (⟨((k+6*(i:Int)).tmod 3==0),mtx (k+6*(i:Int)+1),mtx (k+6*(i:Int)+1+1),k+6*(i:Int)+1+1+1,⟨k+6*(i:Int)+1+1+1+1,y.dot.seq⟩⟩) rfl (by decide) (by decide) rfl
   have es:stG 1 τ3 (fld 4 (atz 6 v i)) (.int .i64 (k+6*(i:Int)+1+1+1+1))=some (.tup [],τ4):=es
   have hl4:=Bq es
   simp +contextual (disch:=omega) only[go_sem,e0,e1,e5,hat,es]
   obtain⟨τ5,es,H⟩:=H.sts hj 1 5 (.int .i64 (k+6*(i:Int)+1+1+1+1+1)) (⟨((k+6*(i:Int)).tmod 3==0),mtx (k+6*(i:Int)+1),mtx (k+6*(i:Int)+1+1),k+6*(i:Int)+1+1+1,⟨k+6*(i:Int)+1+1+1+1,k+6*(i:Int)+1+1+1+1+1⟩⟩) rfl (by decide) (by decide) rfl
   have es:stG 1 τ4 (fld 5 (atz 6 v i)) (.int .i64 (k+6*(i:Int)+1+1+1+1+1))=some (.tup [],τ5):=es
   have hl5:=Bq es
   simp +contextual (disch:=omega) only[go_sem,e0,e1,e5,hat,es]
   have H2:Hp σ τ5 (ow Ay.kd v (L.set i (Zo (k+(6:Nat)*(i:Int))))::rs.eraseIdx i0):=H
   rw[hst] at H2
   exact⟨by omega,by omega,H2⟩
  ·rintro env τ' e5 c0 ⟨e0,e1,hle,H⟩
   rw[Mr] at H
   have hln:=(H.sl 0 rfl).len
   rw[Cg] at hln
   simp +contextual (disch:=omega) only[go_sem,c0,e0,e1,e5,hln]
   exact⟨_,rfl,hle,rfl,H⟩)
 exact⟨τ',hR,H'.unpick hlt⟩
end
section
open Go Go.RowKit
abbrev Lz:Nat:=111
def M0:Fn1:=⟨35,[.t 4],(.seq (.reg [o 4 (.mov (.k (.int .i64 0)))]) (.seq (.seq (.reg [o 5 (.mov (.k (.int .i64 0)))]) (.blk 0 (.lop (.seq (.seq (.reg [o 6 (.mov (.t 5)),o 7 (.mov (.t 0)),o 8 (.len false (.t 7)),o 9 (.bin .lss (.t 6) (.t 8))]) (.cnd (.t 9) .skip (.ext 0))) (.seq (.blk 1 (.seq (.reg [o 12 (.mov (.t 0)),o 13 (.mov (.t 5)),o 14 (.mov (.t 1)),o 15 (.call 110 [(.t 14)]),o 16 (.iad 3 (.t 12) (.t 13)),o 17 (.fad 0 (.t 16)),on (.st 1 (.t 17) (.t 15))]) (.seq (.reg [o 18 (.mov (.t 1)),o 19 (.bin .add (.t 18) (.k (.int .i64 1))),o 1 (.mov (.t 19))]) (.seq (.reg [o 20 (.mov (.t 0)),o 21 (.mov (.t 5)),o 22 (.mov (.t 1)),o 23 (.iad 3 (.t 20) (.t 21)),o 24 (.fad 1 (.t 23)),on (.st 1 (.t 24) (.t 22))]) (.seq (.reg [o 25 (.mov (.t 1)),o 26 (.bin .add (.t 25) (.k (.int .i64 1))),o 1 (.mov (.t 26))]) (.seq (.reg [o 27 (.mov (.t 0)),o 28 (.mov (.t 5)),o 29 (.mov (.t 1)),o 30 (.iad 3 (.t 27) (.t 28)),o 31 (.fad 2 (.t 30)),on (.st 1 (.t 31) (.t 29))]) (.reg [o 32 (.mov (.t 1)),o 33 (.bin .add (.t 32) (.k (.int .i64 1))),o 1 (.mov (.t 33))]))))))) (.reg [o 10 (.mov (.t 5)),o 11 (.bin .add (.t 10) (.k (.int .i64 1))),o 5 (.mov (.t 11))])))))) (.seq (.reg [o 34 (.mov (.t 1)),o 4 (.mov (.t 34))]) .ret)))⟩
theorem Ug:A5 Tryz.prog Lz=some M0:=by kernel_rfl
theorem Qm {σ τ:St} {rs:List Thg} (i0:Nat) (v:GV) (l:List Tally) (k:Int) (H:Hp σ τ rs) (hi0:rs[i0]? =some (ow Ar.kd v l)) (h0:0≤k) (hk:k+3*l.length≤4611686018427387904):∃ τ',Ret Tryz.prog Lz [v,gi k] τ (gi (k+3*l.length)) τ'∧Hp σ τ' (rs.set i0 (ow Ar.kd v (mkF Np 3 k l.length))):=by
 have H:=H.pick i0 hi0
 have hlt:=(List.getElem?_eq_some_iff.1 hi0).1
 obtain⟨r,τ',hR,rfl,H'⟩:=Ao (P:=Tryz.prog) (σ:=τ) (args:=[v,gi k]) (Post:=fun r τ'=>r=gi (k+3*l.length)∧Hp σ τ' (ow Ar.kd v (mkF Np 3 k l.length)::rs.eraseIdx i0)) Ug (Z0z rfl) (by
  simp +contextual (disch:=omega) only[go_sem,M0]
  refine B8 l.length 5 (fun i env τ'=>env 0=v∧env 1=gi (k+3*(i:Int))∧τ.length≤τ'.length∧Hp σ τ' (ow Ar.kd v ((mkF Np 3 k l.length).take i++l.drop i)::rs.eraseIdx i0)) rfl ⟨rfl,(by show gi k=gi (k+3*0);simp),Nat.le_refl _,by simpa using H⟩ ?_ ?_
  ·rintro i env τ' hi e5 c0 ⟨e0,e1,hle,H⟩
   have hL:=Mq (l:=l) (e:=Np) (c:=3) (k:=k) (i:=i)
   have hst:=Kc (e:=Np) (c:=3) (k:=k) hi
   generalize(mkF Np 3 k l.length).take i++l.drop i=L at H hL hst
   have hj:i<L.length:=by omega
   have h1:=H.sl 0 rfl
   have hln:=h1.len
   rw[hL] at hln
   have hat:=Aa h1 hj
   rw[Qy hj] at H
   generalize hy:L[i]=y at H hat
   simp +contextual (disch:=omega) only[go_sem,c0,e0,e1,e5,hln,hat]
   refine A7 (C8 _ _ (by omega)) ?_
   simp +contextual (disch:=omega) only[go_sem,e0,e1,hat]
   obtain⟨τ0,es,H⟩:=H.sts hj 1 0 (.str (mtx (k+3*(i:Int)))) (⟨mtx (k+3*(i:Int)),y.rep,y.sum⟩) rfl (by decide) (by decide) rfl
   have es:stG 1 τ' (fld 0 (atz 3 v i)) (.str (mtx (k+3*(i:Int))))=some (.tup [],τ0):=es
   have hl0:=Bq es
   simp +contextual (disch:=omega) only[go_sem,e0,e1,e5,hat,es]
   obtain⟨τ1,es,H⟩:=H.sts hj 1 1 (.int .i64 (k+3*(i:Int)+1)) (⟨mtx (k+3*(i:Int)),k+3*(i:Int)+1,y.sum⟩) rfl (by decide) (by decide) rfl
   have es:stG 1 τ0 (fld 1 (atz 3 v i)) (.int .i64 (k+3*(i:Int)+1))=some (.tup [],τ1):=es
   have hl1:=Bq es
   simp +contextual (disch:=omega) only[go_sem,e0,e1,e5,hat,es]
   obtain⟨τ2,es,H⟩:=H.sts hj 1 2 (.int .i64 (k+3*(i:Int)+1+1)) (⟨mtx (k+3*(i:Int)),k+3*(i:Int)+1,k+3*(i:Int)+1+1⟩) rfl (by decide) (by decide) rfl
   have es:stG 1 τ1 (fld 2 (atz 3 v i)) (.int .i64 (k+3*(i:Int)+1+1))=some (.tup [],τ2):=es
   have hl2:=Bq es
   simp +contextual (disch:=omega) only[go_sem,e0,e1,e5,hat,es]
   have H2:Hp σ τ2 (ow Ar.kd v (L.set i (Np (k+(3:Nat)*(i:Int))))::rs.eraseIdx i0):=H
   rw[hst] at H2
   exact⟨by omega,by omega,H2⟩
  ·rintro env τ' e5 c0 ⟨e0,e1,hle,H⟩
   rw[Mr] at H
   have hln:=(H.sl 0 rfl).len
   rw[Cg] at hln
   simp +contextual (disch:=omega) only[go_sem,c0,e0,e1,e5,hln]
   exact⟨_,rfl,hle,rfl,H⟩)
 exact⟨τ',hR,H'.unpick hlt⟩
end
section
open Go Go.RowKit
abbrev Ny:Nat:=36
def Nz:Fn1:=⟨22,[.t 4],(.seq (.reg [o 2 (.box (.t 0)),o 4 (.mov (.k (.int .i64 0)))]) (.seq (.reg [o 5 (.fad 0 (.t 2)),o 6 (.ld false 1 (.t 5)),o 7 (.mov (.t 1)),o 8 (.call 109 [(.t 6),(.t 7)]),o 1 (.mov (.t 8))]) (.seq (.reg [o 9 (.fad 1 (.t 2)),o 10 (.ld false 1 (.t 9)),o 11 (.mov (.t 1)),o 12 (.call 111 [(.t 10),(.t 11)]),o 1 (.mov (.t 12))]) (.seq (.reg [o 13 (.fad 2 (.t 2)),o 14 (.ld false 1 (.t 13)),o 15 (.mov (.t 1)),o 16 (.call 112 [(.t 14),(.t 15)]),o 1 (.mov (.t 16))]) (.seq (.reg [o 17 (.fad 3 (.t 2)),o 18 (.ld false 1 (.t 17)),o 19 (.mov (.t 1)),o 20 (.call 114 [(.t 18),(.t 19)]),o 1 (.mov (.t 20))]) (.seq (.reg [o 21 (.mov (.t 1)),o 4 (.mov (.t 21))]) .ret))))))⟩
theorem Vp:A5 Tryz.prog Ny=some Nz:=by kernel_rfl
theorem Uh {σ τ:St} {rs:List Thg} (i0:Nat) (cs:List GV) (x:State) (k:Int) (H:Hp σ τ rs) (hi0:rs[i0]? =some (own A8 cs x)) (h0:0≤k) (hk:k+Jh x≤4611686018427387904):∃ τ',Ret Tryz.prog Ny [.agg cs,gi k] τ (gi (k+Jh x)) τ'∧Hp σ τ' (rs.set i0 (own A8 cs (A58 k x))):=by
 have hlt:=(List.getElem?_eq_some_iff.1 hi0).1
 have hlen:=A8.len (H.rd i0 hi0)
 have hlen:cs.length=4:=hlen
 obtain⟨v0,v1,v2,v3,rfl,H⟩:=(H.pick i0 hi0).splitState
 unfold Jh at hk
 obtain⟨r,τ',hR,rfl,H'⟩:=Ao (P:=Tryz.prog) (σ:=τ) (args:=[.agg (v0::v1::v2::v3::[]),gi k]) (Post:=fun r τ'=>r=gi (k+Jh x)∧Hp σ τ' (own A8 (v0::v1::v2::v3::[]) (A58 k x)::rs.eraseIdx i0)) Vp (Z0z rfl) (by
  have H:=H.new 1 (v0::v1::v2::v3::[])
  simp +contextual (disch:=omega) only[go_sem,Nz,List.append_nil]
  obtain⟨τ0,R0,H⟩:=Ly 1 v0 x.know (k) H rfl (by omega) (by omega)
  refine Aj R0 ?_
  try simp only[List.set_cons_succ,List.set_cons_zero] at H
  have hl0:=R0.2.1
  try simp +contextual (disch:=omega) only[go_sem,List.append_nil,A0 (H.pt 0 rfl)]
  obtain⟨τ1,R1,H⟩:=Qm 2 v1 x.tallies (k+1*(x.know.length:Int)) H rfl (by omega) (by omega)
  refine Aj R1 ?_
  try simp only[List.set_cons_succ,List.set_cons_zero] at H
  have hl1:=R1.2.1
  try simp +contextual (disch:=omega) only[go_sem,List.append_nil,A0 (H.pt 0 rfl)]
  obtain⟨τ2,R2,H⟩:=Uf 3 v2 x.lives (k+1*(x.know.length:Int)+3*(x.tallies.length:Int)) H rfl (by omega) (by omega)
  refine Aj R2 ?_
  try simp only[List.set_cons_succ,List.set_cons_zero] at H
  have hl2:=R2.2.1
  try simp +contextual (disch:=omega) only[go_sem,List.append_nil,A0 (H.pt 0 rfl)]
  obtain⟨τ3,R3,H⟩:=Ue 4 v3 x.cells (k+1*(x.know.length:Int)+3*(x.tallies.length:Int)+6*(x.lives.length:Int)) H rfl (by omega) (by omega)
  refine Aj R3 ?_
  try simp only[List.set_cons_succ,List.set_cons_zero] at H
  have hl3:=R3.2.1
  try simp +contextual (disch:=omega) only[go_sem,List.append_nil,A0 (H.pt 0 rfl)]
  try simp only[List.length_append,List.length_cons,List.length_nil] at hl0
  refine⟨_,rfl,by omega,by unfold Jh;congr 1;omega,H.drop1.ownState (x:=A58 k x)⟩)
 exact⟨τ',hR,H'.unpick hlt⟩
end
section
open Go Go.RowKit
abbrev Xl:Nat:=136
def Xm:Fn1:=⟨12,[.t 4],(.seq (.reg [o 4 (.mov (.k (.int .i64 0)))]) (.seq (.reg [o 5 (.mov (.t 1)),o 6 (.mov (.t 0)),o 7 (.len false (.t 6)),o 8 (.bin .sub (.t 5) (.t 7)),o 1 (.mov (.t 8))]) (.seq (.seq (.reg [o 9 (.mov (.t 1)),o 10 (.bin .lss (.t 9) (.k (.int .i64 0)))]) (.cnd (.t 10) (.seq (.reg [o 4 (.mov (.k (.int .i64 (-1))))]) .ret) .skip)) (.seq (.reg [o 11 (.mov (.t 1)),o 4 (.mov (.t 11))]) .ret))))⟩
theorem A59:A5 Tryz.prog Xl=some Xm:=by kernel_rfl
theorem Q9 (σ:St) (v:GV) (l:List Int) (hR:RS pI.kd σ v l) (n:Int) (hw:l.length≤9223372036854775807) (h0:0≤n) (h1:n≤1099511627776):Ret Tryz.prog Xl [v,gi n] σ (gi (lf n l.length)) σ:=by
 refine Af A59 (Z0z rfl) trivial ?_
 simp +contextual (disch:=omega) only[go_sem,Xm,hR.len]
 refine⟨fun h=> ?_,fun h=> ?_⟩
 ·rw[lf,if_pos (of_decide_eq_true h)]
 ·rw[lf,if_neg (of_decide_eq_false h)]
end
section
open Go Go.RowKit
abbrev A2r:Nat:=28
def A2s:Fn1:=⟨26,[.t 4],(.seq (.reg [o 2 (.box (.t 0)),o 4 (.mov (.k (.int .i64 0)))]) (.seq (.reg [o 5 (.fad 3 (.t 2)),o 6 (.ld false 1 (.t 5)),o 7 (.mov (.t 1)),o 8 (.call 136 [(.t 6),(.t 7)]),o 1 (.mov (.t 8))]) (.seq (.seq (.reg [o 9 (.mov (.t 1)),o 10 (.bin .lss (.t 9) (.k (.int .i64 0)))]) (.cnd (.t 10) (.seq (.reg [o 4 (.mov (.k (.int .i64 (-1))))]) .ret) .skip)) (.seq (.reg [o 11 (.mov (.t 1)),o 12 (.fad 5 (.t 2)),o 13 (.ld false 1 (.t 12)),o 14 (.len true (.t 13)),o 15 (.bin .sub (.t 11) (.t 14)),o 1 (.mov (.t 15))]) (.seq (.seq (.reg [o 16 (.mov (.t 1)),o 17 (.bin .lss (.t 16) (.k (.int .i64 0)))]) (.cnd (.t 17) (.seq (.reg [o 4 (.mov (.k (.int .i64 (-1))))]) .ret) .skip)) (.seq (.reg [o 18 (.mov (.t 1)),o 19 (.fad 6 (.t 2)),o 20 (.ld false 1 (.t 19)),o 21 (.len true (.t 20)),o 22 (.bin .sub (.t 18) (.t 21)),o 1 (.mov (.t 22))]) (.seq (.seq (.reg [o 23 (.mov (.t 1)),o 24 (.bin .lss (.t 23) (.k (.int .i64 0)))]) (.cnd (.t 24) (.seq (.reg [o 4 (.mov (.k (.int .i64 (-1))))]) .ret) .skip)) (.seq (.reg [o 25 (.mov (.t 1)),o 4 (.mov (.t 25))]) .ret))))))))⟩
theorem A7v:A5 Tryz.prog A2r=some A2s:=by kernel_rfl
theorem A5a (σ:St) (cs:List GV) (x:Act) (hR:kAct.R σ x cs) (n:Int) (hw:wAct x) (h0:0≤n) (h1:n≤1099511627776):Ret Tryz.prog A2r [.agg cs,gi n] σ (gi (lf n (E9 x))) σ:=by
 obtain⟨v2,rfl,q2⟩:=hR
 obtain⟨w0,w1,w2⟩:=hw
 refine Af A7v (Z0z rfl) trivial ?_
 simp +contextual (disch:=omega) only[go_sem,A2s,List.append_nil]
 refine A7 (Q9 _ v2 x.knew (q2.pre (pre1 _ _)) (n) w0 (by omega) (by omega)) ?_
 simp +contextual (disch:=omega) only[go_sem,List.append_nil]
 have g0:= @V2 (n) (x.knew.length) (by omega)
 refine⟨fun hn=> ?_,fun hn=> ?_⟩
 ·have hn:=of_decide_eq_true hn
  have hn:=P1.1 hn
  unfold E9 lf;rw[if_pos (by omega)]
 have hn:=of_decide_eq_false hn
 have f0:=I1 hn
 try simp(disch:=omega) only[Bl]
 refine⟨fun hn=> ?_,fun hn=> ?_⟩
 ·have hn:=of_decide_eq_true hn
  unfold E9 lf;rw[if_pos (by omega)]
 have hn:=of_decide_eq_false hn
 try simp(disch:=omega) only[Bl]
 refine⟨fun hn=> ?_,fun hn=> ?_⟩
 ·have hn:=of_decide_eq_true hn
  unfold E9 lf;rw[if_pos (by omega)]
 have hn:=of_decide_eq_false hn
 try simp(disch:=omega) only[Bl]
 unfold E9;rw[show lf n (x.knew.length+x.obj.size+x.key.size)=n - ((x.knew.length+x.obj.size+x.key.size:Nat):Int) by unfold lf;rw[if_neg (by omega)]];try omega
end
section
open Go Go.RowKit
abbrev Xn:Nat:=246
def Xo:Fn1:=⟨13,[.t 4],(.seq (.reg [o 2 (.box (.t 0)),o 4 (.mov (.k (.int .i64 0)))]) (.seq (.reg [o 5 (.mov (.t 1)),o 6 (.fad 0 (.t 2)),o 7 (.ld false 1 (.t 6)),o 8 (.len true (.t 7)),o 9 (.bin .sub (.t 5) (.t 8)),o 1 (.mov (.t 9))]) (.seq (.seq (.reg [o 10 (.mov (.t 1)),o 11 (.bin .lss (.t 10) (.k (.int .i64 0)))]) (.cnd (.t 11) (.seq (.reg [o 4 (.mov (.k (.int .i64 (-1))))]) .ret) .skip)) (.seq (.reg [o 12 (.mov (.t 1)),o 4 (.mov (.t 12))]) .ret))))⟩
theorem A5b:A5 Tryz.prog Xn=some Xo:=by kernel_rfl
theorem A2t (σ:St) (x:Cell) (n:Int) (hw:A3n x) (h0:0≤n) (h1:n≤1099511627776):Ret Tryz.prog Xn [.agg [.str x.obj,.int .i64 x.dot.rep,.int .i64 x.dot.seq,.int .i64 x.time,.int .i64 x.ref.rep,.int .i64 x.ref.seq,.int .i64 x.val,.bool x.gone],gi n] σ (gi (lf n (E2 x))) σ:=by
 have w0:=hw;unfold A3n at w0
 refine Af A5b (Z0z rfl) trivial ?_
 simp +contextual (disch:=omega) only[go_sem,Xo,List.append_nil]
 refine⟨fun hn=> ?_,fun hn=> ?_⟩
 ·have hn:=of_decide_eq_true hn
  unfold E2 lf;rw[if_pos (by omega)]
 have hn:=of_decide_eq_false hn
 try simp(disch:=omega) only[Bl]
 unfold E2;rw[show lf n (x.obj.size)=n - ((x.obj.size:Nat):Int) by unfold lf;rw[if_neg (by omega)]];try omega
end
section
open Go Go.RowKit
abbrev Ui:Nat:=139
def Uj:Fn1:=⟨27,[.t 4],(.seq (.reg [o 4 (.mov (.k (.int .i64 0)))]) (.seq (.reg [o 6 (.mov (.t 1)),o 7 (.mov (.t 0)),o 8 (.len false (.t 7)),o 9 (.bin .sub (.t 6) (.t 8)),o 1 (.mov (.t 9))]) (.seq (.seq (.reg [o 10 (.mov (.t 1)),o 11 (.bin .lss (.t 10) (.k (.int .i64 0)))]) (.cnd (.t 11) (.seq (.reg [o 4 (.mov (.k (.int .i64 (-1))))]) .ret) .skip)) (.seq (.seq (.reg [o 5 (.mov (.k (.int .i64 0)))]) (.blk 0 (.lop (.seq (.seq (.reg [o 12 (.mov (.t 5)),o 13 (.mov (.t 0)),o 14 (.len false (.t 13)),o 15 (.bin .lss (.t 12) (.t 14))]) (.cnd (.t 15) .skip (.ext 0))) (.seq (.blk 1 (.seq (.reg [o 18 (.mov (.t 0)),o 19 (.mov (.t 5)),o 20 (.iad 8 (.t 18) (.t 19)),o 21 (.ld true 8 (.t 20)),o 22 (.mov (.t 1)),o 23 (.call 246 [(.t 21),(.t 22)]),o 1 (.mov (.t 23))]) (.seq (.reg [o 24 (.mov (.t 1)),o 25 (.bin .lss (.t 24) (.k (.int .i64 0)))]) (.cnd (.t 25) (.seq (.reg [o 4 (.mov (.k (.int .i64 (-1))))]) .ret) .skip)))) (.reg [o 16 (.mov (.t 5)),o 17 (.bin .add (.t 16) (.k (.int .i64 1))),o 5 (.mov (.t 17))])))))) (.seq (.reg [o 26 (.mov (.t 1)),o 4 (.mov (.t 26))]) .ret)))))⟩
theorem A2u:A5 Tryz.prog Ui=some Uj:=by kernel_rfl
theorem Zs (σ:St) (v:GV) (l:List Cell) (hR:RS Ai.kd σ v l) (n:Int) (hw:l.length≤9223372036854775807∧∀ y∈l,A3n y) (h0:0≤n) (h1:n≤1099511627776):Ret Tryz.prog Ui [v,gi n] σ (gi (lf n (l.length+sumL E2 l))) σ:=by
 obtain⟨wl,we⟩:=hw
 refine Af A2u (Z0z rfl) trivial ?_
 simp +contextual (disch:=omega) only[go_sem,Uj,hR.len]
 refine⟨fun hn=> ?_,fun hn=> ?_⟩
 ·have hn:=of_decide_eq_true hn
  unfold lf;rw[if_pos (by omega)]
 have hn:=of_decide_eq_false hn
 refine B8 l.length 5 (fun i env τ=>∃ m:Int,env 0=v∧env 1=gi m∧m=n - l.length - sumL E2 (l.take i)∧0≤m∧σ <+: τ) rfl ⟨n - l.length,rfl,rfl,by simp[sumL],by omega,List.prefix_refl _⟩ ?_ ?_
 ·rintro i env τ hi e5 c0 ⟨m,e0,e1,em,hm,hp⟩
  have h1:=hR.pre hp
  have hs:=Ru (f:=E2) hi
  have hst:=Kb E2 l (i+1)
  simp +contextual (disch:=omega) only[go_sem,c0,e0,e1,e5,hR.len,A4 h1 hi]
  refine A7 (A2t τ l[i] m (we _ (List.getElem_mem hi)) hm (by omega)) ?_
  simp +contextual (disch:=omega) only[go_sem,c0,e0,e1,e5,hp]
  have g0:= @V2 m (E2 l[i]) hm
  have g1:= @A8w m (E2 l[i])
  refine⟨fun hn=> ?_,fun hn=> ?_⟩
  ·have hn:=P1.1 (of_decide_eq_true hn)
   unfold lf;rw[if_pos (by omega)]
  ·have hn:=of_decide_eq_false hn
   have f:=I1 hn
   exact⟨_,rfl,by omega,by omega⟩
 ·rintro env τ e5 c0 ⟨m,e0,e1,em,hm,hp⟩
  rw[List.take_length] at em
  simp +contextual (disch:=omega) only[go_sem,c0,e0,e1,e5,hR.len,hp]
  unfold lf;rw[if_neg (by omega)];omega
end
section
open Go Go.RowKit
abbrev Xp:Nat:=245
def Xq:Fn1:=⟨20,[.t 4],(.seq (.reg [o 2 (.box (.t 0)),o 4 (.mov (.k (.int .i64 0)))]) (.seq (.reg [o 5 (.mov (.t 1)),o 6 (.fad 1 (.t 2)),o 7 (.ld false 1 (.t 6)),o 8 (.len true (.t 7)),o 9 (.bin .sub (.t 5) (.t 8)),o 1 (.mov (.t 9))]) (.seq (.seq (.reg [o 10 (.mov (.t 1)),o 11 (.bin .lss (.t 10) (.k (.int .i64 0)))]) (.cnd (.t 11) (.seq (.reg [o 4 (.mov (.k (.int .i64 (-1))))]) .ret) .skip)) (.seq (.reg [o 12 (.mov (.t 1)),o 13 (.fad 2 (.t 2)),o 14 (.ld false 1 (.t 13)),o 15 (.len true (.t 14)),o 16 (.bin .sub (.t 12) (.t 15)),o 1 (.mov (.t 16))]) (.seq (.seq (.reg [o 17 (.mov (.t 1)),o 18 (.bin .lss (.t 17) (.k (.int .i64 0)))]) (.cnd (.t 18) (.seq (.reg [o 4 (.mov (.k (.int .i64 (-1))))]) .ret) .skip)) (.seq (.reg [o 19 (.mov (.t 1)),o 4 (.mov (.t 19))]) .ret))))))⟩
theorem A5c:A5 Tryz.prog Xp=some Xq:=by kernel_rfl
theorem A2v (σ:St) (x:Live) (n:Int) (hw:A6u x) (h0:0≤n) (h1:n≤1099511627776):Ret Tryz.prog Xp [.agg [.bool x.map,.str x.obj,.str x.key,.int .i64 x.val,.int .i64 x.dot.rep,.int .i64 x.dot.seq],gi n] σ (gi (lf n (D7 x))) σ:=by
 obtain⟨w0,w1⟩:=hw
 refine Af A5c (Z0z rfl) trivial ?_
 simp +contextual (disch:=omega) only[go_sem,Xq,List.append_nil]
 refine⟨fun hn=> ?_,fun hn=> ?_⟩
 ·have hn:=of_decide_eq_true hn
  unfold D7 lf;rw[if_pos (by omega)]
 have hn:=of_decide_eq_false hn
 try simp(disch:=omega) only[Bl]
 refine⟨fun hn=> ?_,fun hn=> ?_⟩
 ·have hn:=of_decide_eq_true hn
  unfold D7 lf;rw[if_pos (by omega)]
 have hn:=of_decide_eq_false hn
 try simp(disch:=omega) only[Bl]
 unfold D7;rw[show lf n (x.obj.size+x.key.size)=n - ((x.obj.size+x.key.size:Nat):Int) by unfold lf;rw[if_neg (by omega)]];try omega
end
section
open Go Go.RowKit
abbrev Uk:Nat:=138
def Ul:Fn1:=⟨27,[.t 4],(.seq (.reg [o 4 (.mov (.k (.int .i64 0)))]) (.seq (.reg [o 6 (.mov (.t 1)),o 7 (.mov (.t 0)),o 8 (.len false (.t 7)),o 9 (.bin .sub (.t 6) (.t 8)),o 1 (.mov (.t 9))]) (.seq (.seq (.reg [o 10 (.mov (.t 1)),o 11 (.bin .lss (.t 10) (.k (.int .i64 0)))]) (.cnd (.t 11) (.seq (.reg [o 4 (.mov (.k (.int .i64 (-1))))]) .ret) .skip)) (.seq (.seq (.reg [o 5 (.mov (.k (.int .i64 0)))]) (.blk 0 (.lop (.seq (.seq (.reg [o 12 (.mov (.t 5)),o 13 (.mov (.t 0)),o 14 (.len false (.t 13)),o 15 (.bin .lss (.t 12) (.t 14))]) (.cnd (.t 15) .skip (.ext 0))) (.seq (.blk 1 (.seq (.reg [o 18 (.mov (.t 0)),o 19 (.mov (.t 5)),o 20 (.iad 6 (.t 18) (.t 19)),o 21 (.ld true 6 (.t 20)),o 22 (.mov (.t 1)),o 23 (.call 245 [(.t 21),(.t 22)]),o 1 (.mov (.t 23))]) (.seq (.reg [o 24 (.mov (.t 1)),o 25 (.bin .lss (.t 24) (.k (.int .i64 0)))]) (.cnd (.t 25) (.seq (.reg [o 4 (.mov (.k (.int .i64 (-1))))]) .ret) .skip)))) (.reg [o 16 (.mov (.t 5)),o 17 (.bin .add (.t 16) (.k (.int .i64 1))),o 5 (.mov (.t 17))])))))) (.seq (.reg [o 26 (.mov (.t 1)),o 4 (.mov (.t 26))]) .ret)))))⟩
theorem A2w:A5 Tryz.prog Uk=some Ul:=by kernel_rfl
theorem Zt (σ:St) (v:GV) (l:List Live) (hR:RS Ay.kd σ v l) (n:Int) (hw:l.length≤9223372036854775807∧∀ y∈l,A6u y) (h0:0≤n) (h1:n≤1099511627776):Ret Tryz.prog Uk [v,gi n] σ (gi (lf n (l.length+sumL D7 l))) σ:=by
 obtain⟨wl,we⟩:=hw
 refine Af A2w (Z0z rfl) trivial ?_
 simp +contextual (disch:=omega) only[go_sem,Ul,hR.len]
 refine⟨fun hn=> ?_,fun hn=> ?_⟩
 ·have hn:=of_decide_eq_true hn
  unfold lf;rw[if_pos (by omega)]
 have hn:=of_decide_eq_false hn
 refine B8 l.length 5 (fun i env τ=>∃ m:Int,env 0=v∧env 1=gi m∧m=n - l.length - sumL D7 (l.take i)∧0≤m∧σ <+: τ) rfl ⟨n - l.length,rfl,rfl,by simp[sumL],by omega,List.prefix_refl _⟩ ?_ ?_
 ·rintro i env τ hi e5 c0 ⟨m,e0,e1,em,hm,hp⟩
  have h1:=hR.pre hp
  have hs:=Ru (f:=D7) hi
  have hst:=Kb D7 l (i+1)
  simp +contextual (disch:=omega) only[go_sem,c0,e0,e1,e5,hR.len,A3 h1 hi]
  refine A7 (A2v τ l[i] m (we _ (List.getElem_mem hi)) hm (by omega)) ?_
  simp +contextual (disch:=omega) only[go_sem,c0,e0,e1,e5,hp]
  have g0:= @V2 m (D7 l[i]) hm
  have g1:= @A8w m (D7 l[i])
  refine⟨fun hn=> ?_,fun hn=> ?_⟩
  ·have hn:=P1.1 (of_decide_eq_true hn)
   unfold lf;rw[if_pos (by omega)]
  ·have hn:=of_decide_eq_false hn
   have f:=I1 hn
   exact⟨_,rfl,by omega,by omega⟩
 ·rintro env τ e5 c0 ⟨m,e0,e1,em,hm,hp⟩
  rw[List.take_length] at em
  simp +contextual (disch:=omega) only[go_sem,c0,e0,e1,e5,hR.len,hp]
  unfold lf;rw[if_neg (by omega)];omega
end
section
open Go Go.RowKit
abbrev Um:Nat:=244
def Un:Fn1:=⟨13,[.t 4],(.seq (.reg [o 2 (.box (.t 0)),o 4 (.mov (.k (.int .i64 0)))]) (.seq (.reg [o 5 (.mov (.t 1)),o 6 (.fad 0 (.t 2)),o 7 (.ld false 1 (.t 6)),o 8 (.len true (.t 7)),o 9 (.bin .sub (.t 5) (.t 8)),o 1 (.mov (.t 9))]) (.seq (.seq (.reg [o 10 (.mov (.t 1)),o 11 (.bin .lss (.t 10) (.k (.int .i64 0)))]) (.cnd (.t 11) (.seq (.reg [o 4 (.mov (.k (.int .i64 (-1))))]) .ret) .skip)) (.seq (.reg [o 12 (.mov (.t 1)),o 4 (.mov (.t 12))]) .ret))))⟩
theorem A2x:A5 Tryz.prog Um=some Un:=by kernel_rfl
theorem Zu (σ:St) (x:Tally) (n:Int) (hw:Rv x) (h0:0≤n) (h1:n≤1099511627776):Ret Tryz.prog Um [.agg [.str x.obj,.int .i64 x.rep,.int .i64 x.sum],gi n] σ (gi (lf n (By x))) σ:=by
 have w0:=hw;unfold Rv at w0
 refine Af A2x (Z0z rfl) trivial ?_
 simp +contextual (disch:=omega) only[go_sem,Un,List.append_nil]
 refine⟨fun hn=> ?_,fun hn=> ?_⟩
 ·have hn:=of_decide_eq_true hn
  unfold By lf;rw[if_pos (by omega)]
 have hn:=of_decide_eq_false hn
 try simp(disch:=omega) only[Bl]
 unfold By;rw[show lf n (x.obj.size)=n - ((x.obj.size:Nat):Int) by unfold lf;rw[if_neg (by omega)]];try omega
end
section
open Go Go.RowKit
abbrev Qa:Nat:=137
def Qb:Fn1:=⟨27,[.t 4],(.seq (.reg [o 4 (.mov (.k (.int .i64 0)))]) (.seq (.reg [o 6 (.mov (.t 1)),o 7 (.mov (.t 0)),o 8 (.len false (.t 7)),o 9 (.bin .sub (.t 6) (.t 8)),o 1 (.mov (.t 9))]) (.seq (.seq (.reg [o 10 (.mov (.t 1)),o 11 (.bin .lss (.t 10) (.k (.int .i64 0)))]) (.cnd (.t 11) (.seq (.reg [o 4 (.mov (.k (.int .i64 (-1))))]) .ret) .skip)) (.seq (.seq (.reg [o 5 (.mov (.k (.int .i64 0)))]) (.blk 0 (.lop (.seq (.seq (.reg [o 12 (.mov (.t 5)),o 13 (.mov (.t 0)),o 14 (.len false (.t 13)),o 15 (.bin .lss (.t 12) (.t 14))]) (.cnd (.t 15) .skip (.ext 0))) (.seq (.blk 1 (.seq (.reg [o 18 (.mov (.t 0)),o 19 (.mov (.t 5)),o 20 (.iad 3 (.t 18) (.t 19)),o 21 (.ld true 3 (.t 20)),o 22 (.mov (.t 1)),o 23 (.call 244 [(.t 21),(.t 22)]),o 1 (.mov (.t 23))]) (.seq (.reg [o 24 (.mov (.t 1)),o 25 (.bin .lss (.t 24) (.k (.int .i64 0)))]) (.cnd (.t 25) (.seq (.reg [o 4 (.mov (.k (.int .i64 (-1))))]) .ret) .skip)))) (.reg [o 16 (.mov (.t 5)),o 17 (.bin .add (.t 16) (.k (.int .i64 1))),o 5 (.mov (.t 17))])))))) (.seq (.reg [o 26 (.mov (.t 1)),o 4 (.mov (.t 26))]) .ret)))))⟩
theorem Zv:A5 Tryz.prog Qa=some Qb:=by kernel_rfl
theorem Vq (σ:St) (v:GV) (l:List Tally) (hR:RS Ar.kd σ v l) (n:Int) (hw:l.length≤9223372036854775807∧∀ y∈l,Rv y) (h0:0≤n) (h1:n≤1099511627776):Ret Tryz.prog Qa [v,gi n] σ (gi (lf n (l.length+sumL By l))) σ:=by
 obtain⟨wl,we⟩:=hw
 refine Af Zv (Z0z rfl) trivial ?_
 simp +contextual (disch:=omega) only[go_sem,Qb,hR.len]
 refine⟨fun hn=> ?_,fun hn=> ?_⟩
 ·have hn:=of_decide_eq_true hn
  unfold lf;rw[if_pos (by omega)]
 have hn:=of_decide_eq_false hn
 refine B8 l.length 5 (fun i env τ=>∃ m:Int,env 0=v∧env 1=gi m∧m=n - l.length - sumL By (l.take i)∧0≤m∧σ <+: τ) rfl ⟨n - l.length,rfl,rfl,by simp[sumL],by omega,List.prefix_refl _⟩ ?_ ?_
 ·rintro i env τ hi e5 c0 ⟨m,e0,e1,em,hm,hp⟩
  have h1:=hR.pre hp
  have hs:=Ru (f:=By) hi
  have hst:=Kb By l (i+1)
  simp +contextual (disch:=omega) only[go_sem,c0,e0,e1,e5,hR.len,Aa h1 hi]
  refine A7 (Zu τ l[i] m (we _ (List.getElem_mem hi)) hm (by omega)) ?_
  simp +contextual (disch:=omega) only[go_sem,c0,e0,e1,e5,hp]
  have g0:= @V2 m (By l[i]) hm
  have g1:= @A8w m (By l[i])
  refine⟨fun hn=> ?_,fun hn=> ?_⟩
  ·have hn:=P1.1 (of_decide_eq_true hn)
   unfold lf;rw[if_pos (by omega)]
  ·have hn:=of_decide_eq_false hn
   have f:=I1 hn
   exact⟨_,rfl,by omega,by omega⟩
 ·rintro env τ e5 c0 ⟨m,e0,e1,em,hm,hp⟩
  rw[List.take_length] at em
  simp +contextual (disch:=omega) only[go_sem,c0,e0,e1,e5,hR.len,hp]
  unfold lf;rw[if_neg (by omega)];omega
end
section
open Go Go.RowKit
abbrev Uo:Nat:=27
def Uq:Fn1:=⟨30,[.t 4],(.seq (.reg [o 2 (.box (.t 0)),o 4 (.mov (.k (.int .i64 0)))]) (.seq (.reg [o 5 (.fad 0 (.t 2)),o 6 (.ld false 1 (.t 5)),o 7 (.mov (.t 1)),o 8 (.call 136 [(.t 6),(.t 7)]),o 1 (.mov (.t 8))]) (.seq (.seq (.reg [o 9 (.mov (.t 1)),o 10 (.bin .lss (.t 9) (.k (.int .i64 0)))]) (.cnd (.t 10) (.seq (.reg [o 4 (.mov (.k (.int .i64 (-1))))]) .ret) .skip)) (.seq (.reg [o 11 (.fad 1 (.t 2)),o 12 (.ld false 1 (.t 11)),o 13 (.mov (.t 1)),o 14 (.call 137 [(.t 12),(.t 13)]),o 1 (.mov (.t 14))]) (.seq (.seq (.reg [o 15 (.mov (.t 1)),o 16 (.bin .lss (.t 15) (.k (.int .i64 0)))]) (.cnd (.t 16) (.seq (.reg [o 4 (.mov (.k (.int .i64 (-1))))]) .ret) .skip)) (.seq (.reg [o 17 (.fad 2 (.t 2)),o 18 (.ld false 1 (.t 17)),o 19 (.mov (.t 1)),o 20 (.call 138 [(.t 18),(.t 19)]),o 1 (.mov (.t 20))]) (.seq (.seq (.reg [o 21 (.mov (.t 1)),o 22 (.bin .lss (.t 21) (.k (.int .i64 0)))]) (.cnd (.t 22) (.seq (.reg [o 4 (.mov (.k (.int .i64 (-1))))]) .ret) .skip)) (.seq (.reg [o 23 (.fad 3 (.t 2)),o 24 (.ld false 1 (.t 23)),o 25 (.mov (.t 1)),o 26 (.call 139 [(.t 24),(.t 25)]),o 1 (.mov (.t 26))]) (.seq (.seq (.reg [o 27 (.mov (.t 1)),o 28 (.bin .lss (.t 27) (.k (.int .i64 0)))]) (.cnd (.t 28) (.seq (.reg [o 4 (.mov (.k (.int .i64 (-1))))]) .ret) .skip)) (.seq (.reg [o 29 (.mov (.t 1)),o 4 (.mov (.t 29))]) .ret))))))))))⟩
theorem A2y:A5 Tryz.prog Uo=some Uq:=by kernel_rfl
theorem Zw (σ:St) (cs:List GV) (x:State) (hR:A8.R σ x cs) (n:Int) (hw:A5w x) (h0:0≤n) (h1:n≤1099511627776):Ret Tryz.prog Uo [.agg cs,gi n] σ (gi (lf n (Ac x))) σ:=by
 obtain⟨v0,v1,v2,v3,rfl,q0,q1,q2,q3⟩:=hR
 obtain⟨w0,w1,w2,w3⟩:=hw
 refine Af A2y (Z0z rfl) trivial ?_
 simp +contextual (disch:=omega) only[go_sem,Uq,List.append_nil]
 refine A7 (Q9 _ v0 x.know (q0.pre (pre1 _ _)) (n) w0 (by omega) (by omega)) ?_
 simp +contextual (disch:=omega) only[go_sem,List.append_nil]
 have g0:= @V2 (n) (x.know.length) (by omega)
 refine⟨fun hn=> ?_,fun hn=> ?_⟩
 ·have hn:=of_decide_eq_true hn
  have hn:=P1.1 hn
  unfold Ac lf;rw[if_pos (by omega)]
 have hn:=of_decide_eq_false hn
 have f0:=I1 hn
 try simp(disch:=omega) only[Bl]
 refine A7 (Vq _ v1 x.tallies (q1.pre (pre1 _ _)) (lf (n) (x.know.length)) w1 (by omega) (by omega)) ?_
 simp +contextual (disch:=omega) only[go_sem,List.append_nil]
 have g1:= @V2 (lf (n) (x.know.length)) ((x.tallies.length+sumL By x.tallies)) (by omega)
 refine⟨fun hn=> ?_,fun hn=> ?_⟩
 ·have hn:=of_decide_eq_true hn
  have hn:=P1.1 hn
  unfold Ac lf;rw[if_pos (by omega)]
 have hn:=of_decide_eq_false hn
 have f1:=I1 hn
 try simp(disch:=omega) only[Bl]
 refine A7 (Zt _ v2 x.lives (q2.pre (pre1 _ _)) (lf (lf (n) (x.know.length)) ((x.tallies.length+sumL By x.tallies))) w2 (by omega) (by omega)) ?_
 simp +contextual (disch:=omega) only[go_sem,List.append_nil]
 have g2:= @V2 (lf (lf (n) (x.know.length)) ((x.tallies.length+sumL By x.tallies))) ((x.lives.length+sumL D7 x.lives)) (by omega)
 refine⟨fun hn=> ?_,fun hn=> ?_⟩
 ·have hn:=of_decide_eq_true hn
  have hn:=P1.1 hn
  unfold Ac lf;rw[if_pos (by omega)]
 have hn:=of_decide_eq_false hn
 have f2:=I1 hn
 try simp(disch:=omega) only[Bl]
 refine A7 (Zs _ v3 x.cells (q3.pre (pre1 _ _)) (lf (lf (lf (n) (x.know.length)) ((x.tallies.length+sumL By x.tallies))) ((x.lives.length+sumL D7 x.lives))) w3 (by omega) (by omega)) ?_
 simp +contextual (disch:=omega) only[go_sem,List.append_nil]
 have g3:= @V2 (lf (lf (lf (n) (x.know.length)) ((x.tallies.length+sumL By x.tallies))) ((x.lives.length+sumL D7 x.lives))) ((x.cells.length+sumL E2 x.cells)) (by omega)
 refine⟨fun hn=> ?_,fun hn=> ?_⟩
 ·have hn:=of_decide_eq_true hn
  have hn:=P1.1 hn
  unfold Ac lf;rw[if_pos (by omega)]
 have hn:=of_decide_eq_false hn
 have f3:=I1 hn
 try simp(disch:=omega) only[Bl]
 unfold Ac;rw[show lf n (x.know.length+(x.tallies.length+sumL By x.tallies)+(x.lives.length+sumL D7 x.lives)+(x.cells.length+sumL E2 x.cells))=n - ((x.know.length+(x.tallies.length+sumL By x.tallies)+(x.lives.length+sumL D7 x.lives)+(x.cells.length+sumL E2 x.cells):Nat):Int) by unfold lf;rw[if_neg (by omega)]];try omega
end
section
open Go Go.RowKit
abbrev A2z:Nat:=151
def A30:Fn1:=⟨11,[.c 2 true 2],(.seq (.reg [o 1 (.box (.t 0)),o 2 (.new [(.int .i64 0),(.int .i64 0)])]) (.seq (.reg [o 3 (.new [(.int .i64 0),(.int .i64 0)])]) (.seq (.reg [o 4 (.fad 0 (.t 1)),o 5 (.ld false 1 (.t 4)),o 6 (.fad 0 (.t 3)),on (.st 1 (.t 6) (.t 5))]) (.seq (.reg [o 7 (.fad 1 (.t 1)),o 8 (.ld false 1 (.t 7)),o 9 (.fad 1 (.t 3)),on (.st 1 (.t 9) (.t 8))]) (.seq (.reg [o 10 (.ld true 2 (.t 3)),on (.st 2 (.t 2) (.t 10))]) .ret)))))⟩
theorem A7w:A5 Tryz.prog A2z=some A30:=by kernel_rfl
theorem Hg (σ:St) (x:Dot):Ret Tryz.prog A2z [.agg [.int .i64 x.rep,.int .i64 x.seq]] σ (.agg [.int .i64 x.rep,.int .i64 x.seq]) σ:=by
 refine Af A7w (Z0z rfl) (by simp[vLt,cLt,sLt]) ?_
 simp +contextual (disch:=omega) only[go_sem,A30]
end
section
open Go Go.RowKit
abbrev Xr:Nat:=147
def Xs:Fn1:=⟨22,[.t 2],(.seq (.reg [o 2 (.mov (.k .nilS))]) (.seq (.reg [o 5 (.mov (.t 0)),o 6 (.len false (.t 5)),o 7 (.mks 1 8 [(.int .i64 0)] (.t 6) (.t 6)),o 3 (.mov (.t 7))]) (.seq (.seq (.reg [o 4 (.mov (.k (.int .i64 0)))]) (.blk 0 (.lop (.seq (.seq (.reg [o 8 (.mov (.t 4)),o 9 (.mov (.t 0)),o 10 (.len false (.t 9)),o 11 (.bin .lss (.t 8) (.t 10))]) (.cnd (.t 11) .skip (.ext 0))) (.seq (.blk 1 (.reg [o 14 (.mov (.t 3)),o 15 (.mov (.t 4)),o 16 (.mov (.t 0)),o 17 (.mov (.t 4)),o 18 (.iad 1 (.t 16) (.t 17)),o 19 (.ld false 1 (.t 18)),o 20 (.iad 1 (.t 14) (.t 15)),on (.st 1 (.t 20) (.t 19))])) (.reg [o 12 (.mov (.t 4)),o 13 (.bin .add (.t 12) (.k (.int .i64 1))),o 4 (.mov (.t 13))])))))) (.seq (.reg [o 21 (.mov (.t 3)),o 2 (.mov (.t 21))]) .ret))))⟩
theorem A5d:A5 Tryz.prog Xr=some Xs:=by kernel_rfl
theorem Qc (σ:St) (v:GV) (l:List Int) (hR:RS pI.kd σ v l) (hl:l.length≤1099511627776):∃ r τ,Ret Tryz.prog Xr [v] σ r τ∧Hp σ τ [ow pI.kd r l]:=by
 refine A0i (rs:=fun r=>[ow pI.kd r l]) A5d (Z0z rfl) ?_
 have hmk:∀ ze,mksG 1 8 ze σ (some l.length) (some l.length)=some (.sl σ.length 0 l.length,σ++[some (.row 1 (reps l.length ze))]):=fun ze=>A5p (by omega)
 simp +contextual (disch:=omega) only[go_sem,Xs,hR.len,hmk]
 have H0:=((Hp.refl σ).new 1 (reps l.length (pI.enc 0))).toRow 0 (p:=pI) rfl (List.replicate l.length 0) rfl (Qu _ _ _) l.length (by simp)
 refine B8 l.length 4 (fun i env τ=>env 0=v∧env 3= .sl σ.length 0 l.length∧Hp σ τ [ow pI.kd (.sl σ.length 0 l.length) (l.take i++List.replicate (l.length - i) 0)]) rfl ⟨rfl,rfl,by rw[List.take_zero,List.nil_append,Nat.sub_zero];exact H0⟩ ?_ ?_
 ·rintro i env τ hi e4 c0 ⟨e0,e3,H⟩
  have h1:=hR.pre H.sub
  have h2:=H.sl 0 rfl
  have hj:=Qv (z:=(0:Int)) hi
  obtain⟨τ',es,H'⟩:=H.stw 0 rfl hj 1 (.int .i64 l[i]) l[i] rfl rfl (by decide)
  rw[Mp hi] at H'
  have es:stG 1 τ (atz 1 (.sl σ.length 0 l.length) i) (.int .i64 l[i])=some (.tup [],τ'):=es
  simp +contextual (disch:=omega) only[go_sem,e0,e3,e4,c0,hR.len,Ef h1 hi,Ef h2 hj,es]
  exact H'
 ·rintro env τ e4 c0 ⟨e0,e3,H⟩
  rw[Qw] at H
  simp +contextual (disch:=omega) only[go_sem,e0,e3,e4,c0,hR.len]
  exact⟨_,rfl,H⟩
end
section
open Go Go.RowKit
abbrev A31:Nat:=31
def A32:Fn1:=⟨32,[.c 2 true 10],(.seq (.reg [o 1 (.box (.t 0)),o 2 (.new [(.int .i64 0),(.int .i64 0),(.int .i64 0),.nilS,(.int .i64 0),(.str ⟨#[]⟩),(.str ⟨#[]⟩),(.int .i64 0),(.int .i64 0),(.int .i64 0)])]) (.seq (.reg [o 3 (.new [(.int .i64 0),(.int .i64 0),(.int .i64 0),.nilS,(.int .i64 0),(.str ⟨#[]⟩),(.str ⟨#[]⟩),(.int .i64 0),(.int .i64 0),(.int .i64 0)])]) (.seq (.reg [o 4 (.fad 0 (.t 1)),o 5 (.ld true 2 (.t 4)),o 6 (.call 151 [(.t 5)]),o 7 (.fad 0 (.t 3)),on (.st 2 (.t 7) (.t 6))]) (.seq (.reg [o 8 (.fad 2 (.t 1)),o 9 (.ld false 1 (.t 8)),o 10 (.fad 2 (.t 3)),on (.st 1 (.t 10) (.t 9))]) (.seq (.reg [o 11 (.fad 3 (.t 1)),o 12 (.ld false 1 (.t 11)),o 13 (.call 147 [(.t 12)]),o 14 (.fad 3 (.t 3)),on (.st 1 (.t 14) (.t 13))]) (.seq (.reg [o 15 (.fad 4 (.t 1)),o 16 (.ld false 1 (.t 15)),o 17 (.fad 4 (.t 3)),on (.st 1 (.t 17) (.t 16))]) (.seq (.reg [o 18 (.fad 5 (.t 1)),o 19 (.ld false 1 (.t 18)),o 20 (.fad 5 (.t 3)),on (.st 1 (.t 20) (.t 19))]) (.seq (.reg [o 21 (.fad 6 (.t 1)),o 22 (.ld false 1 (.t 21)),o 23 (.fad 6 (.t 3)),on (.st 1 (.t 23) (.t 22))]) (.seq (.reg [o 24 (.fad 7 (.t 1)),o 25 (.ld false 1 (.t 24)),o 26 (.fad 7 (.t 3)),on (.st 1 (.t 26) (.t 25))]) (.seq (.reg [o 27 (.fad 8 (.t 1)),o 28 (.ld true 2 (.t 27)),o 29 (.call 151 [(.t 28)]),o 30 (.fad 8 (.t 3)),on (.st 2 (.t 30) (.t 29))]) (.seq (.reg [o 31 (.ld true 10 (.t 3)),on (.st 10 (.t 2) (.t 31))]) .ret)))))))))))⟩
theorem A7x:A5 Tryz.prog A31=some A32:=by kernel_rfl
theorem Ji (σ:St) (cs:List GV) (x:Act) (hR:kAct.R σ x cs) (hl:E9 x≤1099511627776):∃ r τ,Ret Tryz.prog A31 [.agg cs] σ r τ∧σ <+: τ∧∃ ds,r= .agg ds∧Hp σ τ [own kAct ds x]:=by
 have hlen:=kAct.len hR
 have hlen:cs.length=10:=hlen
 obtain⟨v2,rfl,q2⟩:=hR
 unfold E9 at hl
 refine A3k A7x (Z0z rfl) ?_
 simp +contextual (disch:=omega) only[go_sem,A32,List.append_nil]
 refine A7 (Hg _ x.dot) ?_
 simp +contextual (disch:=omega) only[go_sem,List.append_nil]
 have H:=(((Hp.refl σ).new 1 ((GV.int .i64 x.dot.rep)::(GV.int .i64 x.dot.seq)::(GV.int .i64 x.time)::v2::(GV.int .i64 x.kind)::(GV.str x.obj)::(GV.str x.key)::(GV.int .i64 x.val)::(GV.int .i64 x.ref.rep)::(GV.int .i64 x.ref.seq)::[])).new 1 [(GV.int .i64 0),(GV.int .i64 0),(GV.int .i64 0),GV.nilS,(GV.int .i64 0),(GV.str ⟨#[]⟩),(GV.str ⟨#[]⟩),(GV.int .i64 0),(GV.int .i64 0),(GV.int .i64 0)]).new 1 [(GV.int .i64 x.dot.rep),(GV.int .i64 x.dot.seq),(GV.int .i64 x.time),GV.nilS,(GV.int .i64 0),(GV.str ⟨#[]⟩),(GV.str ⟨#[]⟩),(GV.int .i64 0),(GV.int .i64 0),(GV.int .i64 0)]
 obtain⟨r2,τ2,R2,K2⟩:=Qc _ v2 x.knew (q2.pre H.sub) (by omega)
 refine Da R2 K2 ?_
 have e2:=(K2.sl 0 rfl).cell
 have H:=H.add K2
 try simp only[go_sem] at H
 try simp +contextual (disch:=omega) only[go_sem,List.append_nil,A0 (H.pt 3 rfl),A0 (H.pt 1 rfl)]
 obtain⟨_,es,H,_⟩:=H.st 1 rfl 1 3 (r2) (by rw[e2];rfl) (by decide) (Z0z rfl)
 try simp only[go_sem,List.set_cons_zero,List.set_cons_succ,e2] at H
 try simp +contextual (disch:=omega) only[go_sem,List.append_nil,es,A0 (H.pt 3 rfl),A0 (H.pt 1 rfl)]
 try simp +contextual (disch:=omega) only[go_sem,List.append_nil,A0 (H.pt 3 rfl),A0 (H.pt 1 rfl)]
 obtain⟨_,es,H,_⟩:=H.st 1 rfl 1 4 (.int .i64 x.kind) (rfl) (by decide) (Z0z rfl)
 try simp only[go_sem,List.set_cons_zero,List.set_cons_succ] at H
 try simp +contextual (disch:=omega) only[go_sem,List.append_nil,es,A0 (H.pt 3 rfl),A0 (H.pt 1 rfl)]
 try simp +contextual (disch:=omega) only[go_sem,List.append_nil,A0 (H.pt 3 rfl),A0 (H.pt 1 rfl)]
 obtain⟨_,es,H,_⟩:=H.st 1 rfl 1 5 (.str x.obj) (rfl) (by decide) (Z0z rfl)
 try simp only[go_sem,List.set_cons_zero,List.set_cons_succ] at H
 try simp +contextual (disch:=omega) only[go_sem,List.append_nil,es,A0 (H.pt 3 rfl),A0 (H.pt 1 rfl)]
 try simp +contextual (disch:=omega) only[go_sem,List.append_nil,A0 (H.pt 3 rfl),A0 (H.pt 1 rfl)]
 obtain⟨_,es,H,_⟩:=H.st 1 rfl 1 6 (.str x.key) (rfl) (by decide) (Z0z rfl)
 try simp only[go_sem,List.set_cons_zero,List.set_cons_succ] at H
 try simp +contextual (disch:=omega) only[go_sem,List.append_nil,es,A0 (H.pt 3 rfl),A0 (H.pt 1 rfl)]
 try simp +contextual (disch:=omega) only[go_sem,List.append_nil,A0 (H.pt 3 rfl),A0 (H.pt 1 rfl)]
 obtain⟨_,es,H,_⟩:=H.st 1 rfl 1 7 (.int .i64 x.val) (rfl) (by decide) (Z0z rfl)
 try simp only[go_sem,List.set_cons_zero,List.set_cons_succ] at H
 try simp +contextual (disch:=omega) only[go_sem,List.append_nil,es,A0 (H.pt 3 rfl),A0 (H.pt 1 rfl)]
 refine A7 (Hg _ x.ref) ?_
 try simp +contextual (disch:=omega) only[go_sem,List.append_nil,A0 (H.pt 3 rfl),A0 (H.pt 1 rfl)]
 obtain⟨_,es,H,_⟩:=H.st 1 rfl 2 8 (.agg [.int .i64 x.ref.rep,.int .i64 x.ref.seq]) (rfl) (by decide) (Z0z rfl)
 try simp only[go_sem,List.set_cons_zero,List.set_cons_succ] at H
 try simp +contextual (disch:=omega) only[go_sem,List.append_nil,es,A0 (H.pt 3 rfl),A0 (H.pt 1 rfl)]
 obtain⟨_,es,H,_⟩:=H.st 2 rfl 10 0 (.agg ((GV.int .i64 x.dot.rep)::(GV.int .i64 x.dot.seq)::(GV.int .i64 x.time)::r2::(GV.int .i64 x.kind)::(GV.str x.obj)::(GV.str x.key)::(GV.int .i64 x.val)::(GV.int .i64 x.ref.rep)::(GV.int .i64 x.ref.seq)::[])) (rfl) (by decide) (Z0z rfl)
 try simp only[go_sem,List.set_cons_zero,List.set_cons_succ] at H
 try simp +contextual (disch:=omega) only[go_sem,List.append_nil,es,A0 (H.pt 2 rfl)]
 have h0:=H.sub
 have H:=H
 try simp only[List.eraseIdx_cons_succ,List.eraseIdx_cons_zero] at H
 exact⟨_,rfl,h0,_,rfl,H.ownAct.one⟩
end
section
open Go Go.RowKit
abbrev Xt:Nat:=254
def Xu:Fn1:=⟨25,[.c 2 true 8],(.seq (.reg [o 1 (.box (.t 0)),o 2 (.new [(.str ⟨#[]⟩),(.int .i64 0),(.int .i64 0),(.int .i64 0),(.int .i64 0),(.int .i64 0),(.int .i64 0),(.bool false)])]) (.seq (.reg [o 3 (.new [(.str ⟨#[]⟩),(.int .i64 0),(.int .i64 0),(.int .i64 0),(.int .i64 0),(.int .i64 0),(.int .i64 0),(.bool false)])]) (.seq (.reg [o 4 (.fad 0 (.t 1)),o 5 (.ld false 1 (.t 4)),o 6 (.fad 0 (.t 3)),on (.st 1 (.t 6) (.t 5))]) (.seq (.reg [o 7 (.fad 1 (.t 1)),o 8 (.ld true 2 (.t 7)),o 9 (.call 151 [(.t 8)]),o 10 (.fad 1 (.t 3)),on (.st 2 (.t 10) (.t 9))]) (.seq (.reg [o 11 (.fad 3 (.t 1)),o 12 (.ld false 1 (.t 11)),o 13 (.fad 3 (.t 3)),on (.st 1 (.t 13) (.t 12))]) (.seq (.reg [o 14 (.fad 4 (.t 1)),o 15 (.ld true 2 (.t 14)),o 16 (.call 151 [(.t 15)]),o 17 (.fad 4 (.t 3)),on (.st 2 (.t 17) (.t 16))]) (.seq (.reg [o 18 (.fad 6 (.t 1)),o 19 (.ld false 1 (.t 18)),o 20 (.fad 6 (.t 3)),on (.st 1 (.t 20) (.t 19))]) (.seq (.reg [o 21 (.fad 7 (.t 1)),o 22 (.ld false 1 (.t 21)),o 23 (.fad 7 (.t 3)),on (.st 1 (.t 23) (.t 22))]) (.seq (.reg [o 24 (.ld true 8 (.t 3)),on (.st 8 (.t 2) (.t 24))]) .ret)))))))))⟩
theorem A5e:A5 Tryz.prog Xt=some Xu:=by kernel_rfl
theorem A33 (σ:St) (x:Cell):Ret Tryz.prog Xt [.agg [.str x.obj,.int .i64 x.dot.rep,.int .i64 x.dot.seq,.int .i64 x.time,.int .i64 x.ref.rep,.int .i64 x.ref.seq,.int .i64 x.val,.bool x.gone]] σ (.agg [.str x.obj,.int .i64 x.dot.rep,.int .i64 x.dot.seq,.int .i64 x.time,.int .i64 x.ref.rep,.int .i64 x.ref.seq,.int .i64 x.val,.bool x.gone]) σ:=by
 refine Af A5e (Z0z rfl) (by simp[vLt,cLt,sLt]) ?_
 simp +contextual (disch:=omega) only[go_sem,Xu]
 refine A7 (Hg _ x.dot) ?_
 simp +contextual (disch:=omega) only[go_sem,List.append_nil]
 refine A7 (Hg _ x.ref) ?_
 simp +contextual (disch:=omega) only[go_sem,List.append_nil]
end
section
open Go Go.RowKit
abbrev Ur:Nat:=150
def Us:Fn1:=⟨23,[.t 2],(.seq (.reg [o 2 (.mov (.k .nilS))]) (.seq (.reg [o 5 (.mov (.t 0)),o 6 (.len false (.t 5)),o 7 (.mks 8 72 [(.str ⟨#[]⟩),(.int .i64 0),(.int .i64 0),(.int .i64 0),(.int .i64 0),(.int .i64 0),(.int .i64 0),(.bool false)] (.t 6) (.t 6)),o 3 (.mov (.t 7))]) (.seq (.seq (.reg [o 4 (.mov (.k (.int .i64 0)))]) (.blk 0 (.lop (.seq (.seq (.reg [o 8 (.mov (.t 4)),o 9 (.mov (.t 0)),o 10 (.len false (.t 9)),o 11 (.bin .lss (.t 8) (.t 10))]) (.cnd (.t 11) .skip (.ext 0))) (.seq (.blk 1 (.reg [o 14 (.mov (.t 3)),o 15 (.mov (.t 4)),o 16 (.mov (.t 0)),o 17 (.mov (.t 4)),o 18 (.iad 8 (.t 16) (.t 17)),o 19 (.ld true 8 (.t 18)),o 20 (.call 254 [(.t 19)]),o 21 (.iad 8 (.t 14) (.t 15)),on (.st 8 (.t 21) (.t 20))])) (.reg [o 12 (.mov (.t 4)),o 13 (.bin .add (.t 12) (.k (.int .i64 1))),o 4 (.mov (.t 13))])))))) (.seq (.reg [o 22 (.mov (.t 3)),o 2 (.mov (.t 22))]) .ret))))⟩
theorem A34:A5 Tryz.prog Ur=some Us:=by kernel_rfl
theorem Zx (σ:St) (v:GV) (l:List Cell) (hR:RS Ai.kd σ v l) (hl:l.length≤1099511627776):∃ r τ,Ret Tryz.prog Ur [v] σ r τ∧Hp σ τ [ow Ai.kd r l]:=by
 refine A0i (rs:=fun r=>[ow Ai.kd r l]) A34 (Z0z rfl) ?_
 have hmk:∀ ze,mksG 8 72 ze σ (some l.length) (some l.length)=some (.sl σ.length 0 l.length,σ++[some (.row 8 (reps l.length ze))]):=fun ze=>A5p (by omega)
 simp +contextual (disch:=omega) only[go_sem,Us,hR.len,hmk]
 have H0:=((Hp.refl σ).new 8 (reps l.length (Ai.enc ⟨⟨#[]⟩,⟨0,0⟩,0,⟨0,0⟩,0,false⟩))).toRow 0 (p:=Ai) rfl (List.replicate l.length ⟨⟨#[]⟩,⟨0,0⟩,0,⟨0,0⟩,0,false⟩) rfl (Qu _ _ _) l.length (by simp)
 refine B8 l.length 4 (fun i env τ=>env 0=v∧env 3= .sl σ.length 0 l.length∧Hp σ τ [ow Ai.kd (.sl σ.length 0 l.length) (l.take i++List.replicate (l.length - i) ⟨⟨#[]⟩,⟨0,0⟩,0,⟨0,0⟩,0,false⟩)]) rfl ⟨rfl,rfl,by rw[List.take_zero,List.nil_append,Nat.sub_zero];exact H0⟩ ?_ ?_
 ·rintro i env τ hi e4 c0 ⟨e0,e3,H⟩
  have h1:=hR.pre H.sub
  have h2:=H.sl 0 rfl
  have hj:=Qv (z:=(⟨⟨#[]⟩,⟨0,0⟩,0,⟨0,0⟩,0,false⟩:Cell)) hi
  simp +contextual (disch:=omega) only[go_sem,e0,e3,e4,c0,hR.len,A4 h1 hi]
  refine A7 (A33 τ l[i]) ?_
  obtain⟨τ',es,H'⟩:=H.stw 0 rfl hj 8 (.agg [.str l[i].obj,.int .i64 l[i].dot.rep,.int .i64 l[i].dot.seq,.int .i64 l[i].time,.int .i64 l[i].ref.rep,.int .i64 l[i].ref.seq,.int .i64 l[i].val,.bool l[i].gone]) l[i] rfl rfl (by decide)
  rw[Mp hi] at H'
  have es:stG 8 τ (atz 8 (.sl σ.length 0 l.length) i) (.agg [.str l[i].obj,.int .i64 l[i].dot.rep,.int .i64 l[i].dot.seq,.int .i64 l[i].time,.int .i64 l[i].ref.rep,.int .i64 l[i].ref.seq,.int .i64 l[i].val,.bool l[i].gone])=some (.tup [],τ'):=es
  simp +contextual (disch:=omega) only[go_sem,e0,e3,e4,c0,hR.len,A4 h1 hi,A4 h2 hj,es]
  exact H'
 ·rintro env τ e4 c0 ⟨e0,e3,H⟩
  rw[Qw] at H
  simp +contextual (disch:=omega) only[go_sem,e0,e3,e4,c0,hR.len]
  exact⟨_,rfl,H⟩
end
section
open Go Go.RowKit
abbrev Xv:Nat:=253
def Xw:Fn1:=⟨21,[.c 2 true 6],(.seq (.reg [o 1 (.box (.t 0)),o 2 (.new [(.bool false),(.str ⟨#[]⟩),(.str ⟨#[]⟩),(.int .i64 0),(.int .i64 0),(.int .i64 0)])]) (.seq (.reg [o 3 (.new [(.bool false),(.str ⟨#[]⟩),(.str ⟨#[]⟩),(.int .i64 0),(.int .i64 0),(.int .i64 0)])]) (.seq (.reg [o 4 (.fad 0 (.t 1)),o 5 (.ld false 1 (.t 4)),o 6 (.fad 0 (.t 3)),on (.st 1 (.t 6) (.t 5))]) (.seq (.reg [o 7 (.fad 1 (.t 1)),o 8 (.ld false 1 (.t 7)),o 9 (.fad 1 (.t 3)),on (.st 1 (.t 9) (.t 8))]) (.seq (.reg [o 10 (.fad 2 (.t 1)),o 11 (.ld false 1 (.t 10)),o 12 (.fad 2 (.t 3)),on (.st 1 (.t 12) (.t 11))]) (.seq (.reg [o 13 (.fad 3 (.t 1)),o 14 (.ld false 1 (.t 13)),o 15 (.fad 3 (.t 3)),on (.st 1 (.t 15) (.t 14))]) (.seq (.reg [o 16 (.fad 4 (.t 1)),o 17 (.ld true 2 (.t 16)),o 18 (.call 151 [(.t 17)]),o 19 (.fad 4 (.t 3)),on (.st 2 (.t 19) (.t 18))]) (.seq (.reg [o 20 (.ld true 6 (.t 3)),on (.st 6 (.t 2) (.t 20))]) .ret))))))))⟩
theorem A5f:A5 Tryz.prog Xv=some Xw:=by kernel_rfl
theorem A35 (σ:St) (x:Live):Ret Tryz.prog Xv [.agg [.bool x.map,.str x.obj,.str x.key,.int .i64 x.val,.int .i64 x.dot.rep,.int .i64 x.dot.seq]] σ (.agg [.bool x.map,.str x.obj,.str x.key,.int .i64 x.val,.int .i64 x.dot.rep,.int .i64 x.dot.seq]) σ:=by
 refine Af A5f (Z0z rfl) (by simp[vLt,cLt,sLt]) ?_
 simp +contextual (disch:=omega) only[go_sem,Xw]
 refine A7 (Hg _ x.dot) ?_
 simp +contextual (disch:=omega) only[go_sem,List.append_nil]
end
section
open Go Go.RowKit
abbrev Ut:Nat:=149
def Uu:Fn1:=⟨23,[.t 2],(.seq (.reg [o 2 (.mov (.k .nilS))]) (.seq (.reg [o 5 (.mov (.t 0)),o 6 (.len false (.t 5)),o 7 (.mks 6 64 [(.bool false),(.str ⟨#[]⟩),(.str ⟨#[]⟩),(.int .i64 0),(.int .i64 0),(.int .i64 0)] (.t 6) (.t 6)),o 3 (.mov (.t 7))]) (.seq (.seq (.reg [o 4 (.mov (.k (.int .i64 0)))]) (.blk 0 (.lop (.seq (.seq (.reg [o 8 (.mov (.t 4)),o 9 (.mov (.t 0)),o 10 (.len false (.t 9)),o 11 (.bin .lss (.t 8) (.t 10))]) (.cnd (.t 11) .skip (.ext 0))) (.seq (.blk 1 (.reg [o 14 (.mov (.t 3)),o 15 (.mov (.t 4)),o 16 (.mov (.t 0)),o 17 (.mov (.t 4)),o 18 (.iad 6 (.t 16) (.t 17)),o 19 (.ld true 6 (.t 18)),o 20 (.call 253 [(.t 19)]),o 21 (.iad 6 (.t 14) (.t 15)),on (.st 6 (.t 21) (.t 20))])) (.reg [o 12 (.mov (.t 4)),o 13 (.bin .add (.t 12) (.k (.int .i64 1))),o 4 (.mov (.t 13))])))))) (.seq (.reg [o 22 (.mov (.t 3)),o 2 (.mov (.t 22))]) .ret))))⟩
theorem A36:A5 Tryz.prog Ut=some Uu:=by kernel_rfl
theorem Zy (σ:St) (v:GV) (l:List Live) (hR:RS Ay.kd σ v l) (hl:l.length≤1099511627776):∃ r τ,Ret Tryz.prog Ut [v] σ r τ∧Hp σ τ [ow Ay.kd r l]:=by
 refine A0i (rs:=fun r=>[ow Ay.kd r l]) A36 (Z0z rfl) ?_
 have hmk:∀ ze,mksG 6 64 ze σ (some l.length) (some l.length)=some (.sl σ.length 0 l.length,σ++[some (.row 6 (reps l.length ze))]):=fun ze=>A5p (by omega)
 simp +contextual (disch:=omega) only[go_sem,Uu,hR.len,hmk]
 have H0:=((Hp.refl σ).new 6 (reps l.length (Ay.enc ⟨false,⟨#[]⟩,⟨#[]⟩,0,⟨0,0⟩⟩))).toRow 0 (p:=Ay) rfl (List.replicate l.length ⟨false,⟨#[]⟩,⟨#[]⟩,0,⟨0,0⟩⟩) rfl (Qu _ _ _) l.length (by simp)
 refine B8 l.length 4 (fun i env τ=>env 0=v∧env 3= .sl σ.length 0 l.length∧Hp σ τ [ow Ay.kd (.sl σ.length 0 l.length) (l.take i++List.replicate (l.length - i) ⟨false,⟨#[]⟩,⟨#[]⟩,0,⟨0,0⟩⟩)]) rfl ⟨rfl,rfl,by rw[List.take_zero,List.nil_append,Nat.sub_zero];exact H0⟩ ?_ ?_
 ·rintro i env τ hi e4 c0 ⟨e0,e3,H⟩
  have h1:=hR.pre H.sub
  have h2:=H.sl 0 rfl
  have hj:=Qv (z:=(⟨false,⟨#[]⟩,⟨#[]⟩,0,⟨0,0⟩⟩:Live)) hi
  simp +contextual (disch:=omega) only[go_sem,e0,e3,e4,c0,hR.len,A3 h1 hi]
  refine A7 (A35 τ l[i]) ?_
  obtain⟨τ',es,H'⟩:=H.stw 0 rfl hj 6 (.agg [.bool l[i].map,.str l[i].obj,.str l[i].key,.int .i64 l[i].val,.int .i64 l[i].dot.rep,.int .i64 l[i].dot.seq]) l[i] rfl rfl (by decide)
  rw[Mp hi] at H'
  have es:stG 6 τ (atz 6 (.sl σ.length 0 l.length) i) (.agg [.bool l[i].map,.str l[i].obj,.str l[i].key,.int .i64 l[i].val,.int .i64 l[i].dot.rep,.int .i64 l[i].dot.seq])=some (.tup [],τ'):=es
  simp +contextual (disch:=omega) only[go_sem,e0,e3,e4,c0,hR.len,A3 h1 hi,A3 h2 hj,es]
  exact H'
 ·rintro env τ e4 c0 ⟨e0,e3,H⟩
  rw[Qw] at H
  simp +contextual (disch:=omega) only[go_sem,e0,e3,e4,c0,hR.len]
  exact⟨_,rfl,H⟩
end
section
open Go Go.RowKit
abbrev Uv:Nat:=252
def Uw:Fn1:=⟨14,[.c 2 true 3],(.seq (.reg [o 1 (.box (.t 0)),o 2 (.new [(.str ⟨#[]⟩),(.int .i64 0),(.int .i64 0)])]) (.seq (.reg [o 3 (.new [(.str ⟨#[]⟩),(.int .i64 0),(.int .i64 0)])]) (.seq (.reg [o 4 (.fad 0 (.t 1)),o 5 (.ld false 1 (.t 4)),o 6 (.fad 0 (.t 3)),on (.st 1 (.t 6) (.t 5))]) (.seq (.reg [o 7 (.fad 1 (.t 1)),o 8 (.ld false 1 (.t 7)),o 9 (.fad 1 (.t 3)),on (.st 1 (.t 9) (.t 8))]) (.seq (.reg [o 10 (.fad 2 (.t 1)),o 11 (.ld false 1 (.t 10)),o 12 (.fad 2 (.t 3)),on (.st 1 (.t 12) (.t 11))]) (.seq (.reg [o 13 (.ld true 3 (.t 3)),on (.st 3 (.t 2) (.t 13))]) .ret))))))⟩
theorem A37:A5 Tryz.prog Uv=some Uw:=by kernel_rfl
theorem Zz (σ:St) (x:Tally):Ret Tryz.prog Uv [.agg [.str x.obj,.int .i64 x.rep,.int .i64 x.sum]] σ (.agg [.str x.obj,.int .i64 x.rep,.int .i64 x.sum]) σ:=by
 refine Af A37 (Z0z rfl) (by simp[vLt,cLt,sLt]) ?_
 simp +contextual (disch:=omega) only[go_sem,Uw]
end
section
open Go Go.RowKit
abbrev Qd:Nat:=148
def Qe:Fn1:=⟨23,[.t 2],(.seq (.reg [o 2 (.mov (.k .nilS))]) (.seq (.reg [o 5 (.mov (.t 0)),o 6 (.len false (.t 5)),o 7 (.mks 3 32 [(.str ⟨#[]⟩),(.int .i64 0),(.int .i64 0)] (.t 6) (.t 6)),o 3 (.mov (.t 7))]) (.seq (.seq (.reg [o 4 (.mov (.k (.int .i64 0)))]) (.blk 0 (.lop (.seq (.seq (.reg [o 8 (.mov (.t 4)),o 9 (.mov (.t 0)),o 10 (.len false (.t 9)),o 11 (.bin .lss (.t 8) (.t 10))]) (.cnd (.t 11) .skip (.ext 0))) (.seq (.blk 1 (.reg [o 14 (.mov (.t 3)),o 15 (.mov (.t 4)),o 16 (.mov (.t 0)),o 17 (.mov (.t 4)),o 18 (.iad 3 (.t 16) (.t 17)),o 19 (.ld true 3 (.t 18)),o 20 (.call 252 [(.t 19)]),o 21 (.iad 3 (.t 14) (.t 15)),on (.st 3 (.t 21) (.t 20))])) (.reg [o 12 (.mov (.t 4)),o 13 (.bin .add (.t 12) (.k (.int .i64 1))),o 4 (.mov (.t 13))])))))) (.seq (.reg [o 22 (.mov (.t 3)),o 2 (.mov (.t 22))]) .ret))))⟩
theorem A00:A5 Tryz.prog Qd=some Qe:=by kernel_rfl
theorem Vr (σ:St) (v:GV) (l:List Tally) (hR:RS Ar.kd σ v l) (hl:l.length≤1099511627776):∃ r τ,Ret Tryz.prog Qd [v] σ r τ∧Hp σ τ [ow Ar.kd r l]:=by
 refine A0i (rs:=fun r=>[ow Ar.kd r l]) A00 (Z0z rfl) ?_
 have hmk:∀ ze,mksG 3 32 ze σ (some l.length) (some l.length)=some (.sl σ.length 0 l.length,σ++[some (.row 3 (reps l.length ze))]):=fun ze=>A5p (by omega)
 simp +contextual (disch:=omega) only[go_sem,Qe,hR.len,hmk]
 have H0:=((Hp.refl σ).new 3 (reps l.length (Ar.enc ⟨⟨#[]⟩,0,0⟩))).toRow 0 (p:=Ar) rfl (List.replicate l.length ⟨⟨#[]⟩,0,0⟩) rfl (Qu _ _ _) l.length (by simp)
 refine B8 l.length 4 (fun i env τ=>env 0=v∧env 3= .sl σ.length 0 l.length∧Hp σ τ [ow Ar.kd (.sl σ.length 0 l.length) (l.take i++List.replicate (l.length - i) ⟨⟨#[]⟩,0,0⟩)]) rfl ⟨rfl,rfl,by rw[List.take_zero,List.nil_append,Nat.sub_zero];exact H0⟩ ?_ ?_
 ·rintro i env τ hi e4 c0 ⟨e0,e3,H⟩
  have h1:=hR.pre H.sub
  have h2:=H.sl 0 rfl
  have hj:=Qv (z:=(⟨⟨#[]⟩,0,0⟩:Tally)) hi
  simp +contextual (disch:=omega) only[go_sem,e0,e3,e4,c0,hR.len,Aa h1 hi]
  refine A7 (Zz τ l[i]) ?_
  obtain⟨τ',es,H'⟩:=H.stw 0 rfl hj 3 (.agg [.str l[i].obj,.int .i64 l[i].rep,.int .i64 l[i].sum]) l[i] rfl rfl (by decide)
  rw[Mp hi] at H'
  have es:stG 3 τ (atz 3 (.sl σ.length 0 l.length) i) (.agg [.str l[i].obj,.int .i64 l[i].rep,.int .i64 l[i].sum])=some (.tup [],τ'):=es
  simp +contextual (disch:=omega) only[go_sem,e0,e3,e4,c0,hR.len,Aa h1 hi,Aa h2 hj,es]
  exact H'
 ·rintro env τ e4 c0 ⟨e0,e3,H⟩
  rw[Qw] at H
  simp +contextual (disch:=omega) only[go_sem,e0,e3,e4,c0,hR.len]
  exact⟨_,rfl,H⟩
end
section
open Go Go.RowKit
abbrev Ux:Nat:=30
def Uy:Fn1:=⟨21,[.c 2 true 4],(.seq (.reg [o 1 (.box (.t 0)),o 2 (.new [.nilS,.nilS,.nilS,.nilS])]) (.seq (.reg [o 3 (.new [.nilS,.nilS,.nilS,.nilS])]) (.seq (.reg [o 4 (.fad 0 (.t 1)),o 5 (.ld false 1 (.t 4)),o 6 (.call 147 [(.t 5)]),o 7 (.fad 0 (.t 3)),on (.st 1 (.t 7) (.t 6))]) (.seq (.reg [o 8 (.fad 1 (.t 1)),o 9 (.ld false 1 (.t 8)),o 10 (.call 148 [(.t 9)]),o 11 (.fad 1 (.t 3)),on (.st 1 (.t 11) (.t 10))]) (.seq (.reg [o 12 (.fad 2 (.t 1)),o 13 (.ld false 1 (.t 12)),o 14 (.call 149 [(.t 13)]),o 15 (.fad 2 (.t 3)),on (.st 1 (.t 15) (.t 14))]) (.seq (.reg [o 16 (.fad 3 (.t 1)),o 17 (.ld false 1 (.t 16)),o 18 (.call 150 [(.t 17)]),o 19 (.fad 3 (.t 3)),on (.st 1 (.t 19) (.t 18))]) (.seq (.reg [o 20 (.ld true 4 (.t 3)),on (.st 4 (.t 2) (.t 20))]) .ret)))))))⟩
theorem A38:A5 Tryz.prog Ux=some Uy:=by kernel_rfl
theorem Gp (σ:St) (cs:List GV) (x:State) (hR:A8.R σ x cs) (hl:Ac x≤1099511627776):∃ r τ,Ret Tryz.prog Ux [.agg cs] σ r τ∧σ <+: τ∧∃ ds,r= .agg ds∧Hp σ τ [own A8 ds x]:=by
 have hlen:=A8.len hR
 have hlen:cs.length=4:=hlen
 obtain⟨v0,v1,v2,v3,rfl,q0,q1,q2,q3⟩:=hR
 unfold Ac at hl
 refine A3k A38 (Z0z rfl) ?_
 simp +contextual (disch:=omega) only[go_sem,Uy,List.append_nil]
 have H:=(((Hp.refl σ).new 1 (v0::v1::v2::v3::[])).new 1 [GV.nilS,GV.nilS,GV.nilS,GV.nilS]).new 1 [GV.nilS,GV.nilS,GV.nilS,GV.nilS]
 obtain⟨r0,τ0,R0,K0⟩:=Qc _ v0 x.know (q0.pre H.sub) (by omega)
 refine Da R0 K0 ?_
 have e0:=(K0.sl 0 rfl).cell
 have H:=H.add K0
 try simp only[go_sem] at H
 try simp +contextual (disch:=omega) only[go_sem,List.append_nil,A0 (H.pt 3 rfl),A0 (H.pt 1 rfl)]
 obtain⟨_,es,H,_⟩:=H.st 1 rfl 1 0 (r0) (by rw[e0];rfl) (by decide) (Z0z rfl)
 try simp only[go_sem,List.set_cons_zero,List.set_cons_succ,e0] at H
 try simp +contextual (disch:=omega) only[go_sem,List.append_nil,es,A0 (H.pt 3 rfl),A0 (H.pt 1 rfl)]
 obtain⟨r1,τ1,R1,K1⟩:=Vr _ v1 x.tallies (q1.pre H.sub) (by omega)
 refine Da R1 K1 ?_
 have e1:=(K1.sl 0 rfl).cell
 have H:=H.add K1
 try simp only[go_sem] at H
 try simp +contextual (disch:=omega) only[go_sem,List.append_nil,A0 (H.pt 4 rfl),A0 (H.pt 2 rfl)]
 obtain⟨_,es,H,_⟩:=H.st 2 rfl 1 1 (r1) (by rw[e1];rfl) (by decide) (Z0z rfl)
 try simp only[go_sem,List.set_cons_zero,List.set_cons_succ,e1] at H
 try simp +contextual (disch:=omega) only[go_sem,List.append_nil,es,A0 (H.pt 4 rfl),A0 (H.pt 2 rfl)]
 obtain⟨r2,τ2,R2,K2⟩:=Zy _ v2 x.lives (q2.pre H.sub) (by omega)
 refine Da R2 K2 ?_
 have e2:=(K2.sl 0 rfl).cell
 have H:=H.add K2
 try simp only[go_sem] at H
 try simp +contextual (disch:=omega) only[go_sem,List.append_nil,A0 (H.pt 5 rfl),A0 (H.pt 3 rfl)]
 obtain⟨_,es,H,_⟩:=H.st 3 rfl 1 2 (r2) (by rw[e2];rfl) (by decide) (Z0z rfl)
 try simp only[go_sem,List.set_cons_zero,List.set_cons_succ,e2] at H
 try simp +contextual (disch:=omega) only[go_sem,List.append_nil,es,A0 (H.pt 5 rfl),A0 (H.pt 3 rfl)]
 obtain⟨r3,τ3,R3,K3⟩:=Zx _ v3 x.cells (q3.pre H.sub) (by omega)
 refine Da R3 K3 ?_
 have e3:=(K3.sl 0 rfl).cell
 have H:=H.add K3
 try simp only[go_sem] at H
 try simp +contextual (disch:=omega) only[go_sem,List.append_nil,A0 (H.pt 6 rfl),A0 (H.pt 4 rfl)]
 obtain⟨_,es,H,_⟩:=H.st 4 rfl 1 3 (r3) (by rw[e3];rfl) (by decide) (Z0z rfl)
 try simp only[go_sem,List.set_cons_zero,List.set_cons_succ,e3] at H
 try simp +contextual (disch:=omega) only[go_sem,List.append_nil,es,A0 (H.pt 6 rfl),A0 (H.pt 4 rfl)]
 obtain⟨_,es,H,_⟩:=H.st 5 rfl 4 0 (.agg (r0::r1::r2::r3::[])) (rfl) (by decide) (Z0z rfl)
 try simp only[go_sem,List.set_cons_zero,List.set_cons_succ] at H
 try simp +contextual (disch:=omega) only[go_sem,List.append_nil,es,A0 (H.pt 5 rfl)]
 have h0:=H.sub
 have H:=(((H.pick 1 rfl).pick 2 rfl).pick 3 rfl)
 try simp only[List.eraseIdx_cons_succ,List.eraseIdx_cons_zero] at H
 exact⟨_,rfl,h0,_,rfl,H.ownState.one⟩
end
section
open Go Go.RowKit
theorem Abb {x:Tally} (h:zTally x):Rv x:=h.1
theorem Aa0 {x:List Tally} (h:((x).length≤9223372036854775807∧∀ y6∈x,zTally (y6))):x.length≤9223372036854775807∧∀ y∈x,Rv y:=⟨h.1,fun y hy=>Abb (h.2 y hy)⟩
theorem Ael {x:Live} (h:zLive x):A6u x:=⟨h.2.1,h.2.2.1⟩
theorem Abc {x:List Live} (h:((x).length≤9223372036854775807∧∀ y5∈x,zLive (y5))):x.length≤9223372036854775807∧∀ y∈x,A6u y:=⟨h.1,fun y hy=>Ael (h.2 y hy)⟩
theorem Aem {x:Cell} (h:zCell x):A3n x:=h.1
theorem Abd {x:List Cell} (h:((x).length≤9223372036854775807∧∀ y5∈x,zCell (y5))):x.length≤9223372036854775807∧∀ y∈x,A3n y:=⟨h.1,fun y hy=>Aem (h.2 y hy)⟩
theorem zAct_w {x:Act} (h:zAct x):wAct x:=⟨h.2.2.1.1,h.2.2.2.2.1,h.2.2.2.2.2.1⟩
theorem Abe {x:State} (h:zState x):A5w x:=⟨h.1.1,Aa0 h.2.1,Abc h.2.2.1,Abd h.2.2.2⟩
end
section
open Go Go.RowKit
abbrev Gc:Nat:=5
def Gd:Fn1:=⟨119,[.t 4],(.seq (.reg [o 2 (.box (.t 0)),o 3 (.box (.t 1)),o 4 (.mov (.k (.bool false)))]) (.seq (.reg [o 5 (.mov (.k (.int .i64 1048576)))]) (.seq (.reg [o 17 (.ld true 4 (.t 2)),o 18 (.mov (.t 5)),o 19 (.call 27 [(.t 17),(.t 18)]),o 5 (.mov (.t 19))]) (.seq (.seq (.reg [o 20 (.mov (.t 5)),o 21 (.bin .lss (.t 20) (.k (.int .i64 0)))]) (.cnd (.t 21) (.seq (.reg [o 4 (.mov (.k (.bool true)))]) .ret) .skip)) (.seq (.reg [o 22 (.ld true 10 (.t 3)),o 23 (.mov (.t 5)),o 24 (.call 28 [(.t 22),(.t 23)]),o 5 (.mov (.t 24))]) (.seq (.seq (.reg [o 25 (.mov (.t 5)),o 26 (.bin .lss (.t 25) (.k (.int .i64 0)))]) (.cnd (.t 26) (.seq (.reg [o 4 (.mov (.k (.bool true)))]) .ret) .skip)) (.seq (.drw [o 28 (.ld true 4 (.t 2)),o 29 (.call 30 [(.t 28)]),o 30 (.ld true 10 (.t 3))] [o 31 (.call 31 [(.t 30)]),o 32 (.call 29 [(.t 29),(.t 31)]),o 27 (.mov (.t 32)),o 33 (.ext 0 (.t 27)),o 34 (.ext 1 (.t 27)),o 6 (.mov (.t 33)),o 7 (.mov (.t 34))]) (.seq (.reg [o 35 (.ld true 4 (.t 2)),o 36 (.call 30 [(.t 35)]),o 8 (.new [.nilS,.nilS,.nilS,.nilS]),on (.st 4 (.t 8) (.t 36))]) (.seq (.reg [o 37 (.ld true 10 (.t 3)),o 38 (.call 31 [(.t 37)]),o 9 (.new [(.int .i64 0),(.int .i64 0),(.int .i64 0),.nilS,(.int .i64 0),(.str ⟨#[]⟩),(.str ⟨#[]⟩),(.int .i64 0),(.int .i64 0),(.int .i64 0)]),on (.st 10 (.t 9) (.t 38))]) (.seq (.reg [o 40 (.ld true 4 (.t 8)),o 41 (.ld true 10 (.t 9)),o 42 (.call 32 [(.t 40),(.t 41)]),o 39 (.mov (.t 42)),o 43 (.ext 0 (.t 39)),o 44 (.ext 1 (.t 39)),o 10 (.mov (.t 43)),o 11 (.mov (.t 44))]) (.seq (.seq (.reg [o 45 (.mov (.t 10)),o 46 (.mov (.t 6)),o 47 (.call 33 [(.t 45),(.t 46)]),o 48 (.un .not (.t 47)),o 49 (.mov (.t 48)),og 50 49 false (.mov (.t 11)),og 51 49 false (.mov (.t 7)),og 52 49 false (.eqb true (.t 50) (.t 51)),o 53 (.pick (.t 49) (.k (.bool true)) (.t 52))]) (.cnd (.t 53) (.seq (.reg [o 4 (.mov (.k (.bool false)))]) .ret) .skip)) (.seq (.seq (.drw [o 54 (.ld true 4 (.t 8)),o 55 (.ld true 4 (.t 2)),o 56 (.call 30 [(.t 55)])] [o 57 (.call 34 [(.t 54),(.t 56)]),o 58 (.un .not (.t 57))]) (.cnd (.t 58) (.seq (.reg [o 4 (.mov (.k (.bool false)))]) .ret) .skip)) (.seq (.seq (.drw [o 59 (.ld true 10 (.t 9)),o 60 (.ld true 10 (.t 3)),o 61 (.call 31 [(.t 60)])] [o 62 (.call 35 [(.t 59),(.t 61)]),o 63 (.un .not (.t 62))]) (.cnd (.t 63) (.seq (.reg [o 4 (.mov (.k (.bool false)))]) .ret) .skip)) (.seq (.reg [o 12 (.mov (.k (.int .i64 1)))]) (.seq (.reg [o 64 (.ld true 4 (.t 8)),o 65 (.mov (.t 12)),o 66 (.call 36 [(.t 64),(.t 65)]),o 12 (.mov (.t 66))]) (.seq (.reg [o 67 (.ld true 10 (.t 9)),o 68 (.mov (.t 12)),o 69 (.call 37 [(.t 67),(.t 68)]),o 12 (.mov (.t 69))]) (.seq (.seq (.reg [o 70 (.mov (.t 12)),o 71 (.bin .lss (.t 70) (.k (.int .i64 0))),o 72 (.mov (.t 71)),og 73 72 false (.mov (.t 10)),og 74 72 false (.mov (.t 6)),og 75 72 false (.call 33 [(.t 73),(.t 74)]),og 76 72 false (.un .not (.t 75)),o 77 (.pick (.t 72) (.k (.bool true)) (.t 76)),o 78 (.mov (.t 77)),og 79 78 false (.mov (.t 11)),og 80 78 false (.mov (.t 7)),og 81 78 false (.eqb true (.t 79) (.t 80)),o 82 (.pick (.t 78) (.k (.bool true)) (.t 81))]) (.cnd (.t 82) (.seq (.reg [o 4 (.mov (.k (.bool false)))]) .ret) .skip)) (.seq (.reg [o 13 (.mov (.k (.int .i64 1)))]) (.seq (.reg [o 83 (.mov (.t 10)),o 84 (.mov (.t 13)),o 85 (.call 38 [(.t 83),(.t 84)]),o 13 (.mov (.t 85))]) (.seq (.reg [o 14 (.mov (.k (.int .i64 1)))]) (.seq (.reg [o 86 (.mov (.t 10)),o 87 (.mov (.t 14)),o 88 (.call 39 [(.t 86),(.t 87)]),o 14 (.mov (.t 88))]) (.seq (.seq (.reg [o 89 (.mov (.t 14)),o 90 (.bin .lss (.t 89) (.k (.int .i64 0)))]) (.cnd (.t 90) (.seq (.reg [o 4 (.mov (.k (.bool false)))]) .ret) .skip)) (.seq (.seq (.reg [o 91 (.mov (.t 14)),o 92 (.mov (.t 13)),o 93 (.bin .neq (.t 91) (.t 92))]) (.cnd (.t 93) (.seq (.reg [o 4 (.mov (.k (.bool false)))]) .ret) .skip)) (.seq (.drw [o 95 (.ld true 4 (.t 2)),o 96 (.call 30 [(.t 95)]),o 97 (.ld true 10 (.t 3))] [o 98 (.call 31 [(.t 97)]),o 99 (.call 32 [(.t 96),(.t 98)]),o 94 (.mov (.t 99)),o 100 (.ext 0 (.t 94)),o 101 (.ext 1 (.t 94)),o 15 (.mov (.t 100)),o 16 (.mov (.t 101))]) (.seq (.seq (.reg [o 102 (.mov (.t 15)),o 103 (.mov (.t 6)),o 104 (.call 33 [(.t 102),(.t 103)]),o 105 (.un .not (.t 104)),o 106 (.mov (.t 105)),og 107 106 false (.mov (.t 16)),og 108 106 false (.mov (.t 7)),og 109 106 false (.eqb true (.t 107) (.t 108)),o 110 (.pick (.t 106) (.k (.bool true)) (.t 109))]) (.cnd (.t 110) (.seq (.reg [o 4 (.mov (.k (.bool false)))]) .ret) .skip)) (.seq (.reg [o 14 (.mov (.k (.int .i64 1)))]) (.seq (.reg [o 111 (.mov (.t 10)),o 112 (.mov (.t 14)),o 113 (.call 39 [(.t 111),(.t 112)]),o 14 (.mov (.t 113))]) (.seq (.seq (.reg [o 114 (.mov (.t 14)),o 115 (.bin .lss (.t 114) (.k (.int .i64 0)))]) (.cnd (.t 115) (.seq (.reg [o 4 (.mov (.k (.bool false)))]) .ret) .skip)) (.seq (.seq (.reg [o 116 (.mov (.t 14)),o 117 (.mov (.t 13)),o 118 (.bin .neq (.t 116) (.t 117))]) (.cnd (.t 118) (.seq (.reg [o 4 (.mov (.k (.bool false)))]) .ret) .skip)) (.seq (.reg [o 4 (.mov (.k (.bool true)))]) .ret))))))))))))))))))))))))))))))⟩
theorem L6:A5 Tryz.prog Gc=some Gd:=by kernel_rfl
theorem law_BackEdits (σ:St) (cs0:List GV) (x0:State) (hR0:eState.R σ x0 cs0) (hw0:zState x0) (cs1:List GV) (x1:Act) (hR1:eAct.R σ x1 cs1) (hw1:zAct x1):∃ r τ,Ret Tryz.prog Gc [.agg cs0,.agg cs1] σ r τ∧r= .bool true:=by
 have hR0:=Aeh hR0
 have hl0:=A8.len hR0
 have hw0:=Abe hw0
 have hR1:=brAct hR1
 have hl1:=kAct.len hR1
 have hw1:=zAct_w hw1
 refine Ad3 L6 (Z0z rfl) ?_
 have hB:σ <+: σ++[some (Blk.row 1 (cs0))]++[some (Blk.row 1 (cs1))]:=pre2
 have hb0:rdB (σ++[some (Blk.row 1 (cs0))]++[some (Blk.row 1 (cs1))]) (σ).length=some (cs0):=Yj (List.prefix_refl _)
 have hs0:(seg cs0 0 4).bind (mkv true)=some (.agg cs0):=A6 hl0
 have hb1:rdB (σ++[some (Blk.row 1 (cs0))]++[some (Blk.row 1 (cs1))]) (σ++[some (Blk.row 1 (cs0))]).length=some (cs1):=Mo (List.prefix_refl _)
 have hs1:(seg cs1 0 10).bind (mkv true)=some (.agg cs1):=A6 hl1
 simp +contextual (disch:=omega) only[go_sem,Gd,A0 (Ab (List.prefix_refl _) hb0),hs0,A0 (Ab (List.prefix_refl _) hb1),hs1,List.append_nil]
 refine A7 (Zw _ cs0 x0 (A8.pre hR0 (hB.trans (List.prefix_refl _))) (1048576) hw0 (by omega) (by omega)) ?_
 have ge0:= @A8w (1048576) (Ac x0)
 have gm0:= @V2 (1048576) (Ac x0) (by omega)
 try simp +contextual (disch:=omega) only[go_sem,List.append_nil,ite_self,ne_eq,not_true_eq_false,bne_self_eq_false,beq_self_eq_true,A0 (Ab (List.prefix_refl _) hb0),hs0,A0 (Ab (List.prefix_refl _) hb1),hs1]
 refine⟨fun _=>hB.length_le,fun hn=> ?_⟩
 have hn:=of_decide_eq_false hn
 have hf0:=I1 hn
 have hu0:Ac x0≤1048576:=by omega
 have hc0:=A7u x0
 try simp +contextual (disch:=omega) only[go_sem,List.append_nil,ite_self,ne_eq,not_true_eq_false,bne_self_eq_false,beq_self_eq_true,A0 (Ab (List.prefix_refl _) hb0),hs0,A0 (Ab (List.prefix_refl _) hb1),hs1]
 refine A7 (A5a _ cs1 x1 (kAct.pre hR1 (hB.trans (List.prefix_refl _))) (lf (1048576) (Ac x0)) hw1 (by omega) (by omega)) ?_
 have ge1:= @A8w (lf (1048576) (Ac x0)) (E9 x1)
 have gm1:= @V2 (lf (1048576) (Ac x0)) (E9 x1) (by omega)
 try simp +contextual (disch:=omega) only[go_sem,List.append_nil,ite_self,ne_eq,not_true_eq_false,bne_self_eq_false,beq_self_eq_true,A0 (Ab (List.prefix_refl _) hb0),hs0,A0 (Ab (List.prefix_refl _) hb1),hs1]
 refine⟨fun _=>hB.length_le,fun hn=> ?_⟩
 have hn:=of_decide_eq_false hn
 have hf1:=I1 hn
 have hu1:E9 x1≤1048576:=by omega
 have hc1:=Aba x1
 try simp +contextual (disch:=omega) only[go_sem,List.append_nil,ite_self,ne_eq,not_true_eq_false,bne_self_eq_false,beq_self_eq_true,A0 (Ab (List.prefix_refl _) hb0),hs0,A0 (Ab (List.prefix_refl _) hb1),hs1]
 have H:=Hp.refl (σ++[some (Blk.row 1 (cs0))]++[some (Blk.row 1 (cs1))])
 try simp +contextual (disch:=omega) only[go_sem,List.append_nil,ite_self,ne_eq,not_true_eq_false,bne_self_eq_false,beq_self_eq_true,A0 (Ab H.sub hb0),hs0,A0 (Ab H.sub hb1),hs1]
 obtain⟨_,τ1,R1,_,d1,rfl,K1⟩:=Gp _ cs0 x0 (A8.pre hR0 (hB.trans H.sub)) (by omega)
 refine Da R1 K1 ?_
 have H:=H.add K1
 try simp only[List.cons_append,List.nil_append] at H
 have g1:=A6 (A8.len (K1.rd 0 rfl))
 have g1:(seg d1 0 4).bind (mkv true)=some (.agg d1):=g1
 have gl1:d1.length=4:=A8.len (K1.rd 0 rfl)
 try simp +contextual (disch:=omega) only[go_sem,List.append_nil,ite_self,ne_eq,not_true_eq_false,bne_self_eq_false,beq_self_eq_true,A0 (Ab H.sub hb0),hs0,A0 (Ab H.sub hb1),hs1,g1]
 obtain⟨_,τ2,R2,_,d2,rfl,K2⟩:=Ji _ cs1 x1 (kAct.pre hR1 (hB.trans H.sub)) (by omega)
 refine Da R2 K2 ?_
 have H:=H.add K2
 try simp only[List.cons_append,List.nil_append] at H
 have g2:=A6 (kAct.len (K2.rd 0 rfl))
 have g2:(seg d2 0 10).bind (mkv true)=some (.agg d2):=g2
 have gl2:d2.length=10:=kAct.len (K2.rd 0 rfl)
 try simp +contextual (disch:=omega) only[go_sem,List.append_nil,ite_self,ne_eq,not_true_eq_false,bne_self_eq_false,beq_self_eq_true,A0 (Ab H.sub hb0),hs0,A0 (Ab H.sub hb1),hs1,g1,g2]
 obtain⟨c3_0,τ3,R3,p3⟩:=U0 _ d1 x0 (H.rd 1 rfl) d2 x1 (H.rd 0 rfl) (by omega) (by omega)
 have q3_0:=p3.sl 0 rfl
 have p3:=p3.sub
 refine Abm R3 p3 ?_
 have hpw:=H.sub.trans p3
 have H:=Hp.refl τ3
 have nt3_0:=RdN.notup q3_0
 try simp +contextual (disch:=omega) only[go_sem,List.append_nil,ite_self,ne_eq,not_true_eq_false,bne_self_eq_false,beq_self_eq_true,A0 (Ab (hpw.trans H.sub) hb0),hs0,A0 (Ab (hpw.trans H.sub) hb1),hs1,g1,g2,As nt3_0]
 obtain⟨_,τ4,R4,_,d4,rfl,K4⟩:=Gp _ cs0 x0 (A8.pre hR0 (hB.trans (hpw.trans H.sub))) (by omega)
 refine Da R4 K4 ?_
 have H:=H.add K4
 try simp only[List.cons_append,List.nil_append] at H
 have g4:=A6 (A8.len (K4.rd 0 rfl))
 have g4:(seg d4 0 4).bind (mkv true)=some (.agg d4):=g4
 have gl4:d4.length=4:=A8.len (K4.rd 0 rfl)
 try simp +contextual (disch:=omega) only[go_sem,List.append_nil,ite_self,ne_eq,not_true_eq_false,bne_self_eq_false,beq_self_eq_true,A0 (Ab (hpw.trans H.sub) hb0),hs0,A0 (Ab (hpw.trans H.sub) hb1),hs1,g1,g2,As nt3_0,g4]
 have H:=H.new 1 d4
 try simp +contextual (disch:=omega) only[go_sem,List.append_nil,ite_self,ne_eq,not_true_eq_false,bne_self_eq_false,beq_self_eq_true,A0 (Ab (hpw.trans H.sub) hb0),hs0,A0 (Ab (hpw.trans H.sub) hb1),hs1,A0 (H.pt 0 rfl),g1,g2,As nt3_0,g4,Bg (cs:=[GV.nilS,GV.nilS,GV.nilS,GV.nilS]) gl4 rfl,gl4]
 obtain⟨_,τ5,R5,_,d5,rfl,K5⟩:=Ji _ cs1 x1 (kAct.pre hR1 (hB.trans (hpw.trans H.sub))) (by omega)
 refine Da R5 K5 ?_
 have H:=H.add K5
 try simp only[List.cons_append,List.nil_append] at H
 have g5:=A6 (kAct.len (K5.rd 0 rfl))
 have g5:(seg d5 0 10).bind (mkv true)=some (.agg d5):=g5
 have gl5:d5.length=10:=kAct.len (K5.rd 0 rfl)
 try simp +contextual (disch:=omega) only[go_sem,List.append_nil,ite_self,ne_eq,not_true_eq_false,bne_self_eq_false,beq_self_eq_true,A0 (Ab (hpw.trans H.sub) hb0),hs0,A0 (Ab (hpw.trans H.sub) hb1),hs1,A0 (H.pt 1 rfl),g1,g2,As nt3_0,g4,g5]
 have H:=H.new 1 d5
 try simp +contextual (disch:=omega) only[go_sem,List.append_nil,ite_self,ne_eq,not_true_eq_false,bne_self_eq_false,beq_self_eq_true,A0 (Ab (hpw.trans H.sub) hb0),hs0,A0 (Ab (hpw.trans H.sub) hb1),hs1,A0 (H.pt 0 rfl),A0 (H.pt 2 rfl),g1,g2,As nt3_0,g4,g5,Bg (cs:=[(GV.int .i64 0),(GV.int .i64 0),(GV.int .i64 0),GV.nilS,(GV.int .i64 0),(GV.str ⟨#[]⟩),(GV.str ⟨#[]⟩),(GV.int .i64 0),(GV.int .i64 0),(GV.int .i64 0)]) gl5 rfl,gl5]
 obtain⟨c6_0,τ6,R6,K6⟩:=L4 _ d4 x0 (H.rd 3 rfl) d5 x1 (H.rd 1 rfl) (by omega) (by omega) (A6c H (i:=3) rfl)
 refine Da R6 K6 ?_
 have H:=H.add K6
 try simp only[List.cons_append,List.nil_append] at H
 have nt6_0:=RdN.notup (K6.sl 0 rfl)
 try simp +contextual (disch:=omega) only[go_sem,List.append_nil,ite_self,ne_eq,not_true_eq_false,bne_self_eq_false,beq_self_eq_true,A0 (Ab (hpw.trans H.sub) hb0),hs0,A0 (Ab (hpw.trans H.sub) hb1),hs1,A0 (H.pt 1 rfl),A0 (H.pt 3 rfl),g1,g2,As nt3_0,g4,g5,As nt6_0]
 refine A7 (Jg _ _ _ _ _ (H.sl 0 rfl) (q3_0.pre H.sub) (by have:=Iq x0 x1;have:=Ln x0 x1;omega)) ?_
 try simp +contextual (disch:=omega) only[go_sem,List.append_nil,ite_self,ne_eq,not_true_eq_false,bne_self_eq_false,beq_self_eq_true,A0 (Ab (hpw.trans H.sub) hb0),hs0,A0 (Ab (hpw.trans H.sub) hb1),hs1,A0 (H.pt 1 rfl),A0 (H.pt 3 rfl),g1,g2,As nt3_0,g4,g5,As nt6_0,decide_true,eq_self]
 try simp +contextual (disch:=omega) only[go_sem,List.append_nil,ite_self,ne_eq,not_true_eq_false,bne_self_eq_false,beq_self_eq_true,A0 (Ab (hpw.trans H.sub) hb0),hs0,A0 (Ab (hpw.trans H.sub) hb1),hs1,A0 (H.pt 1 rfl),A0 (H.pt 3 rfl),g1,g2,As nt3_0,g4,g5,As nt6_0]
 obtain⟨_,τ7,R7,_,d7,rfl,K7⟩:=Gp _ cs0 x0 (A8.pre hR0 (hB.trans (hpw.trans H.sub))) (by omega)
 refine Da R7 K7 ?_
 have H:=H.add K7
 try simp only[List.cons_append,List.nil_append] at H
 have g7:=A6 (A8.len (K7.rd 0 rfl))
 have g7:(seg d7 0 4).bind (mkv true)=some (.agg d7):=g7
 have gl7:d7.length=4:=A8.len (K7.rd 0 rfl)
 try simp +contextual (disch:=omega) only[go_sem,List.append_nil,ite_self,ne_eq,not_true_eq_false,bne_self_eq_false,beq_self_eq_true,A0 (Ab (hpw.trans H.sub) hb0),hs0,A0 (Ab (hpw.trans H.sub) hb1),hs1,A0 (H.pt 2 rfl),A0 (H.pt 4 rfl),g1,g2,As nt3_0,g4,g5,As nt6_0,g7]
 refine A7 (Zn _ _ _ _ _ (H.rd 5 rfl) (H.rd 0 rfl) (by omega)) ?_
 try simp +contextual (disch:=omega) only[go_sem,List.append_nil,ite_self,ne_eq,not_true_eq_false,bne_self_eq_false,beq_self_eq_true,A0 (Ab (hpw.trans H.sub) hb0),hs0,A0 (Ab (hpw.trans H.sub) hb1),hs1,A0 (H.pt 2 rfl),A0 (H.pt 4 rfl),g1,g2,As nt3_0,g4,g5,As nt6_0,g7,decide_true,eq_self]
 try simp +contextual (disch:=omega) only[go_sem,List.append_nil,ite_self,ne_eq,not_true_eq_false,bne_self_eq_false,beq_self_eq_true,A0 (Ab (hpw.trans H.sub) hb0),hs0,A0 (Ab (hpw.trans H.sub) hb1),hs1,A0 (H.pt 2 rfl),A0 (H.pt 4 rfl),g1,g2,As nt3_0,g4,g5,As nt6_0,g7]
 obtain⟨_,τ8,R8,_,d8,rfl,K8⟩:=Ji _ cs1 x1 (kAct.pre hR1 (hB.trans (hpw.trans H.sub))) (by omega)
 refine Da R8 K8 ?_
 have H:=H.add K8
 try simp only[List.cons_append,List.nil_append] at H
 have g8:=A6 (kAct.len (K8.rd 0 rfl))
 have g8:(seg d8 0 10).bind (mkv true)=some (.agg d8):=g8
 have gl8:d8.length=10:=kAct.len (K8.rd 0 rfl)
 try simp +contextual (disch:=omega) only[go_sem,List.append_nil,ite_self,ne_eq,not_true_eq_false,bne_self_eq_false,beq_self_eq_true,A0 (Ab (hpw.trans H.sub) hb0),hs0,A0 (Ab (hpw.trans H.sub) hb1),hs1,A0 (H.pt 3 rfl),A0 (H.pt 5 rfl),g1,g2,As nt3_0,g4,g5,As nt6_0,g7,g8]
 refine A7 (A54 _ _ _ _ _ (H.rd 4 rfl) (H.rd 0 rfl) (by omega)) ?_
 try simp +contextual (disch:=omega) only[go_sem,List.append_nil,ite_self,ne_eq,not_true_eq_false,bne_self_eq_false,beq_self_eq_true,A0 (Ab (hpw.trans H.sub) hb0),hs0,A0 (Ab (hpw.trans H.sub) hb1),hs1,A0 (H.pt 3 rfl),A0 (H.pt 5 rfl),g1,g2,As nt3_0,g4,g5,As nt6_0,g7,g8,decide_true,eq_self]
 obtain⟨τ9,R9,H⟩:=Uh 6 d4 x0 (1) H rfl (by omega) (by omega)
 refine Aj R9 ?_
 try simp only[List.set_cons_succ,List.set_cons_zero] at H
 try simp +contextual (disch:=omega) only[go_sem,List.append_nil,ite_self,ne_eq,not_true_eq_false,bne_self_eq_false,beq_self_eq_true,A0 (Ab (hpw.trans H.sub) hb0),hs0,A0 (Ab (hpw.trans H.sub) hb1),hs1,A0 (H.pt 3 rfl),A0 (H.pt 5 rfl),g1,g2,As nt3_0,g4,g5,As nt6_0,g7,g8]
 obtain⟨τ10,R10,H⟩:=Zr 4 d5 x1 (((1:Int))+((Jh x0:Nat):Int)) H rfl (by omega) (by omega)
 refine Aj R10 ?_
 try simp only[List.set_cons_succ,List.set_cons_zero] at H
 try simp +contextual (disch:=omega) only[go_sem,List.append_nil,ite_self,ne_eq,not_true_eq_false,bne_self_eq_false,beq_self_eq_true,A0 (Ab (hpw.trans H.sub) hb0),hs0,A0 (Ab (hpw.trans H.sub) hb1),hs1,A0 (H.pt 3 rfl),A0 (H.pt 5 rfl),g1,g2,As nt3_0,g4,g5,As nt6_0,g7,g8]
 have hng:decide ((((1:Int))+((Jh x0:Nat):Int))+((A2p x1:Nat):Int)<0)=false:=decide_eq_false (by omega)
 try simp +contextual (disch:=omega) only[go_sem,List.append_nil,ite_self,ne_eq,not_true_eq_false,bne_self_eq_false,beq_self_eq_true,A0 (Ab (hpw.trans H.sub) hb0),hs0,A0 (Ab (hpw.trans H.sub) hb1),hs1,A0 (H.pt 3 rfl),A0 (H.pt 5 rfl),g1,g2,As nt3_0,g4,g5,As nt6_0,g7,g8,Ad5,Ad6,hng]
 refine A7 (Jg _ _ _ _ _ (H.sl 2 rfl) (q3_0.pre H.sub) (by have:=Iq x0 x1;have:=Ln x0 x1;omega)) ?_
 try simp +contextual (disch:=omega) only[go_sem,List.append_nil,ite_self,ne_eq,not_true_eq_false,bne_self_eq_false,beq_self_eq_true,A0 (Ab (hpw.trans H.sub) hb0),hs0,A0 (Ab (hpw.trans H.sub) hb1),hs1,A0 (H.pt 3 rfl),A0 (H.pt 5 rfl),g1,g2,As nt3_0,g4,g5,As nt6_0,g7,g8,decide_true,eq_self]
 obtain⟨τ11,R11,H⟩:=Ud 2 c6_0 _ (1) H rfl (by omega) (by have:=Iq x0 x1;have:=Ln x0 x1;omega)
 refine Aj R11 ?_
 try simp only[List.set_cons_succ,List.set_cons_zero] at H
 try simp +contextual (disch:=omega) only[go_sem,List.append_nil,ite_self,ne_eq,not_true_eq_false,bne_self_eq_false,beq_self_eq_true,A0 (Ab (hpw.trans H.sub) hb0),hs0,A0 (Ab (hpw.trans H.sub) hb1),hs1,A0 (H.pt 3 rfl),A0 (H.pt 5 rfl),g1,g2,As nt3_0,g4,g5,As nt6_0,g7,g8]
 refine A7 (L5 _ _ _ 1 (H.sl 2 rfl) (by omega) (by have:=Iq x0 x1;have:=Ln x0 x1;omega)) ?_
 try simp +contextual (disch:=omega) only[go_sem,List.append_nil,ite_self,ne_eq,not_true_eq_false,bne_self_eq_false,beq_self_eq_true,A0 (Ab (hpw.trans H.sub) hb0),hs0,A0 (Ab (hpw.trans H.sub) hb1),hs1,A0 (H.pt 3 rfl),A0 (H.pt 5 rfl),g1,g2,As nt3_0,g4,g5,As nt6_0,g7,g8,Ad5,Ad6]
 obtain⟨_,τ12,R12,_,d12,rfl,K12⟩:=Gp _ cs0 x0 (A8.pre hR0 (hB.trans (hpw.trans H.sub))) (by omega)
 refine Da R12 K12 ?_
 have H:=H.add K12
 try simp only[List.cons_append,List.nil_append] at H
 have g12:=A6 (A8.len (K12.rd 0 rfl))
 have g12:(seg d12 0 4).bind (mkv true)=some (.agg d12):=g12
 have gl12:d12.length=4:=A8.len (K12.rd 0 rfl)
 try simp +contextual (disch:=omega) only[go_sem,List.append_nil,ite_self,ne_eq,not_true_eq_false,bne_self_eq_false,beq_self_eq_true,A0 (Ab (hpw.trans H.sub) hb0),hs0,A0 (Ab (hpw.trans H.sub) hb1),hs1,A0 (H.pt 4 rfl),A0 (H.pt 6 rfl),g1,g2,As nt3_0,g4,g5,As nt6_0,g7,g8,g12]
 obtain⟨_,τ13,R13,_,d13,rfl,K13⟩:=Ji _ cs1 x1 (kAct.pre hR1 (hB.trans (hpw.trans H.sub))) (by omega)
 refine Da R13 K13 ?_
 have H:=H.add K13
 try simp only[List.cons_append,List.nil_append] at H
 have g13:=A6 (kAct.len (K13.rd 0 rfl))
 have g13:(seg d13 0 10).bind (mkv true)=some (.agg d13):=g13
 have gl13:d13.length=10:=kAct.len (K13.rd 0 rfl)
 try simp +contextual (disch:=omega) only[go_sem,List.append_nil,ite_self,ne_eq,not_true_eq_false,bne_self_eq_false,beq_self_eq_true,A0 (Ab (hpw.trans H.sub) hb0),hs0,A0 (Ab (hpw.trans H.sub) hb1),hs1,A0 (H.pt 5 rfl),A0 (H.pt 7 rfl),g1,g2,As nt3_0,g4,g5,As nt6_0,g7,g8,g12,g13]
 obtain⟨c14_0,τ14,R14,K14⟩:=L4 _ d12 x0 (H.rd 1 rfl) d13 x1 (H.rd 0 rfl) (by omega) (by omega) (A6c H (i:=1) rfl)
 refine Da R14 K14 ?_
 have H:=H.add K14
 try simp only[List.cons_append,List.nil_append] at H
 have nt14_0:=RdN.notup (K14.sl 0 rfl)
 try simp +contextual (disch:=omega) only[go_sem,List.append_nil,ite_self,ne_eq,not_true_eq_false,bne_self_eq_false,beq_self_eq_true,A0 (Ab (hpw.trans H.sub) hb0),hs0,A0 (Ab (hpw.trans H.sub) hb1),hs1,A0 (H.pt 6 rfl),A0 (H.pt 8 rfl),g1,g2,As nt3_0,g4,g5,As nt6_0,g7,g8,g12,g13,As nt14_0]
 refine A7 (Jg _ _ _ _ _ (H.sl 0 rfl) (q3_0.pre H.sub) (by have:=Iq x0 x1;have:=Ln x0 x1;omega)) ?_
 try simp +contextual (disch:=omega) only[go_sem,List.append_nil,ite_self,ne_eq,not_true_eq_false,bne_self_eq_false,beq_self_eq_true,A0 (Ab (hpw.trans H.sub) hb0),hs0,A0 (Ab (hpw.trans H.sub) hb1),hs1,A0 (H.pt 6 rfl),A0 (H.pt 8 rfl),g1,g2,As nt3_0,g4,g5,As nt6_0,g7,g8,g12,g13,As nt14_0,decide_true,eq_self]
 refine A7 (L5 _ _ _ 1 (H.sl 5 rfl) (by omega) (by have:=Iq x0 x1;have:=Ln x0 x1;omega)) ?_
 try simp +contextual (disch:=omega) only[go_sem,List.append_nil,ite_self,ne_eq,not_true_eq_false,bne_self_eq_false,beq_self_eq_true,A0 (Ab (hpw.trans H.sub) hb0),hs0,A0 (Ab (hpw.trans H.sub) hb1),hs1,A0 (H.pt 6 rfl),A0 (H.pt 8 rfl),g1,g2,As nt3_0,g4,g5,As nt6_0,g7,g8,g12,g13,As nt14_0,Ad5,Ad6]
 exact(hB.trans (hpw.trans H.sub)).length_le
end
end Go.Proofs.YtbeoiejnogdkpaaGreat.Sy
