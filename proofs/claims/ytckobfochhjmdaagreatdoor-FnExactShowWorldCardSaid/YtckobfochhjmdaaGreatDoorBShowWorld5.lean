/- Texts of this proof, one behind the other. -/
import Derived.Test.YtckobfochhjmdaaGreatDoorBShowWorld4
import Derived.Test.YtckobfochhjmdaaGreatDoorProg
import Derived.KernelRfl
set_option linter.unusedSimpArgs false
set_option linter.unusedVariables false
set_option maxRecDepth 4000
set_option maxHeartbeats 4000000
open List renaming take_length→Zaa,getElem_mem→Zab,length_map→Zac,append_nil→Zad,length_cons→Zae,length_append→Zaf,length_nil→Zag,append_assoc→Zai,mem_of_mem_take→Zak,length_take→Zal,prefix_refl→Zam,length_filter_le→Zan,mem_nil_iff→Zao,cons_append→Zap,mem_append→Zaq,nil_append→Zar,mem_singleton→Zas,mem_cons_self→Zat,mem_cons→Zau,mem_cons_of_mem→Zav,take_zero→Zax,map_cons→Zay
open Nat renaming le_trans→Zah,mul_le_mul_right→Zaj
open Int renaming tmod_nonneg→Zaw
namespace Go.Proofs.YtckobfochhjmdaaGreatDoor.Sy
open Go Go.RowKit
def Pk:Fn1:=⟨163,[.t 2],(rg [oX 1 0,o 2 (.mov (.k s0))] (.seq (rg [oW 24 4 1,oC 25 38 24,oU 26 25] (oG 26 (rg [o 2 (.mov (.k s0))] .ret))) (rg [o 27 (.lit 1 0 [] []),o 28 (.lit 1 0 [] []),o 29 (.lit 1 0 [] []),o 30 (.lit 1 0 [] []),oM 3 27,oM 4 28,oM 5 29,oM 6 30] (.seq (rg [oF 31 1 1,oL 32 31,oN 33 32,oV 34 (ki 0)] (oH 0 (rg [oB 35 .lss 34 33] (.seq (oJ 35 0) (.seq (.blk 1 (rg [oI 36 3 32 34,oW 37 3 36,o 8 (.new [s0,z0,z0]),oS 3 8 37] (.reg [oM 38 3,oF 39 0 8,oL 40 39,o 41 (.lit 1 1 [s0] [(0,1,(.t 40))]),o 42 (.app 1 16 [s0] (.t 38) (.t 41)),oM 3 42]))) (.reg [oZ 43 34 1,oM 34 43])))))) (.seq (rg [oF 44 2 1,oL 45 44,oN 46 45,oV 47 (ki 0)] (oH 2 (rg [oB 48 .lss 47 46] (.seq (oJ 48 2) (.seq (.blk 3 (rg [oI 49 6 45 47,oW 50 6 49,o 10 (.new [(.bool false),s0,s0,z0,z0,z0]),oS 6 10 50] (rg [oF 51 0 10,oL 52 51] (cn 52 (.reg [oM 53 5,oF 54 1 10,oL 55 54,o 56 (.lit 1 1 [s0] [(0,1,(.t 55))]),o 57 (.app 1 16 [s0] (.t 53) (.t 56)),oM 5 57]) (.reg [oM 58 4,oF 59 1 10,oL 60 59,o 61 (.lit 1 1 [s0] [(0,1,(.t 60))]),o 62 (.app 1 16 [s0] (.t 58) (.t 61)),oM 4 62]))))) (.reg [oZ 63 47 1,oM 47 63])))))) (.seq (rg [oF 64 3 1,oL 65 64,oN 66 65,oV 67 (ki 0)] (oH 4 (rg [oB 68 .lss 67 66] (.seq (oJ 68 4) (.seq (.blk 5 (rg [oI 69 8 65 67,oW 70 8 69,o 12 (.new [s0,z0,z0,z0,z0,z0,z0,(.bool false)]),oS 8 12 70] (.reg [oM 71 6,oF 72 0 12,oL 73 72,o 74 (.lit 1 1 [s0] [(0,1,(.t 73))]),o 75 (.app 1 16 [s0] (.t 71) (.t 74)),oM 6 75]))) (.reg [oZ 76 67 1,oM 67 76])))))) (rg [oF 77 0 1,oL 78 77,o 79 (.lit 1 1 [s0] [(0,1,(.k (.str ⟨#[107,110,111,119]⟩)))]),oD 80 39 78 79,oC 81 35 80,oM 13 81] (.seq (rg [oM 82 3,oC 83 40 82,oN 84 83,oV 85 (ki 0)] (oH 6 (rg [oB 86 .lss 85 84] (.seq (oJ 86 6) (.seq (.blk 7 (rg [oI 87 1 83 85,oL 88 87,oM 15 88] (.reg [oM 89 13,oW 90 4 1,oM 91 15,oD 92 41 90 91,o 93 (.lit 1 1 [z0] [(0,1,(.t 92))]),oM 94 15,o 95 (.lit 1 2 [s0,s0] [(0,1,(.k (.str ⟨#[99,111,117,110,116]⟩))),(1,1,(.t 94))]),oD 96 39 93 95,oC 97 35 96,oB 98 .add 89 97,oM 13 98]))) (.reg [oZ 99 85 1,oM 85 99])))))) (.seq (rg [oM 100 4,oC 101 40 100,oN 102 101,oV 103 (ki 0)] (oH 8 (rg [oB 104 .lss 103 102] (.seq (oJ 104 8) (.seq (.blk 9 (rg [oI 105 1 101 103,oL 106 105,oM 17 106] (.reg [oM 107 13,oM 108 17,o 109 (.lit 1 2 [s0,s0] [(0,1,(.k (.str ⟨#[115,101,116]⟩))),(1,1,(.t 108))]),oW 110 4 1,oM 111 17,oD 112 42 110 111,o 113 (.app 1 16 [s0] (.t 109) (.t 112)),oC 114 35 113,oB 115 .add 107 114,oM 13 115]))) (.reg [oZ 116 103 1,oM 103 116])))))) (.seq (rg [oM 117 5,oC 118 40 117,oN 119 118,oV 120 (ki 0)] (oH 10 (rg [oB 121 .lss 120 119] (.seq (oJ 121 10) (.seq (.blk 11 (rg [oI 122 1 118 120,oL 123 122,oM 19 123] (rg [oW 124 4 1,oM 125 19,oD 126 43 124 125,oN 127 126,oV 128 (ki 0)] (oH 12 (rg [oB 129 .lss 128 127] (.seq (oJ 129 12) (.seq (.blk 13 (rg [oI 130 1 126 128,oL 131 130,oM 21 131] (.reg [oM 132 13,oW 133 4 1,oM 134 19,oM 135 21,o 136 (.call 44 (oT [133,134,135])),oM 137 19,oM 138 21,o 139 (.lit 1 3 [s0,s0,s0] [(0,1,(.k (.str ⟨#[109,97,112]⟩))),(1,1,(.t 137)),(2,1,(.t 138))]),oD 140 39 136 139,oC 141 35 140,oB 142 .add 132 141,oM 13 142]))) (.reg [oZ 143 128 1,oM 128 143])))))))) (.reg [oZ 144 120 1,oM 120 144])))))) (.seq (rg [oM 145 6,oC 146 40 145,oN 147 146,oV 148 (ki 0)] (oH 14 (rg [oB 149 .lss 148 147] (.seq (oJ 149 14) (.seq (.blk 15 (rg [oI 150 1 146 148,oL 151 150,oM 23 151] (.reg [oM 152 13,oW 153 4 1,oM 154 23,oD 155 45 153 154,oM 156 23,o 157 (.lit 1 2 [s0,s0] [(0,1,(.k (.str ⟨#[114,111,119]⟩))),(1,1,(.t 156))]),oD 158 39 155 157,oC 159 35 158,oB 160 .add 152 159,oM 13 160]))) (.reg [oZ 161 148 1,oM 148 161])))))) (rg [oM 162 13,oM 2 162] .ret))))))))))))⟩
theorem A1j:A2 Tryz.prog 14=some Pk:=by kernel_rfl
theorem A0j (U:St) (cs:List GV) (s:State) (hR:Ab.R U s cs) (hl:A7 s<=1048576) (hI:stI s):Ret Tryz.prog 14 [.agg cs] U (.str (Pf s)) U:=by
 have hR0:=hR
 obtain⟨a,b,c,v,rfl,ha,hb,hc,hv⟩:=hR
 have hl':A7 s<=1099511627776:=by omega
 have gl:([a,b,c,v]:List GV).length=4:=rfl
 refine I6 A1j (Z0z rfl) trivial ?_
 simp +contextual (disch:=omega) only[go_sem,Pk]
 intro n f N H
 refine by_b H (Oo N _ s (Ab.pre hR0 H.sub) hl') (fun hok=> ?_) (fun hok=> ?_)
 rotate_left
 ·simp +contextual (disch:=omega) only[go_sem]
  simp[Pf,hok]
 have O:=Acd.1 hok
 have hS:Pf s=shw3 s:=by simp[Pf,hok]
 rw[hS]
 simp +contextual (disch:=omega) only[go_sem,hb.len]
 intro n1 f1 N1 _ n2 f2 N2 _ n3 f3 N3 _ n4 f4 N4 H4
 have H4:=(((((H4.emp pS.kd rfl).re [1,0,2,3,4] (by decide)).emp pS.kd rfl).re [2,0,1,3,4] (by decide)).emp pS.kd rfl)
 have H4:=(H4.re [3,0,1,2,4] (by decide)).emp pS.kd rfl
 have hr0:=hS
 clear hS hr0 H
 refine C3 s.tallies.length 34 0 (fun i env h=>env 1= .ptr n 0/\env 32=b/\env 33=gi s.tallies.length/\∃ u1 u2 u3 u4,env 3=u1/\env 4=u2/\env 5=u3/\env 6=u4/\h=[.th (ow pS.kd u1 ((s.tallies.take i).map (·.obj))),.th (ow pS.kd u2 []),.th (ow pS.kd u3 []),.th (ow pS.kd u4 []),.box 1 n [a,b,c,v]]) (fun env h=>env 1= .ptr n 0/\∃ u1 u2 u3 u4,env 3=u1/\env 4=u2/\env 5=u3/\env 6=u4/\h=[.th (ow pS.kd u1 (E5 s)),.th (ow pS.kd u2 []),.th (ow pS.kd u3 []),.th (ow pS.kd u4 []),.box 1 n [a,b,c,v]]) (fun env h=>False) _ H4 (by simp +contextual (disch:=omega) only[go_sem]) ⟨by simp +contextual (disch:=omega) only[go_sem],by simp +contextual (disch:=omega) only[go_sem],by simp +contextual (disch:=omega) only[go_sem],_,_,_,_,by simp +contextual (disch:=omega) only[go_sem],by simp +contextual (disch:=omega) only[go_sem],by simp +contextual (disch:=omega) only[go_sem],by simp +contextual (disch:=omega) only[go_sem],rfl⟩ ?_ ?_ ?_ (fun _ _ _ _ h=>h.elim)
 ·clear H4
  rintro J Yq Wq hJ hY hW i env h N hi ei c0 H ⟨e1,e32,e33,u1,u2,u3,u4,e3,e4,e5,e6,rfl⟩
  have L1:=Aa hb hi
  have htn:=O.tn
  simp +contextual (disch:=omega) only[go_sem,c0,e1,e32,e33,e3,ei,A1,L1]
  intro n8 f8 N8 _ N9 _ n41 f41 N10 H10
  refine Q9 (p:=pS) H10 2 rfl s.tallies[i].obj Q8 (by decide) (by rw[Zac,Zal];omega) fun w' N5 H5=> ?_
  simp +contextual (disch:=omega) only[go_sem,e1,e32,e33,e3,e4,e5,e6,ei]
  exact hJ _ _ _ _ (H5.re [2,3,4,5,6] (by decide)) ⟨by simp +contextual (disch:=omega) only[go_sem,e1],by simp +contextual (disch:=omega) only[go_sem,e32],by simp +contextual (disch:=omega) only[go_sem,e33],w',u2,u3,u4,by simp +contextual (disch:=omega) only[go_sem],by simp +contextual (disch:=omega) only[go_sem,e4],by simp +contextual (disch:=omega) only[go_sem,e5],by simp +contextual (disch:=omega) only[go_sem,e6],by rw[Og hi];rfl⟩
 ·clear H4
  rintro Yq hY env h N ei c0 H ⟨e1,e32,e33,u1,u2,u3,u4,e3,e4,e5,e6,rfl⟩
  rw[Zaa] at H
  simp +contextual (disch:=omega) only[go_sem,c0,e33,ei]
  exact hY _ _ _ H ⟨by simp +contextual (disch:=omega) only[go_sem,e1],u1,u2,u3,u4,by simp +contextual (disch:=omega) only[go_sem,e3],by simp +contextual (disch:=omega) only[go_sem,e4],by simp +contextual (disch:=omega) only[go_sem,e5],by simp +contextual (disch:=omega) only[go_sem,e6],rfl⟩
 clear H4
 rintro env h N H ⟨e1,u1,u2,u3,u4,e3,e4,e5,e6,rfl⟩
 simp +contextual (disch:=omega) only[go_sem,e1,hc.len]
 refine C3 s.lives.length 47 2 (fun i env h=>env 1= .ptr n 0/\env 45=c/\env 46=gi s.lives.length/\∃ u1 u2 u3 u4,env 3=u1/\env 4=u2/\env 5=u3/\env 6=u4/\h=[.th (ow pS.kd u1 (E5 s)),.th (ow pS.kd u2 (((s.lives.take i).filter fun x=>x.map==false).map (·.obj))),.th (ow pS.kd u3 (((s.lives.take i).filter fun x=>x.map==true).map (·.obj))),.th (ow pS.kd u4 []),.box 1 n [a,b,c,v]]) (fun env h=>env 1= .ptr n 0/\∃ u1 u2 u3 u4,env 3=u1/\env 4=u2/\env 5=u3/\env 6=u4/\h=[.th (ow pS.kd u1 (E5 s)),.th (ow pS.kd u2 (Bc s false)),.th (ow pS.kd u3 (Bc s true)),.th (ow pS.kd u4 []),.box 1 n [a,b,c,v]]) (fun env h=>False) _ H (by simp +contextual (disch:=omega) only[go_sem]) ⟨by simp +contextual (disch:=omega) only[go_sem,e1],by simp +contextual (disch:=omega) only[go_sem],by simp +contextual (disch:=omega) only[go_sem],u1,u2,u3,u4,by simp +contextual (disch:=omega) only[go_sem,e3],by simp +contextual (disch:=omega) only[go_sem,e4],by simp +contextual (disch:=omega) only[go_sem,e5],by simp +contextual (disch:=omega) only[go_sem,e6],rfl⟩ ?_ ?_ ?_ (fun _ _ _ _ h=>h.elim)
 ·clear H e1 e3 e4 e5 e6
  rintro J Yq Wq hJ hY hW i env h N hi ei c0 H ⟨e1,e45,e46,u1,u2,u3,u4,e3,e4,e5,e6,rfl⟩
  have L1:=A3 hc hi
  have hln:=O.ln
  have hfl:∀ m,(((s.lives.take i).filter fun x=>x.map==m).map (·.obj)).length<=s.lives.length:=fun m=>by
   have:=Zan (fun x:Live=>x.map==m) (s.lives.take i)
   rw[Zal] at this
   rw[Zac];omega
  have hf1:=hfl true
  have hf2:=hfl false
  cases hm:s.lives[i].map with
  |true=>
   simp +contextual (disch:=omega) only[go_sem,c0,e1,e45,e46,e5,ei,A1,L1,hm]
   intro n10 f10 N8 _ N9 _ n56 f56 N10 H10
   refine Q9 (p:=pS) H10 4 rfl s.lives[i].obj Q8 (by decide) (by omega) fun w' N5 H5=> ?_
   simp +contextual (disch:=omega) only[go_sem,e1,e45,e46,e3,e4,e5,e6,ei]
   exact hJ _ _ _ _ (H5.re [2,3,4,5,6] (by decide)) ⟨by simp +contextual (disch:=omega) only[go_sem,e1],by simp +contextual (disch:=omega) only[go_sem,e45],by simp +contextual (disch:=omega) only[go_sem,e46],u1,u2,w',u4,by simp +contextual (disch:=omega) only[go_sem,e3],by simp +contextual (disch:=omega) only[go_sem,e4],by simp +contextual (disch:=omega) only[go_sem],by simp +contextual (disch:=omega) only[go_sem,e6],by rw[A60 hi (m:=true) (by rw[hm];rfl),A61 hi (m:=false) (by rw[hm];rfl)];rfl⟩
  |false=>
   simp +contextual (disch:=omega) only[go_sem,c0,e1,e45,e46,e4,ei,A1,L1,hm]
   intro n10 f10 N8 _ N9 _ n56 f56 N10 H10
   refine Q9 (p:=pS) H10 3 rfl s.lives[i].obj Q8 (by decide) (by omega) fun w' N5 H5=> ?_
   simp +contextual (disch:=omega) only[go_sem,e1,e45,e46,e3,e4,e5,e6,ei]
   exact hJ _ _ _ _ (H5.re [2,3,4,5,6] (by decide)) ⟨by simp +contextual (disch:=omega) only[go_sem,e1],by simp +contextual (disch:=omega) only[go_sem,e45],by simp +contextual (disch:=omega) only[go_sem,e46],u1,w',u3,u4,by simp +contextual (disch:=omega) only[go_sem,e3],by simp +contextual (disch:=omega) only[go_sem],by simp +contextual (disch:=omega) only[go_sem,e5],by simp +contextual (disch:=omega) only[go_sem,e6],by rw[A61 hi (m:=true) (by rw[hm];rfl),A60 hi (m:=false) (by rw[hm];rfl)];rfl⟩
 ·clear H e1 e3 e4 e5 e6
  rintro Yq hY env h N ei c0 H ⟨e1,e45,e46,u1,u2,u3,u4,e3,e4,e5,e6,rfl⟩
  rw[Zaa] at H
  simp +contextual (disch:=omega) only[go_sem,c0,e46,ei]
  exact hY _ _ _ H ⟨by simp +contextual (disch:=omega) only[go_sem,e1],u1,u2,u3,u4,by simp +contextual (disch:=omega) only[go_sem,e3],by simp +contextual (disch:=omega) only[go_sem,e4],by simp +contextual (disch:=omega) only[go_sem,e5],by simp +contextual (disch:=omega) only[go_sem,e6],rfl⟩
 clear H e1 e3 e4 e5 e6
 rintro env h N H ⟨e1,u1,u2,u3,u4,e3,e4,e5,e6,rfl⟩
 simp +contextual (disch:=omega) only[go_sem,e1,hv.len]
 refine C3 s.cells.length 67 4 (fun i env h=>env 1= .ptr n 0/\env 65=v/\env 66=gi s.cells.length/\∃ u1 u2 u3 u4,env 3=u1/\env 4=u2/\env 5=u3/\env 6=u4/\h=[.th (ow pS.kd u1 (E5 s)),.th (ow pS.kd u2 (Bc s false)),.th (ow pS.kd u3 (Bc s true)),.th (ow pS.kd u4 ((s.cells.take i).map (·.obj))),.box 1 n [a,b,c,v]]) (fun env h=>env 1= .ptr n 0/\∃ u1 u2 u3 u4,env 3=u1/\env 4=u2/\env 5=u3/\env 6=u4/\h=[.th (ow pS.kd u1 (E5 s)),.th (ow pS.kd u2 (Bc s false)),.th (ow pS.kd u3 (Bc s true)),.th (ow pS.kd u4 (E6 s)),.box 1 n [a,b,c,v]]) (fun env h=>False) _ H (by simp +contextual (disch:=omega) only[go_sem]) ⟨by simp +contextual (disch:=omega) only[go_sem,e1],by simp +contextual (disch:=omega) only[go_sem],by simp +contextual (disch:=omega) only[go_sem],u1,u2,u3,u4,by simp +contextual (disch:=omega) only[go_sem,e3],by simp +contextual (disch:=omega) only[go_sem,e4],by simp +contextual (disch:=omega) only[go_sem,e5],by simp +contextual (disch:=omega) only[go_sem,e6],rfl⟩ ?_ ?_ ?_ (fun _ _ _ _ h=>h.elim)
 ·clear H e1 e3 e4 e5 e6
  rintro J Yq Wq hJ hY hW i env h N hi ei c0 H ⟨e1,e65,e66,u1,u2,u3,u4,e3,e4,e5,e6,rfl⟩
  have L1:=A6 hv hi
  have hcn:=O.cn
  simp +contextual (disch:=omega) only[go_sem,c0,e1,e65,e66,e6,ei,A1,L1]
  intro n12 f12 N8 _ N9 _ n74 f74 N10 H10
  refine Q9 (p:=pS) H10 5 rfl s.cells[i].obj Q8 (by decide) (by rw[Zac,Zal];omega) fun w' N5 H5=> ?_
  simp +contextual (disch:=omega) only[go_sem,e1,e65,e66,e3,e4,e5,e6,ei]
  exact hJ _ _ _ _ (H5.re [2,3,4,5,6] (by decide)) ⟨by simp +contextual (disch:=omega) only[go_sem,e1],by simp +contextual (disch:=omega) only[go_sem,e65],by simp +contextual (disch:=omega) only[go_sem,e66],u1,u2,u3,w',by simp +contextual (disch:=omega) only[go_sem,e3],by simp +contextual (disch:=omega) only[go_sem,e4],by simp +contextual (disch:=omega) only[go_sem,e5],by simp +contextual (disch:=omega) only[go_sem],by rw[Og hi];rfl⟩
 ·clear H e1 e3 e4 e5 e6
  rintro Yq hY env h N ei c0 H ⟨e1,e65,e66,u1,u2,u3,u4,e3,e4,e5,e6,rfl⟩
  rw[Zaa] at H
  simp +contextual (disch:=omega) only[go_sem,c0,e66,ei]
  exact hY _ _ _ H ⟨by simp +contextual (disch:=omega) only[go_sem,e1],u1,u2,u3,u4,by simp +contextual (disch:=omega) only[go_sem,e3],by simp +contextual (disch:=omega) only[go_sem,e4],by simp +contextual (disch:=omega) only[go_sem,e5],by simp +contextual (disch:=omega) only[go_sem,e6],rfl⟩
 clear H e1 e3 e4 e5 e6
 rintro env h N H ⟨e1,u1,u2,u3,u4,e3,e4,e5,e6,rfl⟩
 have hkl:s.know.length<=1048576:=Zah (show s.know.length<=A7 s by unfold A7;omega) hl
 simp +contextual (disch:=omega) only[go_sem,e1]
 intro n79 f79 N79 H79
 obtain⟨r80,N80,R80,K80⟩:=Dg N79 a s.know (ha.pre H79.sub) (.sl n79 0 1) [⟨#[107,110,111,119]⟩] (A25 (p:=pS) (H79.hp.pt 0 rfl)) (A9v O) (by omega) (by simp)
 refine by_c H79 R80 K80 fun H80=> ?_
 simp +contextual (disch:=omega) only[go_sem,e1,e3,e4,e5,e6]
 obtain⟨fp80,ho80,_⟩:=H80.hp.see (i:=0) rfl
 have eK:Pb ([⟨#[107,110,111,119]⟩]++B4 s.know)=Mc s:=Pd (by simp) _
 have hkw:∀ x∈([⟨#[107,110,111,119]⟩]++B4 s.know:List ByteArray),x.size<=21:=fun x hx=>by
  rcases Zaq.1 hx with h|h
  ·rw[Zas] at h;subst h;exact Z0z rfl
  ·exact Fk (A9v O) x h
 have hkn:([⟨#[107,110,111,119]⟩]++B4 s.know:List ByteArray).length<=1048577:=by simp only[Zaf,Zae,Zag,B4,Zac];omega
 refine by_r H80 (Eb N80 r80 _ fp80 ho80 21 hkw (Zah (Zaj _ hkn) (by decide)) (by omega)) ?_
 rw[eK]
 have z0:=Qr O hl
 obtain⟨q1,q2,q3⟩:=Kz hl
 obtain⟨m1,m2,m3⟩:=Qp O
 have m2f:=m2 false
 have m2t:=m2 true
 obtain⟨r83,N83,R83,K83⟩:=Gd H80 2 rfl (by have:=O.tn;simp only[E5,Zac];omega)
 simp +contextual (disch:=omega) only[go_sem,e1,e3,e4,e5,e6]
 refine by_m R83 K83 ?_
 have L83:=(K83.hp.sl 2 rfl).len
 simp +contextual (disch:=omega) only[go_sem,L83]
 refine C3 (A9 txLt (E5 s)).length 85 6 (fun i env h=>env 1= .ptr n 0/\env 4=u2/\env 5=u3/\env 6=u4/\env 13= .str (Mc s++catS (((A9 txLt (E5 s)).take i).map (cntL s)))/\env 83=r83/\env 84=gi (A9 txLt (E5 s)).length/\h=[.th (ow pS.kd r83 (A9 txLt (E5 s))),.th (ow pS.kd u2 (Bc s false)),.th (ow pS.kd u3 (Bc s true)),.th (ow pS.kd u4 (E6 s)),.box 1 n [a,b,c,v]]) (fun env h=>env 1= .ptr n 0/\env 4=u2/\env 5=u3/\env 6=u4/\env 13= .str (shw0 s)/\h=[.th (ow pS.kd u2 (Bc s false)),.th (ow pS.kd u3 (Bc s true)),.th (ow pS.kd u4 (E6 s)),.box 1 n [a,b,c,v]]) (fun env h=>False) _ (K83.re [2,3,4,5,6] (by decide)) (by simp +contextual (disch:=omega) only[go_sem]) ⟨by simp +contextual (disch:=omega) only[go_sem,e1],by simp +contextual (disch:=omega) only[go_sem,e4],by simp +contextual (disch:=omega) only[go_sem,e5],by simp +contextual (disch:=omega) only[go_sem,e6],by simp +contextual (disch:=omega) only[go_sem,Ka],by simp +contextual (disch:=omega) only[go_sem],by simp +contextual (disch:=omega) only[go_sem],rfl⟩ ?_ ?_ ?_ (fun _ _ _ _ h=>h.elim)
 ·clear H H79 H80 K80 K83 R80 R83 ho80 L83 e1 e3 e4 e5 e6
  rintro J Yq Wq hJ hY hW i env h N hi ei c0 H ⟨e1,e4,e5,e6,e13,e83,e84,rfl⟩
  have L1:=Gu (H.hp.sl 0 rfl) hi
  have ho:=q1 _ (Zab hi)
  have hT:=Cl (B:=Mc s) (f:=cntL s) (fun o ho=>Pg (q1 o ho)) m1 i
  have hn:=Da (B:=Mc s) (f:=cntL s) hi
  have hf:=Pg (s:=s) ho
  have eL:Pb ([⟨#[99,111,117,110,116]⟩,(A9 txLt (E5 s))[i]]++B4 [C5 s (A9 txLt (E5 s))[i]])=cntL s (A9 txLt (E5 s))[i]:=Pd (by simp) _
  generalize(A9 txLt (E5 s))[i]=o at*
  generalize Mc s++catS (((A9 txLt (E5 s)).take i).map (cntL s))=T at*
  simp +contextual (disch:=omega) only[go_sem,c0,e1,e4,e5,e6,e13,e83,e84,ei,A1,Eo H L1.2,L1]
  refine by_r H (A5u N _ s (Ab.pre hR0 H.sub) o hl') ?_
  simp +contextual (disch:=omega) only[go_sem]
  intro n93 f93 N93 _ n95 f95 N95 H95
  obtain⟨r96,N96,R96,K96⟩:=Dg N95 (.sl n93 0 1) [C5 s o] (A25 (p:=pI) (H95.hp.pt 1 rfl)) (.sl n95 0 2) [⟨#[99,111,117,110,116]⟩,o] ((Hx.row (p:=pS) H95 [⟨#[99,111,117,110,116]⟩,o] rfl rfl).hp.sl 0 rfl) (P9 s o) (by simp) (by simp)
  refine by_c H95 R96 K96 fun H96=> ?_
  simp +contextual (disch:=omega) only[go_sem]
  obtain⟨fp,hof,_⟩:=H96.hp.see (i:=0) rfl
  refine by_r H96 (Eb N96 r96 _ fp hof 1048576 (fun x hx=>by
   rcases Zaq.1 hx with h|h
   ·simp only[Zau,Zao,or_false] at h
    rcases h with rfl|rfl
    ·exact Z0z rfl
    ·exact ho
   ·exact Zah (Fk (P9 s o) x h) (by decide)) (by simp only[Zaf,Zae,Zag,B4,Zac];decide) (by simp[B4])) ?_
  rw[eL]
  have b1:T.size+(cntL s o).size<=9223372036854775807:=by omega
  simp +contextual (disch:=omega) only[go_sem,e1,e4,e5,e6,e13,e83,e84,ei,b1]
  exact hJ _ _ _ _ (H96.re [3,4,5,6,7] (by decide)) ⟨by simp +contextual (disch:=omega) only[go_sem,e1],by simp +contextual (disch:=omega) only[go_sem,e4],by simp +contextual (disch:=omega) only[go_sem,e5],by simp +contextual (disch:=omega) only[go_sem,e6],by rw[hn];simp +contextual (disch:=omega) only[go_sem],by simp +contextual (disch:=omega) only[go_sem,e83],by simp +contextual (disch:=omega) only[go_sem,e84],rfl⟩
 ·clear H H79 H80 K80 K83 R80 R83 ho80 L83 e1 e3 e4 e5 e6
  rintro Yq hY env h N ei c0 H ⟨e1,e4,e5,e6,e13,e83,e84,rfl⟩
  rw[Zaa] at e13
  simp +contextual (disch:=omega) only[go_sem,c0,e84,ei]
  exact hY _ _ _ (H.re [1,2,3,4] (by decide)) ⟨by simp +contextual (disch:=omega) only[go_sem,e1],by simp +contextual (disch:=omega) only[go_sem,e4],by simp +contextual (disch:=omega) only[go_sem,e5],by simp +contextual (disch:=omega) only[go_sem,e6],by simp +contextual (disch:=omega) only[go_sem,e13];rfl,rfl⟩
 clear H H79 H80 K80 K83 R80 R83 ho80 L83 e1 e3 e4 e5 e6
 rintro env h N H ⟨e1,e4,e5,e6,e13,rfl⟩
 have z1:=A0g O hl
 obtain⟨r101,N101,R101,K101⟩:=Gd H 0 rfl (by have:=Zan (fun x:Live=>x.map==false) s.lives;have:=O.ln;simp only[Bc,Zac];omega)
 simp +contextual (disch:=omega) only[go_sem,e1,e4,e5,e6,e13]
 refine by_m R101 K101 ?_
 have L101:=(K101.hp.sl 0 rfl).len
 simp +contextual (disch:=omega) only[go_sem,L101]
 refine C3 (A9 txLt (Bc s false)).length 103 8 (fun i env h=>env 1= .ptr n 0/\env 5=u3/\env 6=u4/\env 13= .str (shw0 s++catS (((A9 txLt (Bc s false)).take i).map (setL s)))/\env 101=r101/\env 102=gi (A9 txLt (Bc s false)).length/\h=[.th (ow pS.kd r101 (A9 txLt (Bc s false))),.th (ow pS.kd u3 (Bc s true)),.th (ow pS.kd u4 (E6 s)),.box 1 n [a,b,c,v]]) (fun env h=>env 1= .ptr n 0/\env 5=u3/\env 6=u4/\env 13= .str (shw1 s)/\h=[.th (ow pS.kd u3 (Bc s true)),.th (ow pS.kd u4 (E6 s)),.box 1 n [a,b,c,v]]) (fun env h=>False) _ K101 (by simp +contextual (disch:=omega) only[go_sem]) ⟨by simp +contextual (disch:=omega) only[go_sem,e1],by simp +contextual (disch:=omega) only[go_sem,e5],by simp +contextual (disch:=omega) only[go_sem,e6],by simp +contextual (disch:=omega) only[go_sem,e13,Ka],by simp +contextual (disch:=omega) only[go_sem],by simp +contextual (disch:=omega) only[go_sem],rfl⟩ ?_ ?_ ?_ (fun _ _ _ _ h=>h.elim)
 ·clear H K101 R101 L101 e1 e4 e5 e6 e13
  rintro J Yq Wq hJ hY hW i env h N hi ei c0 H ⟨e1,e5,e6,e13,e101,e102,rfl⟩
  have L1:=Gu (H.hp.sl 0 rfl) hi
  have ho:=q2 _ _ (Zab hi)
  have hT:=Cl (B:=shw0 s) (f:=setL s) (fun o ho=>Ph O hl (q2 _ o ho)) m2f i
  have hn:=Da (B:=shw0 s) (f:=setL s) hi
  have hf:=Ph O hl ho
  generalize(A9 txLt (Bc s false))[i]=o at*
  generalize shw0 s++catS (((A9 txLt (Bc s false)).take i).map (setL s))=T at*
  have hk:=L4 O false o
  simp +contextual (disch:=omega) only[go_sem,c0,e1,e5,e6,e13,e101,e102,ei,A1,Eo H L1.2,L1]
  intro n109 f109 N109 H109
  obtain⟨r112,N112,R112,K112⟩:=Ac6 N109 _ s (Ab.pre hR0 H109.sub) o hl'
  refine by_c H109 R112 K112 fun H112=> ?_
  simp +contextual (disch:=omega) only[go_sem]
  have H112:=(H112.re [1,0,2,3,4,5] (by decide)).row (p:=pS) [⟨#[115,101,116]⟩,o] rfl rfl
  refine Ajo (p:=pS) H112 0 rfl (H112.hp.sl 1 rfl) (by decide) (by simp only[Zae,Zag];omega) fun w' N5 H5=> ?_
  simp +contextual (disch:=omega) only[go_sem]
  obtain⟨fp,hof,_⟩:=H5.hp.see (i:=0) rfl
  refine by_r H5 (Eb N5 w' _ fp hof 1048576 (A9w hl ho) (Zah (Zaj _ (show _<=122 by simp only[Zaf,Zae,Zag];omega)) (by decide)) (by simp only[Zaf,Zae,Zag];omega)) ?_
  have eL:Pb ([⟨#[115,101,116]⟩,o]++Ba s false o)=setL s o:=rfl
  rw[eL]
  have b1:T.size+(setL s o).size<=9223372036854775807:=by omega
  simp +contextual (disch:=omega) only[go_sem,e1,e5,e6,e13,e101,e102,ei,b1]
  exact hJ _ _ _ _ (H5.re [2,3,4,5] (by decide)) ⟨by simp +contextual (disch:=omega) only[go_sem,e1],by simp +contextual (disch:=omega) only[go_sem,e5],by simp +contextual (disch:=omega) only[go_sem,e6],by rw[hn];simp +contextual (disch:=omega) only[go_sem],by simp +contextual (disch:=omega) only[go_sem,e101],by simp +contextual (disch:=omega) only[go_sem,e102],rfl⟩
 ·clear H K101 R101 L101 e1 e4 e5 e6 e13
  rintro Yq hY env h N ei c0 H ⟨e1,e5,e6,e13,e101,e102,rfl⟩
  rw[Zaa] at e13
  simp +contextual (disch:=omega) only[go_sem,c0,e102,ei]
  exact hY _ _ _ (H.re [1,2,3] (by decide)) ⟨by simp +contextual (disch:=omega) only[go_sem,e1],by simp +contextual (disch:=omega) only[go_sem,e5],by simp +contextual (disch:=omega) only[go_sem,e6],by simp +contextual (disch:=omega) only[go_sem,e13];rfl,rfl⟩
 clear H K101 R101 L101 e1 e4 e5 e6 e13
 rintro env h N H ⟨e1,e5,e6,e13,rfl⟩
 have z2:=A0h O hl
 obtain⟨r118,N118,R118,K118⟩:=Gd H 0 rfl (by have:=Zan (fun x:Live=>x.map==true) s.lives;have:=O.ln;simp only[Bc,Zac];omega)
 simp +contextual (disch:=omega) only[go_sem,e1,e5,e6,e13]
 refine by_m R118 K118 ?_
 have L118:=(K118.hp.sl 0 rfl).len
 simp +contextual (disch:=omega) only[go_sem,L118]
 refine C3 (A9 txLt (Bc s true)).length 120 10 (fun i env h=>env 1= .ptr n 0/\env 6=u4/\env 13= .str (shw1 s++catS (((A9 txLt (Bc s true)).take i).map (Pe s)))/\env 118=r118/\env 119=gi (A9 txLt (Bc s true)).length/\h=[.th (ow pS.kd r118 (A9 txLt (Bc s true))),.th (ow pS.kd u4 (E6 s)),.box 1 n [a,b,c,v]]) (fun env h=>env 1= .ptr n 0/\env 6=u4/\env 13= .str (shw2 s)/\h=[.th (ow pS.kd u4 (E6 s)),.box 1 n [a,b,c,v]]) (fun env h=>False) _ K118 (by simp +contextual (disch:=omega) only[go_sem]) ⟨by simp +contextual (disch:=omega) only[go_sem,e1],by simp +contextual (disch:=omega) only[go_sem,e6],by simp +contextual (disch:=omega) only[go_sem,e13,Ka],by simp +contextual (disch:=omega) only[go_sem],by simp +contextual (disch:=omega) only[go_sem],rfl⟩ ?_ ?_ ?_ (fun _ _ _ _ h=>h.elim)
 ·clear H K118 R118 L118 e1 e5 e6 e13
  rintro J Yq Wq hJ hY hW i env h N hi ei c0 H ⟨e1,e6,e13,e118,e119,rfl⟩
  have L1:=Gu (H.hp.sl 0 rfl) hi
  have ho:=q2 _ _ (Zab hi)
  have hT:=Cl (B:=shw1 s) (f:=Pe s) (fun o ho=>Qq O hI hl (q2 _ o ho)) m2t i
  have hn:=Da (B:=shw1 s) (f:=Pe s) hi
  generalize(A9 txLt (Bc s true))[i]=o at*
  generalize shw1 s++catS (((A9 txLt (Bc s true)).take i).map (Pe s))=T at*
  have hk:=L4 O true o
  have hko:=Pa hl true o
  simp +contextual (disch:=omega) only[go_sem,c0,e1,e6,e13,e118,e119,ei,A1,Eo H L1.2,L1]
  obtain⟨r126,N126,R126,K126⟩:=A9m N _ s (Ab.pre hR0 H.sub) o hl'
  refine by_c H R126 K126 fun H126=> ?_
  have L126:=(H126.hp.sl 0 rfl).len
  simp +contextual (disch:=omega) only[go_sem,L126]
  refine C3 (Ba s true o).length 128 12 (fun j env h=>env 1= .ptr n 0/\env 6=u4/\env 13= .str (T++catS (((Ba s true o).take j).map (mapL s o)))/\env 19= .str o/\env 118=r118/\env 119=gi (A9 txLt (Bc s true)).length/\env 120=gi i/\env 126=r126/\env 127=gi (Ba s true o).length/\h=[.th (ow pS.kd r126 (Ba s true o)),.th (ow pS.kd r118 (A9 txLt (Bc s true))),.th (ow pS.kd u4 (E6 s)),.box 1 n [a,b,c,v]]) (fun env h=>env 1= .ptr n 0/\env 6=u4/\env 13= .str (T++Pe s o)/\env 118=r118/\env 119=gi (A9 txLt (Bc s true)).length/\env 120=gi i/\h=[.th (ow pS.kd r118 (A9 txLt (Bc s true))),.th (ow pS.kd u4 (E6 s)),.box 1 n [a,b,c,v]]) (fun env h=>False) _ H126 (by simp +contextual (disch:=omega) only[go_sem]) ⟨by simp +contextual (disch:=omega) only[go_sem,e1],by simp +contextual (disch:=omega) only[go_sem,e6],by simp +contextual (disch:=omega) only[go_sem,e13,Ka],by simp +contextual (disch:=omega) only[go_sem],by simp +contextual (disch:=omega) only[go_sem,e118],by simp +contextual (disch:=omega) only[go_sem,e119],by simp +contextual (disch:=omega) only[go_sem,ei],by simp +contextual (disch:=omega) only[go_sem],by simp +contextual (disch:=omega) only[go_sem],rfl⟩ ?_ ?_ ?_ (fun _ _ _ _ h=>h.elim)
  ·clear H H126 K126 R126 L126 L1 e1 e6 e13 e118 e119 ei c0 hJ
   rintro J Yq Wq hJ hY hW j env h N hj ej c0 H ⟨e1,e6,e13,e19,e118,e119,e120,e126,e127,rfl⟩
   have L1:=Gu (H.hp.sl 0 rfl) hj
   have hkk:=hko _ (Zab hj)
   have hT2:=Cl (B:=T) (f:=mapL s o) (fun k hk=>Pi hI hl ho (hko k hk)) hk j
   have hn2:=Da (B:=T) (f:=mapL s o) hj
   have hf:=Pi hI hl ho hkk
   have eL:Pb ([⟨#[109,97,112]⟩,o,(Ba s true o)[j]]++B4 (Qh s o (Ba s true o)[j]))=mapL s o (Ba s true o)[j]:=Pd (by simp) _
   generalize(Ba s true o)[j]=k at*
   generalize T++catS (((Ba s true o).take j).map (mapL s o))=T2 at*
   have hml:=A5v s o k
   simp +contextual (disch:=omega) only[go_sem,c0,e1,e6,e13,e19,e118,e119,e120,e126,e127,ej,A1,Eo H L1.2,L1]
   obtain⟨r136,N136,R136,K136⟩:=Ac8 N _ s (Ab.pre hR0 H.sub) o k hl'
   refine by_c H R136 K136 fun H136=> ?_
   simp +contextual (disch:=omega) only[go_sem,e19]
   intro n139 f139 N139 H139
   obtain⟨r140,N140,R140,K140⟩:=Dg N139 r136 (Qh s o k) (H139.hp.sl 1 rfl) (.sl n139 0 3) [⟨#[109,97,112]⟩,o,k] ((Hx.row (p:=pS) H139 [⟨#[109,97,112]⟩,o,k] rfl rfl).hp.sl 0 rfl) (A09 hI o k) (by omega) (by simp)
   refine by_c H139 R140 K140 fun H140=> ?_
   simp +contextual (disch:=omega) only[go_sem]
   obtain⟨fp,hof,_⟩:=H140.hp.see (i:=0) rfl
   refine by_r H140 (Eb N140 r140 _ fp hof 1048576 (fun x hx=>by
    rcases Zaq.1 hx with h|h
    ·simp only[Zau,Zao,or_false] at h
     rcases h with rfl|rfl|rfl
     ·exact Z0z rfl
     ·exact ho
     ·exact hkk
    ·exact Zah (Fk (A09 hI o k) x h) (by decide)) (Zah (Zaj _ (show _<=1048579 by simp only[Zaf,Zae,Zag,B4,Zac];omega)) (by decide)) (by simp only[Zaf,Zae,Zag,B4,Zac];omega)) ?_
   rw[eL]
   have b1:T2.size+(mapL s o k).size<=9223372036854775807:=by omega
   simp +contextual (disch:=omega) only[go_sem,e1,e6,e13,e19,e118,e119,e120,e126,e127,ej,b1]
   exact hJ _ _ _ _ (H140.re [3,4,5,6] (by decide)) ⟨by simp +contextual (disch:=omega) only[go_sem,e1],by simp +contextual (disch:=omega) only[go_sem,e6],by rw[hn2];simp +contextual (disch:=omega) only[go_sem],by simp +contextual (disch:=omega) only[go_sem,e19],by simp +contextual (disch:=omega) only[go_sem,e118],by simp +contextual (disch:=omega) only[go_sem,e119],by simp +contextual (disch:=omega) only[go_sem,e120],by simp +contextual (disch:=omega) only[go_sem,e126],by simp +contextual (disch:=omega) only[go_sem,e127],rfl⟩
  ·clear H H126 K126 R126 L126 L1 e1 e6 e13 e118 e119 ei c0 hJ
   rintro Yq hY env h N ej c0 H ⟨e1,e6,e13,e19,e118,e119,e120,e126,e127,rfl⟩
   rw[Zaa] at e13
   simp +contextual (disch:=omega) only[go_sem,c0,e127,ej]
   exact hY _ _ _ (H.re [1,2,3] (by decide)) ⟨by simp +contextual (disch:=omega) only[go_sem,e1],by simp +contextual (disch:=omega) only[go_sem,e6],by simp +contextual (disch:=omega) only[go_sem,e13];rfl,by simp +contextual (disch:=omega) only[go_sem,e118],by simp +contextual (disch:=omega) only[go_sem,e119],by simp +contextual (disch:=omega) only[go_sem,e120],rfl⟩
  ·clear H H126 K126 R126 L126 L1 e1 e6 e13 e118 e119 ei c0
   rintro env h N H ⟨e1,e6,e13,e118,e119,e120,rfl⟩
   simp +contextual (disch:=omega) only[go_sem,e1,e6,e13,e118,e119,e120]
   exact hJ _ _ _ _ H ⟨by simp +contextual (disch:=omega) only[go_sem,e1],by simp +contextual (disch:=omega) only[go_sem,e6],by rw[hn];simp +contextual (disch:=omega) only[go_sem,e13],by simp +contextual (disch:=omega) only[go_sem,e118],by simp +contextual (disch:=omega) only[go_sem,e119],rfl⟩
 ·clear H K118 R118 L118 e1 e5 e6 e13
  rintro Yq hY env h N ei c0 H ⟨e1,e6,e13,e118,e119,rfl⟩
  rw[Zaa] at e13
  simp +contextual (disch:=omega) only[go_sem,c0,e119,ei]
  exact hY _ _ _ (H.re [1,2] (by decide)) ⟨by simp +contextual (disch:=omega) only[go_sem,e1],by simp +contextual (disch:=omega) only[go_sem,e6],by simp +contextual (disch:=omega) only[go_sem,e13];rfl,rfl⟩
 clear H K118 R118 L118 e1 e5 e6 e13
 rintro env h N H ⟨e1,e6,e13,rfl⟩
 have z3:=A0i O hI hl
 obtain⟨r146,N146,R146,K146⟩:=Gd H 0 rfl (by have:=O.cn;simp only[E6,Zac];omega)
 simp +contextual (disch:=omega) only[go_sem,e1,e6,e13]
 refine by_m R146 K146 ?_
 have L146:=(K146.hp.sl 0 rfl).len
 simp +contextual (disch:=omega) only[go_sem,L146]
 refine C3 (A9 txLt (E6 s)).length 148 14 (fun i env h=>env 1= .ptr n 0/\env 13= .str (shw2 s++catS (((A9 txLt (E6 s)).take i).map (Lb s)))/\env 146=r146/\env 147=gi (A9 txLt (E6 s)).length/\h=[.th (ow pS.kd r146 (A9 txLt (E6 s))),.box 1 n [a,b,c,v]]) (fun env h=>env 13= .str (shw3 s)) (fun env h=>False) _ K146 (by simp +contextual (disch:=omega) only[go_sem]) ⟨by simp +contextual (disch:=omega) only[go_sem,e1],by simp +contextual (disch:=omega) only[go_sem,e13,Ka],by simp +contextual (disch:=omega) only[go_sem],by simp +contextual (disch:=omega) only[go_sem],rfl⟩ ?_ ?_ ?_ (fun _ _ _ _ h=>h.elim)
 ·clear H K146 R146 L146 e1 e6 e13
  rintro J Yq Wq hJ hY hW i env h N hi ei c0 H ⟨e1,e13,e146,e147,rfl⟩
  have L1:=Gu (H.hp.sl 0 rfl) hi
  have ho:=q3 _ (Zab hi)
  have hT:=Cl (B:=shw2 s) (f:=Lb s) (fun o ho=>L5 hI (q3 o ho)) m3 i
  have hn:=Da (B:=shw2 s) (f:=Lb s) hi
  have hf:=L5 hI ho
  have eL:Pb ([⟨#[114,111,119]⟩,(A9 txLt (E6 s))[i]]++B4 (M4 s (A9 txLt (E6 s))[i]))=Lb s (A9 txLt (E6 s))[i]:=Pd (by simp) _
  generalize(A9 txLt (E6 s))[i]=o at*
  generalize shw2 s++catS (((A9 txLt (E6 s)).take i).map (Lb s))=T at*
  have hrl:=A5w s o
  simp +contextual (disch:=omega) only[go_sem,c0,e1,e13,e146,e147,ei,A1,Eo H L1.2,L1]
  obtain⟨r155,N155,R155,K155⟩:=Ac9 N _ s (Ab.pre hR0 H.sub) o hl'
  refine by_c H R155 K155 fun H155=> ?_
  simp +contextual (disch:=omega) only[go_sem]
  intro n157 f157 N157 H157
  obtain⟨r158,N158,R158,K158⟩:=Dg N157 r155 (M4 s o) (H157.hp.sl 1 rfl) (.sl n157 0 2) [⟨#[114,111,119]⟩,o] ((Hx.row (p:=pS) H157 [⟨#[114,111,119]⟩,o] rfl rfl).hp.sl 0 rfl) (A0a hI o) (by omega) (by simp)
  refine by_c H157 R158 K158 fun H158=> ?_
  simp +contextual (disch:=omega) only[go_sem]
  obtain⟨fp,hof,_⟩:=H158.hp.see (i:=0) rfl
  refine by_r H158 (Eb N158 r158 _ fp hof 1048576 (fun x hx=>by
   rcases Zaq.1 hx with h|h
   ·simp only[Zau,Zao,or_false] at h
    rcases h with rfl|rfl
    ·exact Z0z rfl
    ·exact ho
   ·exact Zah (Fk (A0a hI o) x h) (by decide)) (Zah (Zaj _ (show _<=1200122 by simp only[Zaf,Zae,Zag,B4,Zac];omega)) (by decide)) (by simp only[Zaf,Zae,Zag,B4,Zac];omega)) ?_
  rw[eL]
  have b1:T.size+(Lb s o).size<=9223372036854775807:=by omega
  simp +contextual (disch:=omega) only[go_sem,e1,e13,e146,e147,ei,b1]
  exact hJ _ _ _ _ (H158.re [3,4] (by decide)) ⟨by simp +contextual (disch:=omega) only[go_sem,e1],by rw[hn];simp +contextual (disch:=omega) only[go_sem],by simp +contextual (disch:=omega) only[go_sem,e146],by simp +contextual (disch:=omega) only[go_sem,e147],rfl⟩
 ·clear H K146 R146 L146 e1 e6 e13
  rintro Yq hY env h N ei c0 H ⟨e1,e13,e146,e147,rfl⟩
  rw[Zaa] at e13
  simp +contextual (disch:=omega) only[go_sem,c0,e147,ei]
  exact hY _ _ _ H (by simp +contextual (disch:=omega) only[go_sem,e13];rfl)
 ·rintro env h N H e13
  simp +contextual (disch:=omega) only[go_sem,e13]
def Pn:Fn1:=⟨150,[.t 2],(rg [oX 1 0,o 2 (.mov (.k s0))] (.seq (rg [oW 13 4 1,oC 14 48 13,oU 15 14] (oG 15 (rg [o 2 (.mov (.k s0))] .ret))) (rg [oF 16 0 1,oL 17 16,oC 18 49 17,o 19 (.bin .add (.k (.str ⟨#[107,110,111,119]⟩)) (.t 18)),oM 3 19] (rg [oW 20 4 1,o 21 (.call 50 [(.t 20),(ki 0)]),oM 4 21] (.seq (rg [oV 5 (ki 0)] (oH 0 (.seq (rg [oM 22 5,oM 23 4,oN 24 23,oB 25 .lss 22 24] (oJ 25 0)) (.seq (.blk 1 (.drw [oM 28 3,o 29 (.bin .add (.t 28) (.k (.str ⟨#[99,111,117,110,116,32]⟩))),oM 30 4,oM 31 5,oI 32 1 30 31,oL 33 32,oB 34 .add 29 33,o 35 (.bin .add (.t 34) (.k (.str ⟨#[32]⟩))),oW 36 4 1,oM 37 4,oM 38 5,oI 39 1 37 38,oL 40 39,oD 41 52 36 40,oC 42 51 41] [oB 43 .add 35 42,o 44 (.bin .add (.t 43) (.k (.str ⟨#[10]⟩))),oM 3 44])) (.reg [oM 26 5,oZ 27 26 1,oM 5 27]))))) (rg [oW 45 4 1,o 46 (.call 50 [(.t 45),(ki 1)]),oM 4 46] (.seq (rg [oV 6 (ki 0)] (oH 2 (.seq (rg [oM 47 6,oM 48 4,oN 49 48,oB 50 .lss 47 49] (oJ 50 2)) (.seq (.blk 3 (rg [oM 53 3,o 54 (.bin .add (.t 53) (.k (.str ⟨#[115,101,116,32]⟩))),oM 55 4,oM 56 6,oI 57 1 55 56,oL 58 57,oB 59 .add 54 58,oM 3 59] (dw [oW 60 4 1,oM 61 4,oM 62 6,oI 63 1 61 62,oL 64 63] [oD 65 53 60 64,oM 7 65] (.seq (rg [oV 8 (ki 0)] (oH 4 (.seq (rg [oM 66 8,oM 67 7,oN 68 67,oB 69 .lss 66 68] (oJ 69 4)) (.seq (.blk 5 (.reg [oM 72 3,o 73 (.bin .add (.t 72) (.k (.str ⟨#[32]⟩))),oM 74 7,oM 75 8,oI 76 1 74 75,oL 77 76,oB 78 .add 73 77,oM 3 78])) (.reg [oM 70 8,oZ 71 70 1,oM 8 71]))))) (.reg [oM 79 3,o 80 (.bin .add (.t 79) (.k (.str ⟨#[10]⟩))),oM 3 80]))))) (.reg [oM 51 6,oZ 52 51 1,oM 6 52]))))) (rg [oW 81 4 1,o 82 (.call 50 [(.t 81),(ki 2)]),oM 4 82] (.seq (rg [oV 9 (ki 0)] (oH 6 (.seq (rg [oM 83 9,oM 84 4,oN 85 84,oB 86 .lss 83 85] (oJ 86 6)) (.seq (.blk 7 (dw [oW 89 4 1,oM 90 4,oM 91 9,oI 92 1 90 91,oL 93 92] [oD 94 54 89 93,oM 10 94] (rg [oV 11 (ki 0)] (oH 8 (.seq (rg [oM 95 11,oM 96 10,oN 97 96,oB 98 .lss 95 97] (oJ 98 8)) (.seq (.blk 9 (.drw [oM 101 3,o 102 (.bin .add (.t 101) (.k (.str ⟨#[109,97,112,32]⟩))),oM 103 4,oM 104 9,oI 105 1 103 104,oL 106 105,oB 107 .add 102 106,o 108 (.bin .add (.t 107) (.k (.str ⟨#[32]⟩))),oM 109 10,oM 110 11,oI 111 1 109 110,oL 112 111,oB 113 .add 108 112,oW 114 4 1,oM 115 4,oM 116 9,oI 117 1 115 116,oL 118 117,oM 119 10,oM 120 11,oI 121 1 119 120,oL 122 121,o 123 (.call 55 (oT [114,118,122])),oC 124 49 123] [oB 125 .add 113 124,oM 3 125])) (.reg [oM 99 11,oZ 100 99 1,oM 11 100]))))))) (.reg [oM 87 9,oZ 88 87 1,oM 9 88]))))) (rg [oW 126 4 1,o 127 (.call 50 [(.t 126),(ki 3)]),oM 4 127] (.seq (rg [oV 12 (ki 0)] (oH 10 (.seq (rg [oM 128 12,oM 129 4,oN 130 129,oB 131 .lss 128 130] (oJ 131 10)) (.seq (.blk 11 (.drw [oM 134 3,o 135 (.bin .add (.t 134) (.k (.str ⟨#[114,111,119,32]⟩))),oM 136 4,oM 137 12,oI 138 1 136 137,oL 139 138,oB 140 .add 135 139,oW 141 4 1,oM 142 4,oM 143 12,oI 144 1 142 143,oL 145 144,oD 146 56 141 145,oC 147 49 146] [oB 148 .add 140 147,oM 3 148])) (.reg [oM 132 12,oZ 133 132 1,oM 12 133]))))) (rg [oM 149 3,oM 2 149] .ret))))))))))))⟩
theorem A1k:A2 Tryz.prog 18=some Pn:=by kernel_rfl
theorem A3y {s:State} (h:OkS s) (o:ByteArray):0<=C5 s o:=by
 have key:∀(l:List Tally) (n:Int),(∀ t∈l,0≤t.sum)->0<=n->0<=l.foldl (G1 o) n:=by
  intro l
  induction l with
  |nil=>intro n _ h;exact h
  |cons t l ih=>
   intro n ht hn
   refine ih _ (fun t h=>ht t (Zav _ h)) ?_
   unfold G1
   split
   ·have h1:=ht t Zat
    have h2:=Zaw 1000000 h1
    exact Zaw _ (by omega)
   ·exact hn
 refine key s.tallies 0 (fun t ht=> ?_) (by omega)
 have:=h.t1 t ht
 simp only[tal1,Bool.and_eq_true] at this
 exact(Xw.1 this.2.2).1
theorem cnt_eq {s:State} (h:OkS s) (T o:ByteArray):T++⟨#[99,111,117,110,116,32]⟩++o++⟨#[32]⟩++itB (C5 s o)++⟨#[10]⟩=T++cntL s o:=by
 have hm:mx0 (C5 s o)=C5 s o:=by have:=A3y h o;unfold mx0;rw[if_neg (by omega)]
 have e:catS ((B4 [C5 s o]).map fun x=>⟨#[32]⟩++x)=⟨#[32]⟩++itB (C5 s o):=by
  show catS [⟨#[32]⟩++itB (mx0 (C5 s o))]=_
  rw[hm,Pc];exact A0f _
 rw[cntL,Qo,La,e]
 refine D9 ?_
 simp only[Fm,Zai]
 rfl
theorem set_eq (s:State) (T o:ByteArray):T++⟨#[115,101,116,32]⟩++o++catS ((Ba s false o).map fun x=>⟨#[32]⟩++x)++⟨#[10]⟩=T++setL s o:=by
 rw[setL,Pb,Acg _ _ (by simp),Qo]
 refine D9 ?_
 simp only[Fm,Zai]
 rfl
theorem map_eq (s:State) (T o k:ByteArray):T++⟨#[109,97,112,32]⟩++o++⟨#[32]⟩++k++La (Qh s o k)=T++mapL s o k:=by
 rw[mapL,A9u]
 refine D9 ?_
 simp only[Fm,Zai]
 rfl
theorem row_eq (s:State) (T o:ByteArray):T++⟨#[114,111,119,32]⟩++o++La (M4 s o)=T++Lb s o:=by
 rw[Lb,Qo]
 refine D9 ?_
 simp only[Fm,Zai]
 rfl
theorem sz4 {a b c d:UInt8}:(#[a,b,c,d]:Array UInt8).size=4:=rfl
theorem sz6 {a b c d e f:UInt8}:(#[a,b,c,d,e,f]:Array UInt8).size=6:=rfl
theorem A0k (U:St) (cs:List GV) (s:State) (hR:Ab.R U s cs) (hl:A7 s<=1048576) (hI:stI s):Ret Tryz.prog 18 [.agg cs] U (.str (Pf s)) U:=by
 have hR0:=hR
 obtain⟨a,b,c,v,rfl,ha,hb,hc,hv⟩:=hR
 have hl':A7 s<=1099511627776:=by omega
 refine I6 A1k (Z0z rfl) trivial ?_
 simp +contextual (disch:=omega) only[go_sem,Pn]
 intro n f N H
 refine by_b H (Oq N _ s (Ab.pre hR0 H.sub) hl') (fun hok=> ?_) (fun hok=> ?_)
 rotate_left
 ·simp +contextual (disch:=omega) only[go_sem]
  simp[Pf,hok]
 have O:=Acd.1 hok
 have hS:Pf s=shw3 s:=by simp[Pf,hok]
 rw[hS]
 have z0:=Qr O hl
 have z1:=A0g O hl
 have z2:=A0h O hl
 have z3:=A0i O hI hl
 obtain⟨q1,q2,q3⟩:=Kz hl
 obtain⟨m1,m2,m3⟩:=Qp O
 have m2f:=m2 false
 have m2t:=m2 true
 have hkl:s.know.length<=1048576:=Zah (show s.know.length<=A7 s by unfold A7;omega) hl
 simp +contextual (disch:=omega) only[go_sem]
 refine by_r H (J5 N a s.know (ha.pre H.sub) (A9v O) (by omega)) ?_
 have hkv:=Fl (A9v O)
 have b1:(#[107,110,111,119]:Array UInt8).size+(La s.know).size<=9223372036854775807:=by rw[sz4];omega
 simp +contextual (disch:=omega) only[go_sem,b1]
 obtain⟨r21,N21,R21,K21⟩:=A1f N _ s (Ab.pre hR0 H.sub) hl'
 refine by_c H R21 K21 fun H21=> ?_
 have eK:(⟨#[107,110,111,119]⟩:ByteArray)++La s.know=Mc s:=by rw[Mc,Qm]
 simp +contextual (disch:=omega) only[go_sem,eK]
 refine C3 (A9 txLt (E5 s)).length 5 0 (fun i env h=>env 1= .ptr n 0/\env 3= .str (Mc s++catS (((A9 txLt (E5 s)).take i).map (cntL s)))/\env 4=r21/\h=[.th (ow pS.kd r21 (A9 txLt (E5 s))),.box 1 n [a,b,c,v]]) (fun env h=>env 1= .ptr n 0/\env 3= .str (shw0 s)/\h=[.box 1 n [a,b,c,v]]) (fun env h=>False) _ H21 (by simp +contextual (disch:=omega) only[go_sem]) ⟨by simp +contextual (disch:=omega) only[go_sem],by simp +contextual (disch:=omega) only[go_sem,Ka],by simp +contextual (disch:=omega) only[go_sem],rfl⟩ ?_ ?_ ?_ (fun _ _ _ _ h=>h.elim)
 ·clear H H21 K21 R21
  rintro J Yq Wq hJ hY hW i env h N hi ei c0 H ⟨e1,e3,e4,rfl⟩
  have L1:=Gu (H.hp.sl 0 rfl) hi
  have L2:=(H.hp.sl 0 rfl).len
  have ho:=q1 _ (Zab hi)
  have hT:=Cl (B:=Mc s) (f:=cntL s) (fun o ho=>Pg (q1 o ho)) m1 i
  have hn:=Da (B:=Mc s) (f:=cntL s) hi
  generalize(A9 txLt (E5 s))[i]=o at*
  generalize Mc s++catS (((A9 txLt (E5 s)).take i).map (cntL s))=T at*
  have hE:=cnt_eq O T o
  have hnn:=A3y O o
  have hcb:=P9 s o _ (Zas.2 rfl)
  obtain⟨u,hu⟩:∃ u:Nat,C5 s o=u:=⟨(C5 s o).toNat,by omega⟩
  have hd:=Dw hnn hcb
  rw[hu] at hd hE
  have b1:T.size+(#[99,111,117,110,116,32]:Array UInt8).size<=9223372036854775807:=by rw[sz6];omega
  have b2:T.size+(#[99,111,117,110,116,32]:Array UInt8).size+o.size<=9223372036854775807:=by rw[sz6];omega
  have b3:T.size+(#[99,111,117,110,116,32]:Array UInt8).size+o.size+(#[32]:Array UInt8).size<=9223372036854775807:=by rw[sz6,sz1];omega
  have b4:T.size+(#[99,111,117,110,116,32]:Array UInt8).size+o.size+(#[32]:Array UInt8).size+(itB u).size<=9223372036854775807:=by rw[sz6,sz1];omega
  have b5:T.size+(#[99,111,117,110,116,32]:Array UInt8).size+o.size+(#[32]:Array UInt8).size+(itB u).size+(#[10]:Array UInt8).size<=9223372036854775807:=by rw[sz6,sz1,sz1];omega
  simp +contextual (disch:=omega) only[go_sem,c0,e1,e3,e4,ei,L2,A1,Eo H L1.2,L1,ByteArray.size_append,b1,b2,b3]
  refine by_r H (A5t N _ s (Ab.pre hR0 H.sub) o hl') ?_
  rw[hu]
  simp +contextual (disch:=omega) only[go_sem]
  refine by_r H (Ey N u (by omega)) ?_
  simp +contextual (disch:=omega) only[go_sem,e1,e3,e4,ei,ByteArray.size_append,b4,b5]
  exact hJ _ _ _ _ H ⟨by simp +contextual (disch:=omega) only[go_sem,e1],by rw[hn,<-hE];simp +contextual (disch:=omega) only[go_sem],by simp +contextual (disch:=omega) only[go_sem,e4],rfl⟩
 ·clear H H21 K21 R21
  rintro Yq hY env h N ei c0 H ⟨e1,e3,e4,rfl⟩
  have L2:=(H.hp.sl 0 rfl).len
  rw[Zaa] at e3
  simp +contextual (disch:=omega) only[go_sem,c0,e4,ei,L2]
  exact hY _ _ _ (H.re [1] (by decide)) ⟨by simp +contextual (disch:=omega) only[go_sem,e1],by simp +contextual (disch:=omega) only[go_sem,e3];rfl,rfl⟩
 clear H H21 K21 R21
 rintro env h N H ⟨e1,e3,rfl⟩
 simp +contextual (disch:=omega) only[go_sem,e1,e3]
 obtain⟨r46,N46,R46,K46⟩:=A1g N _ s (Ab.pre hR0 H.sub) hl'
 refine by_c H R46 K46 fun H46=> ?_
 simp +contextual (disch:=omega) only[go_sem,e1,e3]
 refine C3 (A9 txLt (Bc s false)).length 6 2 (fun i env h=>env 1= .ptr n 0/\env 3= .str (shw0 s++catS (((A9 txLt (Bc s false)).take i).map (setL s)))/\env 4=r46/\h=[.th (ow pS.kd r46 (A9 txLt (Bc s false))),.box 1 n [a,b,c,v]]) (fun env h=>env 1= .ptr n 0/\env 3= .str (shw1 s)/\h=[.box 1 n [a,b,c,v]]) (fun env h=>False) _ H46 (by simp +contextual (disch:=omega) only[go_sem]) ⟨by simp +contextual (disch:=omega) only[go_sem,e1],by simp +contextual (disch:=omega) only[go_sem,e3,Ka],by simp +contextual (disch:=omega) only[go_sem],rfl⟩ ?_ ?_ ?_ (fun _ _ _ _ h=>h.elim)
 ·clear H H46 K46 R46 e1 e3
  rintro J Yq Wq hJ hY hW i env h N hi ei c0 H ⟨e1,e3,e4,rfl⟩
  have L1:=Gu (H.hp.sl 0 rfl) hi
  have L2:=(H.hp.sl 0 rfl).len
  have ho:=q2 _ _ (Zab hi)
  have hT:=Cl (B:=shw0 s) (f:=setL s) (fun o ho=>Ph O hl (q2 _ o ho)) m2f i
  have hn:=Da (B:=shw0 s) (f:=setL s) hi
  generalize hoe:(A9 txLt (Bc s false))[i]=o at*
  generalize shw0 s++catS (((A9 txLt (Bc s false)).take i).map (setL s))=T at*
  have hE:=set_eq s T o
  have hk:=L4 O false o
  have hko:=Pa hl false o
  have b1:T.size+(#[115,101,116,32]:Array UInt8).size<=9223372036854775807:=by rw[sz4];omega
  have b2:T.size+(#[115,101,116,32]:Array UInt8).size+o.size<=9223372036854775807:=by rw[sz4];omega
  simp +contextual (disch:=omega) only[go_sem,c0,e1,e3,e4,ei,L2,A1,Eo H L1.2,L1,ByteArray.size_append,b1,b2]
  obtain⟨r65,N65,R65,K65⟩:=Ac5 N _ s (Ab.pre hR0 H.sub) o hl'
  refine by_c H R65 K65 fun H65=> ?_
  simp +contextual (disch:=omega) only[go_sem,e1,e3,e4,ei]
  have hbt:(T++⟨#[115,101,116,32]⟩++o).size<=15501117401:=by rw[ByteArray.size_append,ByteArray.size_append];have:(⟨#[115,101,116,32]⟩:ByteArray).size=4:=rfl;omega
  generalize T++⟨#[115,101,116,32]⟩++o=T3 at*
  refine C3 (Ba s false o).length 8 4 (fun j env h=>env 1= .ptr n 0/\env 3= .str (T3++catS (((Ba s false o).take j).map fun x=>⟨#[32]⟩++x))/\env 4=r46/\env 6=gi i/\env 7=r65/\h=[.th (ow pS.kd r65 (Ba s false o)),.th (ow pS.kd r46 (A9 txLt (Bc s false))),.box 1 n [a,b,c,v]]) (fun env h=>env 1= .ptr n 0/\env 3= .str (T3++catS ((Ba s false o).map fun x=>⟨#[32]⟩++x))/\env 4=r46/\env 6=gi i/\h=[.th (ow pS.kd r46 (A9 txLt (Bc s false))),.box 1 n [a,b,c,v]]) (fun env h=>False) _ H65 (by simp +contextual (disch:=omega) only[go_sem]) ⟨by simp +contextual (disch:=omega) only[go_sem,e1],by simp +contextual (disch:=omega) only[go_sem,Ka],by simp +contextual (disch:=omega) only[go_sem,e4],by simp +contextual (disch:=omega) only[go_sem,ei],by simp +contextual (disch:=omega) only[go_sem],rfl⟩ ?_ ?_ ?_ (fun _ _ _ _ h=>h.elim)
  ·clear H H65 K65 R65 L1 L2 e1 e3 e4 ei c0 hJ
   rintro J Yq Wq hJ hY hW j env h N hj ej c0 H ⟨e1,e3,e4,e6,e7,rfl⟩
   have L1:=Gu (H.hp.sl 0 rfl) hj
   have L2:=(H.hp.sl 0 rfl).len
   have hkk:=hko _ (Zab hj)
   have hT2:=Cl (B:=T3) (f:=fun x=>⟨#[32]⟩++x) (c:=1048577) (fun k hk=>by have:=hko k hk;rw[Ach];omega) hk j
   have hn2:=Da (B:=T3) (f:=fun x=>⟨#[32]⟩++x) hj
   generalize(Ba s false o)[j]=k at*
   generalize T3++catS (((Ba s false o).take j).map fun x=>⟨#[32]⟩++x)=T2 at*
   have b3:T2.size+(#[32]:Array UInt8).size<=9223372036854775807:=by rw[sz1];omega
   have b4:T2.size+(#[32]:Array UInt8).size+k.size<=9223372036854775807:=by rw[sz1];omega
   simp +contextual (disch:=omega) only[go_sem,c0,e1,e3,e4,e6,e7,ej,L2,A1,Eo H L1.2,L1,ByteArray.size_append,b3,b4]
   exact hJ _ _ _ _ H ⟨by simp +contextual (disch:=omega) only[go_sem,e1],by rw[hn2,<-ByteArray.append_assoc];simp +contextual (disch:=omega) only[go_sem],by simp +contextual (disch:=omega) only[go_sem,e4],by simp +contextual (disch:=omega) only[go_sem,e6],by simp +contextual (disch:=omega) only[go_sem,e7],rfl⟩
  ·clear H H65 K65 R65 L1 L2 e1 e3 e4 ei c0 hJ
   rintro Yq hY env h N ej c0 H ⟨e1,e3,e4,e6,e7,rfl⟩
   have L2:=(H.hp.sl 0 rfl).len
   rw[Zaa] at e3
   simp +contextual (disch:=omega) only[go_sem,c0,e7,ej,L2]
   exact hY _ _ _ (H.re [1,2] (by decide)) ⟨by simp +contextual (disch:=omega) only[go_sem,e1],by simp +contextual (disch:=omega) only[go_sem,e3],by simp +contextual (disch:=omega) only[go_sem,e4],by simp +contextual (disch:=omega) only[go_sem,e6],rfl⟩
  ·clear H H65 K65 R65 L1 L2 e1 e3 e4 ei c0
   rintro env h N H ⟨e1,e3,e4,e6,rfl⟩
   have hT2:=Ky (B:=T3) (f:=fun x=>⟨#[32]⟩++x) (c:=1048577) (fun k hk=>by have:=hko k hk;rw[Ach];omega) hk
   generalize T3++catS ((Ba s false o).map fun x=>⟨#[32]⟩++x)=T2 at*
   have b5:T2.size+(#[10]:Array UInt8).size<=9223372036854775807:=by rw[sz1];omega
   simp +contextual (disch:=omega) only[go_sem,e1,e3,e4,e6,b5]
   exact hJ _ _ _ _ H ⟨by simp +contextual (disch:=omega) only[go_sem,e1],by rw[hn,<-hE];simp +contextual (disch:=omega) only[go_sem],by simp +contextual (disch:=omega) only[go_sem,e4],rfl⟩
 ·clear H H46 K46 R46 e1 e3
  rintro Yq hY env h N ei c0 H ⟨e1,e3,e4,rfl⟩
  have L2:=(H.hp.sl 0 rfl).len
  rw[Zaa] at e3
  simp +contextual (disch:=omega) only[go_sem,c0,e4,ei,L2]
  exact hY _ _ _ (H.re [1] (by decide)) ⟨by simp +contextual (disch:=omega) only[go_sem,e1],by simp +contextual (disch:=omega) only[go_sem,e3];rfl,rfl⟩
 clear H H46 K46 R46 e1 e3
 rintro env h N H ⟨e1,e3,rfl⟩
 simp +contextual (disch:=omega) only[go_sem,e1,e3]
 obtain⟨r82,N82,R82,K82⟩:=A1h N _ s (Ab.pre hR0 H.sub) hl'
 refine by_c H R82 K82 fun H82=> ?_
 simp +contextual (disch:=omega) only[go_sem,e1,e3]
 refine C3 (A9 txLt (Bc s true)).length 9 6 (fun i env h=>env 1= .ptr n 0/\env 3= .str (shw1 s++catS (((A9 txLt (Bc s true)).take i).map (Pe s)))/\env 4=r82/\h=[.th (ow pS.kd r82 (A9 txLt (Bc s true))),.box 1 n [a,b,c,v]]) (fun env h=>env 1= .ptr n 0/\env 3= .str (shw2 s)/\h=[.box 1 n [a,b,c,v]]) (fun env h=>False) _ H82 (by simp +contextual (disch:=omega) only[go_sem]) ⟨by simp +contextual (disch:=omega) only[go_sem,e1],by simp +contextual (disch:=omega) only[go_sem,e3,Ka],by simp +contextual (disch:=omega) only[go_sem],rfl⟩ ?_ ?_ ?_ (fun _ _ _ _ h=>h.elim)
 ·clear H H82 K82 R82 e1 e3
  rintro J Yq Wq hJ hY hW i env h N hi ei c0 H ⟨e1,e3,e4,rfl⟩
  have L1:=Gu (H.hp.sl 0 rfl) hi
  have L2:=(H.hp.sl 0 rfl).len
  have ho:=q2 _ _ (Zab hi)
  have hT:=Cl (B:=shw1 s) (f:=Pe s) (fun o ho=>Qq O hI hl (q2 _ o ho)) m2t i
  have hn:=Da (B:=shw1 s) (f:=Pe s) hi
  generalize hoe:(A9 txLt (Bc s true))[i]=o at*
  generalize shw1 s++catS (((A9 txLt (Bc s true)).take i).map (Pe s))=T at*
  have hk:=L4 O true o
  have hko:=Pa hl true o
  simp +contextual (disch:=omega) only[go_sem,c0,e1,e3,e4,ei,L2,A1,Eo H L1.2,L1]
  obtain⟨r94,N94,R94,K94⟩:=A9l N _ s (Ab.pre hR0 H.sub) o hl'
  refine by_c H R94 K94 fun H94=> ?_
  simp +contextual (disch:=omega) only[go_sem,e1,e3,e4,ei]
  refine C3 (Ba s true o).length 11 8 (fun j env h=>env 1= .ptr n 0/\env 3= .str (T++catS (((Ba s true o).take j).map (mapL s o)))/\env 4=r82/\env 9=gi i/\env 10=r94/\h=[.th (ow pS.kd r94 (Ba s true o)),.th (ow pS.kd r82 (A9 txLt (Bc s true))),.box 1 n [a,b,c,v]]) (fun env h=>env 1= .ptr n 0/\env 3= .str (T++Pe s o)/\env 4=r82/\env 9=gi i/\h=[.th (ow pS.kd r82 (A9 txLt (Bc s true))),.box 1 n [a,b,c,v]]) (fun env h=>False) _ H94 (by simp +contextual (disch:=omega) only[go_sem]) ⟨by simp +contextual (disch:=omega) only[go_sem,e1],by simp +contextual (disch:=omega) only[go_sem,e3,Ka],by simp +contextual (disch:=omega) only[go_sem,e4],by simp +contextual (disch:=omega) only[go_sem,ei],by simp +contextual (disch:=omega) only[go_sem],rfl⟩ ?_ ?_ ?_ (fun _ _ _ _ h=>h.elim)
  ·clear H H94 K94 R94 L1 L2 e1 e3 e4 ei c0 hJ
   rintro J Yq Wq hJ hY hW j env h N hj ej c0 H ⟨e1,e3,e4,e9,e10,rfl⟩
   have L1:=Gu (H.hp.sl 0 rfl) hj
   have L2:=(H.hp.sl 0 rfl).len
   have L3:=Gu (H.hp.sl 1 rfl) hi
   rw[hoe] at L3
   have hkk:=hko _ (Zab hj)
   have hT2:=Cl (B:=T) (f:=mapL s o) (fun k hk=>Pi hI hl ho (hko k hk)) hk j
   have hn2:=Da (B:=T) (f:=mapL s o) hj
   generalize(Ba s true o)[j]=k at*
   generalize T++catS (((Ba s true o).take j).map (mapL s o))=T2 at*
   have hE:=map_eq s T2 o k
   have hml:=A5v s o k
   have hvs:=Fl (A09 hI o k)
   have b1:T2.size+(#[109,97,112,32]:Array UInt8).size<=9223372036854775807:=by rw[sz4];omega
   have b2:T2.size+(#[109,97,112,32]:Array UInt8).size+o.size<=9223372036854775807:=by rw[sz4];omega
   have b3:T2.size+(#[109,97,112,32]:Array UInt8).size+o.size+(#[32]:Array UInt8).size<=9223372036854775807:=by rw[sz4,sz1];omega
   have b4:T2.size+(#[109,97,112,32]:Array UInt8).size+o.size+(#[32]:Array UInt8).size+k.size<=9223372036854775807:=by rw[sz4,sz1];omega
   have b5:T2.size+(#[109,97,112,32]:Array UInt8).size+o.size+(#[32]:Array UInt8).size+k.size+(La (Qh s o k)).size<=9223372036854775807:=by rw[sz4,sz1];omega
   simp +contextual (disch:=omega) only[go_sem,c0,e1,e3,e4,e9,e10,ej,L2,A1,Eo H L1.2,L1,Eo H L3.2,L3,ByteArray.size_append,b1,b2,b3,b4]
   obtain⟨r123,N123,R123,K123⟩:=Ac7 N _ s (Ab.pre hR0 H.sub) o k hl'
   refine by_c H R123 K123 fun H123=> ?_
   simp +contextual (disch:=omega) only[go_sem]
   refine by_r H123 (J5 N123 r123 _ (H123.hp.sl 0 rfl) (A09 hI o k) (by omega)) ?_
   simp +contextual (disch:=omega) only[go_sem,e1,e3,e4,e9,e10,ej,ByteArray.size_append,b5]
   exact hJ _ _ _ _ (H123.re [1,2,3] (by decide)) ⟨by simp +contextual (disch:=omega) only[go_sem,e1],by rw[hn2,<-hE];simp +contextual (disch:=omega) only[go_sem],by simp +contextual (disch:=omega) only[go_sem,e4],by simp +contextual (disch:=omega) only[go_sem,e9],by simp +contextual (disch:=omega) only[go_sem,e10],rfl⟩
  ·clear H H94 K94 R94 L1 L2 e1 e3 e4 ei c0 hJ
   rintro Yq hY env h N ej c0 H ⟨e1,e3,e4,e9,e10,rfl⟩
   have L2:=(H.hp.sl 0 rfl).len
   rw[Zaa] at e3
   simp +contextual (disch:=omega) only[go_sem,c0,e10,ej,L2]
   exact hY _ _ _ (H.re [1,2] (by decide)) ⟨by simp +contextual (disch:=omega) only[go_sem,e1],by simp +contextual (disch:=omega) only[go_sem,e3];rfl,by simp +contextual (disch:=omega) only[go_sem,e4],by simp +contextual (disch:=omega) only[go_sem,e9],rfl⟩
  ·clear H H94 K94 R94 L1 L2 e1 e3 e4 ei c0
   rintro env h N H ⟨e1,e3,e4,e9,rfl⟩
   simp +contextual (disch:=omega) only[go_sem,e1,e3,e4,e9]
   exact hJ _ _ _ _ H ⟨by simp +contextual (disch:=omega) only[go_sem,e1],by rw[hn];simp +contextual (disch:=omega) only[go_sem,e3],by simp +contextual (disch:=omega) only[go_sem,e4],rfl⟩
 ·clear H H82 K82 R82 e1 e3
  rintro Yq hY env h N ei c0 H ⟨e1,e3,e4,rfl⟩
  have L2:=(H.hp.sl 0 rfl).len
  rw[Zaa] at e3
  simp +contextual (disch:=omega) only[go_sem,c0,e4,ei,L2]
  exact hY _ _ _ (H.re [1] (by decide)) ⟨by simp +contextual (disch:=omega) only[go_sem,e1],by simp +contextual (disch:=omega) only[go_sem,e3];rfl,rfl⟩
 clear H H82 K82 R82 e1 e3
 rintro env h N H ⟨e1,e3,rfl⟩
 simp +contextual (disch:=omega) only[go_sem,e1,e3]
 obtain⟨r127,N127,R127,K127⟩:=A1i N _ s (Ab.pre hR0 H.sub) hl'
 refine by_c H R127 K127 fun H127=> ?_
 simp +contextual (disch:=omega) only[go_sem,e1,e3]
 refine C3 (A9 txLt (E6 s)).length 12 10 (fun i env h=>env 1= .ptr n 0/\env 3= .str (shw2 s++catS (((A9 txLt (E6 s)).take i).map (Lb s)))/\env 4=r127/\h=[.th (ow pS.kd r127 (A9 txLt (E6 s))),.box 1 n [a,b,c,v]]) (fun env h=>env 3= .str (shw3 s)) (fun env h=>False) _ H127 (by simp +contextual (disch:=omega) only[go_sem]) ⟨by simp +contextual (disch:=omega) only[go_sem,e1],by simp +contextual (disch:=omega) only[go_sem,e3,Ka],by simp +contextual (disch:=omega) only[go_sem],rfl⟩ ?_ ?_ ?_ (fun _ _ _ _ h=>h.elim)
 ·clear H H127 K127 R127 e1 e3
  rintro J Yq Wq hJ hY hW i env h N hi ei c0 H ⟨e1,e3,e4,rfl⟩
  have L1:=Gu (H.hp.sl 0 rfl) hi
  have L2:=(H.hp.sl 0 rfl).len
  have ho:=q3 _ (Zab hi)
  have hT:=Cl (B:=shw2 s) (f:=Lb s) (fun o ho=>L5 hI (q3 o ho)) m3 i
  have hn:=Da (B:=shw2 s) (f:=Lb s) hi
  generalize(A9 txLt (E6 s))[i]=o at*
  generalize shw2 s++catS (((A9 txLt (E6 s)).take i).map (Lb s))=T at*
  have hE:=row_eq s T o
  have hrl:=A5w s o
  have hvs:=Fl (A0a hI o)
  have b1:T.size+(#[114,111,119,32]:Array UInt8).size<=9223372036854775807:=by rw[sz4];omega
  have b2:T.size+(#[114,111,119,32]:Array UInt8).size+o.size<=9223372036854775807:=by rw[sz4];omega
  have b3:T.size+(#[114,111,119,32]:Array UInt8).size+o.size+(La (M4 s o)).size<=9223372036854775807:=by rw[sz4];omega
  simp +contextual (disch:=omega) only[go_sem,c0,e1,e3,e4,ei,L2,A1,Eo H L1.2,L1,ByteArray.size_append,b1,b2]
  obtain⟨r146,N146,R146,K146⟩:=Aca N _ s (Ab.pre hR0 H.sub) o hl'
  refine by_c H R146 K146 fun H146=> ?_
  simp +contextual (disch:=omega) only[go_sem]
  refine by_r H146 (J5 N146 r146 _ (H146.hp.sl 0 rfl) (A0a hI o) (by omega)) ?_
  simp +contextual (disch:=omega) only[go_sem,e1,e3,e4,ei,ByteArray.size_append,b3]
  exact hJ _ _ _ _ (H146.re [1,2] (by decide)) ⟨by simp +contextual (disch:=omega) only[go_sem,e1],by rw[hn,<-hE];simp +contextual (disch:=omega) only[go_sem],by simp +contextual (disch:=omega) only[go_sem,e4],rfl⟩
 ·clear H H127 K127 R127 e1 e3
  rintro Yq hY env h N ei c0 H ⟨e1,e3,e4,rfl⟩
  have L2:=(H.hp.sl 0 rfl).len
  rw[Zaa] at e3
  simp +contextual (disch:=omega) only[go_sem,c0,e4,ei,L2]
  exact hY _ _ _ H (by simp +contextual (disch:=omega) only[go_sem,e3];rfl)
 ·rintro env h N H e3
  simp +contextual (disch:=omega) only[go_sem,e3]
def Kc:Fn1:=⟨32,[.t 2],(rg [oX 1 0,o 2 (.mov (.k s0))] (dw [oF 4 1 1,oF 5 0 4,oL 6 5,o 7 (.lit 1 1 [z0] [(0,1,(.t 6))]),o 8 (.call 33 [(.t 7),(.k s0)]),oF 9 1 1,oF 10 6 9,oL 11 10,oN 12 11,oC 13 34 12,oF 14 1 1,oF 15 7 14,oL 16 15,oN 17 16,oC 18 34 17,oF 19 9 1,oF 20 0 19,oL 21 20] [oN 22 21,oC 23 34 22,o 24 (.lit 1 8 [s0,s0,s0,s0,s0,s0,s0,s0] [(0,1,(.k (.str ⟨#[114,101,112,108,105,99,97]⟩))),(1,1,(.t 8)),(2,1,(.k (.str ⟨#[117,110,105,116,115]⟩))),(3,1,(.t 13)),(4,1,(.k (.str ⟨#[119,97,105,116,115]⟩))),(5,1,(.t 18)),(6,1,(.k (.str ⟨#[99,111,109,109,105,116,115]⟩))),(7,1,(.t 23))]),oM 3 24] (dw [oM 25 3,oC 26 35 25,oF 27 1 1,oF 28 2 27,oW 29 4 28] [oC 30 14 29,oB 31 .add 26 30,oM 2 31] .ret)))⟩
theorem T0:A2 Tryz.prog 12=some Kc:=by kernel_rfl
def Kf:Fn1:=⟨35,[.t 2],(rg [oX 1 0,o 2 (.mov (.k s0))] (dw [oF 3 1 1,oF 4 0 3,oL 5 4,oC 6 57 5,o 7 (.bin .add (.k (.str ⟨#[114,101,112,108,105,99,97,32]⟩)) (.t 6)),o 8 (.bin .add (.t 7) (.k (.str ⟨#[32,117,110,105,116,115,32]⟩))),oF 9 1 1,oF 10 6 9,oL 11 10,oN 12 11,oC 13 51 12,oB 14 .add 8 13,o 15 (.bin .add (.t 14) (.k (.str ⟨#[32,119,97,105,116,115,32]⟩))),oF 16 1 1,oF 17 7 16,oL 18 17,oN 19 18,oC 20 51 19,oB 21 .add 15 20,o 22 (.bin .add (.t 21) (.k (.str ⟨#[32,99,111,109,109,105,116,115,32]⟩))),oF 23 9 1,oF 24 0 23,oL 25 24,oN 26 25,oC 27 51 26,oB 28 .add 22 27,o 29 (.bin .add (.t 28) (.k (.str ⟨#[10]⟩))),oF 30 1 1,oF 31 2 30,oW 32 4 31] [oC 33 18 32,oB 34 .add 29 33,oM 2 34] .ret))⟩
theorem T1:A2 Tryz.prog 19=some Kf:=by kernel_rfl
def Aci (r:Replica):ByteArray:=Pb [⟨#[114,101,112,108,105,99,97]⟩,itB (mx0 r.log.rep),⟨#[117,110,105,116,115]⟩,itB r.log.units.length,⟨#[119,97,105,116,115]⟩,itB r.log.waits.length,⟨#[99,111,109,109,105,116,115]⟩,itB r.graph.commits.length]
def A9x (r:Replica):ByteArray:=Aci r++Pf r.log.state
theorem Ak6 (r:Replica):(⟨#[114,101,112,108,105,99,97,32]⟩:ByteArray)++itB (mx0 r.log.rep)++⟨#[32,117,110,105,116,115,32]⟩++itB r.log.units.length++⟨#[32,119,97,105,116,115,32]⟩++itB r.log.waits.length++⟨#[32,99,111,109,109,105,116,115,32]⟩++itB r.graph.commits.length++⟨#[10]⟩=Aci r:=by
 have e:=Acg [itB (mx0 r.log.rep),⟨#[117,110,105,116,115]⟩,itB r.log.units.length,⟨#[119,97,105,116,115]⟩,itB r.log.waits.length,⟨#[99,111,109,109,105,116,115]⟩,itB r.graph.commits.length] ⟨#[32]⟩ (pre:=[⟨#[114,101,112,108,105,99,97]⟩]) (by simp)
 rw[Aci,Pb]
 rw[Zap,Zar] at e
 rw[e,Qm]
 simp only[Zay,List.map_nil,Pc,show catS []=⟨#[]⟩ from rfl,A0f]
 refine D9 ?_
 simp only[Fm,Zai]
 rfl
theorem A3z {r:Replica} (h0:r.log.rep<=9223372036854775807) (hl:A8 r<=1048576):∀ x∈([⟨#[114,101,112,108,105,99,97]⟩,itB (mx0 r.log.rep),⟨#[117,110,105,116,115]⟩,itB r.log.units.length,⟨#[119,97,105,116,115]⟩,itB r.log.waits.length,⟨#[99,111,109,109,105,116,115]⟩,itB r.graph.commits.length]:List ByteArray),x.size<=21:=fun x hx=>by
 have hu:r.log.units.length<=1048576/\r.log.waits.length<=1048576/\r.graph.commits.length<=1048576:=by unfold A8 G8 Cc at hl;omega
 simp only[Zau,Zao,or_false] at hx
 rcases hx with rfl|rfl|rfl|rfl|rfl|rfl|rfl|rfl
 ·exact Z0z rfl
 ·exact Dw (A9o _) (A9p h0 (by omega))
 ·exact Z0z rfl
 ·exact Dw (by omega) (by omega)
 ·exact Z0z rfl
 ·exact Dw (by omega) (by omega)
 ·exact Z0z rfl
 ·exact Dw (by omega) (by omega)
theorem A0l {r:Replica} (h0:r.log.rep<=9223372036854775807) (hl:A8 r<=1048576):(Aci r).size<=177:=A3x (A3z h0 hl)
theorem Qt (U:St) (cs:List GV) (r:Replica) (hR:Ap.R U r cs) (hl:A8 r<=1048576) (h0:r.log.rep<=9223372036854775807) (hI:stI r.log.state):Ret Tryz.prog 12 [.agg cs] U (.str (A9x r)) U:=by
 obtain⟨v1,v2,v4,rfl,q1,q2,q4⟩:=hR
 obtain⟨st,vu,vw,rfl,hst,hu,hw⟩:=q1
 obtain⟨vg,rfl,hg⟩:=q2
 have hst0:=hst
 obtain⟨a,b,c,v,rfl,_,_,_,_⟩:=hst
 have hb:r.log.units.length<=1048576/\r.log.waits.length<=1048576/\r.graph.commits.length<=1048576/\A7 r.log.state<=1048576:=by unfold A8 G8 Cc at hl;omega
 obtain⟨hb1,hb2,hb3,hb4⟩:=hb
 refine I6 T0 (Z0z rfl) trivial ?_
 simp +contextual (disch:=omega) only[go_sem,Kc]
 intro n f N _ n7 f7 N7 H
 refine by_r H (A3t N7 _ [r.log.rep] (A25 (p:=pI) (H.hp.pt 0 rfl)) ⟨#[]⟩ (by decide) (fun x hx'=>by rw[Zas] at hx';subst hx';exact h0) (by simp)) ?_
 have e1:tolB [r.log.rep] ⟨#[]⟩=itB (mx0 r.log.rep):=Qm _ _
 rw[e1]
 simp +contextual (disch:=omega) only[go_sem,hu.len]
 refine by_r H (Gc N7 r.log.units.length (by omega) (by omega)) ?_
 simp +contextual (disch:=omega) only[go_sem,hw.len]
 refine by_r H (Gc N7 r.log.waits.length (by omega) (by omega)) ?_
 simp +contextual (disch:=omega) only[go_sem,hg.len]
 refine by_r H (Gc N7 r.graph.commits.length (by omega) (by omega)) ?_
 simp +contextual (disch:=omega) only[go_sem]
 intro n24 f24 N24 H24
 have H':=Hx.row (p:=pS) H24 [⟨#[114,101,112,108,105,99,97]⟩,itB (mx0 r.log.rep),⟨#[117,110,105,116,115]⟩,itB r.log.units.length,⟨#[119,97,105,116,115]⟩,itB r.log.waits.length,⟨#[99,111,109,109,105,116,115]⟩,itB r.graph.commits.length] rfl rfl
 obtain⟨fp,ho,_⟩:=H'.hp.see (i:=0) rfl
 refine by_r H24 (Eb N24 _ _ fp ho 21 (A3z h0 hl) (by simp) (by simp)) ?_
 simp +contextual (disch:=omega) only[go_sem]
 refine by_r H24 (A0j N24 _ r.log.state (Ab.pre hst0 H24.sub) hb4 hI) ?_
 have z1:=A0l h0 hl
 have z2:=Qs hI hb4
 have b1:(Aci r).size+(Pf r.log.state).size<=9223372036854775807:=by omega
 unfold Aci at b1
 simp +contextual (disch:=omega) only[go_sem,b1]
 exact fun _=>rfl
theorem sz7 {a b c d e f g:UInt8}:(#[a,b,c,d,e,f,g]:Array UInt8).size=7:=rfl
theorem sz8 {a b c d e f g h:UInt8}:(#[a,b,c,d,e,f,g,h]:Array UInt8).size=8:=rfl
theorem sz9 {a b c d e f g h i:UInt8}:(#[a,b,c,d,e,f,g,h,i]:Array UInt8).size=9:=rfl
theorem Qu (U:St) (cs:List GV) (r:Replica) (hR:Ap.R U r cs) (hl:A8 r<=1048576) (h0:r.log.rep<=9223372036854775807) (hI:stI r.log.state):Ret Tryz.prog 19 [.agg cs] U (.str (A9x r)) U:=by
 have z3:=A0l h0 hl
 obtain⟨v1,v2,v4,rfl,q1,q2,q4⟩:=hR
 obtain⟨st,vu,vw,rfl,hst,hu,hw⟩:=q1
 obtain⟨vg,rfl,hg⟩:=q2
 have hst0:=hst
 obtain⟨a,b,c,v,rfl,_,_,_,_⟩:=hst
 have hb:r.log.units.length<=1048576/\r.log.waits.length<=1048576/\r.graph.commits.length<=1048576/\A7 r.log.state<=1048576:=by unfold A8 G8 Cc at hl;omega
 obtain⟨hb1,hb2,hb3,hb4⟩:=hb
 have y1:=Dw (A9o r.log.rep) (A9p h0 (by omega))
 have y2:=Dw (n:=r.log.units.length) (by omega) (by omega)
 have y3:=Dw (n:=r.log.waits.length) (by omega) (by omega)
 have y4:=Dw (n:=r.graph.commits.length) (by omega) (by omega)
 have z2:=Qs hI hb4
 have hE:=Ak6 r
 refine I6 T1 (Z0z rfl) trivial ?_
 simp +contextual (disch:=omega) only[go_sem,Kf]
 intro n f N H
 refine by_r H (Sh N r.log.rep h0) ?_
 generalize itB (mx0 r.log.rep)=t1 at*
 have b1:(#[114,101,112,108,105,99,97,32]:Array UInt8).size+t1.size<=9223372036854775807:=by rw[sz8];omega
 have b2:(#[114,101,112,108,105,99,97,32]:Array UInt8).size+t1.size+(#[32,117,110,105,116,115,32]:Array UInt8).size<=9223372036854775807:=by rw[sz8,sz7];omega
 simp +contextual (disch:=omega) only[go_sem,hu.len,ByteArray.size_append,b1,b2]
 refine by_r H (Ey N r.log.units.length (by omega)) ?_
 generalize itB (r.log.units.length:Int)=t2 at*
 have b3:(#[114,101,112,108,105,99,97,32]:Array UInt8).size+t1.size+(#[32,117,110,105,116,115,32]:Array UInt8).size+t2.size<=9223372036854775807:=by rw[sz8,sz7];omega
 have b4:(#[114,101,112,108,105,99,97,32]:Array UInt8).size+t1.size+(#[32,117,110,105,116,115,32]:Array UInt8).size+t2.size+(#[32,119,97,105,116,115,32]:Array UInt8).size<=9223372036854775807:=by rw[sz8,sz7,sz7];omega
 simp +contextual (disch:=omega) only[go_sem,hw.len,ByteArray.size_append,b3,b4]
 refine by_r H (Ey N r.log.waits.length (by omega)) ?_
 generalize itB (r.log.waits.length:Int)=t3 at*
 have b5:(#[114,101,112,108,105,99,97,32]:Array UInt8).size+t1.size+(#[32,117,110,105,116,115,32]:Array UInt8).size+t2.size+(#[32,119,97,105,116,115,32]:Array UInt8).size+t3.size<=9223372036854775807:=by rw[sz8,sz7,sz7];omega
 have b6:(#[114,101,112,108,105,99,97,32]:Array UInt8).size+t1.size+(#[32,117,110,105,116,115,32]:Array UInt8).size+t2.size+(#[32,119,97,105,116,115,32]:Array UInt8).size+t3.size+(#[32,99,111,109,109,105,116,115,32]:Array UInt8).size<=9223372036854775807:=by rw[sz8,sz7,sz7,sz9];omega
 simp +contextual (disch:=omega) only[go_sem,hg.len,ByteArray.size_append,b5,b6]
 refine by_r H (Ey N r.graph.commits.length (by omega)) ?_
 generalize itB (r.graph.commits.length:Int)=t4 at*
 have b7:(#[114,101,112,108,105,99,97,32]:Array UInt8).size+t1.size+(#[32,117,110,105,116,115,32]:Array UInt8).size+t2.size+(#[32,119,97,105,116,115,32]:Array UInt8).size+t3.size+(#[32,99,111,109,109,105,116,115,32]:Array UInt8).size+t4.size<=9223372036854775807:=by rw[sz8,sz7,sz7,sz9];omega
 have b8:(#[114,101,112,108,105,99,97,32]:Array UInt8).size+t1.size+(#[32,117,110,105,116,115,32]:Array UInt8).size+t2.size+(#[32,119,97,105,116,115,32]:Array UInt8).size+t3.size+(#[32,99,111,109,109,105,116,115,32]:Array UInt8).size+t4.size+(#[10]:Array UInt8).size<=9223372036854775807:=by rw[sz8,sz7,sz7,sz9,sz1];omega
 simp +contextual (disch:=omega) only[go_sem,ByteArray.size_append,b7,b8]
 refine by_r H (A0k N _ r.log.state (Ab.pre hst0 H.sub) hb4 hI) ?_
 have b9:(#[114,101,112,108,105,99,97,32]:Array UInt8).size+t1.size+(#[32,117,110,105,116,115,32]:Array UInt8).size+t2.size+(#[32,119,97,105,116,115,32]:Array UInt8).size+t3.size+(#[32,99,111,109,109,105,116,115,32]:Array UInt8).size+t4.size+(#[10]:Array UInt8).size+(Pf r.log.state).size<=9223372036854775807:=by rw[sz8,sz7,sz7,sz9,sz1];omega
 have b10:(Aci r).size+(Pf r.log.state).size<=9223372036854775807:=by omega
 simp +contextual (disch:=omega) only[go_sem,ByteArray.size_append,b9,hE,b10]
 exact fun _=>rfl
def Pp:Fn1:=⟨19,[.t 2],(rg [oX 1 0,o 2 (.mov (.k s0))] (rg [o 3 (.mov (.k s0))] (.seq (rg [oF 6 0 1,oL 7 6,oN 8 7,oV 9 (ki 0)] (oH 0 (rg [oB 10 .lss 9 8] (.seq (oJ 10 0) (.seq (.blk 1 (rg [oI 11 14 7 9,oW 12 14 11,o 5 (.new [z0,z0,z0,.nilS,.nilS,.nilS,.nilS,.nilS,.nilS,.nilS,z0,s0,z0,.nilS]),oS 14 5 12] (.reg [oM 13 3,oW 14 14 5,oC 15 12 14,oB 16 .add 13 15,oM 3 16]))) (.reg [oZ 17 9 1,oM 9 17])))))) (rg [oM 18 3,oM 2 18] .ret))))⟩
theorem A1l:A2 Tryz.prog 8=some Pp:=by kernel_rfl
def Pr:Fn1:=⟨21,[.t 2],(rg [oX 1 0,o 2 (.mov (.k s0))] (rg [o 3 (.mov (.k s0))] (.seq (rg [oV 4 (ki 0)] (oH 0 (.seq (rg [oM 5 4,oF 6 0 1,oL 7 6,oN 8 7,oB 9 .lss 5 8] (oJ 9 0)) (.seq (.blk 1 (.reg [oM 12 3,oF 13 0 1,oL 14 13,oM 15 4,oI 16 14 14 15,oW 17 14 16,oC 18 19 17,oB 19 .add 12 18,oM 3 19])) (.reg [oM 10 4,oZ 11 10 1,oM 4 11]))))) (rg [oM 20 3,oM 2 20] .ret))))⟩
theorem A1m:A2 Tryz.prog 6=some Pr:=by kernel_rfl
def Hl (l:List Replica):ByteArray:=catS (l.map A9x)
theorem Qv:Hl []=⟨#[]⟩:=(rfl)
def shR (r:Replica):Prop:=r.log.rep<=9223372036854775807/\stI r.log.state
theorem Qw {r:Replica} (h:shR r) (hl:A8 r<=1048576):(A9x r).size<=400000000000:=by
 have h1:=A0l h.1 hl
 have h2:=Qs h.2 (show A7 r.log.state<=1048576 by unfold A8 G8 at hl;omega)
 rw[A9x,ByteArray.size_append];omega
theorem Md:∀ {l:List Replica},(∀ r∈l,shR r/\A8 r<=1048576)->(Hl l).size<=400000000000*l.length
 |[],_=>by rw[Qv];exact Nat.zero_le _
 |r::l,h=>by
  have h1:=Qw (h r Zat).1 (h r Zat).2
  have h2:=Md (l:=l) fun x hx=>h x (Zav _ hx)
  rw[Hl] at h2 ⊢
  rw[Zay,Pc,ByteArray.size_append,Zae];omega
theorem A0m {l:List Replica} {i:Nat} (hi:i<l.length):Hl (l.take (i+1))=Hl (l.take i)++A9x l[i]:=by
 rw[Ai hi,Hl,List.map_append]
 exact Xz _ _
theorem A0n (U:St) (cs:List GV) (x:World_) (hR:By.R U x cs) (hl:x.replicas.length+sumL A8 x.replicas<=1048576) (hx:∀ r∈x.replicas,shR r):Ret Tryz.prog 8 [.agg cs] U (.str (Hl x.replicas)) U:=by
 obtain⟨v0,v1,v2,v3,rfl,q0,_,_,_⟩:=hR
 generalize x.replicas=l at*
 refine I6 A1l (Z0z rfl) trivial ?_
 simp +contextual (disch:=omega) only[go_sem,Pp,q0.len]
 intro n f N H
 refine C3 l.length 9 0 (fun i env h=>env 3= .str (Hl (l.take i))/\env 7=v0/\env 8=gi l.length/\h=[.box 1 n [v0,v1,v2,v3]]) (fun env h=>env 3= .str (Hl l)/\h=[.box 1 n [v0,v1,v2,v3]]) (fun env h=>False) _ H (by simp +contextual (disch:=omega) only[go_sem]) ⟨by simp +contextual (disch:=omega) only[go_sem,Zax,Qv],by simp +contextual (disch:=omega) only[go_sem],by simp +contextual (disch:=omega) only[go_sem],rfl⟩ ?_ ?_ ?_ (fun _ _ _ _ h=>h.elim)
 ·clear H
  rintro J Yq Wq hJ hY hW i env h N hi ei c0 H ⟨e3,e7,e8,rfl⟩
  obtain⟨cs,Uq1,hU⟩:=Lz q0 hi
  have cl:=Ap.len hU
  have cl:cs.length=14:=cl
  have hmu:A8 l[i]<=sumL A8 l:=B8 (f:=A8) (Zab hi)
  have hr:=hx _ (Zab hi)
  have Uq2:ldX U _ N true 14 (atz 14 v0 i)=some _:=Aic (h:=[.box 1 n [v0,v1,v2,v3]]) Uq1.2
  simp +contextual (disch:=omega) only[go_sem,c0,e3,e7,e8,ei,A1,Uq1.1,Uq2,Tr (cs:=zeR) cl rfl,cl,Bk cl]
  intro n5 f5 N5 _ N6 H6
  try simp +contextual (disch:=omega) only[go_sem,e3,e7,e8,ei,Bk cl,cl]
  refine by_r H6 (Qt N6 cs l[i] (Ap.pre hU H6.sub) (by omega) hr.1 hr.2) ?_
  have z1:=Qw hr (by omega)
  have z2:=Md (l:=l.take i) fun r hr=>⟨hx r (Zak hr),by have:=B8 (f:=A8) (Zak hr);omega⟩
  have z3:(Hl (l.take i)).size+(A9x l[i]).size<=9223372036854775807:=by rw[Zal] at z2;omega
  simp +contextual (disch:=omega) only[go_sem,e3,e7,e8,ei,z3]
  exact hJ _ _ _ _ (Hp.drop1 H6) ⟨by rw[A0m hi];simp +contextual (disch:=omega) only[go_sem],by simp +contextual (disch:=omega) only[go_sem,e7],by simp +contextual (disch:=omega) only[go_sem,e8],rfl⟩
 ·rintro Yq hY env h N ei c0 H ⟨e3,e7,e8,rfl⟩
  rw[Zaa] at e3
  simp +contextual (disch:=omega) only[go_sem,c0,e8,ei]
  exact hY _ _ _ H ⟨by simp +contextual (disch:=omega) only[go_sem,e3],rfl⟩
 ·rintro env h N H ⟨e3,rfl⟩
  simp +contextual (disch:=omega) only[go_sem,e3]
  try exact fun _=>rfl
theorem A0o (U:St) (cs:List GV) (x:World_) (hR:By.R U x cs) (hl:x.replicas.length+sumL A8 x.replicas<=1048576) (hx:∀ r∈x.replicas,shR r):Ret Tryz.prog 6 [.agg cs] U (.str (Hl x.replicas)) U:=by
 obtain⟨v0,v1,v2,v3,rfl,q0,_,_,_⟩:=hR
 generalize x.replicas=l at*
 refine I6 A1m (Z0z rfl) trivial ?_
 simp +contextual (disch:=omega) only[go_sem,Pr,q0.len]
 intro n f N H
 refine C3 l.length 4 0 (fun i env h=>env 3= .str (Hl (l.take i))/\env 1= .ptr n 0/\h=[.box 1 n [v0,v1,v2,v3]]) (fun env h=>env 3= .str (Hl l)/\h=[.box 1 n [v0,v1,v2,v3]]) (fun env h=>False) _ H (by simp +contextual (disch:=omega) only[go_sem]) ⟨by simp +contextual (disch:=omega) only[go_sem,Zax,Qv],by simp +contextual (disch:=omega) only[go_sem],rfl⟩ ?_ ?_ ?_ (fun _ _ _ _ h=>h.elim)
 ·clear H
  rintro J Yq Wq hJ hY hW i env h N hi ei c0 H ⟨e3,e1,rfl⟩
  obtain⟨cs,Uq1,hU⟩:=Lz q0 hi
  have cl:=Ap.len hU
  have cl:cs.length=14:=cl
  have hmu:A8 l[i]<=sumL A8 l:=B8 (f:=A8) (Zab hi)
  have hr:=hx _ (Zab hi)
  have Uq2:ldX U _ N true 14 (atz 14 v0 i)=some _:=Aic (h:=[.box 1 n [v0,v1,v2,v3]]) Uq1.2
  simp +contextual (disch:=omega) only[go_sem,c0,e3,e1,ei,A1,q0.len,Uq1.1,Uq2]
  refine by_r H (Qu N cs l[i] (Ap.pre hU H.sub) (by omega) hr.1 hr.2) ?_
  have z1:=Qw hr (by omega)
  have z2:=Md (l:=l.take i) fun r hr=>⟨hx r (Zak hr),by have:=B8 (f:=A8) (Zak hr);omega⟩
  have z3:(Hl (l.take i)).size+(A9x l[i]).size<=9223372036854775807:=by rw[Zal] at z2;omega
  simp +contextual (disch:=omega) only[go_sem,e3,e1,ei,z3]
  exact hJ _ _ _ _ H ⟨by rw[A0m hi];simp +contextual (disch:=omega) only[go_sem],by simp +contextual (disch:=omega) only[go_sem,e1],rfl⟩
 ·rintro Yq hY env h N ei c0 H ⟨e3,e1,rfl⟩
  rw[Zaa] at e3
  simp +contextual (disch:=omega) only[go_sem,c0,e1,ei,q0.len]
  exact hY _ _ _ H ⟨by simp +contextual (disch:=omega) only[go_sem,e3],rfl⟩
 ·rintro env h N H ⟨e3,rfl⟩
  simp +contextual (disch:=omega) only[go_sem,e3]
  try exact fun _=>rfl
theorem Ahw {x:List (List Int)} (h:((x).length<=9223372036854775807/\∀ y5∈x,((y5).length<=9223372036854775807/\∀ y4∈y5,I64 (y4)))):x.length<=9223372036854775807/\∀ y∈x,Ajl y:=⟨h.1,fun y hy=>(h.2 y hy).1⟩
theorem Ahx {x:Tally} (h:zTally x):Ts x:=h.1
theorem A9y {x:List Tally} (h:((x).length<=9223372036854775807/\∀ y6∈x,zTally (y6))):x.length<=9223372036854775807/\∀ y∈x,Ts y:=⟨h.1,fun y hy=>Ahx (h.2 y hy)⟩
theorem Ak7 {x:Live} (h:zLive x):Adz x:=⟨h.2.1,h.2.2.1⟩
theorem Adg {x:List Live} (h:((x).length<=9223372036854775807/\∀ y5∈x,zLive (y5))):x.length<=9223372036854775807/\∀ y∈x,Adz y:=⟨h.1,fun y hy=>Ak7 (h.2 y hy)⟩
theorem Ak8 {x:Cell} (h:zCell x):Aae x:=h.1
theorem Adh {x:List Cell} (h:((x).length<=9223372036854775807/\∀ y5∈x,zCell (y5))):x.length<=9223372036854775807/\∀ y∈x,Aae y:=⟨h.1,fun y hy=>Ak8 (h.2 y hy)⟩
theorem Ak9 {x:File} (h:zFile x):Ahg x:=h.1
theorem Agr {x:Letter} (h:zLetter x):Q6 x:=h.2
theorem Aew {x:List Letter} (h:((x).length<=9223372036854775807/\∀ y7∈x,zLetter (y7))):x.length<=9223372036854775807/\∀ y∈x,Q6 y:=⟨h.1,fun y hy=>Agr (h.2 y hy)⟩
theorem zAct_w {x:Act} (h:zAct x):wAct x:=⟨h.2.2.1.1,h.2.2.2.2.1,h.2.2.2.2.2.1⟩
theorem Adi {x:State} (h:zState x):Acx x:=⟨h.1.1,A9y h.2.1,Adg h.2.2.1,Adh h.2.2.2⟩
theorem Ahy {x:Delta} (h:zDelta x):Afz x:=⟨h.1.1,h.2.1.1,A9y h.2.2.1,Adg h.2.2.2.1,h.2.2.2.2.1.1,Adh h.2.2.2.2.2⟩
theorem Ahz {x:Unit_} (h:zUnit_ x):Aaf x:=⟨zAct_w h.2.1,Ahy h.2.2⟩
theorem A62 {x:List Unit_} (h:((x).length<=9223372036854775807/\∀ y6∈x,zUnit_ (y6))):x.length<=9223372036854775807/\∀ y∈x,Aaf y:=⟨h.1,fun y hy=>Ahz (h.2 y hy)⟩
theorem zLog_w {x:Log} (h:zLog x):wLog x:=⟨Adi h.2.2.1,A62 h.2.2.2.1,A62 h.2.2.2.2⟩
theorem Ags {x:Commit} (h:zCommit x):Tt x:=⟨h.2.1.1,Adi h.2.2⟩
theorem Aex {x:List Commit} (h:((x).length<=9223372036854775807/\∀ y7∈x,zCommit (y7))):x.length<=9223372036854775807/\∀ y∈x,Tt y:=⟨h.1,fun y hy=>Ags (h.2 y hy)⟩
theorem Ai0 {x:Graph} (h:zGraph x):Acy x:=Aex h.1
theorem Aey {x:Replica} (h:zReplica x):Mm x:=⟨zLog_w h.2.1,Ai0 h.2.2.1,Ak9 h.2.2.2.1,A62 h.2.2.2.2⟩
theorem Acj {x:List Replica} (h:((x).length<=9223372036854775807/\∀ y8∈x,zReplica (y8))):x.length<=9223372036854775807/\∀ y∈x,Mm y:=⟨h.1,fun y hy=>Aey (h.2 y hy)⟩
theorem Agt {x:World_} (h:zWorld_ x):Aia x:=⟨Acj h.1,Aew h.2.1,h.2.2.1.1,Ahw h.2.2.2⟩
def G4:Fn1:=⟨27,[.t 2],(rg [oX 1 0,oV 2 kf] (rg [oV 3 (ki 1048576)] (rg [oW 7 4 1,oM 8 3,oD 9 5 7 8,oM 3 9] (.seq (rg [oM 10 3,oE 11 .lss 10 0] (oG 11 (oR 2 kt))) (rg [oW 12 4 1,oC 13 7 12,oC 14 6 13,oM 4 14] (rg [oW 15 4 1,oC 16 7 15,o 5 (.new [.nilS,.nilS,.nilS,.nilS]),oS 4 5 16] (rg [oW 17 4 5,oC 18 8 17,oM 6 18] (.seq (rg [oM 19 6,oM 20 4,oB 21 .neq 19 20] (oG 21 (oR 2 kf))) (.seq (dw [oW 22 4 5,oW 23 4 1,oC 24 7 23] [oD 25 9 22 24,oU 26 25] (oG 26 (oR 2 kf))) (oR 2 kt))))))))))⟩
theorem Kg:A2 Tryz.prog 3=some G4:=by kernel_rfl
theorem law_ShowWorld (U:St) (cs0:List GV) (x0:World_) (hR0:eWorld_.R U x0 cs0) (hw0:zWorld_ x0):∃ r N,Ret Tryz.prog 3 [.agg cs0] U r N/\r= .bool true:=by
 have hsh:∀ r∈x0.replicas,shR r:=fun r hr=>by
  have hz:=hw0.1.2 r hr
  exact⟨hz.2.1.1.2,⟨fun x hx=>(hz.2.1.2.2.1.2.2.1.2 x hx).2.2.2.1.2,fun x hx=>(hz.2.1.2.2.1.2.2.2.2 x hx).2.2.2.2.1.2⟩⟩
 have hR0:=Ahd hR0
 have hl0:=By.len hR0
 have hw0:=Agt hw0
 refine Ajh Kg (Z0z rfl) ?_
 have hB:U <+: U++[some (Blk.row 1 (cs0))]:=pre1 _ _
 have hb0:rdB (U++[some (Blk.row 1 (cs0))]) (U).length=some (cs0):=Ld (Zam _)
 have hs0:(seg cs0 0 4).bind (mkv true)=some (.agg cs0):=Bk hl0
 simp +contextual (disch:=omega) only[go_sem,G4,A4 (Bw (Zam _) hb0),hs0,Zad]
 refine A5 (A57 _ cs0 x0 (By.pre hR0 (hB.trans (Zam _))) (1048576) hw0 (by omega) (by omega)) ?_
 have ge0:= @A4h (1048576) (Em x0)
 have gm0:= @Co (1048576) (Em x0) (by omega)
 try simp +contextual (disch:=omega) only[go_sem,Zad,ite_self,ne_eq,not_true_eq_false,bne_self_eq_false,beq_self_eq_true,A4 (Bw (Zam _) hb0),hs0]
 refine⟨fun _=>hB.length_le,fun hn=> ?_⟩
 have hn:=of_decide_eq_false hn
 have hf0:=Ar hn
 have hu0:Em x0<=1048576:=by omega
 have hsum:x0.replicas.length+sumL A8 x0.replicas<=1048576:=by unfold Em at hu0;omega
 try simp +contextual (disch:=omega) only[go_sem,Zad,ite_self,ne_eq,not_true_eq_false,bne_self_eq_false,beq_self_eq_true,A4 (Bw (Zam _) hb0),hs0]
 have H:=Hp.refl (U++[some (Blk.row 1 (cs0))])
 try simp +contextual (disch:=omega) only[go_sem,Zad,ite_self,ne_eq,not_true_eq_false,bne_self_eq_false,beq_self_eq_true,A4 (Bw H.sub hb0),hs0]
 obtain⟨_,N1,R1,_,d1,rfl,K1⟩:=Iw _ cs0 x0 (By.pre hR0 (hB.trans H.sub)) (by omega)
 refine Ez R1 K1 ?_
 have H:=H.add K1
 try simp only[Zap,Zar] at H
 have g1:=Bk (By.len (K1.rd 0 rfl))
 have g1:(seg d1 0 4).bind (mkv true)=some (.agg d1):=g1
 have gl1:d1.length=4:=By.len (K1.rd 0 rfl)
 try simp +contextual (disch:=omega) only[go_sem,Zad,ite_self,ne_eq,not_true_eq_false,bne_self_eq_false,beq_self_eq_true,A4 (Bw H.sub hb0),hs0,g1]
 refine A5 (A0o _ d1 x0 (H.rd 0 rfl) hsum hsh) ?_
 have hpw:=H.sub
 have H:=H.restart
 try simp +contextual (disch:=omega) only[go_sem,Zad,ite_self,ne_eq,not_true_eq_false,bne_self_eq_false,beq_self_eq_true,A4 (Bw (hpw.trans H.sub) hb0),hs0,g1]
 obtain⟨_,N3,R3,_,d3,rfl,K3⟩:=Iw _ cs0 x0 (By.pre hR0 (hB.trans (hpw.trans H.sub))) (by omega)
 refine Ez R3 K3 ?_
 have H:=H.add K3
 try simp only[Zap,Zar] at H
 have g3:=Bk (By.len (K3.rd 0 rfl))
 have g3:(seg d3 0 4).bind (mkv true)=some (.agg d3):=g3
 have gl3:d3.length=4:=By.len (K3.rd 0 rfl)
 try simp +contextual (disch:=omega) only[go_sem,Zad,ite_self,ne_eq,not_true_eq_false,bne_self_eq_false,beq_self_eq_true,A4 (Bw (hpw.trans H.sub) hb0),hs0,g1,g3]
 have H:=H.new 1 d3
 try simp +contextual (disch:=omega) only[go_sem,Zad,ite_self,ne_eq,not_true_eq_false,bne_self_eq_false,beq_self_eq_true,A4 (Bw (hpw.trans H.sub) hb0),hs0,A4 (H.pt 0 rfl),g1,g3,Tr (cs:=[GV.nilS,GV.nilS,GV.nilS,GV.nilS]) gl3 rfl,gl3]
 refine A5 (A0n _ d3 x0 (H.rd 1 rfl) hsum hsh) ?_
 try simp +contextual (disch:=omega) only[go_sem,Zad,ite_self,ne_eq,not_true_eq_false,bne_self_eq_false,beq_self_eq_true,A4 (Bw (hpw.trans H.sub) hb0),hs0,A4 (H.pt 0 rfl),g1,g3]
 try simp +contextual (disch:=omega) only[go_sem,Zad,ite_self,ne_eq,not_true_eq_false,bne_self_eq_false,beq_self_eq_true,A4 (Bw (hpw.trans H.sub) hb0),hs0,A4 (H.pt 0 rfl),g1,g3]
 try simp +contextual (disch:=omega) only[go_sem,Zad,ite_self,ne_eq,not_true_eq_false,bne_self_eq_false,beq_self_eq_true,A4 (Bw (hpw.trans H.sub) hb0),hs0,A4 (H.pt 0 rfl),g1,g3]
 obtain⟨_,N5,R5,_,d5,rfl,K5⟩:=Iw _ cs0 x0 (By.pre hR0 (hB.trans (hpw.trans H.sub))) (by omega)
 refine Ez R5 K5 ?_
 have H:=H.add K5
 try simp only[Zap,Zar] at H
 have g5:=Bk (By.len (K5.rd 0 rfl))
 have g5:(seg d5 0 4).bind (mkv true)=some (.agg d5):=g5
 have gl5:d5.length=4:=By.len (K5.rd 0 rfl)
 try simp +contextual (disch:=omega) only[go_sem,Zad,ite_self,ne_eq,not_true_eq_false,bne_self_eq_false,beq_self_eq_true,A4 (Bw (hpw.trans H.sub) hb0),hs0,A4 (H.pt 1 rfl),g1,g3,g5]
 refine A5 (A4z _ _ _ _ _ (H.rd 2 rfl) (H.rd 0 rfl) (by omega)) ?_
 try simp +contextual (disch:=omega) only[go_sem,Zad,ite_self,ne_eq,not_true_eq_false,bne_self_eq_false,beq_self_eq_true,A4 (Bw (hpw.trans H.sub) hb0),hs0,A4 (H.pt 1 rfl),g1,g3,g5,decide_true,eq_self]
 exact(hB.trans (hpw.trans H.sub)).length_le
end Go.Proofs.YtckobfochhjmdaaGreatDoor.Sy
