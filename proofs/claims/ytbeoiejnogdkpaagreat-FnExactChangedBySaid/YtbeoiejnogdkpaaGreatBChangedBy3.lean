/- Texts of this proof, one behind the other. -/
import Derived.Test.YtbeoiejnogdkpaaGreatBChangedBy2
import Derived.Test.YtbeoiejnogdkpaaGreatProg
import Derived.KernelRfl
set_option linter.unusedSimpArgs false
set_option linter.unusedVariables false
set_option maxRecDepth 4000
namespace Go.Proofs.YtbeoiejnogdkpaaGreat.Sy
section
open Go Go.RowKit
abbrev n_s_l07Do:Nat:=249
def F_s_l07Do:Fn1:=⟨127,[],(rg [oX 3 1] (.seq (.drw [oM 4 0,oK 5 4,oF 6 0 5,oL 7 6,oF 8 0 3,oF 9 0 8,oL 10 9,oF 11 0 3,oF 12 1 11,oL 13 12] [oI 14 1 7 10,oS 1 14 13]) (rg [oF 15 4 3,oL 16 15] (.blk 0 (rg [o 18 (.bin .eql (.t 16) (ki 1)),oM 17 18] (.cnd (.t 17) (.reg [oM 19 0,oF 20 5 3,oL 21 20,oF 22 0 3,oF 23 0 22,oL 24 23,oF 25 7 3,oL 26 25,o 27 (.call 319 [(.t 19),(.t 21),(.t 24),(.t 26)])]) (rg [o 29 (.bin .eql (.t 16) (ki 2)),oM 28 29] (.cnd (.t 28) (.drw [oM 30 0,oM 31 0,oK 32 31,oF 33 2 32,oL 34 33,oF 35 5 3,oL 36 35,oF 37 6 3,oL 38 37,oF 39 0 3,oW 40 2 39] [o 41 (.build [(.bool false),(.str ⟨#[]⟩),(.str ⟨#[]⟩),z0,z0,z0] [(1,1,(.t 36)),(2,1,(.t 38)),(4,2,(.t 40))]),oD 42 320 34 41,oK 43 30,oF 44 2 43,oS 1 44 42]) (rg [o 46 (.bin .eql (.t 16) (ki 3)),oM 45 46] (.cnd (.t 45) (.reg [oM 47 0,oF 48 5 3,oL 49 48,oF 50 6 3,oL 51 50,oF 52 3 3,oL 53 52,o 54 (.call 321 [(.t 47),kf,(.t 49),(.t 51),(.t 53)])]) (rg [o 56 (.bin .eql (.t 16) (ki 4)),oM 55 56] (.cnd (.t 55) (rg [oM 57 0,oF 58 5 3,oL 59 58,oF 60 6 3,oL 61 60,oF 62 3 3,oL 63 62,o 64 (.call 321 [(.t 57),kt,(.t 59),(.t 61),(.t 63)])] (.drw [oM 65 0,oM 66 0,oK 67 66,oF 68 2 67,oL 69 68,oF 70 5 3,oL 71 70,oF 72 6 3,oL 73 72,oF 74 7 3,oL 75 74,oF 76 0 3,oW 77 2 76] [o 78 (.build [(.bool false),(.str ⟨#[]⟩),(.str ⟨#[]⟩),z0,z0,z0] [(0,1,kt),(1,1,(.t 71)),(2,1,(.t 73)),(3,1,(.t 75)),(4,2,(.t 77))]),oD 79 320 69 78,oK 80 65,oF 81 2 80,oS 1 81 79])) (rg [o 83 (.bin .eql (.t 16) (ki 5)),oM 82 83] (.cnd (.t 82) (.reg [oM 84 0,oF 85 5 3,oL 86 85,oF 87 6 3,oL 88 87,oF 89 3 3,oL 90 89,o 91 (.call 321 [(.t 84),kt,(.t 86),(.t 88),(.t 90)])]) (rg [o 93 (.bin .eql (.t 16) (ki 6)),oM 92 93] (.cnd (.t 92) (.drw [oM 94 0,oM 95 0,oK 96 95,oF 97 3 96,oL 98 97,oF 99 5 3,oL 100 99,oF 101 0 3,oW 102 2 101,oF 103 2 3,oL 104 103,oF 105 8 3,oW 106 2 105,oF 107 7 3,oL 108 107] [o 109 (.build [(.str ⟨#[]⟩),z0,z0,z0,z0,z0,z0,(.bool false)] [(0,1,(.t 100)),(1,2,(.t 102)),(3,1,(.t 104)),(4,2,(.t 106)),(6,1,(.t 108))]),oD 110 322 98 109,oK 111 94,oF 112 3 111,oS 1 112 110]) (rg [o 114 (.bin .eql (.t 16) (ki 7)),oM 113 114] (.cnd (.t 113) (.drw [oM 115 0,oK 116 115,oF 117 3 116,oL 118 117,oM 119 0,oK 120 119,oW 121 4 120,oF 122 8 3,oW 123 2 122,oD 124 146 121 123] [oI 125 8 118 124,oF 126 7 125,on (.st 1 (.t 126) kt)]) .skip))))))))))))))))))⟩
abbrev n_s_DoAct:Nat:=140
def F_s_DoAct:Fn1:=⟨57,[.c 4 true 4,.t 5],(rg [oX 2 0,oX 3 1,o 4 (.new [.nilS,.nilS,.nilS,.nilS]),oV 5 (ki 0)] (rg [oW 7 4 2,oC 8 247 7,o 6 (.new [.nilS,.nilS,.nilS,.nilS]),oS 4 6 8] (.seq (rg [oW 9 4 2,oC 10 199 9,oU 11 10,oM 12 11,og 13 12 false (.ld true 10 (.t 3)),og 14 12 false (.call 185 [(.t 13)]),og 15 12 false (.un .not (.t 14)),o 16 (.pick (.t 12) kt (.t 15))] (.cnd (.t 16) (rg [oW 17 4 6,oS 4 4 17,oV 5 (ki 3)] .ret) .skip)) (.seq (rg [oF 18 0 2,oL 19 18,oF 20 0 3,oW 21 2 20,oD 22 45 19 21] (.cnd (.t 22) (rg [oW 23 4 6,oS 4 4 23,oV 5 (ki 1)] .ret) .skip)) (.seq (rg [oF 24 3 3,oL 25 24,oF 26 0 2,oL 27 26,oD 28 178 25 27,oU 29 28] (.cnd (.t 29) (rg [oW 30 4 6,oS 4 4 30,oV 5 (ki 2)] .ret) .skip)) (.seq (rg [oW 31 4 2,oW 32 10 3,oD 33 248 31 32,oU 34 33] (.cnd (.t 34) (rg [oW 35 4 6,oS 4 4 35,oV 5 (ki 3)] .ret) .skip)) (rg [oW 36 10 3,oD 37 249 6 36] (.seq (rg [oF 38 1 6,oL 39 38,oN 40 39,o 41 (.bin .gtr (.t 40) (ki 120)),oM 42 41,og 43 42 false (.fad 2 (.t 6)),og 44 42 false (.ld false 1 (.t 43)),og 45 42 false (.len false (.t 44)),og 46 42 false (.bin .gtr (.t 45) (ki 120)),o 47 (.pick (.t 42) kt (.t 46)),oM 48 47,og 49 48 false (.fad 3 (.t 6)),og 50 48 false (.ld false 1 (.t 49)),og 51 48 false (.len false (.t 50)),og 52 48 false (.bin .gtr (.t 51) (ki 120)),o 53 (.pick (.t 48) kt (.t 52))] (.cnd (.t 53) (rg [oW 54 4 2,oC 55 247 54,oS 4 4 55,oV 5 (ki 4)] .ret) .skip)) (rg [oW 56 4 6,oS 4 4 56,oV 5 (ki 0)] .ret)))))))))⟩
theorem SPtr.drop {σ0 τ:St} {g:Nat} {s:State} {x:Thg} {rest:List Thg} (H:SPtr σ0 τ g s (x::rest)):SPtr σ0 τ g s rest:=by
 obtain⟨v0,v1,v2,v3,H⟩:=H
 exact⟨v0,v1,v2,v3,(H.pick 5 rfl).drop1⟩
theorem SPtr.push {σ0 τ:St} {g:Nat} {s:State} {rest:List Thg} (H:SPtr σ0 τ g s rest) (z:Nat) (cs:List GV):SPtr σ0 (τ++[some (.row z cs)]) g s (pt z τ.length cs::rest):=by
 obtain⟨v0,v1,v2,v3,H⟩:=H
 refine⟨v0,v1,v2,v3,?_⟩
 exact(H.new z cs).perm (List.perm_middle (l₁:=[_,_,_,_,_])).symm
abbrev actV (a:Act) (kv:GV):List GV:=[.int .i64 a.dot.rep,.int .i64 a.dot.seq,.int .i64 a.time,kv,.int .i64 a.kind,.str a.obj,.str a.key,.int .i64 a.val,.int .i64 a.ref.rep,.int .i64 a.ref.seq]
theorem SPtr.own {σ τ:St} {rs:List Thg} {x:State} {g:Nat} (H:SPtr σ τ g x rs):∃ v0 v1 v2 v3,rdB τ g=some [v0,v1,v2,v3]∧lenG false v1=some (x.tallies.length:Int)∧lenG false v2=some (x.lives.length:Int)∧lenG false v3=some (x.cells.length:Int)∧Hp σ τ (own A9 [v0,v1,v2,v3] x::rs):=by
 obtain⟨v0,v1,v2,v3,H⟩:=H
 refine⟨v0,v1,v2,v3,H.pt 4 rfl,(H.sl 1 rfl).len,(H.sl 2 rfl).len,(H.sl 3 rfl).len,?_⟩
 exact Hp.ownState ((H.pick 4 rfl).drop1)
end
section
open Go Go.RowKit
abbrev n_i_DoAct:Nat:=152
def F_i_DoAct:Fn1:=⟨176,[.c 4 true 4,.t 5],(rg [oX 2 0,oX 3 1,o 4 (.new [.nilS,.nilS,.nilS,.nilS]),oV 5 (ki 0)] (rg [oW 10 4 2,oC 11 255 10,o 6 (.new [.nilS,.nilS,.nilS,.nilS]),oS 4 6 11] (.seq (.blk 0 (rg [oW 13 4 2,oC 14 195 13,oU 15 14,oM 16 15,og 17 16 false (.ld true 10 (.t 3)),og 18 16 false (.call 169 [(.t 17)]),og 19 16 false (.un .not (.t 18)),o 20 (.pick (.t 16) kt (.t 19)),oM 12 20] (.cnd (.t 12) (rg [oW 21 4 6,oS 4 4 21,oV 5 (ki 3)] .ret) (rg [oF 23 0 2,oL 24 23,oF 25 0 3,oW 26 2 25,oD 27 170 24 26,oM 22 27] (.cnd (.t 22) (rg [oW 28 4 6,oS 4 4 28,oV 5 (ki 1)] .ret) (rg [oF 30 3 3,oL 31 30,oF 32 0 2,oL 33 32,oD 34 177 31 33,oU 35 34,oM 29 35] (.cnd (.t 29) (rg [oW 36 4 6,oS 4 4 36,oV 5 (ki 2)] .ret) .skip))))))) (rg [oW 37 4 2,oF 38 8 3,oW 39 2 38,oD 40 158 37 39,oM 7 40] (.seq (.seq (.drw [oF 41 8 3,oW 42 2 41,o 43 (.build [z0,z0] []),o 44 (.eqs true [.i .i64,.i .i64] (.t 42) (.t 43)),oM 45 44,og 46 45 true (.mov (.t 7)),og 47 45 true (.bin .lss (.t 46) (ki 0)),og 48 45 true (.mov (.t 47)),og 49 48 false (.fad 3 (.t 2)),og 50 48 false (.ld false 1 (.t 49)),og 51 48 false (.mov (.t 7)),og 52 48 false (.iad 8 (.t 50) (.t 51)),og 53 48 false (.fad 0 (.t 52)),og 54 48 false (.ld false 1 (.t 53)),og 55 48 false (.fad 5 (.t 3)),og 56 48 false (.ld false 1 (.t 55)),og 57 48 false (.bin .neq (.t 54) (.t 56)),og 58 45 true (.pick (.t 48) kt (.t 57)),og 59 45 true (.mov (.t 58)),og 60 59 false (.fad 4 (.t 3)),og 61 59 false (.ld false 1 (.t 60)),og 62 59 false (.bin .eql (.t 61) (ki 6)),og 63 59 false (.mov (.t 62)),og 64 63 true (.fad 2 (.t 3)),og 65 63 true (.ld false 1 (.t 64)),og 66 63 true (.fad 3 (.t 2)),og 67 63 true (.ld false 1 (.t 66)),og 68 63 true (.mov (.t 7)),og 69 63 true (.iad 8 (.t 67) (.t 68)),og 70 63 true (.fad 3 (.t 69)),og 71 63 true (.ld false 1 (.t 70))] [og 72 63 true (.bin .leq (.t 65) (.t 71)),og 73 59 false (.pick (.t 63) (.t 72) kf),og 74 45 true (.pick (.t 59) kt (.t 73)),o 75 (.pick (.t 45) (.t 74) kf)]) (.cnd (.t 75) (rg [oW 76 4 6,oS 4 4 76,oV 5 (ki 3)] .ret) .skip)) (rg [oW 77 4 2,oC 78 255 77,o 8 (.new [.nilS,.nilS,.nilS,.nilS]),oS 4 8 78] (rg [oF 79 0 8,oL 80 79,oF 81 0 3,oF 82 0 81,oL 83 82,oF 84 0 3,oF 85 1 84,oL 86 85,oI 87 1 80 83,oS 1 87 86] (.seq (rg [oF 88 4 3,oL 89 88] (.blk 1 (rg [o 91 (.bin .eql (.t 89) (ki 1)),oM 90 91] (.cnd (.t 90) (.reg [oF 92 1 2,oL 93 92,oF 94 5 3,oL 95 94,oF 96 0 3,oF 97 0 96,oL 98 97,oF 99 7 3,oL 100 99,o 101 (.call 256 [(.t 93),(.t 95),(.t 98),(.t 100)]),oF 102 1 8,oS 1 102 101]) (rg [o 104 (.bin .eql (.t 89) (ki 2)),oM 103 104] (.cnd (.t 103) (.reg [oF 105 2 2,oL 106 105,oF 107 5 3,oL 108 107,oF 109 6 3,oL 110 109,oF 111 0 3,oW 112 2 111,o 113 (.build [(.bool false),(.str ⟨#[]⟩),(.str ⟨#[]⟩),z0,z0,z0] [(1,1,(.t 108)),(2,1,(.t 110)),(4,2,(.t 112))]),oD 114 257 106 113,oF 115 2 8,oS 1 115 114]) (rg [o 117 (.bin .eql (.t 89) (ki 3)),oM 116 117] (.cnd (.t 116) (.reg [oF 118 2 2,oL 119 118,oW 120 10 3,o 121 (.call 258 [(.t 119),kf,(.t 120)]),oF 122 2 8,oS 1 122 121]) (rg [o 124 (.bin .eql (.t 89) (ki 4)),oM 123 124] (.cnd (.t 123) (rg [oF 125 2 2,oL 126 125,oW 127 10 3,o 128 (.call 258 [(.t 126),kt,(.t 127)]),oM 9 128] (.reg [oM 129 9,oF 130 5 3,oL 131 130,oF 132 6 3,oL 133 132,oF 134 7 3,oL 135 134,oF 136 0 3,oW 137 2 136,o 138 (.build [(.bool false),(.str ⟨#[]⟩),(.str ⟨#[]⟩),z0,z0,z0] [(0,1,kt),(1,1,(.t 131)),(2,1,(.t 133)),(3,1,(.t 135)),(4,2,(.t 137))]),oD 139 257 129 138,oF 140 2 8,oS 1 140 139])) (rg [o 142 (.bin .eql (.t 89) (ki 5)),oM 141 142] (.cnd (.t 141) (.reg [oF 143 2 2,oL 144 143,oW 145 10 3,o 146 (.call 258 [(.t 144),kt,(.t 145)]),oF 147 2 8,oS 1 147 146]) (rg [o 149 (.bin .eql (.t 89) (ki 6)),oM 148 149] (.cnd (.t 148) (.reg [oF 150 3 2,oL 151 150,oF 152 5 3,oL 153 152,oF 154 0 3,oW 155 2 154,oF 156 2 3,oL 157 156,oF 158 8 3,oW 159 2 158,oF 160 7 3,oL 161 160,o 162 (.build [(.str ⟨#[]⟩),z0,z0,z0,z0,z0,z0,(.bool false)] [(0,1,(.t 153)),(1,2,(.t 155)),(3,1,(.t 157)),(4,2,(.t 159)),(6,1,(.t 161))]),oD 163 259 151 162,oF 164 3 8,oS 1 164 163]) (rg [o 166 (.bin .eql (.t 89) (ki 7)),oM 165 166] (.cnd (.t 165) (.reg [oF 167 3 8,oL 168 167,oM 169 7,oI 170 8 168 169,oF 171 7 170,on (.st 1 (.t 171) kt)]) .skip)))))))))))))))) (.seq (rg [oW 172 4 8,oC 173 260 172] (.cnd (.t 173) (rg [oW 174 4 6,oS 4 4 174,oV 5 (ki 4)] .ret) .skip)) (rg [oW 175 4 8,oS 4 4 175,oV 5 (ki 0)] .ret))))))))))⟩
theorem A5n {s:State} (h:Bh s=true):s.tallies.Pairwise (fun a b=>Ah a b=true)∧(∀ x∈s.lives,B5 s.know x.dot=true)∧∀ x∈s.cells,B5 s.know x.dot=true:=by
 simp only[Bh,Bool.and_eq_true] at h
 obtain⟨_,h2,h3,h4,_⟩:=h
 refine⟨?_,fun x hx=> ?_,fun x hx=> ?_⟩
 ·simp only[Fb,Bool.and_eq_true,Dq,talP] at h2
  exact Ta (lt:=Ah) (fun a b c h1 h2=>Nt.trans _ _ _ h1 h2) fun i hi=>(h2.1 i hi).2
 ·simp only[Ly,Bool.and_eq_true,Dq,livP] at h3
  obtain⟨i,hi,rfl⟩:=List.getElem_of_mem hx
  have:=(h3.1 i hi).1
  rw[Di hi] at this
  exact this
 ·simp only[Lz,Bool.and_eq_true,Dq,celP] at h4
  obtain⟨i,hi,rfl⟩:=List.getElem_of_mem hx
  have:=(h4.1 i hi).1
  rw[Di hi] at this
  exact this
def zSt (σ:St) (cs:List GV):Prop:=∃ a b c v,cs=[a,b,c,v]∧zOk σ 3 b=true∧zOk σ 6 c=true∧zOk σ 8 v=true
end
section
open Go Go.RowKit
abbrev Aew:Nat:=198
def Aex:Fn1:=⟨34,[.t 4],(rg [oX 2 0,o 4 (.mov (.k .nilS))] (rg [o 9 (.lit 8 0 [] []),oM 5 9] (.seq (rg [oW 10 4 2,oM 11 1,oD 12 289 10 11,oN 13 12,oV 14 (ki 0)] (.blk 0 (.lop (rg [oB 15 .lss 14 13] (.seq (.cnd (.t 15) .skip (.ext 0)) (.seq (.blk 1 (rg [oI 16 2 12 14,oW 17 2 16,o 7 (.new [z0,z0]),oS 2 7 17] (.seq (.drw [oF 18 3 2,oL 19 18,oW 20 4 2,oW 21 2 7,oD 22 158 20 21,oI 23 8 19 22,oW 24 8 23,o 8 (.new [(.str ⟨#[]⟩),z0,z0,z0,z0,z0,z0,(.bool false)])] [oS 8 8 24]) (rg [oF 25 7 8,oL 26 25,oU 27 26] (.cnd (.t 27) (.reg [oM 28 5,oW 29 8 8,o 30 (.lit 8 1 [(.str ⟨#[]⟩),z0,z0,z0,z0,z0,z0,(.bool false)] [(0,8,(.t 29))]),o 31 (.app 8 72 [(.str ⟨#[]⟩),z0,z0,z0,z0,z0,z0,(.bool false)] (.t 28) (.t 30)),oM 5 31]) .skip))))) (.reg [oZ 32 14 1,oM 14 32]))))))) (rg [oM 33 5,oM 4 33] .ret))))⟩
abbrev Aey:Nat:=76
def Aez:Fn1:=⟨45,[.t 4],(rg [oX 2 0,o 4 (.mov (.k .nilS))] (rg [o 9 (.lit 1 0 [] []),oM 5 9] (rg [oW 10 4 2,oM 11 1,oD 12 206 10 11,oM 6 12] (.seq (rg [oV 7 (ki 0)] (.blk 0 (.lop (.seq (rg [oM 13 7,oM 14 6,oN 15 14,oB 16 .lss 13 15] (.cnd (.t 16) .skip (.ext 0))) (.seq (.blk 1 (.seq (.drw [oW 19 4 2,oM 20 6,oM 21 7,oI 22 2 20 21,oW 23 2 22] [oD 24 146 19 23,oM 8 24]) (rg [oM 25 8,o 26 (.bin .geq (.t 25) (ki 0)),oM 27 26,og 28 27 true (.fad 3 (.t 2)),og 29 27 true (.ld false 1 (.t 28)),og 30 27 true (.mov (.t 8)),og 31 27 true (.iad 8 (.t 29) (.t 30)),og 32 27 true (.fad 7 (.t 31)),og 33 27 true (.ld false 1 (.t 32)),og 34 27 true (.un .not (.t 33)),o 35 (.pick (.t 27) (.t 34) kf)] (.cnd (.t 35) (.reg [oM 36 5,oM 37 6,oM 38 7,oI 39 2 37 38,oF 40 0 39,oL 41 40,o 42 (.lit 1 1 [z0] [(0,1,(.t 41))]),o 43 (.app 1 8 [z0] (.t 36) (.t 42)),oM 5 43]) .skip)))) (.reg [oM 17 7,oZ 18 17 1,oM 7 18])))))) (rg [oM 44 5,oM 4 44] .ret)))))⟩
abbrev Af0:Nat:=71
def Af1:Fn1:=⟨25,[.t 4],(rg [oX 2 0,o 4 (.mov (.k .nilS))] (rg [o 8 (.lit 1 0 [] []),oM 5 8] (.seq (rg [oW 9 4 2,oM 10 1,oD 11 198 9 10,oN 12 11,oV 13 (ki 0)] (.blk 0 (.lop (rg [oB 14 .lss 13 12] (.seq (.cnd (.t 14) .skip (.ext 0)) (.seq (.blk 1 (rg [oI 15 8 11 13,oW 16 8 15,o 7 (.new [(.str ⟨#[]⟩),z0,z0,z0,z0,z0,z0,(.bool false)]),oS 8 7 16] (.reg [oM 17 5,oF 18 1 7,oF 19 0 18,oL 20 19,o 21 (.lit 1 1 [z0] [(0,1,(.t 20))]),o 22 (.app 1 8 [z0] (.t 17) (.t 21)),oM 5 22]))) (.reg [oZ 23 13 1,oM 13 23]))))))) (rg [oM 24 5,oM 4 24] .ret))))⟩
def goneNot (c:Cell):Bool:= !c.gone
end
section
open Go Go.RowKit
abbrev n_s_EditOk:Nat:=345
def F_s_EditOk:Fn1:=⟨34,[.t 2],(rg [oX 1 0,oV 2 kf] (rg [oF 4 0 1,oL 5 4,o 6 (.bin .eql (.t 5) (ki 6)),oM 7 6,og 8 7 false (.fad 0 (.t 1)),og 9 7 false (.ld false 1 (.t 8)),og 10 7 false (.bin .eql (.t 9) (ki 7)),o 11 (.pick (.t 7) kt (.t 10)),oM 3 11] (rg [oF 12 0 1,oL 13 12,oF 14 1 1,oL 15 14,oF 16 2 1,oL 17 16,oF 18 3 1,oL 19 18,o 20 (.call 279 [(.t 13),(.t 15),(.t 17),(.t 19)]),oM 21 20,og 22 21 true (.fad 4 (.t 1)),og 23 21 true (.ld false 1 (.t 22)),og 24 21 true (.bin .geq (.t 23) (ki 0)),o 25 (.pick (.t 21) (.t 24) kf),oM 26 25,og 27 26 true (.mov (.t 3)),og 28 26 true (.mov (.t 27)),og 29 28 false (.fad 4 (.t 1)),og 30 28 false (.ld false 1 (.t 29)),og 31 28 false (.bin .eql (.t 30) (ki 0)),og 32 26 true (.pick (.t 28) kt (.t 31)),o 33 (.pick (.t 26) (.t 32) kf),oM 2 33] .ret)))⟩
abbrev Ahi:Nat:=346
def Ahj:Fn1:=⟨42,[.c 6 true 2,.t 7],(rg [oX 3 0,o 6 (.new [z0,z0]),oV 7 kf] (.seq (rg [oW 10 4 3,oC 11 199 10,oU 12 11,oM 13 12,og 14 13 false (.mov (.t 2)),og 15 13 false (.bin .lss (.t 14) (ki 0)),o 16 (.pick (.t 13) kt (.t 15))] (.cnd (.t 16) (rg [o 17 (.build [z0,z0] []),oS 2 6 17,oV 7 kf] .ret) .skip)) (rg [oW 18 4 3,oM 19 1,oD 20 145 18 19,oM 8 20] (.seq (rg [oV 9 (ki 0)] (.blk 0 (.lop (.seq (rg [oM 21 9,oM 22 8,oN 23 22,oB 24 .lss 21 23] (.cnd (.t 24) .skip (.ext 0))) (.seq (.blk 1 (.seq (rg [oM 27 8,oM 28 9,oI 29 8 27 28,oF 30 7 29,oL 31 30] (.cnd (.t 31) (.ext 1) .skip)) (.seq (rg [oM 32 2,o 33 (.bin .eql (.t 32) (ki 0))] (.cnd (.t 33) (rg [oM 34 8,oM 35 9,oI 36 8 34 35,oF 37 1 36,oW 38 2 37,oS 2 6 38,oV 7 kt] .ret) .skip)) (.reg [oM 39 2,o 40 (.bin .sub (.t 39) (ki 1)),oM 2 40])))) (.reg [oM 25 9,oZ 26 25 1,oM 9 26])))))) (rg [o 41 (.build [z0,z0] []),oS 2 6 41,oV 7 kf] .ret)))))⟩
def Aag (e:Edit):Bool:=A0c e.kind e.obj e.key e.val&&(decide (0≤e.place)&&((e.kind==6||e.kind==7)||e.place==0))
def Aah (s:State) (o:ByteArray) (i:Int):Dot×Bool:=if h:0≤i∧i.toNat<(rowL s o).length then((rowL s o)[i.toNat].dot,true) else(⟨0,0⟩,false)
end
section
open Go Go.RowKit
abbrev n_s_ActOf:Nat:=276
def F_s_ActOf:Fn1:=⟨98,[.c 8 true 10,.t 9],(rg [oX 4 0,oX 7 3,o 8 (.new [z0,z0,z0,.nilS,z0,(.str ⟨#[]⟩),(.str ⟨#[]⟩),z0,z0,z0]),oV 9 (ki 0)] (.seq (rg [oW 12 4 4,oC 13 199 12,oU 14 13,oM 15 14,og 16 15 false (.ld true 5 (.t 7)),og 17 15 false (.call 345 [(.t 16)]),og 18 15 false (.un .not (.t 17)),o 19 (.pick (.t 15) kt (.t 18)),oM 20 19,og 21 20 false (.mov (.t 1)),og 22 20 false (.call 122 [(.t 21),(ki 0),(ki 2)]),og 23 20 false (.un .not (.t 22)),o 24 (.pick (.t 20) kt (.t 23)),oM 25 24,og 26 25 false (.mov (.t 2)),og 27 25 false (.call 122 [(.t 26),(ki 1),(ki 10000)]),og 28 25 false (.un .not (.t 27)),o 29 (.pick (.t 25) kt (.t 28))] (.cnd (.t 29) (rg [o 30 (.build [z0,z0,z0,.nilS,z0,(.str ⟨#[]⟩),(.str ⟨#[]⟩),z0,z0,z0] []),oS 10 8 30,oV 9 (ki 3)] .ret) .skip)) (.seq (.drw [oM 31 1,oF 32 0 4,oL 33 32,oM 34 1,oI 35 1 33 34,oL 36 35,oZ 37 36 1,o 38 (.build [z0,z0] [(0,1,(.t 31)),(1,1,(.t 37))]),oM 39 2,o 40 (.lit 1 0 [] []),oF 41 0 4,oL 42 41,o 43 (.app 1 8 [z0] (.t 40) (.t 42)),oF 44 0 7,oL 45 44,oF 46 1 7,oL 47 46,oF 48 2 7,oL 49 48,oF 50 3 7,oL 51 50,o 52 (.build [z0,z0,z0,.nilS,z0,(.str ⟨#[]⟩),(.str ⟨#[]⟩),z0,z0,z0] [(0,2,(.t 38)),(2,1,(.t 39)),(3,1,(.t 43)),(4,1,(.t 45)),(5,1,(.t 47)),(6,1,(.t 49)),(7,1,(.t 51))]),o 10 (.new [z0,z0,z0,.nilS,z0,(.str ⟨#[]⟩),(.str ⟨#[]⟩),z0,z0,z0])] [oS 10 10 52]) (rg [oV 11 kt] (.seq (rg [oF 53 0 7,oL 54 53,o 55 (.bin .eql (.t 54) (ki 7))] (.cnd (.t 55) (.reg [oW 57 4 4,oF 58 1 7,oL 59 58,oF 60 4 7,oL 61 60,o 62 (.call 346 [(.t 57),(.t 59),(.t 61)]),oM 56 62,o 63 (.ext 0 (.t 56)),o 64 (.ext 1 (.t 56)),oF 65 8 10,oS 2 65 63,oM 11 64]) .skip)) (.seq (rg [oF 66 0 7,oL 67 66,o 68 (.bin .eql (.t 67) (ki 6)),oM 69 68,og 70 69 true (.fad 4 (.t 7)),og 71 69 true (.ld false 1 (.t 70)),og 72 69 true (.bin .gtr (.t 71) (ki 0)),o 73 (.pick (.t 69) (.t 72) kf)] (.cnd (.t 73) (.reg [oW 75 4 4,oF 76 1 7,oL 77 76,oF 78 4 7,oL 79 78,o 80 (.bin .sub (.t 79) (ki 1)),o 81 (.call 346 [(.t 75),(.t 77),(.t 80)]),oM 74 81,o 82 (.ext 0 (.t 74)),o 83 (.ext 1 (.t 74)),oF 84 8 10,oS 2 84 82,oM 11 83]) .skip)) (.seq (rg [oF 85 0 10,oW 86 2 85,oC 87 168 86,oU 88 87] (.cnd (.t 88) (rg [o 89 (.build [z0,z0,z0,.nilS,z0,(.str ⟨#[]⟩),(.str ⟨#[]⟩),z0,z0,z0] []),oS 10 8 89,oV 9 (ki 3)] .ret) .skip)) (.seq (rg [oM 90 11,oU 91 90] (.cnd (.t 91) (rg [o 92 (.build [z0,z0,z0,.nilS,z0,(.str ⟨#[]⟩),(.str ⟨#[]⟩),z0,z0,z0] []),oS 10 8 92,oV 9 (ki 5)] .ret) .skip)) (.seq (rg [oW 93 10 10,oC 94 185 93,oU 95 94] (.cnd (.t 95) (rg [o 96 (.build [z0,z0,z0,.nilS,z0,(.str ⟨#[]⟩),(.str ⟨#[]⟩),z0,z0,z0] []),oS 10 8 96,oV 9 (ki 3)] .ret) .skip)) (rg [oW 97 10 10,oS 10 8 97,oV 9 (ki 0)] .ret))))))))))⟩
def Aai (s:State) (e:Edit):Dot×Bool:=if e.kind=7 then Aah s e.obj e.place else if e.kind=6∧0<e.place then Aah s e.obj (e.place - 1) else(d0,true)
def act0:Act:=⟨d0,0,[],0,⟨#[]⟩,⟨#[]⟩,0,d0⟩
def Ahk (s:State) (rep time:Int) (e:Edit) (d:Dot):Act:=⟨⟨rep,at0 s.know rep+1⟩,time,s.know,e.kind,e.obj,e.key,e.val,d⟩
def Af2 (s:State) (rep time:Int) (e:Edit):Act:=Ahk s rep time e (Aai s e).1
abbrev awV (s:State) (rep time:Int) (e:Edit) (kv:GV) (d:Dot):List GV:=[gi rep,gi (at0 s.know rep+1),gi time,kv,gi e.kind,.str e.obj,.str e.key,gi e.val,gi d.rep,gi d.seq]
def A0n (s:State) (rep time:Int) (e:Edit):Act×Int:=
 if Bh s&&(Aag e&&(inB rep 0 2&&inB time 1 10000)) then
  if G5 ⟨rep,at0 s.know rep+1⟩ then
   if(Aai s e).2 then
    if A2z (Af2 s rep time e) then(Af2 s rep time e,0) else(act0,3)
   else(act0,5)
  else(act0,3)
 else(act0,3)
abbrev edV (e:Edit):List GV:=[gi e.kind,.str e.obj,.str e.key,gi e.val,gi e.place]
abbrev zeV:List GV:=[gi 0,gi 0,gi 0,GV.nilS,gi 0,.str ⟨#[]⟩,.str ⟨#[]⟩,gi 0,gi 0,gi 0]
end
section
open Go Go.RowKit
end
section
open Go Go.RowKit
theorem O0 {α:Type} (f:α→Nat) {l k:List α} (h:l.Perm k):sumL f l=sumL f k:=by
 unfold sumL
 exact(h.map f).sum_nat
theorem Fr {α:Type} (f:α→Nat) (p:α→Bool):∀ l:List α,sumL f (l.filter p)≤sumL f l
 |[]=>Nat.le_refl _
 |x::l=>by
  have:=Fr f p l
  rw[List.filter_cons]
  split
  ·simp only[sumL,List.map_cons,List.sum_cons] at *;omega
  ·simp only[sumL,List.map_cons,List.sum_cons] at *;omega
def stepE (s:State) (rep t:Int) (e:Edit):State×Int:=if(A0n s rep t e).2=0 then A5k s (A0n s rep t e).1 else(s,(A0n s rep t e).2)
def runE (s:State) (rep t:Int) (es:List Edit):Nat→State×Int
 |0=>(s,0)
 |i+1=>if(runE s rep t es i).2=0 then(if h:i<es.length then stepE (runE s rep t es i).1 rep (IntKind.i64.wrap (t+i)) es[i] else runE s rep t es i) else runE s rep t es i
def doEdits (s:State) (rep t:Int) (es:List Edit):State×Int:=runE s rep t es es.length
end
section
open Go Go.RowKit
inductive Item where
 |box (z n:Nat) (cs:List GV)
 |th (r:Thg)
def Item.t:Item→Thg
 | .box z n cs=>pt z n cs
 | .th r=>r
def Hx (σ τ:St) (h:List Item):Prop:=Hp σ τ (h.map Item.t)
def look:List Item→Nat→Option (List GV)
 |[],_=>none
 | .box _ m cs::h,n=>if m=n then some cs else look h n
 | .th _::h,n=>look h n
def upd:List Item→Nat→List GV→List Item
 |[],_,_=>[]
 | .box z m cs::h,n,ds=>if m=n then .box z m ds::h else .box z m cs::upd h n ds
 | .th r::h,n,ds=>.th r::upd h n ds
def frX (σ:St):List Item→Nat→Prop
 |[],n=>σ.length≤n
 | .box _ m _::h,n=>m<n∧frX σ h n
 | .th _::h,n=>frX σ h n
abbrev Kx:=GV→List Item→St→Prop
def Ev (v:Option GV) (k:Kx) (h:List Item) (τ:St):Prop:=match v with
 |some v=>k v h τ
 |none=>False
def orX (a b:Option GV):Option GV:=match a with
 |some x=>some x
 |none=>b
def O2:List Item→Nat→Option (Nat×List GV)
 |[],_=>none
 | .box z m cs::h,n=>if m=n then some (z,cs) else O2 h n
 | .th _::h,n=>O2 h n
def blcX (h:List Item) (cs:List GV):GV→Prop
 | .ptr b 0=>O2 h b=some (1,cs)
 |_=>False
def ldB (c:Option (List GV)) (g:Bool) (n off:Nat) (e:Option GV):Option GV:=match c with
 |some cs=>(seg cs off n).bind (mkv g)
 |none=>e
def ldY (h:List Item) (τ:St) (g:Bool) (n:Nat):GV→Option GV
 | .ptr b off=>ldB (look h b) g n off (ldG g n τ (.ptr b off))
 |a=>ldG g n τ a
def ldX (σ:St) (h:List Item) (τ:St) (g:Bool) (n:Nat) (a:GV):Option GV:=orX (ldG g n σ a) (ldY h τ g n a)
def Jn (σ:St) (h:List Item) (z:Nat) (cs:List GV) (v:Nat→GV) (k:Kx):Prop:=∀ n,frX σ h n→∀ τ',Hx σ τ' (.box z n cs::h)→k (v n) (.box z n cs::h) τ'
def genX (σ:St) (D:Bool) (τ:St) (e:Option (GV×St)) (k:Kx):Prop:=∃ v τ' h',e=some (v,τ')∧(D=true→τ <+: τ')∧Hx σ τ' h'∧k v h' τ'
def stB (σ:St) (D:Bool) (h:List Item) (τ:St) (n:Nat) (k:Kx) (b off:Nat) (x:GV) (c:Option (List GV)):Prop:=match c with
 |some cs=>(D=false∧off+n≤cs.length∧0<n∧x.cells.length=n)∧∀ τ',Hx σ τ' (upd h b (Ao cs off x.cells))→k (.tup []) (upd h b (Ao cs off x.cells)) τ'
 |none=>genX σ D τ (stG n τ (.ptr b off) x) k
def stX (σ:St) (D:Bool) (h:List Item) (τ:St) (n:Nat) (k:Kx) (a x:GV):Prop:=match a with
 | .ptr b off=>stB σ D h τ n k b off x (look h b)
 |a=>genX σ D τ (stG n τ a x) k
def fnX (P:Program) (σ:St) (D:Bool) (τ:St) (args:List GV) (k:Kx):GV→Prop
 | .fn f caps=>∃ v τ' h',Ret P f (args++caps.map fun c=>.ptr c.1 c.2) τ v τ'∧(D=true→τ <+: τ')∧Hx σ τ' h'∧k v h' τ'
 |_=>False
def litX (σ:St) (h:List Item) (z len:Nat) (k:Kx):Option (List GV)→Prop
 |some cs=>Jn σ h z cs (fun n=>.sl n 0 len) k
 |none=>False
def A0o (P:Program) (σ:St) (D:Bool) (τ:St) (f:Nat) (args:List GV) (k:Kx):Prop:=∃ v τ' h',Ret P f args τ v τ'∧(D=true→τ <+: τ')∧Hx σ τ' h'∧k v h' τ'
def mksX (σ:St) (h:List Item) (z b:Nat) (ze:List GV) (k:Kx):Option Nat→Option Nat→Prop
 |some n,some c=>n=c∧n*b≤140737488355328∧Jn σ h z (reps n ze) (fun g=>.sl g 0 n) k
 |_,_=>False
def sxI (P:Program) (D:Bool) (σ:St) (env:Env) (h:List Item) (τ:St) (k:Kx):Ins→Prop
 | .new cs=>Jn σ h 1 cs (fun n=>.ptr n 0) k
 | .box x=>Bm (x.ev env)=true∧Jn σ h 1 (x.ev env).cells (fun n=>.ptr n 0) k
 | .lit z len zero parts=>litX σ h z len k (Gr zero (parts.map fun p=>(p.1,p.2.1,p.2.2.ev env)))
 | .mks z b ze n c=>mksX σ h z b ze k (Bk (some (n.ev env))) (Bk (some (c.ev env)))
 | .ld g n a=>Ev (ldX σ h τ g n (a.ev env)) k h τ
 | .st n a x=>stX σ D h τ n k (a.ev env) (x.ev env)
 | .call f xs=>A0o P σ D τ f (xs.map (·.ev env)) k
 | .callv x xs=>fnX P σ D τ (xs.map (·.ev env)) k (x.ev env)
 | .chk d (.ld g n (.t t))=>ldX σ h τ g n (env t)=some (env d)∧k (.tup []) h τ
 | .chk _ _=>False
 | .blc t cs=>blcX h cs (env t)∧k (.tup []) h τ
 | .mlk ks z ok m k'=>Ev (mlkG τ ks z ok (m.ev env) (k'.ev env)) k h τ
 | .bts x=>Ev ((elems τ 1 (x.ev env)).bind fun r=>(F0 r.2).map fun bs=>.str ⟨bs.toArray⟩) k h τ
 | .cut z x lo hi=>Ev (if zOk τ z (x.ev env) then cutG z (x.ev env) (lo.map (·.ev env)) (hi.map (·.ev env)) else none) k h τ
 | .app z b ze s x=>genX σ D τ (appV z b τ (s.ev env) (x.ev env)) k
 | .clr z ze x=>genX σ D τ (clrG z ze τ (x.ev env)) k
 | .mkm=>genX σ D τ (some (.mp τ.length,τ++[some (.map [])])) k
 | .mup ks m k' v=>genX σ D τ (mupG τ ks (m.ev env) (k'.ev env) (v.ev env)) k
 |i=>Ev ((exec env [] i).map (·.1)) k h τ
def gdX (c:Option (Option Bool×Bool)) (A B:Prop):Prop:=match c with
 |none=>A
 |some (some c,b)=>(c=b→A)∧(c= !b→B)
 |some (none,_)=>B
def sx (P:Program) (D:Bool) (σ:St):List Op1→(Env→List Item→St→Prop)→Env→List Item→St→Prop
 |[],K,env,h,τ=>K env h τ
 |o::r,K,env,h,τ=>gdX (o.g.map fun g=>((env g.1).bit,g.2)) (sxI P D σ env h τ (fun v h' τ'=>sx P D σ r K (upo env o.d v) h' τ') o.i) (sx P D σ r K (upo env o.d (.tup [])) h τ)
def ifX (c:Option Bool) (A B:Prop):Prop:=match c with
 |some c=>(c=true→A)∧(c=false→B)
 |none=>False
abbrev Qx:=Ex→Env→List Item→St→Prop
def sxc (P:Program) (σ:St):Cd→Qx→Env→List Item→St→Prop
 | .skip,Q=>Q .nxt
 | .reg ops,Q=>sx P false σ ops (Q .nxt)
 | .drw a1 bs,Q=>sx P true σ a1 (sx P false σ bs (Q .nxt))
 | .seq a b,Q=>sxc P σ a fun e=>match e with
  | .nxt=>sxc P σ b Q
  |e=>Q e
 | .cnd c a b,Q=>fun env h τ=>ifX (c.ev env).bit (sxc P σ a Q env h τ) (sxc P σ b Q env h τ)
 | .blk id a,Q=>sxc P σ a fun e=>match e with
  | .ext j=>if j=id then Q .nxt else Q (.ext j)
  |e=>Q e
 | .lop a,Q=>fun env h τ=>∃(I:Nat→Env→List Item→St→Prop) (n:Nat) (h0:List Item),Hx σ τ h0∧I n env h0 τ∧∀ k env h τ,Hx σ τ h→I k env h τ→sxc P σ a (fun e env' h' τ'=>match e with
  | .nxt=>∃ k' h1,k'<k∧Hx σ τ' h1∧I k' env' h1 τ'
  |e=>∃ h1,Hx σ τ' h1∧Q e env' h1 τ') env h τ
 | .ext id,Q=>Q (.ext id)
 | .ret,Q=>Q .ret
section sound
variable {P:Program} {σ:St} {D:Bool}
theorem Hx.hp {τ:St} {h:List Item} (H:Hx σ τ h):Hp σ τ (h.map Item.t):=H
theorem Hx.sub {τ:St} {h:List Item} (H:Hx σ τ h):σ <+: τ:=H.hp.sub
theorem Hx.refl (σ:St):Hx σ σ []:=Hp.refl σ
theorem Q5:∀ {h:List Item} {n:Nat} {cs:List GV},look h n=some cs→∃ z,∃ i:Nat,(h.map Item.t)[i]? =some (pt z n cs)∧∀ ds,(upd h n ds).map Item.t=(h.map Item.t).set i (pt z n ds)
 |[],_,_,e=>by cases e
 | .box z m cs'::h,n,cs,e=>by
  simp only[look] at e
  by_cases hm:m=n
  ·rw[if_pos hm] at e
   injection e with e;subst e hm
   exact⟨z,0,rfl,fun ds=>by simp[upd,Item.t]⟩
  ·rw[if_neg hm] at e
   obtain⟨z',i,h1,h2⟩:=Q5 e
   exact⟨z',i+1,by simpa using h1,fun ds=>by simp[upd,hm,h2 ds]⟩
 | .th r::h,n,cs,e=>by
  obtain⟨z',i,h1,h2⟩:=Q5 (h:=h) (by simpa [look] using e)
  exact⟨z',i+1,by simpa using h1,fun ds=>by simp[upd,h2 ds]⟩
theorem A0p:∀ {h:List Item} {n z:Nat} {cs:List GV},O2 h n=some (z,cs)→∃ i:Nat,(h.map Item.t)[i]? =some (pt z n cs)
 |[],_,_,_,e=>by cases e
 | .box z' m cs'::h,n,z,cs,e=>by
  simp only[O2] at e
  by_cases hm:m=n
  ·rw[if_pos hm] at e
   simp only[Option.some.injEq,Prod.mk.injEq] at e
   obtain⟨rfl,rfl⟩:=e
   subst hm
   exact⟨0,rfl⟩
  ·rw[if_neg hm] at e
   obtain⟨i,h1⟩:=A0p e
   exact⟨i+1,by simpa using h1⟩
 | .th r::h,n,z,cs,e=>by
  obtain⟨i,h1⟩:=A0p (h:=h) (by simpa [O2] using e)
  exact⟨i+1,by simpa using h1⟩
theorem Aaj {τ:St} {g:Bool} {n:Nat} {a x:GV} (h:ldG g n σ a=some x) (hp:σ <+: τ):ldG g n τ a=some x:=by
 cases a with
 |ptr b off=>
  simp only[ldG] at h ⊢
  obtain⟨cs,h1,h2⟩:=Z1z.1 h
  rw[Aw hp h1];exact h2
 |_=>cases h
theorem Uz {h:List Item} {τ:St} (H:Hx σ τ h) {g:Bool} {n:Nat} {a x:GV} (e:ldX σ h τ g n a=some x):ldG g n τ a=some x:=by
 unfold ldX orX ldY at e
 split at e
 ·rename_i y hy
  injection e with e;subst e
  exact Aaj hy H.sub
 ·cases a with
  |ptr b off=>
   simp only at e
   cases hl:look h b with
   |none=>rw[hl] at e;exact e
   |some cs=>
    rw[hl] at e
    obtain⟨z,i,h1,_⟩:=Q5 hl
    have:=H.hp.pt i h1
    simp only[ldG,this,Option.bind_some]
    exact e
  |_=>exact e
theorem Aak {n:Nat}:∀ {h:List Item},σ.length≤n→(∀ z m cs,Item.box z m cs∈h→m<n)→frX σ h n
 |[],hl,_=>hl
 | .box z m cs::h,hl,hb=>⟨hb z m cs List.mem_cons_self,Aak (h:=h) hl fun z m cs hm=>hb z m cs (List.mem_cons_of_mem _ hm)⟩
 | .th r::h',hl,hb=>Aak (h:=h') hl fun z m cs hm=>hb z m cs (List.mem_cons_of_mem _ hm)
theorem box_lt {h:List Item} {τ:St} (H:Hx σ τ h) {z m:Nat} {cs:List GV} (hm:Item.box z m cs∈h):m<τ.length:=by
 obtain⟨i,hi,e⟩:=List.getElem_of_mem hm
 have h1:(h.map Item.t)[i]? =some (pt z m cs):=by
  rw[List.getElem?_map,List.getElem?_eq_getElem hi,e];rfl
 obtain⟨a,ha,_,hb⟩:=H.hp.see h1
 exact(hb m (by rw[ha.1];exact List.mem_cons_self)).2
theorem Ja {h:List Item} {τ:St} {z:Nat} {cs:List GV} {v:Nat→GV} {k:Kx} (H:Hx σ τ h) (e:Jn σ h z cs v k):∃ h',Hx σ (τ++[some (.row z cs)]) h'∧k (v τ.length) h' (τ++[some (.row z cs)]):=
 ⟨.box z τ.length cs::h,H.hp.new z cs,e τ.length (Aak (h:=h) H.sub.length_le (fun _ _ _ hm=>box_lt H hm)) _ (H.hp.new z cs)⟩
theorem Kq {τ:St} {e:Option (GV×St)} {k:Kx} (h:genX σ D τ e k):∃ v τ',e=some (v,τ')∧(D=true→τ <+: τ')∧∃ h',Hx σ τ' h'∧k v h' τ':=by
 obtain⟨v,τ',h',h1,h2,h3,h4⟩:=h
 exact⟨v,τ',h1,h2,h',h3,h4⟩
theorem Aal {env:Env} {h:List Item} {τ:St} {k:Kx} (H:Hx σ τ h):∀ {i:Ins},sxI P D σ env h τ k i→∃ v τ',Step P env τ i v τ'∧(D=true→τ <+: τ')∧∃ h',Hx σ τ' h'∧k v h' τ':=by
 intro i e
 have same:∀ {v:Option GV},Ev v k h τ→(∀ v',v=some v'→Step P env τ i v' τ)→∃ v τ',Step P env τ i v τ'∧(D=true→τ <+: τ')∧∃ h',Hx σ τ' h'∧k v h' τ':=by
  intro v hb hs
  cases v with
  |none=>exact hb.elim
  |some v=>exact⟨v,τ,hs v rfl,fun _=>List.prefix_refl _,h,H,hb⟩
 have pure:A7h i=true→Ev ((exec env [] i).map (·.1)) k h τ→i.isCall=false→(∀ v',exec env τ i=some (v',τ)→Step P env τ i v' τ)→∃ v τ',Step P env τ i v τ'∧(D=true→τ <+: τ')∧∃ h',Hx σ τ' h'∧k v h' τ':=by
  intro hp hb _ hs
  refine same hb fun v' hv=>hs v' ?_
  obtain⟨⟨w,s⟩,hw,rfl⟩:=Z2z.1 hv
  exact(A24 hp hw).2 τ
 cases i with
 |new cs=>
  obtain⟨h',h1,h2⟩:=Ja H e
  exact⟨_,_,rfl,fun _=>List.prefix_append _ _,h',h1,h2⟩
 |box x=>
  obtain⟨h0,e⟩:=e
  obtain⟨h',h1,h2⟩:=Ja H e
  exact⟨_,_,by show boxG τ _=_;unfold boxG;rw[if_pos h0],fun _=>List.prefix_append _ _,h',h1,h2⟩
 |lit z len zero parts=>
  simp only[sxI] at e
  unfold litX at e
  split at e
  ·rename_i cs hc
   obtain⟨h',h1,h2⟩:=Ja H e
   exact⟨_,_,by show exec env τ _=_;simp only[exec,hc];rfl,fun _=>List.prefix_append _ _,h',h1,h2⟩
  ·exact e.elim
 |mks z b ze n c=>
  simp only[sxI] at e
  unfold mksX at e
  split at e
  ·rename_i n' c' hn hc
   obtain⟨h0,h3,e⟩:=e
   obtain⟨h',h1,h2⟩:=Ja H e
   exact⟨_,_,by show exec env τ _=_;simp only[exec,hn,hc,Option.bind_some,if_pos (And.intro h0 h3)],fun _=>List.prefix_append _ _,h',h1,h2⟩
  ·exact e.elim
 |ld g n a=>
  refine same e fun v' hv=> ?_
  have:=Uz H hv
  show exec env τ _=_
  simp only[exec]
  revert this
  cases a.ev env with
  |ptr b off=>
   intro h1
   simp only[ldG] at h1
   simp only[ptrG,Option.bind_some]
   obtain⟨cs,h2,h3⟩:=Z1z.1 h1
   obtain⟨r,h4,h5⟩:=Z1z.1 h3
   simp only[h2,Option.bind_some,h4,h5,Option.map_some]
  |_=>intro h1;cases h1
 |st n a x=>
  simp only[sxI] at e
  have hst:∀ {y:GV} {τ'},stG n τ (a.ev env) (x.ev env)=some (y,τ')→Step P env τ (.st n a x) y τ':=by
   intro y τ' he
   show exec env τ _=_
   simp only[exec]
   revert he
   cases a.ev env<;>intro he<;>first|cases he;done|exact he
  have gen:genX σ D τ (stG n τ (a.ev env) (x.ev env)) k→∃ v τ',Step P env τ (.st n a x) v τ'∧(D=true→τ <+: τ')∧∃ h',Hx σ τ' h'∧k v h' τ':=fun hg=>by
   obtain⟨v,τ',h1,h2⟩:=Kq hg
   exact⟨v,τ',hst h1,h2⟩
  unfold stX at e
  split at e
  ·rename_i b off hb
   unfold stB at e
   split at e
   ·rename_i cs hl
    obtain⟨⟨h0,h1,h2,h3⟩,h4⟩:=e
    obtain⟨z,i,h5,h6⟩:=Q5 hl
    obtain⟨τ',s1,s2,_⟩:=H.hp.st i h5 n off (x.ev env) h3 h2 h1
    have s3:Hx σ τ' (upd h b (Ao cs off (x.ev env).cells)):=by unfold Hx;rw[h6];exact s2
    exact⟨_,τ',hst (by rw[hb];exact s1),(fun hd=>by rw[hd] at h0;cases h0),_,s3,h4 _ s3⟩
   ·rw[← hb] at e;exact gen e
  ·exact gen e
 |call f xs=>
  obtain⟨v,τ',h',h1,h2,h3,h4⟩:=e
  exact⟨v,τ',h1,h2,h',h3,h4⟩
 |callv x xs=>
  simp only[sxI] at e
  unfold fnX at e
  split at e
  ·rename_i f caps hf
   obtain⟨v,τ',h',h1,h2,h3,h4⟩:=e
   exact⟨v,τ',⟨f,caps,hf,h1⟩,h2,h',h3,h4⟩
  ·exact e.elim
 |chk d x=>
  cases x with
  |ld g n a=>cases a with
   |t t=>
    obtain⟨h1,h2⟩:=e
    refine⟨_,τ,⟨rfl,rfl,?_⟩,fun _=>List.prefix_refl _,h,H,h2⟩
    have h3:=Uz H h1
    simp only[exec,Opd.ev]
    revert h3
    cases env t with
    |ptr b off=>
     intro h1
     simp only[ldG] at h1
     simp only[ptrG,Option.bind_some]
     obtain⟨cs,h2,h3⟩:=Z1z.1 h1
     obtain⟨r,h4,h5⟩:=Z1z.1 h3
     simp only[h2,Option.bind_some,h4,h5,Option.map_some]
    |_=>intro h1;cases h1
   |k v=>exact e.elim
  |_=>exact e.elim
 |blc t cs=>
  obtain⟨h1,h2⟩:=e
  revert h1
  unfold blcX
  split
  ·rename_i b hb
   intro h1
   obtain⟨i,h3⟩:=A0p h1
   obtain⟨a,ha,_⟩:=H.hp.see h3
   exact⟨_,τ,⟨rfl,rfl,b,hb,Bg.1 ha.2⟩,fun _=>List.prefix_refl _,h,H,h2⟩
  ·exact fun h1=>h1.elim
 |mlk ks z ok m k'=>exact same e fun v' hv=>by show exec env τ _=_;simp only[exec,hv,Option.map_some]
 |bts x=>
  refine same e fun v' hv=> ?_
  show exec env τ _=_
  simp only[exec]
  obtain⟨r,h1,h2⟩:=Z1z.1 hv
  obtain⟨bs,h3,rfl⟩:=Z2z.1 h2
  rw[h1,Option.bind_some,h3];rfl
 |cut z x lo hi=>
  refine same e fun v' hv=> ?_
  show exec env τ _=_
  simp only[exec]
  split at hv
  ·rename_i hz
   rw[if_pos hz,hv];rfl
  ·cases hv
 |app z b ze s x=>exact Kq e
 |clr z ze x=>exact Kq e
 |mkm=>exact Kq e
 |mup ks m k' v=>exact Kq e
 |mkf f caps=>
  refine same e fun v' hv=> ?_
  show exec env τ _=_
  simp only[exec] at hv ⊢
  obtain⟨⟨w,s⟩,hw,rfl⟩:=Z2z.1 hv
  obtain⟨cs,h1,h2⟩:=Z2z.1 hw
  injection h2 with h2 h3;subst h2
  rw[h1];rfl
 |pan=>exact e.elim
 |_=>exact pure rfl e rfl fun _ h=>h
theorem O3:∀ {os:List Op1} {K:Env→List Item→St→Prop} {env:Env} {h:List Item} {τ:St},Hx σ τ h→sx P D σ os K env h τ→Af D P os (fun env' τ'=>τ.length≤τ'.length∧∃ h',Hx σ τ' h'∧K env' h' τ') env τ
 |[],K,env,h,τ,H,e=>⟨Nat.le_refl _,h,H,e⟩
 |o::r,K,env,h,τ,H,e=>by
  have yes:sxI P D σ env h τ (fun v h' τ'=>sx P D σ r K (upo env o.d v) h' τ') o.i→∃ v σ',Step P env τ o.i v σ'∧(D=true→τ <+: σ')∧Af D P r (fun env' τ'=>τ.length≤τ'.length∧∃ h',Hx σ τ' h'∧K env' h' τ') (upo env o.d v) σ':=fun e=>by
   obtain⟨v,τ',h1,h2,h',h3,h4⟩:=Aal H e
   have hl:=T2 h1
   exact⟨v,τ',h1,h2,By (O3 h3 h4) fun _ _ hk=>⟨Nat.le_trans hl hk.1,hk.2⟩⟩
  have no:sx P D σ r K (upo env o.d (.tup [])) h τ→Af D P r (fun env' τ'=>τ.length≤τ'.length∧∃ h',Hx σ τ' h'∧K env' h' τ') (upo env o.d (.tup [])) τ:=fun e=>O3 H e
  simp only[Af]
  simp only[sx] at e
  cases hg:o.g with
  |none=>
   rw[hg] at e
   rw[if_pos (by simp[Ak])]
   exact yes e
  |some q=>
   obtain⟨g,b⟩:=q
   rw[hg] at e
   simp only[Option.map_some] at e
   cases hc:(env g).bit with
   |none=>
    rw[hc] at e
    rw[if_neg (by simp[Ak,hc])]
    exact no e
   |some c=>
    rw[hc] at e
    by_cases hcb:c=b
    ·rw[if_pos (by simp[Ak,hc,hcb])]
     exact yes (e.1 hcb)
    ·rw[if_neg (by simp[Ak,hc,hcb])]
     exact no (e.2 (by cases c<;>cases b<;>simp_all))
theorem A39 {d:Cd}:∀ {Q:Qx} {env:Env} {h:List Item} {τ:St},Hx σ τ h→sxc P σ d Q env h τ→vc P d (fun e env' τ'=>τ.length≤τ'.length∧∃ h',Hx σ τ' h'∧Q e env' h' τ') env τ:=by
 induction d with
 |skip=>intro Q env h τ H e;exact⟨Nat.le_refl _,h,H,e⟩
 |reg ops=>intro Q env h τ H e;exact O3 H e
 |drw a1 bs=>
  intro Q env h τ H e
  show Af true P a1 _ env τ
  refine By (O3 H e) fun env' τ' hk=> ?_
  obtain⟨hl,h',H',hk⟩:=hk
  exact By (O3 H' hk) fun _ _ hq=>⟨Nat.le_trans hl hq.1,hq.2⟩
 |seq a b iha ihb=>
  intro Q env h τ H e
  show vc P a _ env τ
  refine B6 (iha H e) fun e env' τ' hk=> ?_
  obtain⟨hl,h',H',hk⟩:=hk
  cases e with
  |nxt=>exact B6 (ihb H' hk) fun _ _ _ hq=>⟨Nat.le_trans hl hq.1,hq.2⟩
  |ext j=>exact⟨hl,h',H',hk⟩
  |ret=>exact⟨hl,h',H',hk⟩
 |cnd c a b iha ihb=>
  intro Q env h τ H e
  simp only[sxc] at e
  unfold ifX at e
  split at e
  ·rename_i t ht
   exact⟨t,ht,fun k=>iha H (e.1 k),fun k=>ihb H (e.2 k)⟩
  ·exact e.elim
 |blk id a ih=>
  intro Q env h τ H e
  show vc P a _ env τ
  refine B6 (ih H e) fun e env' τ' hk=> ?_
  obtain⟨hl,h',H',hk⟩:=hk
  cases e with
  |nxt=>exact⟨hl,h',H',hk⟩
  |ext j=>
   simp only at hk ⊢
   split at hk
   ·rename_i hj;rw[if_pos hj];exact⟨hl,h',H',hk⟩
   ·rename_i hj;rw[if_neg hj];exact⟨hl,h',H',hk⟩
  |ret=>exact⟨hl,h',H',hk⟩
 |lop a ih=>
  intro Q env h τ H e
  obtain⟨I,n,h0,H0,hI,hs⟩:=e
  refine Xv (fun k env' τ'=>τ.length≤τ'.length∧∃ h,Hx σ τ' h∧I k env' h τ') n ⟨Nat.le_refl _,h0,H0,hI⟩ ?_
  rintro k env1 τ1 ⟨hl,h1,H1,hI1⟩
  refine B6 (ih H1 (hs k env1 h1 τ1 H1 hI1)) fun e env' τ' hk=> ?_
  obtain⟨hl2,h',H',hk⟩:=hk
  cases e with
  |nxt=>
   obtain⟨k',h3,h4,h5,h6⟩:=hk
   exact⟨k',h4,Nat.le_trans hl hl2,h3,h5,h6⟩
  |ext j=>exact⟨Nat.le_trans hl hl2,hk⟩
  |ret=>exact⟨Nat.le_trans hl hl2,hk⟩
 |ext id=>intro Q env h τ H e;exact⟨Nat.le_refl _,h,H,e⟩
 |ret=>intro Q env h τ H e;exact⟨Nat.le_refl _,h,H,e⟩
def rsX (σ:St) (h:List Item) (τ:St) (env:Env):Rs→Option GV
 | .t n=>some (env n)
 | .c a g n=>ldX σ h τ g n (env a)
def resX (σ:St) (h:List Item) (τ:St) (env:Env):List Rs→Option GV
 |[r]=>rsX σ h τ env r
 |rs=>(B9 (rsX σ h τ env) rs).bind fun vs=>if vs.all Bm then some (.tup vs) else none
theorem A3a {h:List Item} {τ:St} (H:Hx σ τ h) {env:Env} {r:Rs} {v:GV} (e:rsX σ h τ env r=some v):r.ev env τ=some v:=by
 cases r with
 |t n=>exact e
 |c a g n=>rw[rs_c];exact Uz H e
theorem Yi {α β:Type} {f g:α→Option β} (h:∀ x y,f x=some y→g x=some y):∀ {l:List α} {r:List β},B9 f l=some r→B9 g l=some r
 |[],r,e=>e
 |x::l,r,e=>by
  simp only[B9,Z1z,Z2z] at e ⊢
  obtain⟨y,h1,ys,h2,rfl⟩:=e
  exact⟨y,h _ _ h1,ys,Yi h h2,rfl⟩
theorem Yj {h:List Item} {τ:St} (H:Hx σ τ h) {env:Env} {rs:List Rs} {v:GV} (e:resX σ h τ env rs=some v):resG env τ rs=some v:=by
 unfold resX at e
 unfold resG
 split at e
 ·exact A3a H e
 ·rename_i hne
  split
  ·exact absurd rfl (hne _)
  ·obtain⟨vs,h1,h2⟩:=Z1z.1 e
   rw[Yi (fun x y=>A3a H) h1];exact h2
theorem Lv {md:Bool} {f:Nat} {F:Fn1} {args:List GV} {σ1:St} {h0:List Item} {Post:GV→St→Prop} (hF:Hd md P f=some F) (hl:args.length≤F.n) (H:Hx σ σ1 h0)
  (hc:sxc P σ F.c (fun e env h τ=>Hx σ τ h→Tm e=true∧∃ r,resX σ h τ env F.rs=some r∧Post r τ) (env0 args) h0 σ1):∃ r τ,Ret P f args σ1 r τ∧Post r τ:=
 Bw hF hl (B6 (A39 H hc) fun e env τ he=>by
  obtain⟨hl,h,H,hq⟩:=he
  obtain⟨ho,r,hr,hp⟩:=hq H
  exact⟨ho,r,Yj H hr,hl,hp⟩)
end sound
end
section
open Go Go.RowKit
def Ahl (P:Program) (D:Bool) (σ:St) (r:List Op1) (K:Env→List Item→St→Prop) (env:Env) (d:Option Nat):Kx:=fun v h' τ'=>sx P D σ r K (upo env d v) h' τ'
def gdS (P:Program) (D:Bool) (σ:St) (env:Env) (h:List Item) (τ:St) (k:Kx) (i:Ins) (b:Bool) (c:Option Bool):Prop:=match c with
 |some c=>(c=b→sxI P D σ env h τ k i)∧(c= !b→k (.tup []) h τ)
 |none=>k (.tup []) h τ
def ifS (P:Program) (σ:St) (a b:Cd) (Q:Qx) (env:Env) (h:List Item) (τ:St) (c:Option Bool):Prop:=match c with
 |some c=>(c=true→sxc P σ a Q env h τ)∧(c=false→sxc P σ b Q env h τ)
 |none=>False
section words
variable {P:Program} {D:Bool} {σ τ:St} {env:Env} {h:List Item} {r:List Op1} {K:Env→List Item→St→Prop} {k:Kx} {d:Option Nat} {Q:Qx}
@[go_sem] theorem nextX_ap {v:GV}:Ahl P D σ r K env d v h τ=sx P D σ r K (upo env d v) h τ:=(rfl)
@[go_sem] theorem sx_nil:sx P D σ [] K env h τ=K env h τ:=(rfl)
@[go_sem] theorem sx_one {i:Ins}:sx P D σ (⟨d,none,i⟩::r) K env h τ=sxI P D σ env h τ (Ahl P D σ r K env d) i:=(rfl)
@[go_sem] theorem sx_grd {g:Nat} {b:Bool} {i:Ins}:sx P D σ (⟨d,some (g,b),i⟩::r) K env h τ=gdS P D σ env h τ (Ahl P D σ r K env d) i b (env g).bit:=by
 show gdX (some ((env g).bit,b)) _ _=_
 cases(env g).bit<;>rfl
@[go_sem] theorem gdS_tt {b:Bool} {i:Ins}:gdS P D σ env h τ k i b (some b)=sxI P D σ env h τ k i:=by cases b<;>simp[gdS]
@[go_sem] theorem gdS_tf {i:Ins}:gdS P D σ env h τ k i false (some true)=k (.tup []) h τ:=by simp[gdS]
@[go_sem] theorem gdS_ft {i:Ins}:gdS P D σ env h τ k i true (some false)=k (.tup []) h τ:=by simp[gdS]
@[go_sem] theorem gdS_n {b:Bool} {i:Ins}:gdS P D σ env h τ k i b none=k (.tup []) h τ:=(rfl)
@[go_sem] theorem bindX_some {v:GV}:Ev (some v) k h τ=k v h τ:=(rfl)
@[go_sem] theorem ifS_t {a b:Cd}:ifS P σ a b Q env h τ (some true)=sxc P σ a Q env h τ:=by simp[ifS]
@[go_sem] theorem ifS_f {a b:Cd}:ifS P σ a b Q env h τ (some false)=sxc P σ b Q env h τ:=by simp[ifS]
theorem A3b {v:Option GV}:(Option.map (·.1) (v.map fun v=>(v,([]:St))))=v:=by cases v<;>rfl
@[go_sem] theorem xi_mov {x:Opd}:sxI P D σ env h τ k (.mov x)=k (x.ev env) h τ:=(rfl)
@[go_sem] theorem xi_pick {c a b:Opd}:sxI P D σ env h τ k (.pick c a b)=Ev ((c.ev env).bit.map fun t=>if t then a.ev env else b.ev env) k h τ:=by
 simp only[sxI,exec]
 cases(c.ev env).bit<;>rfl
@[go_sem] theorem xi_new {cs:List GV}:sxI P D σ env h τ k (.new cs)=Jn σ h 1 cs (fun n=>.ptr n 0) k:=(rfl)
@[go_sem] theorem xi_box {x:Opd}:sxI P D σ env h τ k (.box x)=(Bm (x.ev env)=true∧Jn σ h 1 (x.ev env).cells (fun n=>.ptr n 0) k):=(rfl)
@[go_sem] theorem xi_build {z:List GV} {ps:List (Nat×Nat×Opd)}:sxI P D σ env h τ k (.build z ps)=Ev ((Gr z (ps.map fun p=>(p.1,p.2.1,p.2.2.ev env))).map .agg) k h τ:=by
 simp only[sxI,exec]
 cases Gr z (ps.map fun p=>(p.1,p.2.1,p.2.2.ev env))<;>rfl
@[go_sem] theorem xi_lit {z l:Nat} {ze:List GV} {ps:List (Nat×Nat×Opd)}:sxI P D σ env h τ k (.lit z l ze ps)=litX σ h z l k (Gr ze (ps.map fun p=>(p.1,p.2.1,p.2.2.ev env))):=(rfl)
@[go_sem] theorem litX_some {z l:Nat} {cs:List GV}:litX σ h z l k (some cs)=Jn σ h z cs (fun n=>.sl n 0 l) k:=(rfl)
@[go_sem] theorem xi_mks {z b:Nat} {ze:List GV} {n c:Opd}:sxI P D σ env h τ k (.mks z b ze n c)=mksX σ h z b ze k (Bk (some (n.ev env))) (Bk (some (c.ev env))):=(rfl)
@[go_sem] theorem mksX_some {z b:Nat} {ze:List GV} {n c:Nat}:mksX σ h z b ze k (some n) (some c)=(n=c∧n*b≤140737488355328∧Jn σ h z (reps n ze) (fun g=>.sl g 0 n) k):=(rfl)
@[go_sem] theorem xi_ld {g:Bool} {n:Nat} {a:Opd}:sxI P D σ env h τ k (.ld g n a)=Ev (ldX σ h τ g n (a.ev env)) k h τ:=(rfl)
@[go_sem] theorem xi_st {n:Nat} {a x:Opd}:sxI P D σ env h τ k (.st n a x)=stX σ D h τ n k (a.ev env) (x.ev env):=(rfl)
@[go_sem] theorem stX_ptr {n b off:Nat} {x:GV}:stX σ D h τ n k (.ptr b off) x=stB σ D h τ n k b off x (look h b):=(rfl)
@[go_sem] theorem stB_some {n b off:Nat} {x:GV} {cs:List GV}:stB σ D h τ n k b off x (some cs)=((D=false∧off+n≤cs.length∧0<n∧x.cells.length=n)∧∀ τ',Hx σ τ' (upd h b (Ao cs off x.cells))→k (.tup []) (upd h b (Ao cs off x.cells)) τ'):=(rfl)
@[go_sem] theorem xi_nck {x:Opd}:sxI P D σ env h τ k (.nck x)=Ev (nckG (x.ev env)) k h τ:=by simp only[sxI,exec,A3b]
@[go_sem] theorem xi_bin {op:BinOp} {x y:Opd}:sxI P D σ env h τ k (.bin op x y)=Ev (binG op (x.ev env) (y.ev env)) k h τ:=by simp only[sxI,exec,A3b]
@[go_sem] theorem xi_eqb {n:Bool} {x y:Opd}:sxI P D σ env h τ k (.eqb n x y)=Ev (eqbG n (x.ev env) (y.ev env)) k h τ:=by
 simp only[sxI,exec,eqbG]
 cases(x.ev env).bit with
 |none=>rfl
 |some a=>cases(y.ev env).bit<;>rfl
@[go_sem] theorem xi_eqn {p n:Bool} {x y:Opd}:sxI P D σ env h τ k (.eqn p n x y)=Ev ((nilG p (x.ev env) (y.ev env)).map fun b=>.bool (n ^^ b)) k h τ:=by
 simp only[sxI,exec]
 cases nilG p (x.ev env) (y.ev env)<;>rfl
@[go_sem] theorem xi_eqs {n:Bool} {ks:List Sc} {x y:Opd}:sxI P D σ env h τ k (.eqs n ks x y)=Ev (eqsG n ks (x.ev env) (y.ev env)) k h τ:=by
 simp only[sxI,exec]
 cases x.ev env<;>first|rfl|skip
 cases y.ev env<;>first|rfl|skip
 simp only[eqsG]
 cases Cs ks _ _<;>rfl
@[go_sem] theorem xi_un {op:UnOp} {x:Opd}:sxI P D σ env h τ k (.un op x)=Ev (unG op (x.ev env)) k h τ:=by simp only[sxI,exec,A3b]
@[go_sem] theorem xi_cvi {kd:IntKind} {x:Opd}:sxI P D σ env h τ k (.cvi kd x)=Ev (cviG kd (x.ev env)) k h τ:=by
 simp only[sxI,exec]
 cases x.ev env<;>rfl
@[go_sem] theorem xi_bts {x:Opd}:sxI P D σ env h τ k (.bts x)=Ev ((elems τ 1 (x.ev env)).bind fun r=>(F0 r.2).map fun bs=>.str ⟨bs.toArray⟩) k h τ:=(rfl)
@[go_sem] theorem xi_mkf {f:Nat} {cs:List Opd}:sxI P D σ env h τ k (.mkf f cs)=Ev ((cs.mapM fun c=>A1v (c.ev env)).map fun cs=>.fn f cs) k h τ:=by
 simp only[sxI,exec]
 cases cs.mapM fun c=>A1v (c.ev env)<;>rfl
@[go_sem] theorem xi_cutS {x:Opd} {lo hi:Option Opd}:sxI P D σ env h τ k (.cutS x lo hi)=Ev (A7b (x.ev env) (lo.map (·.ev env)) (hi.map (·.ev env))) k h τ:=by simp only[sxI,exec,A3b]
@[go_sem] theorem xi_cut {z:Nat} {x:Opd} {lo hi:Option Opd}:sxI P D σ env h τ k (.cut z x lo hi)=Ev (if zOk τ z (x.ev env) then cutG z (x.ev env) (lo.map (·.ev env)) (hi.map (·.ev env)) else none) k h τ:=(rfl)
@[go_sem] theorem xi_fad {n:Nat} {a:Opd}:sxI P D σ env h τ k (.fad n a)=Ev (fadG n (a.ev env)) k h τ:=by
 simp only[sxI,exec]
 cases a.ev env<;>rfl
@[go_sem] theorem xi_part {g:Bool} {off n:Nat} {x:Opd}:sxI P D σ env h τ k (.part g off n x)=Ev (Acf g off n (x.ev env)) k h τ:=by
 simp only[sxI,exec]
 cases x.ev env with
 |agg cs=>
  simp only[Acf]
  cases seg cs off n with
  |none=>rfl
  |some q=>simp only[Option.bind_some,A3b]
 |_=>rfl
@[go_sem] theorem xi_iad {z:Nat} {x i:Opd}:sxI P D σ env h τ k (.iad z x i)=Ev (iadG z (x.ev env) (Bk (some (i.ev env)))) k h τ:=by
 simp only[sxI,exec]
 cases x.ev env with
 |sl g off len=>
  simp only
  cases Bk (some (i.ev env)) with
  |none=>rfl
  |some n=>
   simp only[Option.bind_some,iadG]
   split<;>rfl
 |_=>rfl
@[go_sem] theorem xi_idx {x i:Opd}:sxI P D σ env h τ k (.idx x i)=Ev (idxG (x.ev env) (Bk (some (i.ev env)))) k h τ:=by
 simp only[sxI,exec]
 cases x.ev env with
 |str s=>
  simp only
  cases Bk (some (i.ev env)) with
  |none=>rfl
  |some n=>
   simp only[Option.bind_some,idxG]
   cases s[n]? <;>rfl
 |_=>rfl
@[go_sem] theorem xi_ext {i:Nat} {x:Opd}:sxI P D σ env h τ k (.ext i x)=Ev (extG i (x.ev env)) k h τ:=by
 simp only[sxI,exec]
 cases x.ev env with
 |tup vs=>
  simp only[extG]
  cases vs[i]? with
  |none=>rfl
  |some v=>cases v<;>rfl
 |_=>rfl
@[go_sem] theorem xi_len {s:Bool} {x:Opd}:sxI P D σ env h τ k (.len s x)=Ev ((lenG s (x.ev env)).map fun n=>.int .i64 n) k h τ:=by
 simp only[sxI,exec]
 cases lenG s (x.ev env)<;>rfl
@[go_sem] theorem xi_app {z b:Nat} {ze:List GV} {s x:Opd}:sxI P D σ env h τ k (.app z b ze s x)=genX σ D τ (appV z b τ (s.ev env) (x.ev env)) k:=(rfl)
@[go_sem] theorem xi_mm {m:Bool} {x y:Opd}:sxI P D σ env h τ k (.mm m x y)=Ev (mmG m (x.ev env) (y.ev env)) k h τ:=by
 simp only[sxI,exec]
 cases x.ev env<;>first|rfl|skip
 cases y.ev env<;>rfl
@[go_sem] theorem xi_clr {z:Nat} {ze:List GV} {x:Opd}:sxI P D σ env h τ k (.clr z ze x)=genX σ D τ (clrG z ze τ (x.ev env)) k:=(rfl)
@[go_sem] theorem xi_pan:sxI P D σ env h τ k .pan=False:=(rfl)
@[go_sem] theorem xi_mkm:sxI P D σ env h τ k .mkm=genX σ D τ (some (.mp τ.length,τ++[some (.map [])])) k:=(rfl)
@[go_sem] theorem xi_mlk {ks:List Sc} {z:GV} {ok:Bool} {m k':Opd}:sxI P D σ env h τ k (.mlk ks z ok m k')=Ev (mlkG τ ks z ok (m.ev env) (k'.ev env)) k h τ:=(rfl)
@[go_sem] theorem xi_mup {ks:List Sc} {m k' v:Opd}:sxI P D σ env h τ k (.mup ks m k' v)=genX σ D τ (mupG τ ks (m.ev env) (k'.ev env) (v.ev env)) k:=(rfl)
@[go_sem] theorem xi_call {f:Nat} {xs:List Opd}:sxI P D σ env h τ k (.call f xs)=A0o P σ D τ f (xs.map (·.ev env)) k:=(rfl)
@[go_sem] theorem xi_callv {x:Opd} {xs:List Opd}:sxI P D σ env h τ k (.callv x xs)=fnX P σ D τ (xs.map (·.ev env)) k (x.ev env):=(rfl)
@[go_sem] theorem fnX_fn {f:Nat} {caps:List (Nat×Nat)} {args:List GV}:fnX P σ D τ args k (.fn f caps)=A0o P σ D τ f (args++caps.map fun c=>.ptr c.1 c.2) k:=(rfl)
@[go_sem] theorem xi_chk {d' n t:Nat} {g:Bool}:sxI P D σ env h τ k (.chk d' (.ld g n (.t t)))=(ldX σ h τ g n (env t)=some (env d')∧k (.tup []) h τ):=(rfl)
@[go_sem] theorem xi_blc {t:Nat} {cs:List GV}:sxI P D σ env h τ k (.blc t cs)=(blcX h cs (env t)∧k (.tup []) h τ):=(rfl)
@[go_sem] theorem blcX_ptr {b:Nat} {cs:List GV}:blcX h cs (.ptr b 0)=(O2 h b=some (1,cs)):=(rfl)
@[go_sem] theorem lookZ_eq {z n:Nat} {cs:List GV}:O2 (.box z n cs::h) n=some (z,cs):=by simp[O2]
@[go_sem low] theorem lookZ_ne {z m n:Nat} {cs:List GV} (hn:m≠n):O2 (.box z m cs::h) n=O2 h n:=by simp[O2,hn]
@[go_sem] theorem lookZ_th {n:Nat} {q:Thg}:O2 (.th q::h) n=O2 h n:=(rfl)
@[go_sem] theorem allocX_def {z:Nat} {cs:List GV} {v:Nat→GV}:Jn σ h z cs v k=∀ n,frX σ h n→∀ τ',Hx σ τ' (.box z n cs::h)→k (v n) (.box z n cs::h) τ':=(rfl)
@[go_sem] theorem frX_nil {n:Nat}:frX σ [] n=(σ.length≤n):=(rfl)
@[go_sem] theorem V2 {z m n:Nat} {cs:List GV}:frX σ (.box z m cs::h) n=(m<n∧frX σ h n):=(rfl)
@[go_sem] theorem A3c {n:Nat} {q:Thg}:frX σ (.th q::h) n=frX σ h n:=(rfl)
@[go_sem] theorem Dm {z n:Nat} {cs:List GV}:look (.box z n cs::h) n=some cs:=by simp[look]
@[go_sem low] theorem look_ne {z m n:Nat} {cs:List GV} (hn:m≠n):look (.box z m cs::h) n=look h n:=by simp[look,hn]
@[go_sem] theorem look_th {n:Nat} {q:Thg}:look (.th q::h) n=look h n:=(rfl)
@[go_sem] theorem upd_eq {z n:Nat} {cs ds:List GV}:upd (.box z n cs::h) n ds= .box z n ds::h:=by simp[upd]
@[go_sem low] theorem upd_ne {z m n:Nat} {cs ds:List GV} (hn:m≠n):upd (.box z m cs::h) n ds= .box z m cs::upd h n ds:=by simp[upd,hn]
@[go_sem] theorem upd_th {n:Nat} {q:Thg} {ds:List GV}:upd (.th q::h) n ds= .th q::upd h n ds:=(rfl)
@[go_sem] theorem ldX_ptr {g:Bool} {n b off:Nat} (hb:σ.length≤b):ldX σ h τ g n (.ptr b off)=ldB (look h b) g n off (ldG g n τ (.ptr b off)):=by
 have:ldG g n σ (.ptr b off)=none:=by
  simp only[ldG,rdB]
  rw[List.getElem?_eq_none hb];rfl
 simp only[ldX,this,orX,ldY]
@[go_sem] theorem ldX_at {g:Bool} {n z i:Nat} {v:GV}:ldX σ h τ g n (atz z v i)=orX (ldG g n σ (atz z v i)) (ldY h τ g n (atz z v i)):=(rfl)
@[go_sem] theorem ldX_fld {g:Bool} {n z i m:Nat} {v:GV}:ldX σ h τ g n (fld m (atz z v i))=orX (ldG g n σ (fld m (atz z v i))) (ldY h τ g n (fld m (atz z v i))):=(rfl)
@[go_sem] theorem orX_some {x:GV} {b:Option GV}:orX (some x) b=some x:=(rfl)
@[go_sem] theorem orX_none {b:Option GV}:orX none b=b:=(rfl)
@[go_sem] theorem ldB_some {cs:List GV} {g:Bool} {n off:Nat} {e:Option GV}:ldB (some cs) g n off e=(seg cs off n).bind (mkv g):=(rfl)
@[go_sem] theorem cells_i {kd:IntKind} {n:Int}:(GV.int kd n).cells=[.int kd n]:=(rfl)
@[go_sem] theorem cells_s {s:ByteArray}:(GV.str s).cells=[.str s]:=(rfl)
@[go_sem] theorem cells_b {b:Bool}:(GV.bool b).cells=[.bool b]:=(rfl)
@[go_sem] theorem cells_p {n o:Nat}:(GV.ptr n o).cells=[.ptr n o]:=(rfl)
@[go_sem] theorem cells_l {n o l:Nat}:(GV.sl n o l).cells=[.sl n o l]:=(rfl)
@[go_sem] theorem cells_a {cs:List GV}:(GV.agg cs).cells=cs:=(rfl)
@[go_sem] theorem cells_n:(GV.nilS).cells=[.nilS]:=(rfl)
@[go_sem] theorem cells_m {n:Nat}:(GV.mp n).cells=[.mp n]:=(rfl)
@[go_sem] theorem cells_f {f:Nat} {c:List (Nat×Nat)}:(GV.fn f c).cells=[.fn f c]:=(rfl)
@[go_sem] theorem notTup_p {n o:Nat}:Bm (.ptr n o)=true:=(rfl)
@[go_sem] theorem notTup_m {n:Nat}:Bm (.mp n)=true:=(rfl)
@[go_sem] theorem notTup_f {f:Nat} {c:List (Nat×Nat)}:Bm (.fn f c)=true:=(rfl)
@[go_sem] theorem xc_skip:sxc P σ .skip Q env h τ=Q .nxt env h τ:=(rfl)
@[go_sem] theorem xc_reg {os:List Op1}:sxc P σ (.reg os) Q env h τ=sx P false σ os (Q .nxt) env h τ:=(rfl)
@[go_sem] theorem xc_drw {a1 bs:List Op1}:sxc P σ (.drw a1 bs) Q env h τ=sx P true σ a1 (sx P false σ bs (Q .nxt)) env h τ:=(rfl)
@[go_sem] theorem xc_seq {a b:Cd}:sxc P σ (.seq a b) Q env h τ=sxc P σ a (fun e=>match e with
  | .nxt=>sxc P σ b Q
  |e=>Q e) env h τ:=(rfl)
@[go_sem] theorem xc_cnd {c:Opd} {a b:Cd}:sxc P σ (.cnd c a b) Q env h τ=ifS P σ a b Q env h τ (c.ev env).bit:=by
 show ifX _ _ _=_
 cases(c.ev env).bit<;>rfl
@[go_sem] theorem xc_blk {id:Nat} {a:Cd}:sxc P σ (.blk id a) Q env h τ=sxc P σ a (fun e=>match e with
  | .ext j=>if j=id then Q .nxt else Q (.ext j)
  |e=>Q e) env h τ:=(rfl)
@[go_sem] theorem xc_ext {id:Nat}:sxc P σ (.ext id) Q env h τ=Q (.ext id) env h τ:=(rfl)
@[go_sem] theorem xc_ret:sxc P σ .ret Q env h τ=Q .ret env h τ:=(rfl)
@[go_sem] theorem rsX_t {n:Nat}:rsX σ h τ env (.t n)=some (env n):=(rfl)
@[go_sem] theorem rsX_c {a n:Nat} {g:Bool}:rsX σ h τ env (.c a g n)=ldX σ h τ g n (env a):=(rfl)
@[go_sem] theorem resX_1 {x:Rs}:resX σ h τ env [x]=rsX σ h τ env x:=(rfl)
@[go_sem] theorem resX_0:resX σ h τ env []=some (.tup []):=(rfl)
@[go_sem] theorem resX_2 {x y:Rs}:resX σ h τ env [x,y]=tup2 (rsX σ h τ env x) (rsX σ h τ env y):=by
 simp only[resX,B9,tup2]
 cases rsX σ h τ env x with
 |none=>rfl
 |some u=>cases rsX σ h τ env y<;>simp
@[go_sem] theorem resX_3 {x y z:Rs}:resX σ h τ env [x,y,z]=tup3 (rsX σ h τ env x) (rsX σ h τ env y) (rsX σ h τ env z):=by
 simp only[resX,B9,tup3]
 cases rsX σ h τ env x with
 |none=>rfl
 |some u=>cases rsX σ h τ env y with
  |none=>rfl
  |some v=>cases rsX σ h τ env z<;>simp
end words
end
section
open Go Go.RowKit
theorem A0q {τ:St}:∀ {rs:List Thg} {fp:List Nat},sat τ rs fp→fp.Nodup→∃ F:Nat→List Nat,(∀ (i:Nat) (r:Thg),rs[i]? =some r→r.P τ (F i))∧(∀ i,(F i).Nodup)∧(∀ i j,i≠j→∀ g∈F i,g∉F j)∧∀ i,∀ g∈F i,g∈fp
 |[],fp,h,hn=>⟨fun _=>[],by simp,by simp,by simp,by simp⟩
 |r::rs,_,⟨a,b,hr,hs,rfl⟩,hn=>by
  rw[List.nodup_append] at hn
  obtain⟨F,h1,h2,h3,h4⟩:=A0q hs hn.2.1
  refine⟨fun i=>match i with|0=>a|i+1=>F i,?_,?_,?_,?_⟩
  ·intro i s hi
   cases i with
   |zero=>simp at hi;subst hi;exact hr
   |succ i=>exact h1 i s (by simpa using hi)
  ·intro i;cases i with
   |zero=>exact hn.1
   |succ i=>exact h2 i
  ·intro i j hij g hg
   cases i with
   |zero=>cases j with
    |zero=>exact absurd rfl hij
    |succ j=>exact fun h=>hn.2.2 g hg g (h4 j g h) rfl
   |succ i=>cases j with
    |zero=>exact fun h=>hn.2.2 g h g (h4 i g hg) rfl
    |succ j=>exact h3 i j (by omega) g hg
  ·intro i g hg
   cases i with
   |zero=>exact List.mem_append_left _ hg
   |succ i=>exact List.mem_append_right _ (h4 i g hg)
theorem Aam {τ:St} {rs:List Thg} {F:Nat→List Nat} (h1:∀(i:Nat) (r:Thg),rs[i]? =some r→r.P τ (F i)) (h2:∀ i,(F i).Nodup) (h3:∀ i j,i≠j→∀ g∈F i,g∉F j):∀ {is:List Nat},is.Nodup→∃ fp,sat τ (is.filterMap (rs[·]?)) fp∧fp.Nodup∧∀ g∈fp,∃ i∈is,g∈F i
 |[],_=>⟨[],rfl,by simp,by simp⟩
 |i::is,hn=>by
  rw[List.nodup_cons] at hn
  obtain⟨fp,k1,k2,k3⟩:=Aam h1 h2 h3 hn.2
  cases hi:rs[i]? with
  |none=>exact⟨fp,by rw[List.filterMap_cons,hi];exact k1,k2,fun g hg=>by obtain⟨j,hj,h⟩:=k3 g hg;exact⟨j,List.mem_cons_of_mem _ hj,h⟩⟩
  |some r=>
   refine⟨F i++fp,by rw[List.filterMap_cons,hi];exact⟨F i,fp,h1 i r hi,k1,rfl⟩,List.nodup_append.2 ⟨h2 i,k2,fun x hx y hy e=> ?_⟩,fun g hg=> ?_⟩
   ·subst e
    obtain⟨j,hj,h⟩:=k3 x hy
    exact h3 i j (fun e=>hn.1 (by rw[e];exact hj)) x hx h
   ·rcases List.mem_append.1 hg with hg|hg
    ·exact⟨i,List.mem_cons_self,hg⟩
    ·obtain⟨j,hj,h⟩:=k3 g hg;exact⟨j,List.mem_cons_of_mem _ hj,h⟩
theorem Hp.sel {σ τ:St} {rs:List Thg} (H:Hp σ τ rs) (is:List Nat) (hn:is.Nodup):Hp σ τ (is.filterMap (rs[·]?)):=by
 obtain⟨h,fp,hs,hnd,hb⟩:=H
 obtain⟨F,h1,h2,h3,h4⟩:=A0q hs hnd
 obtain⟨fp',k1,k2,k3⟩:=Aam h1 h2 h3 hn
 exact⟨h,fp',k1,k2,fun g hg=>by obtain⟨i,_,hi⟩:=k3 g hg;exact hb g (h4 i g hi)⟩
theorem Hx.sel {σ τ:St} {h:List Item} (H:Hx σ τ h) (is:List Nat) (hn:is.Nodup):Hp σ τ (is.filterMap ((h.map Item.t)[·]?)):=Hp.sel H is hn
theorem Hx.re {σ τ:St} {h:List Item} (H:Hx σ τ h) (is:List Nat) (hn:is.Nodup):Hx σ τ (is.filterMap (h[·]?)):=by
 have e:(is.filterMap (h[·]?)).map Item.t=is.filterMap ((h.map Item.t)[·]?):=by
  induction is with
  |nil=>rfl
  |cons i is ih=>
   have ih:=ih (List.nodup_cons.1 hn).2
   rw[List.filterMap_cons,List.filterMap_cons,List.getElem?_map]
   cases h[i]? with
   |none=>exact ih
   |some x=>simp only[Option.map_some,List.map_cons,ih]
 unfold Hx
 rw[e]
 exact H.sel is hn
section os
variable {α:Type} {d:Kd α} {σ τ:St} {l:List α} {v:GV} {fp:List Nat}
end os
theorem RS_one {α:Type} {p:Pl α} {τ:St} {n:Nat} {x:α} (h:rdB τ n=some (p.enc x)):RS p.kd τ (.sl n 0 1) [x]:=by
 refine .inr ⟨n,0,p.enc x,rfl,h,?_,fun i y hy=> ?_⟩
 ·show 0+1*p.z≤_;rw[p.len];omega
 ·have hi:i<1:=by simpa using (List.getElem?_eq_some_iff.1 hy).1
  have hi:i=0:=by omega
  subst hi
  simp at hy;subst hy
  show List.take p.z (List.drop (0+0*p.z) (p.enc x))=p.enc x
  simp only[Nat.zero_mul,Nat.add_zero,List.drop_zero]
  exact List.take_of_length_le (by rw[p.len];exact Nat.le_refl _)
section rules
variable {P:Program} {D:Bool} {σ τ τ':St} {env:Env} {h:List Item} {k:Kx} {f:Nat} {args:List GV} {v:GV} {α:Type}
theorem Af3 {rs:List Thg} {h:List Item}:(rs.map Item.th++h).map Item.t=rs++h.map Item.t:=by
 rw[List.map_append,List.map_map]
 congr 1
 exact List.map_id _
theorem by_cs {rs:List Thg} (H:Hx σ τ h) (R:Ret P f args τ v τ') (K:Hp τ τ' rs) (kk:Hx σ τ' (rs.map Item.th++h)→k v (rs.map Item.th++h) τ'):A0o P σ D τ f args k:=by
 have H':Hx σ τ' (rs.map Item.th++h):=by unfold Hx;rw[Af3];exact H.hp.add K
 exact⟨v,τ',_,R,fun _=>K.sub,H',kk H'⟩
theorem by_c {r:Thg} (H:Hx σ τ h) (R:Ret P f args τ v τ') (K:Hp τ τ' [r]) (kk:Hx σ τ' (.th r::h)→k v (.th r::h) τ'):A0o P σ D τ f args k:=by_cs H R K kk
theorem by_r (H:Hx σ τ h) (R:Ret P f args τ v τ) (kk:k v h τ):A0o P σ D τ f args k:=⟨v,τ,h,R,fun _=>List.prefix_refl _,H,kk⟩
theorem by_b {b:Bool} (H:Hx σ τ h) (R:Ret P f args τ (.bool b) τ) (h1:b=true→k (.bool true) h τ) (h2:b=false→k (.bool false) h τ):A0o P σ D τ f args k:=by
 refine by_r H R ?_
 cases b with
 |true=>exact h1 rfl
 |false=>exact h2 rfl
theorem by_m {h':List Item} (R:Ret P f args τ v τ') (H:Hx σ τ' h') (kk:k v h' τ'):A0o P σ false τ f args k:=⟨v,τ',h',R,(fun h=>by cases h),H,kk⟩
theorem A89 {h:List Item} {i:Nat} {r:Thg}:(h.set i (.th r)).map Item.t=(h.map Item.t).set i r:=List.map_set ..
theorem at_t {h:List Item} {i:Nat} {r:Thg} (hi:h[i]? =some (.th r)):(h.map Item.t)[i]? =some r:=by rw[List.getElem?_map,hi];rfl
theorem Dn {p:Pl α} {b8 n:Nat} {l:List α} (H:Hx σ τ h) (i:Nat) (hi:h[i]? =some (.th (ow p.kd v l))) (x:α) (hl:look h n=some (p.enc x)) (hz:0<p.z) (hb:(l.length+1)*b8≤140737488355328)
  (kk:∀ v' τ',Hx σ τ' (h.set i (.th (ow p.kd v' (l++[x]))))→k v' (h.set i (.th (ow p.kd v' (l++[x])))) τ'):genX σ false τ (appV p.z b8 τ v (.sl n 0 1)) k:=by
 obtain⟨z,j,h1,_⟩:=Q5 hl
 obtain⟨v',τ',e,H'⟩:=H.hp.app (by8:=b8) i (at_t hi) (RS_one (H.hp.pt j h1)) hz hb
 rw[← A89] at H'
 exact⟨v',τ',_,e,(fun h=>by cases h),H',kk v' τ' H'⟩
theorem Aan:∀(h:List Item) (j:Nat),(h.map Item.t).eraseIdx j=(h.eraseIdx j).map Item.t
 |[],_=>rfl
 |x::h,0=>rfl
 |x::h,j+1=>by simp only[List.map_cons,List.eraseIdx_cons_succ,Aan h j]
theorem Ad5 {p:Pl α} {b8 n:Nat} {m:List α} {u:GV} (H:Hx σ τ (.box p.z n []::h)) (hu:RS p.kd τ u m) (hz:0<p.z) (hb:m.length*b8≤140737488355328)
  (kk:∀ v' τ',Hx σ τ' (.th (ow p.kd v' m)::h)→k v' (.th (ow p.kd v' m)::h) τ'):genX σ D τ (appV p.z b8 τ (.sl n 0 0) u) k:=by
 have hu':RdN p.en τ u m:=hu
 have ha:appV p.z b8 τ (.sl n 0 0) u=appG p.z b8 τ (.sl n 0 0) m.length (p.cells m):=by
  have he:=hu'.elems
  unfold appV
  rcases hu' with⟨rfl,rfl|rfl⟩|⟨g,off,cs,rfl,_⟩<;>simp only[he,Option.bind_some]
 rw[ha]
 by_cases hm:m.length=0
 ·have:m=[]:=List.eq_nil_of_length_eq_zero hm
  subst this
  have H1:Hx σ τ (.th (ow p.kd (.sl n 0 0) [])::h):=H.hp.toNil (d:=p.kd) 0 rfl rfl
  exact⟨.sl n 0 0,τ,_,by simp[appG,isSl],fun _=>List.prefix_refl _,H1,kk _ _ H1⟩
 ·obtain⟨a,ha,_⟩:=H.hp.see (i:=0) rfl
  have hB:=Bg.1 ha.2
  have H1:Hx σ (τ++[some (.row p.z (p.cells m))]) (.th (ow p.kd (.sl τ.length 0 m.length) m)::h):=(H.hp.drop1.new p.z (p.cells m)).toRow 0 rfl m rfl rfl _ rfl
  refine⟨.sl τ.length 0 m.length,τ++[some (.row p.z (p.cells m))],_,?_,fun _=>pre1 _ _,H1,kk _ _ H1⟩
  simp only[appG,hB,if_neg hm]
  rw[if_pos ⟨trivial,trivial,trivial,trivial,hb⟩]
theorem In {e:Option (GV×St)} {k k':Kx} (hk:∀ v h τ,k v h τ→k' v h τ):genX σ D τ e k→genX σ D τ e k':=fun⟨v,τ',h',h1,h2,h3,h4⟩=>⟨v,τ',h',h1,h2,h3,hk _ _ _ h4⟩
theorem Lq {z:Nat} {cs:List GV} {w:Nat→GV} {k k':Kx} (hk:∀ v h τ,k v h τ→k' v h τ) (e:Jn σ h z cs w k):Jn σ h z cs w k':=fun n hf τ' H=>hk _ _ _ (e n hf τ' H)
theorem Ad6 {k k':Kx} (hk:∀ v h τ,k v h τ→k' v h τ):∀ {i:Ins},sxI P D σ env h τ k i→sxI P D σ env h τ k' i:=by
 have bm:∀ {v:Option GV},Ev v k h τ→Ev v k' h τ:=fun {v} e=>by
  cases v with
  |none=>exact e
  |some v=>exact hk _ _ _ e
 intro i e
 cases i with
 |new cs=>exact Lq hk e
 |box x=>exact⟨e.1,Lq hk e.2⟩
 |lit z len zero parts=>
  simp only[sxI] at e ⊢
  revert e
  cases Gr zero (parts.map fun p=>(p.1,p.2.1,p.2.2.ev env)) with
  |none=>exact id
  |some cs=>exact Lq hk
 |mks z b ze n c=>
  simp only[sxI] at e ⊢
  revert e
  cases Bk (some (n.ev env)) with
  |none=>exact id
  |some n=>cases Bk (some (c.ev env)) with
   |none=>exact id
   |some c=>exact fun e=>⟨e.1,e.2.1,Lq hk e.2.2⟩
 |st n a x=>
  simp only[sxI] at e ⊢
  revert e
  cases a.ev env with
  |ptr b off=>
   simp only[stX]
   unfold stB
   cases look h b with
   |none=>exact In hk
   |some cs=>exact fun e=>⟨e.1,fun τ' H=>hk _ _ _ (e.2 τ' H)⟩
  |_=>exact In hk
 |call f xs=>
  obtain⟨v,τ',h',h1,h2,h3,h4⟩:=e
  exact⟨v,τ',h',h1,h2,h3,hk _ _ _ h4⟩
 |callv x xs=>
  simp only[sxI] at e ⊢
  revert e
  cases x.ev env with
  |fn f caps=>exact fun⟨v,τ',h',h1,h2,h3,h4⟩=>⟨v,τ',h',h1,h2,h3,hk _ _ _ h4⟩
  |_=>exact id
 |chk d x=>
  cases x with
  |ld g n a=>cases a with
   |t t=>exact⟨e.1,hk _ _ _ e.2⟩
   |k v=>exact e
  |_=>exact e
 |blc t cs=>exact⟨e.1,hk _ _ _ e.2⟩
 |app z b ze s x=>exact In hk e
 |clr z ze x=>exact In hk e
 |mkm=>exact In hk e
 |mup ks m k2 v=>exact In hk e
 |mov x=>exact hk _ _ _ e
 |pan=>exact e
 |_=>exact bm e
theorem V3:∀ {os:List Op1} {K K':Env→List Item→St→Prop} {env:Env} {h:List Item} {τ:St},(∀ env h τ,K env h τ→K' env h τ)→sx P D σ os K env h τ→sx P D σ os K' env h τ
 |[],K,K',env,h,τ,hk,e=>hk _ _ _ e
 |o::r,K,K',env,h,τ,hk,e=>by
  simp only[sx] at e ⊢
  have y:sxI P D σ env h τ (fun v h' τ'=>sx P D σ r K (upo env o.d v) h' τ') o.i→sxI P D σ env h τ (fun v h' τ'=>sx P D σ r K' (upo env o.d v) h' τ') o.i:=Ad6 fun v h τ=>V3 hk
  have n:sx P D σ r K (upo env o.d (.tup [])) h τ→sx P D σ r K' (upo env o.d (.tup [])) h τ:=V3 hk
  revert e
  cases o.g.map fun g=>((env g.1).bit,g.2) with
  |none=>exact y
  |some q=>
   obtain⟨c,b⟩:=q
   cases c with
   |none=>exact n
   |some c=>exact fun e=>⟨fun hc=>y (e.1 hc),fun hc=>n (e.2 hc)⟩
theorem A0r {d:Cd}:∀ {Q Q':Qx} {env:Env} {h:List Item} {τ:St},(∀ e env h τ,Q e env h τ→Q' e env h τ)→sxc P σ d Q env h τ→sxc P σ d Q' env h τ:=by
 induction d with
 |skip=>intro Q Q' env h τ hq e;exact hq _ _ _ _ e
 |reg ops=>intro Q Q' env h τ hq e;exact V3 (hq _) e
 |drw a1 bs=>intro Q Q' env h τ hq e;exact V3 (fun _ _ _=>V3 (hq _)) e
 |seq a b iha ihb=>
  intro Q Q' env h τ hq e
  refine iha (fun e env h τ he=> ?_) e
  cases e with
  |nxt=>exact ihb hq he
  |ext j=>exact hq _ _ _ _ he
  |ret=>exact hq _ _ _ _ he
 |cnd c a b iha ihb=>
  intro Q Q' env h τ hq e
  simp only[sxc] at e ⊢
  unfold ifX at e ⊢
  split
  ·rename_i hc;rw[hc] at e;exact⟨fun k=>iha hq (e.1 k),fun k=>ihb hq (e.2 k)⟩
  ·rename_i hc;rw[hc] at e;exact e
 |blk id a ih=>
  intro Q Q' env h τ hq e
  refine ih (fun e env h τ he=> ?_) e
  cases e with
  |nxt=>exact hq _ _ _ _ he
  |ext j=>
   simp only at he ⊢
   split at he
   ·rename_i hj;rw[if_pos hj];exact hq _ _ _ _ he
   ·rename_i hj;rw[if_neg hj];exact hq _ _ _ _ he
  |ret=>exact hq _ _ _ _ he
 |lop a ih=>
  intro Q Q' env h τ hq e
  obtain⟨I,n,h0,H0,hI,hs⟩:=e
  refine⟨I,n,h0,H0,hI,fun k env h τ H hi=>ih (fun e env' h' τ' he=> ?_) (hs k env h τ H hi)⟩
  cases e with
  |nxt=>exact he
  |ext j=>obtain⟨h1,H1,he⟩:=he;exact⟨h1,H1,hq _ _ _ _ he⟩
  |ret=>obtain⟨h1,H1,he⟩:=he;exact⟨h1,H1,hq _ _ _ _ he⟩
 |ext id=>intro Q Q' env h τ hq e;exact hq _ _ _ _ e
 |ret=>intro Q Q' env h τ hq e;exact hq _ _ _ _ e
variable {a b:Cd} {Q:Qx}
theorem sx_lop (n j0:Nat) (I:Nat→Env→List Item→Prop) (X Z:Env→List Item→Prop) (h0:List Item) (H0:Hx σ τ h0) (hI:I n env h0)
  (hs:∀(J:Nat→Env→St→Prop) (Y W:Env→St→Prop),(∀ i env h τ,Hx σ τ h→I i env h→J i env τ)→(∀ env h τ,Hx σ τ h→X env h→Y env τ)→(∀ env h τ,Hx σ τ h→Z env h→W env τ)→∀ i env h τ,Hx σ τ h→I i env h→sxc P σ a (fun e env' h' τ'=>match e with
   | .nxt=>∃ i',i'<i∧J i' env' τ'
   | .ext j=>j=j0∧Y env' τ'
   | .ret=>W env' τ') env h τ)
  (hx:∀ env h τ,Hx σ τ h→X env h→Q (.ext j0) env h τ) (hz:∀ env h τ,Hx σ τ h→Z env h→Q .ret env h τ):sxc P σ (.lop a) Q env h τ:=by
 refine⟨fun i env h τ=>I i env h,n,h0,H0,hI,fun i env h τ H hi=>A0r (fun e env' h' τ' he=> ?_) (hs (fun i env τ=>∃ h,Hx σ τ h∧I i env h) (fun env τ=>∃ h,Hx σ τ h∧X env h) (fun env τ=>∃ h,Hx σ τ h∧Z env h) (fun _ _ h _ H e=>⟨h,H,e⟩) (fun _ h _ H e=>⟨h,H,e⟩) (fun _ h _ H e=>⟨h,H,e⟩) i env h τ H hi)⟩
 cases e with
 |nxt=>obtain⟨i',h1,h2,h3,h4⟩:=he;exact⟨i',h2,h1,h3,h4⟩
 |ext j=>obtain⟨rfl,h2,h3,h4⟩:=he;exact⟨h2,h3,hx _ _ _ h3 h4⟩
 |ret=>obtain⟨h2,h3,h4⟩:=he;exact⟨h2,h3,hz _ _ _ h3 h4⟩
theorem Bs (n ri j0:Nat) (I:Nat→Env→List Item→Prop) (X Z:Env→List Item→Prop) (h0:List Item) (H0:Hx σ τ h0) (hr:env ri=gi 0) (hI:I 0 env h0)
  (hs:∀(J:Nat→Env→St→Prop) (Y W:Env→St→Prop),(∀ i env h τ,Hx σ τ h→I i env h→J i env τ)→(∀ env h τ,Hx σ τ h→X env h→Y env τ)→(∀ env h τ,Hx σ τ h→Z env h→W env τ)→∀ i env h τ,i<n→env ri=gi i→decide ((i:Int)<n)=true→Hx σ τ h→I i env h→sxc P σ a (fun e env' h' τ'=>match e with
   | .nxt=>env' ri=gi ((i:Int)+1)∧J (i+1) env' τ'
   | .ext j=>j=j0∧Y env' τ'
   | .ret=>W env' τ') env h τ)
  (he:∀(Y:Env→St→Prop),(∀ env h τ,Hx σ τ h→X env h→Y env τ)→∀ env h τ,env ri=gi n→decide ((n:Int)<n)=false→Hx σ τ h→I n env h→sxc P σ a (fun e env' h' τ'=>match e with
   | .nxt=>False
   | .ext j=>j=j0∧Y env' τ'
   | .ret=>False) env h τ)
  (hx:∀ env h τ,Hx σ τ h→X env h→Q (.ext j0) env h τ) (hz:∀ env h τ,Hx σ τ h→Z env h→Q .ret env h τ):sxc P σ (.lop a) Q env h τ:=by
 refine sx_lop n j0 (fun k env h=>∃ i:Nat,k=n - i∧i≤n∧env ri=gi i∧I i env h) X Z h0 H0 ⟨0,rfl,Nat.zero_le _,hr,hI⟩ (fun J Y W hJ hY hW k env h τ H hi=> ?_) hx hz
 obtain⟨i,rfl,h1,h2,h3⟩:=hi
 rcases Nat.lt_or_ge i n with hlt|hge
 ·refine A0r (fun e env' h' τ' q=> ?_) (hs (fun i' env τ=>i'≤n→env ri=gi i'→J (n - i') env τ) Y W (fun j env h τ H e hj hr=>hJ _ env h τ H ⟨j,rfl,hj,hr,e⟩) hY hW i env h τ hlt h2 (by simp;omega) H h3)
  cases e with
  |nxt=>exact⟨n - (i+1),by omega,q.2 (by omega) q.1⟩
  |ext j=>exact q
  |ret=>exact q
 ·obtain rfl:i=n:=by omega
  refine A0r (fun e env' h' τ' q=> ?_) (he Y hY env h τ h2 (by simp) H h3)
  cases e with
  |nxt=>exact q.elim
  |ext j=>exact q
  |ret=>exact q.elim
theorem Em {md:Bool} {F:Fn1} {r:GV} (hF:Hd md P f=some F) (hl:args.length≤F.n) (hr:vLt σ.length r)
  (hc:sxc P σ F.c (fun e env h τ=>Hx σ τ h→Tm e=true∧resX σ h τ env F.rs=some r) (env0 args) [] σ):Ret P f args σ r σ:=
 Al hF hl hr (B6 (A39 (Hx.refl σ) hc) fun e env τ he=>by
  obtain⟨_,h,H,hq⟩:=he
  exact⟨(hq H).1,Yj H (hq H).2,H.sub⟩)
end rules
end
section
open Go Go.RowKit
abbrev Ahm:Nat:=225
def Ahn:Fn1:=⟨103,[.t 2],(rg [oX 1 0,oV 2 kf] (.seq (rg [oF 9 0 1,oL 10 9,oF 11 1 1,oL 12 11,oD 13 177 10 12,oU 14 13,oM 15 14,og 16 15 false (.fad 2 (.t 1)),og 17 15 false (.ld false 1 (.t 16)),og 18 15 false (.call 285 [(.t 17)]),og 19 15 false (.un .not (.t 18)),o 20 (.pick (.t 15) kt (.t 19)),oM 21 20,og 22 21 false (.fad 3 (.t 1)),og 23 21 false (.ld false 1 (.t 22)),og 24 21 false (.fad 1 (.t 1)),og 25 21 false (.ld false 1 (.t 24)),og 26 21 false (.call 286 [(.t 23),(.t 25)]),og 27 21 false (.un .not (.t 26)),o 28 (.pick (.t 21) kt (.t 27)),oM 29 28,og 30 29 false (.fad 5 (.t 1)),og 31 29 false (.ld false 1 (.t 30)),og 32 29 false (.fad 1 (.t 1)),og 33 29 false (.ld false 1 (.t 32)),og 34 29 false (.call 287 [(.t 31),(.t 33)]),og 35 29 false (.un .not (.t 34)),o 36 (.pick (.t 29) kt (.t 35)),oM 37 36,og 38 37 false (.fad 4 (.t 1)),og 39 37 false (.ld false 1 (.t 38)),og 40 37 false (.len false (.t 39)),og 41 37 false (.bin .gtr (.t 40) (ki 120)),o 42 (.pick (.t 37) kt (.t 41))] (.cnd (.t 42) (rg [oV 2 kf] .ret) .skip)) (.seq (rg [oF 43 3 1,oL 44 43,oN 45 44,oV 46 (ki 0)] (.blk 0 (.lop (rg [oB 47 .lss 46 45] (.seq (.cnd (.t 47) .skip (.ext 0)) (.seq (.blk 1 (rg [oI 48 6 44 46,oW 49 6 48,o 4 (.new [(.bool false),(.str ⟨#[]⟩),(.str ⟨#[]⟩),z0,z0,z0]),oS 6 4 49] (rg [oF 50 0 1,oL 51 50,oF 52 4 4,oW 53 2 52,oD 54 170 51 53] (.cnd (.t 54) (rg [oV 2 kf] .ret) .skip)))) (.reg [oZ 55 46 1,oM 46 55]))))))) (.seq (rg [oF 56 4 1,oL 57 56,oN 58 57,oV 59 (ki 0)] (.blk 2 (.lop (rg [oB 60 .lss 59 58] (.seq (.cnd (.t 60) .skip (.ext 2)) (.seq (.blk 3 (rg [oM 61 59,oI 62 2 57 59,oW 63 2 62,o 6 (.new [z0,z0]),oM 5 61,oS 2 6 63] (.seq (.drw [oF 64 0 1,oL 65 64,oW 66 2 6,oD 67 170 65 66,oU 68 67,oM 69 68,og 70 69 false (.mov (.t 5)),og 71 69 false (.bin .gtr (.t 70) (ki 0)),og 72 69 false (.mov (.t 71)),og 73 72 true (.fad 4 (.t 1)),og 74 72 true (.ld false 1 (.t 73)),og 75 72 true (.mov (.t 5)),og 76 72 true (.bin .sub (.t 75) (ki 1)),og 77 72 true (.iad 2 (.t 74) (.t 76)),og 78 72 true (.ld true 2 (.t 77)),og 79 72 true (.ld true 2 (.t 6))] [og 80 72 true (.call 306 [(.t 78),(.t 79)]),og 81 72 true (.bin .geq (.t 80) (ki 0)),og 82 69 false (.pick (.t 72) (.t 81) kf),o 83 (.pick (.t 69) kt (.t 82))]) (.cnd (.t 83) (rg [oV 2 kf] .ret) .skip)))) (.reg [oZ 84 59 1,oM 59 84]))))))) (.seq (rg [oF 85 5 1,oL 86 85,oN 87 86,oV 88 (ki 0)] (.blk 4 (.lop (rg [oB 89 .lss 88 87] (.seq (.cnd (.t 89) .skip (.ext 4)) (.seq (.blk 5 (rg [oI 90 8 86 88,oW 91 8 90,o 8 (.new [(.str ⟨#[]⟩),z0,z0,z0,z0,z0,z0,(.bool false)]),oS 8 8 91] (rg [oF 92 4 8,oW 93 2 92,o 94 (.build [z0,z0] []),o 95 (.eqs true [.i .i64,.i .i64] (.t 93) (.t 94)),oM 96 95,og 97 96 true (.fad 4 (.t 8)),og 98 96 true (.ld true 2 (.t 97)),og 99 96 true (.call 272 [(.t 98)]),og 100 96 true (.un .not (.t 99)),o 101 (.pick (.t 96) (.t 100) kf)] (.cnd (.t 101) (rg [oV 2 kf] .ret) .skip)))) (.reg [oZ 102 88 1,oM 88 102]))))))) (rg [oV 2 kt] .ret))))))⟩
abbrev Aho:Nat:=304
def Ahp:Fn1:=⟨36,[.t 2],(rg [oV 2 kf] (.seq (rg [oV 3 (ki 0)] (.blk 0 (.lop (.seq (rg [oM 4 3,oM 5 0,oN 6 5,oB 7 .lss 4 6] (.cnd (.t 7) .skip (.ext 0))) (.seq (.blk 1 (.seq (.drw [oM 10 0,oM 11 3,oI 12 2 10 11,oW 13 2 12,oC 14 168 13,oU 15 14,oM 16 15,og 17 16 false (.mov (.t 3)),og 18 16 false (.bin .gtr (.t 17) (ki 0)),og 19 16 false (.mov (.t 18)),og 20 19 true (.mov (.t 0)),og 21 19 true (.mov (.t 3)),og 22 19 true (.bin .sub (.t 21) (ki 1)),og 23 19 true (.iad 2 (.t 20) (.t 22)),og 24 19 true (.ld true 2 (.t 23)),og 25 19 true (.mov (.t 0)),og 26 19 true (.mov (.t 3)),og 27 19 true (.iad 2 (.t 25) (.t 26)),og 28 19 true (.ld true 2 (.t 27))] [og 29 19 true (.call 362 [(.t 24),(.t 28)]),og 30 19 true (.un .not (.t 29)),og 31 16 false (.pick (.t 19) (.t 30) kf),o 32 (.pick (.t 16) kt (.t 31))]) (.cnd (.t 32) (rg [oV 2 kf] .ret) .skip))) (.reg [oM 8 3,oZ 9 8 1,oM 3 9])))))) (rg [oM 33 0,oN 34 33,o 35 (.bin .leq (.t 34) (ki 120)),oM 2 35] .ret)))⟩
abbrev Ahq:Nat:=219
def Ahr:Fn1:=⟨97,[.t 2],(rg [oX 1 0,oV 2 kf] (.seq (rg [oF 6 0 1,oL 7 6,oF 8 1 1,oL 9 8,oD 10 178 7 9,oU 11 10,oM 12 11,og 13 12 false (.fad 2 (.t 1)),og 14 12 false (.ld false 1 (.t 13)),og 15 12 false (.call 290 [(.t 14)]),og 16 12 false (.un .not (.t 15)),o 17 (.pick (.t 12) kt (.t 16)),oM 18 17,og 19 18 false (.fad 3 (.t 1)),og 20 18 false (.ld false 1 (.t 19)),og 21 18 false (.call 291 [(.t 20)]),og 22 18 false (.un .not (.t 21)),o 23 (.pick (.t 18) kt (.t 22)),oM 24 23,og 25 24 false (.fad 5 (.t 1)),og 26 24 false (.ld false 1 (.t 25)),og 27 24 false (.call 292 [(.t 26)]),og 28 24 false (.un .not (.t 27)),o 29 (.pick (.t 24) kt (.t 28)),oM 30 29,og 31 30 false (.fad 4 (.t 1)),og 32 30 false (.ld false 1 (.t 31)),og 33 30 false (.call 304 [(.t 32)]),og 34 30 false (.un .not (.t 33)),o 35 (.pick (.t 30) kt (.t 34))] (.cnd (.t 35) (rg [oV 2 kf] .ret) .skip)) (.seq (rg [oV 3 (ki 0)] (.blk 0 (.lop (.seq (rg [oM 36 3,oF 37 3 1,oL 38 37,oN 39 38,oB 40 .lss 36 39] (.cnd (.t 40) .skip (.ext 0))) (.seq (.blk 1 (.seq (.drw [oF 43 1 1,oL 44 43,oF 45 3 1,oL 46 45,oM 47 3,oI 48 6 46 47,oF 49 4 48,oW 50 2 49,oD 51 45 44 50,oU 52 51,oM 53 52,og 54 53 false (.fad 0 (.t 1)),og 55 53 false (.ld false 1 (.t 54)),og 56 53 false (.fad 3 (.t 1)),og 57 53 false (.ld false 1 (.t 56)),og 58 53 false (.mov (.t 3)),og 59 53 false (.iad 6 (.t 57) (.t 58)),og 60 53 false (.fad 4 (.t 59)),og 61 53 false (.ld true 2 (.t 60))] [og 62 53 false (.call 45 [(.t 55),(.t 61)]),o 63 (.pick (.t 53) kt (.t 62))]) (.cnd (.t 63) (rg [oV 2 kf] .ret) .skip))) (.reg [oM 41 3,oZ 42 41 1,oM 3 42])))))) (.seq (rg [oV 4 (ki 0)] (.blk 2 (.lop (.seq (rg [oM 64 4,oF 65 4 1,oL 66 65,oN 67 66,oB 68 .lss 64 67] (.cnd (.t 68) .skip (.ext 2))) (.seq (.blk 3 (.seq (.drw [oF 71 0 1,oL 72 71,oF 73 4 1,oL 74 73,oM 75 4,oI 76 2 74 75,oW 77 2 76] [oD 78 45 72 77,oU 79 78]) (.cnd (.t 79) (rg [oV 2 kf] .ret) .skip))) (.reg [oM 69 4,oZ 70 69 1,oM 4 70])))))) (.seq (rg [oV 5 (ki 0)] (.blk 4 (.lop (.seq (rg [oM 80 5,oF 81 5 1,oL 82 81,oN 83 82,oB 84 .lss 80 83] (.cnd (.t 84) .skip (.ext 4))) (.seq (.blk 5 (.seq (.drw [oF 87 1 1,oL 88 87,oF 89 5 1,oL 90 89,oM 91 5,oI 92 8 90 91,oF 93 1 92,oW 94 2 93] [oD 95 45 88 94,oU 96 95]) (.cnd (.t 96) (rg [oV 2 kf] .ret) .skip))) (.reg [oM 85 5,oZ 86 85 1,oM 5 86])))))) (rg [oV 2 kt] .ret))))))⟩
def newL (k:List Int) (l:List Live) (i:Nat):Bool:=onI l i fun x=> !B5 k x.dot
def deadP (k:List Int) (l:List Dot) (i:Nat):Bool:=onI l i (B5 k)&&upI Bq l i
def dotP (l:List Dot) (i:Nat):Bool:=onI l i G5&&upI Bq l i
def dotsOk (l:List Dot):Bool:=allR l.length (dotP l)&&decide (l.length≤120)
def refP (l:List Cell) (i:Nat):Bool:=onI l i refD
def Aao (d:Delta):Bool:=M3 d.base d.know&&(Fb d.tallies&&(Ly d.lives d.know&&(Lz d.cells d.know&&(decide (d.dead.length≤120)&&(allR d.lives.length (newL d.base d.lives)&&(allR d.dead.length (deadP d.base d.dead)&&allR d.cells.length (refP d.cells)))))))
def midL (k b:List Int) (l:List Live) (i:Nat):Bool:=onI l i fun x=>B5 k x.dot&& !B5 b x.dot
def deltaOkS (d:Delta):Bool:=M3 d.base d.know&&(Fb d.tallies&&(A58 d.lives&&(A59 d.cells&&(dotsOk d.dead&&(allR d.lives.length (midL d.know d.base d.lives)&&(allR d.dead.length (fun i=>onI d.dead i (B5 d.base))&&allR d.cells.length (fun i=>onI d.cells i fun x=>B5 d.know x.dot)))))))
end
section
open Go Go.RowKit
abbrev Yk:Nat:=234
def Yl:Fn1:=⟨18,[.t 4],(rg [oX 3 1,oV 4 kf] (.seq (rg [oV 5 (ki 0)] (.blk 0 (.lop (.seq (rg [oM 6 5,oM 7 0,oN 8 7,oB 9 .lss 6 8] (.cnd (.t 9) .skip (.ext 0))) (.seq (.blk 1 (.seq (.drw [oM 12 0,oM 13 5,oI 14 6 12 13,oW 15 6 14,oW 16 6 3] [o 17 (.eqs false [.b,.s,.s,.i .i64,.i .i64,.i .i64] (.t 15) (.t 16))]) (.cnd (.t 17) (rg [oV 4 kt] .ret) .skip))) (.reg [oM 10 5,oZ 11 10 1,oM 5 11])))))) (rg [oV 4 kf] .ret)))⟩
theorem A5o:A8 Tryz.prog Yk=some Yl:=by kernel_rfl
abbrev Ahs:Nat:=340
def Aht:Fn1:=⟨18,[.t 4],(rg [oX 3 1,oV 4 kf] (.seq (rg [oV 5 (ki 0)] (.blk 0 (.lop (.seq (rg [oM 6 5,oM 7 0,oN 8 7,oB 9 .lss 6 8] (.cnd (.t 9) .skip (.ext 0))) (.seq (.blk 1 (.seq (.drw [oM 12 0,oM 13 5,oI 14 2 12 13,oW 15 2 14,oW 16 2 3] [o 17 (.eqs false [.i .i64,.i .i64] (.t 15) (.t 16))]) (.cnd (.t 17) (rg [oV 4 kt] .ret) .skip))) (.reg [oM 10 5,oZ 11 10 1,oM 5 11])))))) (rg [oV 4 kf] .ret)))⟩
abbrev Cn:Nat:=375
def Co:Fn1:=⟨19,[.t 4],(rg [oX 3 1,oV 4 (ki 0)] (.seq (rg [oM 6 0,oN 7 6,oV 8 (ki 0)] (.blk 0 (.lop (rg [oB 9 .lss 8 7] (.seq (.cnd (.t 9) .skip (.ext 0)) (.seq (.blk 1 (rg [oM 10 8,oM 5 10] (.seq (.drw [oW 11 6 3,oM 12 0,oM 13 5,oI 14 6 12 13,oW 15 6 14] [o 16 (.eqs false [.b,.s,.s,.i .i64,.i .i64,.i .i64] (.t 11) (.t 15))]) (.cnd (.t 16) (rg [oM 17 5,oM 4 17] .ret) .skip)))) (.reg [oZ 18 8 1,oM 8 18]))))))) (rg [o 4 (.mov (ki (-1)))] .ret)))⟩
theorem F5:A8 Tryz.prog Cn=some Co:=by kernel_rfl
abbrev C9:Nat:=318
def Ca:Fn1:=⟨9,[.t 4],(rg [oX 3 1,oV 4 kf] (rg [oM 5 0,oW 6 6 3,oD 7 375 5 6,o 8 (.bin .geq (.t 7) (ki 0)),oM 4 8] .ret))⟩
theorem Ef:A8 Tryz.prog C9=some Ca:=by kernel_rfl
abbrev P9:Nat:=380
def Pa:Fn1:=⟨19,[.t 4],(rg [oX 3 1,oV 4 (ki 0)] (.seq (rg [oM 6 0,oN 7 6,oV 8 (ki 0)] (.blk 0 (.lop (rg [oB 9 .lss 8 7] (.seq (.cnd (.t 9) .skip (.ext 0)) (.seq (.blk 1 (rg [oM 10 8,oM 5 10] (.seq (.drw [oW 11 2 3,oM 12 0,oM 13 5,oI 14 2 12 13,oW 15 2 14] [o 16 (.eqs false [.i .i64,.i .i64] (.t 11) (.t 15))]) (.cnd (.t 16) (rg [oM 17 5,oM 4 17] .ret) .skip)))) (.reg [oZ 18 8 1,oM 8 18]))))))) (rg [o 4 (.mov (ki (-1)))] .ret)))⟩
abbrev Mw:Nat:=336
def Mx:Fn1:=⟨9,[.t 4],(rg [oX 3 1,oV 4 kf] (rg [oM 5 0,oW 6 2 3,oD 7 380 5 6,o 8 (.bin .geq (.t 7) (ki 0)),oM 4 8] .ret))⟩
def Rf {α:Type} [DecidableEq α] (l:List α) (x:α):Int:=match l.findIdx? (fun y=>decide (y=x)) with
 |some k=>k
 |none=> -1
theorem Aap {α:Type} [DecidableEq α] {l:List α} {x:α} {i:Nat} (hi:i<l.length) (ha:∀ j (hj:j<l.length),j<i→l[j]≠x) (h:l[i]=x):Rf l x=i:=by
 have:l.findIdx? (fun y=>decide (y=x))=some i:=List.findIdx?_eq_some_iff_getElem.2 ⟨hi,by simpa using h,fun j hj=>by simpa using ha j (by omega) hj⟩
 simp[Rf,this]
theorem A3d {α:Type} [DecidableEq α] {l:List α} {x:α} (h:x∉l):Rf l x= -1:=by
 have:l.findIdx? (fun y=>decide (y=x))=none:=by
  rw[List.findIdx?_eq_none_iff]
  intro y hy
  simp only[decide_eq_false_iff_not]
  rintro rfl;exact h hy
 simp[Rf,this]
theorem A6u {α:Type} {l:List α} {x:α} (h:∀ j (hj:j<l.length),l[j]≠x):x∉l:=fun hx=>by
 obtain⟨i,hi,e⟩:=List.getElem_of_mem hx
 exact h i hi e
theorem Aaq {α:Type} [DecidableEq α] (l:List α) (x:α):decide (Rf l x≥0)=decide (x∈l):=by
 by_cases h:x∈l
 ·obtain⟨i,hi,e⟩:=List.getElem_of_mem h
  unfold Rf
  cases hf:l.findIdx? (fun y=>decide (y=x)) with
  |none=>
   rw[List.findIdx?_eq_none_iff] at hf
   have:=hf x h
   simp at this
  |some k=>simp[h]
 ·rw[A3d h];simp[h]
theorem Aar {α:Type} {l:List α} {x:α} {i:Nat} (hi:i<l.length) (ha:∀ j (hj:j<l.length),j<i→l[j]≠x) (h:l[i]≠x):∀ j (hj:j<l.length),j<i+1→l[j]≠x:=fun j hj hji=>by
 rcases Nat.lt_or_ge j i with h1|h1
 ·exact ha j hj h1
 ·have:j=i:=by omega
  subst this;exact h
theorem Rg (σ:St) (v:GV) (l:List Live) (h:RS Ai.kd σ v l) (x:Live) (hl:l.length≤1099511627776):Ret Tryz.prog Yk [v,.agg (Uu x)] σ (.bool (decide (x∈l))) σ:=by
 refine Em A5o (Z0z rfl) trivial ?_
 simp +contextual (disch:=omega) only[go_sem,Yl]
 intro n f τ H
 refine Bs l.length 5 0 (fun i env h=>env 0=v∧env 3= .ptr n 0∧(∀ j (hj:j<l.length),j<i→l[j]≠x)∧h=[.box 1 n (Uu x)]) (fun env h=>x∉l) (fun env h=>env 4= .bool true∧x∈l) _ H (by simp +contextual (disch:=omega) only[go_sem]) ⟨by simp +contextual (disch:=omega) only[go_sem],by simp +contextual (disch:=omega) only[go_sem],fun j hj hh=>by omega,rfl⟩ ?_ ?_ ?_ ?_
 ·rintro J Y W hJ hY hW i env h' τ hi ei c0 H ⟨e0,e3,ha,rfl⟩
  have L1:=A6 h hi
  by_cases hx:l[i]=x
  ·have b:decide (l[i]=x)=true:=decide_eq_true hx
   simp +contextual (disch:=omega) only[go_sem,c0,e0,e3,ei,A4,L1,h.len,b]
   exact hW _ _ _ H ⟨by simp +contextual (disch:=omega) only[go_sem],by rw[← hx];exact List.getElem_mem hi⟩
  ·have b:decide (l[i]=x)=false:=decide_eq_false hx
   simp +contextual (disch:=omega) only[go_sem,c0,e0,e3,ei,A4,L1,h.len,b]
   exact hJ _ _ _ _ H ⟨by simp +contextual (disch:=omega) only[go_sem,e0],by simp +contextual (disch:=omega) only[go_sem,e3],Aar hi ha hx,rfl⟩
 ·rintro Y hY env h' τ ei c0 H ⟨e0,e3,ha,rfl⟩
  simp +contextual (disch:=omega) only[go_sem,c0,e0,ei,h.len]
  exact hY _ _ _ H (A6u fun j hj=>ha j hj hj)
 ·rintro env h' τ H hx
  simp +contextual (disch:=omega) only[go_sem,hx,decide_false]
 ·rintro env h' τ H ⟨e4,hx⟩
  simp +contextual (disch:=omega) only[go_sem,e4,hx,decide_true]
theorem Kr (σ:St) (v:GV) (l:List Live) (h:RS Ai.kd σ v l) (x:Live) (hl:l.length≤1099511627776):Ret Tryz.prog Cn [v,.agg (Uu x)] σ (gi (Rf l x)) σ:=by
 refine Em F5 (Z0z rfl) trivial ?_
 simp +contextual (disch:=omega) only[go_sem,Co,h.len]
 intro n f τ H
 refine Bs l.length 8 0 (fun i env h=>env 0=v∧env 3= .ptr n 0∧env 7=gi l.length∧(∀ j (hj:j<l.length),j<i→l[j]≠x)∧h=[.box 1 n (Uu x)]) (fun env h=>x∉l) (fun env h=>env 4=gi (Rf l x)) _ H (by simp +contextual (disch:=omega) only[go_sem]) ⟨by simp +contextual (disch:=omega) only[go_sem],by simp +contextual (disch:=omega) only[go_sem],by simp +contextual (disch:=omega) only[go_sem],fun j hj hh=>by omega,rfl⟩ ?_ ?_ ?_ ?_
 ·rintro J Y W hJ hY hW i env h' τ hi ei c0 H ⟨e0,e3,e7,ha,rfl⟩
  have L1:=A6 h hi
  by_cases hx:x=l[i]
  ·have b:decide (x=l[i])=true:=decide_eq_true hx
   simp +contextual (disch:=omega) only[go_sem,c0,e0,e3,e7,ei,A4,L1,h.len,b]
   exact hW _ _ _ H (by simp +contextual (disch:=omega) only[go_sem,Aap hi ha hx.symm])
  ·have b:decide (x=l[i])=false:=decide_eq_false hx
   simp +contextual (disch:=omega) only[go_sem,c0,e0,e3,e7,ei,A4,L1,h.len,b]
   exact hJ _ _ _ _ H ⟨by simp +contextual (disch:=omega) only[go_sem,e0],by simp +contextual (disch:=omega) only[go_sem,e3],by simp +contextual (disch:=omega) only[go_sem,e7],Aar hi ha (fun e=>hx e.symm),rfl⟩
 ·rintro Y hY env h' τ ei c0 H ⟨e0,e3,e7,ha,rfl⟩
  simp +contextual (disch:=omega) only[go_sem,c0,e7,ei,h.len]
  exact hY _ _ _ H (A6u fun j hj=>ha j hj hj)
 ·rintro env h' τ H hx
  simp +contextual (disch:=omega) only[go_sem,A3d hx]
 ·rintro env h' τ H e4
  simp +contextual (disch:=omega) only[go_sem,e4]
theorem Io (σ:St) (v:GV) (l:List Live) (h:RS Ai.kd σ v l) (x:Live) (hl:l.length≤1099511627776):Ret Tryz.prog C9 [v,.agg (Uu x)] σ (.bool (decide (x∈l))) σ:=by
 refine Em Ef (Z0z rfl) trivial ?_
 simp +contextual (disch:=omega) only[go_sem,Ca]
 intro n f τ H
 refine by_r H (Kr _ v l (h.pre H.sub) x hl) ?_
 simp +contextual (disch:=omega) only[go_sem,Aaq]
end
section
open Go Go.RowKit
theorem Aas {α β:Type} {f:α→β}:∀ {l:List α},(l.map f).Nodup→∀ {a b:α},a∈l→b∈l→f a=f b→a=b
 |[],_,a,_,ha,_,_=>by simp at ha
 |x::l,h,a,b,ha,hb,e=>by
  rw[List.map_cons,List.nodup_cons] at h
  rcases List.mem_cons.1 ha with h1|h1
  ·rcases List.mem_cons.1 hb with h2|h2
   ·rw[h1,h2]
   ·exact absurd (List.mem_map.2 ⟨b,h2,by rw[← e,h1]⟩) h.1
  ·rcases List.mem_cons.1 hb with h2|h2
   ·exact absurd (List.mem_map.2 ⟨a,h1,by rw[e,h2]⟩) h.1
   ·exact Aas h.2 h1 h2 e
theorem Ad7 {α β:Type} {f:α→β} {l:List α} (h:(l.map f).Nodup) {i j:Nat} (hi:i<l.length) (hj:j<l.length) (e:f l[i]=f l[j]):i=j:=by
 have hp:=List.pairwise_iff_getElem.1 h
 rcases Nat.lt_trichotomy i j with h1|h1|h1
 ·exact absurd (by rw[List.getElem_map,List.getElem_map];exact e) (hp i j (by simpa using hi) (by simpa using hj) h1)
 ·exact h1
 ·exact absurd (by rw[List.getElem_map,List.getElem_map];exact e.symm) (hp j i (by simpa using hj) (by simpa using hi) h1)
section
variable {α:Type} {lt:α→α→Bool}
theorem Af4 (h:Go.Sort.SWO lt):∀ {l:List α},l.Pairwise (fun a b=>lt a b=true)→∀ x∈l,∀ y∈l,lt x y=false→lt y x=false→x=y
 |[],_,x,hx,_,_,_,_=>by simp at hx
 |a::l,hp,x,hx,y,hy,h1,h2=>by
  obtain⟨p1,p2⟩:=List.pairwise_cons.1 hp
  rcases List.mem_cons.1 hx with rfl|hx
  ·rcases List.mem_cons.1 hy with rfl|hy
   ·rfl
   ·rw[p1 y hy] at h1;cases h1
  ·rcases List.mem_cons.1 hy with rfl|hy
   ·rw[p1 x (by assumption)] at h2;cases h2
   ·exact Af4 h p2 x hx y hy h1 h2
theorem pw_up (h:Go.Sort.SWO lt) {l:List α} (hp:l.Pairwise fun a b=>lt a b=true):Up lt l:=hp.imp fun h1=>SWO.asym h h1
theorem O4 (h:Go.Sort.SWO lt) {l:List α} (hp:l.Pairwise fun a b=>lt a b=true):Bc lt l=l:=(Ur h (Af4 h hp) (.refl _) (pw_up h hp)).symm
theorem A6v {g:α→α} (hg:∀ x y,lt (g x) (g y)=lt x y) (x:α):∀ l:List α,insB lt (g x) (l.map g)=(insB lt x l).map g
 |[]=>rfl
 |k::r=>by
  simp only[List.map_cons,insB,hg]
  split
  ·rfl
  ·rw[List.map_cons,A6v hg x r]
theorem A8a {g:α→α} (hg:∀ x y,lt (g x) (g y)=lt x y):∀ l:List α,Bc lt (l.map g)=(Bc lt l).map g:=by
 intro l
 have key:∀(l acc:List α),(l.map g).foldl (fun acc x=>insB lt x acc) (acc.map g)=(l.foldl (fun acc x=>insB lt x acc) acc).map g:=by
  intro l
  induction l with
  |nil=>intro acc;rfl
  |cons x l ih=>intro acc;simp only[List.map_cons,List.foldl_cons,A6v hg];exact ih _
 exact key l []
theorem Ym {l:List α} {x:α}:x∈Bc lt l↔x∈l:=(Cv lt l).mem_iff
end
def tkey (t:Tally):ByteArray×Int:=(t.obj,t.rep)
def Fs (f:Int→Bool) (a b:List Tally):List Tally:=Bc Ah (a.filter (fun t=> !f t.rep)++b.filter fun t=>f t.rep)
theorem A8b {l:List Tally} (h:(l.map tkey).Nodup):∀ x∈l,∀ y∈l,Ah x y=false→Ah y x=false→x=y:=fun x hx y hy h1 h2=>by
 have:=A31 h1 h2
 have e:tkey x=tkey y:=by simp[tkey,this.1,this.2]
 exact Aas h hx hy e
theorem Yn {l:List Tally} (h:l.Pairwise fun a b=>Ah a b=true):(l.map tkey).Nodup:=by
 rw[List.Nodup,List.pairwise_map]
 refine h.imp fun {a b} h1 e=> ?_
 injection e with e1 e2
 rw[Qz e1 e2] at h1;cases h1
theorem Yo {f:Int→Bool} {a b:List Tally} (ha:a.Pairwise fun a b=>Ah a b=true) (hb:b.Pairwise fun a b=>Ah a b=true):((a.filter (fun t=> !f t.rep)++b.filter fun t=>f t.rep).map tkey).Nodup:=by
 rw[List.map_append,List.nodup_append]
 refine⟨Yn (ha.filter _),Yn (hb.filter _),?_⟩
 intro x hx y hy e
 obtain⟨t,ht,rfl⟩:=List.mem_map.1 hx
 obtain⟨u,hu,rfl⟩:=List.mem_map.1 hy
 have h1:=(List.mem_filter.1 ht).2
 have h2:=(List.mem_filter.1 hu).2
 injection e with _ e2
 rw[e2] at h1;simp only[h2] at h1;cases h1
def putT (acc:List Tally) (t:Tally):List Tally:=Gf acc t.obj t.rep t.sum
theorem Ad8 {acc:List Tally} {t:Tally} (h:tkey t∉acc.map tkey):putT acc t=insB Ah t acc:=by
 have:acc.findIdx? (Jr t.obj t.rep)=none:=by
  rw[List.findIdx?_eq_none_iff]
  intro x hx
  cases e:Jr t.obj t.rep x with
  |false=>rfl
  |true=>
   have:=A32.1 e
   exact absurd (List.mem_map.2 ⟨x,hx,by simp[tkey,this.1,this.2]⟩) h
 unfold putT Gf
 rw[this]
theorem swo_lv:Go.Sort.SWO Br:=⟨fun x=>Gh.irrefl _,fun x y z h1 h2=>Gh.trans _ _ _ h1 h2,fun x y z h1 h2=>Gh.ntrans _ _ _ h1 h2⟩
def M7 (b:List Cell) (c:Cell):Cell:={c with gone:=c.gone||b.any fun x=>decide (x.dot=c.dot)&&x.gone}
def Ip (a:List Cell) (x:Cell):Bool:= !a.any fun c=>decide (c.dot=x.dot)
def Du (a b:List Cell):List Cell:=a.map (M7 b)++b.filter (Ip a)
def Cy (a b:List Cell):List Cell:=Bc Cl (Du a b)
def A0s (out:List Cell) (x:Cell):List Cell:=match Cm out x.dot with
 |none=>Mu x out
 |some k=>if x.gone then out.modify k fun c=>{c with gone:=true} else out
theorem swo_cl:Go.Sort.SWO Cl:=⟨fun x=>Gh.irrefl _,fun x y z h1 h2=>Gh.trans _ _ _ h1 h2,fun x y z h1 h2=>Gh.ntrans _ _ _ h1 h2⟩
theorem Ks {l:List Cell} (h:l.Pairwise fun a b=>Bq a.dot b.dot=true):(l.map (·.dot)).Nodup:=by
 rw[List.Nodup,List.pairwise_map]
 refine h.imp fun {a b} h1 e=> ?_
 rw[e,Nk] at h1;cases h1
theorem Aat {l:List Cell} (h:(l.map (·.dot)).Nodup):∀ x∈l,∀ y∈l,Cl x y=false→Cl y x=false→x=y:=fun x hx y hy h1 h2=>Ah1 h hx hy (Tz h1 h2)
theorem Iq {a:List Cell} {x:Cell}:Ip a x=true↔x.dot∉a.map (·.dot):=by
 simp only[Ip,Bool.not_eq_true',List.any_eq_false,decide_eq_true_eq,List.mem_map,not_exists,not_and]
theorem Q6 {a b:List Cell}:(Du a b).map (·.dot)=a.map (·.dot)++(b.filter (Ip a)).map (·.dot):=by
 unfold Du
 rw[List.map_append,List.map_map]
 rfl
theorem Jb {a b:List Cell} (ha:(a.map (·.dot)).Nodup) (hb:(b.map (·.dot)).Nodup):((Du a b).map (·.dot)).Nodup:=by
 rw[Q6,List.nodup_append]
 refine⟨ha,?_,?_⟩
 ·exact(List.filter_sublist.map _).nodup hb
 ·intro x hx y hy e
  subst e
  obtain⟨c,hc,e⟩:=List.mem_map.1 hy
  have h1:=Iq.1 (List.mem_filter.1 hc).2
  rw[e] at h1
  exact h1 hx
def Sm (x:Cell) (c:Cell):Cell:=if c.dot=x.dot then {c with gone:=c.gone||x.gone} else c
theorem A3e (x c:Cell):(Sm x c).dot=c.dot:=by unfold Sm;split<;>rfl
theorem A3f {l:List Cell} {d:Dot} (h:d∈l.map (·.dot)):∃ k,Cm l d=some k:=by
 cases e:Cm l d with
 |some k=>exact⟨k,rfl⟩
 |none=>
  unfold Cm at e
  rw[List.findIdx?_eq_none_iff] at e
  obtain⟨c,hc,rfl⟩:=List.mem_map.1 h
  have:=e c hc
  simp at this
theorem A3g {l:List Cell} {d:Dot} (h:d∉l.map (·.dot)):Cm l d=none:=by
 unfold Cm
 rw[List.findIdx?_eq_none_iff]
 intro c hc
 simp only[decide_eq_false_iff_not]
 exact fun e=>h (List.mem_map.2 ⟨c,hc,e⟩)
theorem Ad9 {l:List Cell} {x:Cell} (hn:(l.map (·.dot)).Nodup) (hx:x.dot∈l.map (·.dot)):A0s l x=l.map (Sm x):=by
 obtain⟨k,hk⟩:=A3f hx
 obtain⟨hlt,hd⟩:=Df hk
 unfold A0s
 rw[hk]
 have hother:∀ j (hj:j<l.length),j≠k→l[j].dot≠x.dot:=fun j hj hne e=>by
  exact hne (Ad7 hn hj hlt (by rw[e,hd]))
 simp only
 refine List.ext_getElem (by split<;>simp) fun j h1 h2=> ?_
 have hj:j<l.length:=by simpa using h2
 rw[List.getElem_map]
 unfold Sm
 by_cases hg:x.gone
 ·simp only[hg,if_true]
  rw[List.getElem_modify]
  by_cases hjk:k=j
  ·subst hjk
   rw[if_pos rfl,if_pos hd,Bool.or_true]
  ·rw[if_neg hjk,if_neg (hother j hj (Ne.symm hjk))]
 ·have hg:x.gone=false:=by simpa using hg
  simp only[hg,Bool.false_eq_true,if_false,Bool.or_false]
  split<;>rfl
theorem Yp {a b:List Cell} {x:Cell} (ha:(a.map (·.dot)).Nodup) (hb:((b++[x]).map (·.dot)).Nodup):A0s (Cy a b) x=Cy a (b++[x]):=by
 have hb0:(b.map (·.dot)).Nodup:=by rw[List.map_append,List.nodup_append] at hb;exact hb.1
 have hxb:x.dot∉b.map (·.dot):=by
  rw[List.map_append,List.nodup_append] at hb
  exact fun h=>hb.2.2 _ h x.dot (by simp) rfl
 have hj:=Jb ha hb0
 have hp:=Cv Cl (Du a b)
 have hn:((Cy a b).map (·.dot)).Nodup:=(hp.map _).nodup_iff.2 hj
 by_cases hxa:x.dot∈a.map (·.dot)
 ·have hin:x.dot∈(Cy a b).map (·.dot):=(hp.map _).mem_iff.2 (by rw[Q6];exact List.mem_append_left _ hxa)
  rw[Ad9 hn hin]
  unfold Cy
  rw[← A8a (lt:=Cl) (g:=Sm x) (fun y z=>by unfold Cl;rw[A3e,A3e])]
  congr 1
  unfold Du
  have hf:Ip a x=false:=by
   cases e:Ip a x with
   |false=>rfl
   |true=>exact absurd hxa (Iq.1 e)
  rw[List.map_append,List.map_map,List.filter_append,List.filter_cons,hf]
  simp only[Bool.false_eq_true,if_false,List.filter_nil,List.append_nil]
  congr 1
  ·refine List.map_congr_left fun c hc=> ?_
   simp only[Function.comp,Sm,M7,List.any_append,List.any_cons,List.any_nil,Bool.or_false]
   by_cases e:c.dot=x.dot
   ·simp[e,Bool.or_assoc]
   ·have e':¬ x.dot=c.dot:=fun h=>e h.symm
    simp[e,e']
  ·refine(List.map_congr_left fun c hc=> ?_).trans (List.map_id _)
   unfold Sm
   rw[if_neg fun e=>hxb (List.mem_map.2 ⟨c,(List.mem_filter.1 hc).1,e⟩)];rfl
 ·have hout:x.dot∉(Cy a b).map (·.dot):=fun h=>by
   have:=(hp.map (·.dot)).mem_iff.1 h
   rw[Q6] at this
   rcases List.mem_append.1 this with h1|h1
   ·exact hxa h1
   ·obtain⟨c,hc,e⟩:=List.mem_map.1 h1
    exact hxb (List.mem_map.2 ⟨c,(List.mem_filter.1 hc).1,e⟩)
  unfold A0s
  rw[A3g hout]
  have ht:Ip a x=true:=Iq.2 hxa
  have e:Du a (b++[x])=Du a b++[x]:=by
   unfold Du
   rw[List.filter_append,List.filter_cons,ht]
   simp only[if_true,List.filter_nil,←List.append_assoc]
   congr 2
   refine List.map_congr_left fun c hc=> ?_
   have:¬ x.dot=c.dot:=fun h=>hxa (List.mem_map.2 ⟨c,hc,h.symm⟩)
   simp[M7,this]
  unfold Cy
  rw[e,Ms]
  rfl
theorem V4 {a:List Cell} (ha:a.Pairwise fun a b=>Bq a.dot b.dot=true) {b:List Cell} (hb:(b.map (·.dot)).Nodup):∀ n,n≤b.length→(b.take n).foldl A0s a=Cy a (b.take n)
 |0,_=>by
  have:Du a []=a:=by
   simp only[Du,List.filter_nil,List.append_nil]
   refine(List.map_congr_left fun c _=> ?_).trans (List.map_id _)
   simp[M7]
  simp only[List.take_zero,List.foldl_nil,Cy,this]
  exact(O4 swo_cl ha).symm
 |n+1,h=>by
  rw[List.take_succ_eq_append_getElem (by omega),List.foldl_append,V4 ha hb n (by omega)]
  refine Yp (Ks ha) ?_
  rw[← List.take_succ_eq_append_getElem (by omega)]
  exact((List.take_sublist _ _).map _).nodup hb
end
section
open Go Go.RowKit
abbrev Dj:Nat:=382
def Jo:Fn1:=⟨10,[.t 4],(rg [oX 2 0,oX 3 1,oV 4 (ki 0)] (rg [oF 5 4 2,oW 6 2 5,oF 7 4 3,oW 8 2 7,oD 9 306 6 8,oM 4 9] .ret))⟩
theorem Q7:A8 Tryz.prog Dj=some Jo:=by kernel_rfl
abbrev Ct:Nat:=383
def I3:Fn1:=⟨10,[.t 4],(rg [oX 2 0,oX 3 1,oV 4 (ki 0)] (rg [oF 5 1 2,oW 6 2 5,oF 7 1 3,oW 8 2 7,oD 9 306 6 8,oM 4 9] .ret))⟩
theorem My:A8 Tryz.prog Ct=some I3:=by kernel_rfl
abbrev Bx:Nat:=379
abbrev Fg:Nat:=402
abbrev Dv:Nat:=416
abbrev F6:Nat:=436
abbrev F7:Nat:=417
abbrev E7:Nat:=420
abbrev Cw:Nat:=421
abbrev Do:Nat:=422
abbrev Ew:Nat:=423
abbrev Dw:Nat:=418
abbrev Ft:Nat:=443
abbrev Fu:Nat:=438
abbrev Dp:Nat:=437
abbrev Eg:Nat:=419
abbrev Cb:Nat:=381
abbrev Fv:Nat:=403
abbrev E8:Nat:=424
abbrev Fh:Nat:=439
abbrev Fi:Nat:=425
abbrev Eh:Nat:=428
abbrev D5:Nat:=429
abbrev Dx:Nat:=430
abbrev F8:Nat:=431
abbrev E9:Nat:=426
abbrev Fy:Nat:=444
abbrev Fz:Nat:=441
abbrev Dy:Nat:=440
abbrev Ep:Nat:=427
instance:Inhabited Tally:=⟨⟨.empty,0,0⟩⟩
def A5p:El Tally:=⟨Ab,true,fun x=>.agg (Ab.enc x),fun _=>rfl,fun _=>rfl,by decide⟩
instance:Inhabited Live:=⟨⟨false,.empty,.empty,0,⟨0,0⟩⟩⟩
def Aau:El Live:=⟨Ai,true,fun x=>.agg (Ai.enc x),fun _=>rfl,fun _=>rfl,by decide⟩
theorem Ada:Go.Sort.SWO Br:=⟨fun x=>Gh.irrefl _,fun x y z h1 h2=>Gh.trans _ _ _ h1 h2,fun x y z h1 h2=>Gh.ntrans _ _ _ h1 h2⟩
theorem Adb:Go.Sort.SWO Cl:=⟨fun x=>Gh.irrefl _,fun x y z h1 h2=>Gh.trans _ _ _ h1 h2,fun x y z h1 h2=>Gh.ntrans _ _ _ h1 h2⟩
theorem A8c (σ:St) (a b:Tally):Ret Tryz.prog Bz [A5p.val a,A5p.val b] σ (gi (J4 a b)) σ:=by
 show Ret Tryz.prog Bz [.agg (Ab.enc a),.agg (Ab.enc b)] σ (gi (J4 a b)) σ
 simp only[A9s]
 exact Gm σ a b
theorem Aav (σ:St) (a b:Live):Ret Tryz.prog Dj [Aau.val a,Aau.val b] σ (gi (If a.dot b.dot)) σ:=by
 show Ret Tryz.prog Dj [.agg (Ai.enc a),.agg (Ai.enc b)] σ (gi (If a.dot b.dot)) σ
 simp only[Ach]
 refine Em Q7 (Z0z rfl) trivial ?_
 simp +contextual (disch:=omega) only[go_sem,Jo]
 intro n f τ H n2 f2 τ2 H2
 refine by_r H2 (Cg _ _ _) ?_
 simp +contextual (disch:=omega) only[go_sem]
theorem Aaw (σ:St) (a b:Cell):Ret Tryz.prog Ct [Yh.val a,Yh.val b] σ (gi (If a.dot b.dot)) σ:=by
 show Ret Tryz.prog Ct [.agg (Ae.enc a),.agg (Ae.enc b)] σ (gi (If a.dot b.dot)) σ
 simp only[Nc]
 refine Em My (Z0z rfl) trivial ?_
 simp +contextual (disch:=omega) only[go_sem,I3]
 intro n f τ H n2 f2 τ2 H2
 refine by_r H2 (Cg _ _ _) ?_
 simp +contextual (disch:=omega) only[go_sem]
def qTally:SN:=⟨Dv,F6,F7,E7,Cw,Do,Ew,Dw,Ft,Fu,Dp,Eg,Fg,0,Av,As⟩
def qLive:SN:=⟨E8,Fh,Fi,Eh,D5,Dx,F8,E9,Fy,Fz,Dy,Ep,Fv,0,Av,As⟩
def Adc:SrtC Tally Ah where
 e:=A5p
 q:=qTally
 f:=Bz
 k:=J4
 call:=A8c
 klt:=fun a b=>Ty
 h_insertionSort:=by kernel_rfl
 h_siftDown:=by kernel_rfl
 h_heapSort:=by kernel_rfl
 h_reverseRange:=by kernel_rfl
 h_partialInsertionSort:=by kernel_rfl
 h_partitionEqual:=by kernel_rfl
 h_partition:=by kernel_rfl
 h_breakPatterns:=by kernel_rfl
 h_order2:=by kernel_rfl
 h_median:=by kernel_rfl
 h_medianAdjacent:=by kernel_rfl
 h_choosePivot:=by kernel_rfl
 h_pdqsort:=by kernel_rfl
 nS:=Bx
 h_Sort:=by kernel_rfl
 hnp:=rfl
 hxs:=rfl
def Ahu:SrtC Live Br where
 e:=Aau
 q:=qLive
 f:=Dj
 k:=fun a b=>If a.dot b.dot
 call:=Aav
 klt:=fun a b=>Nj
 h_insertionSort:=by kernel_rfl
 h_siftDown:=by kernel_rfl
 h_heapSort:=by kernel_rfl
 h_reverseRange:=by kernel_rfl
 h_partialInsertionSort:=by kernel_rfl
 h_partitionEqual:=by kernel_rfl
 h_partition:=by kernel_rfl
 h_breakPatterns:=by kernel_rfl
 h_order2:=by kernel_rfl
 h_median:=by kernel_rfl
 h_medianAdjacent:=by kernel_rfl
 h_choosePivot:=by kernel_rfl
 h_pdqsort:=by kernel_rfl
 nS:=Cb
 h_Sort:=by kernel_rfl
 hnp:=rfl
 hxs:=rfl
def Add:SrtC Cell Cl where
 e:=Yh
 q:=qCell
 f:=Ct
 k:=fun a b=>If a.dot b.dot
 call:=Aaw
 klt:=fun a b=>Nj
 h_insertionSort:=by kernel_rfl
 h_siftDown:=by kernel_rfl
 h_heapSort:=by kernel_rfl
 h_reverseRange:=by kernel_rfl
 h_partialInsertionSort:=by kernel_rfl
 h_partitionEqual:=by kernel_rfl
 h_partition:=by kernel_rfl
 h_breakPatterns:=by kernel_rfl
 h_order2:=by kernel_rfl
 h_median:=by kernel_rfl
 h_medianAdjacent:=by kernel_rfl
 h_choosePivot:=by kernel_rfl
 h_pdqsort:=by kernel_rfl
 nS:=B8
 h_Sort:=by kernel_rfl
 hnp:=rfl
 hxs:=rfl
theorem A0t {σ0 σ:St} {rs:List Thg} {v:GV} {l:List Tally} (H:Hp σ0 σ rs) (k:Nat) (hk:rs[k]? =some (ow Ab.kd v l)) (hl:l.length≤1099511627776) (htri:∀ x∈l,∀ y∈l,Ah x y=false→Ah y x=false→x=y):∃ τ,Ret Tryz.prog Bx [v,.fn Bz []] σ (.tup []) τ∧Hp σ0 τ (rs.set k (ow Ab.kd v (Bc Ah l))):=
 C.sort_ret Adc Nt H k hk hl htri
theorem A3h {σ0 σ:St} {rs:List Thg} {v:GV} {l:List Live} (H:Hp σ0 σ rs) (k:Nat) (hk:rs[k]? =some (ow Ai.kd v l)) (hl:l.length≤1099511627776) (htri:∀ x∈l,∀ y∈l,Br x y=false→Br y x=false→x=y):∃ τ,Ret Tryz.prog Cb [v,.fn Dj []] σ (.tup []) τ∧Hp σ0 τ (rs.set k (ow Ai.kd v (Bc Br l))):=
 C.sort_ret Ahu Ada H k hk hl htri
theorem A0u {σ0 σ:St} {rs:List Thg} {v:GV} {l:List Cell} (H:Hp σ0 σ rs) (k:Nat) (hk:rs[k]? =some (ow Ae.kd v l)) (hl:l.length≤1099511627776) (htri:∀ x∈l,∀ y∈l,Cl x y=false→Cl y x=false→x=y):∃ τ,Ret Tryz.prog B8 [v,.fn Ct []] σ (.tup []) τ∧Hp σ0 τ (rs.set k (ow Ae.kd v (Bc Cl l))):=
 C.sort_ret Add Adb H k hk hl htri
end
section
open Go Go.RowKit
attribute [go_sem] List.set_cons_zero List.set_cons_succ List.eraseIdx_cons_succ List.eraseIdx_cons_zero List.map_cons List.map_nil List.cons_append List.nil_append
section
variable {P:Program} {D:Bool} {σ τ:St} {env:Env} {h:List Item} {k:Kx} {v:GV} {α:Type} {l:List α}
theorem Ir {p:α→Bool} {i:Nat} (hi:i<l.length) (hp:p l[i]=true):(l.take (i+1)).filter p=(l.take i).filter p++[l[i]]:=by
 rw[List.take_succ_eq_append_getElem hi,List.filter_append,List.filter_cons,hp];rfl
theorem Js {p:α→Bool} {i:Nat} (hi:i<l.length) (hp:p l[i]=false):(l.take (i+1)).filter p=(l.take i).filter p:=by
 rw[List.take_succ_eq_append_getElem hi,List.filter_append,List.filter_cons,hp];simp
theorem I4 {p:α→Bool} {i n:Nat} (hl:l.length≤n):((l.take i).filter p).length≤n:=Nat.le_trans (List.length_filter_le _ _) (Nat.le_trans (by rw[List.length_take];omega) hl)
theorem Hx.of {rs:List Thg} (H:Hp σ τ rs):Hx σ τ (rs.map Item.th):=by
 have e:(rs.map Item.th).map Item.t=rs:=by
  have:=Af3 (rs:=rs) (h:=[])
  simpa using this
 unfold Hx
 rw[e];exact H
theorem Hx.nil (H:Hx σ τ h) (d:Kd α):Hx σ τ (.th (ow d .nilS ([]:List α))::h):=Hp.nilS H
theorem Hx.emp {z n:Nat} (H:Hx σ τ (.box z n []::h)) (d:Kd α) (hz:z=d.z):Hx σ τ (.th (ow d (.sl n 0 0) ([]:List α))::h):=H.hp.toNil 0 rfl hz
theorem Q8 {f:Nat} {args:List GV} {w:GV} {τ':St} {r:Thg} (i:Nat) (R:Ret P f args τ w τ') (K:Hp σ τ' ((h.map Item.t).set i r)) (kk:Hx σ τ' (h.set i (.th r))→k w (h.set i (.th r)) τ'):A0o P σ false τ f args k:=by
 rw[← A89] at K
 exact by_m R K (kk K)
theorem A6w {g:Bool} {n:Nat} {a x:GV} (e:ldG g n σ a=some x):ldX σ h τ g n a=some x:=by unfold ldX orX;rw[e]
theorem by_mkm (H:Hx σ τ h) (kk:∀ m τ',Hx σ τ' (.th (mpt m [])::h)→k m (.th (mpt m [])::h) τ'):genX σ D τ (some (.mp τ.length,τ++[some (.map [])])) k:=by
 have H':Hx σ (τ++[some (.map [])]) (.th (mpt (.mp τ.length) [])::h):=H.hp.newMap
 exact⟨_,_,_,rfl,fun _=>List.prefix_append _ _,H',kk _ _ H'⟩
theorem by_mup {m:GV} {ps:List (Dot×Int)} (H:Hx σ τ h) (i:Nat) (hi:h[i]? =some (.th (mpt m ps))) (d:Dot) (n:Int) (hd:J0 ps d=none)
  (kk:∀ τ',Hx σ τ' (h.set i (.th (mpt m (ps++[(d,n)]))))→k (.tup []) (h.set i (.th (mpt m (ps++[(d,n)])))) τ'):genX σ false τ (mupG τ [.i .i64,.i .i64] m (.agg [gi d.rep,gi d.seq]) (gi n)) k:=by
 obtain⟨τ',e,H'⟩:=H.hp.mup i (at_t hi) d n hd
 rw[← A89] at H'
 exact⟨_,τ',_,e,(fun h=>by cases h),H',kk τ' H'⟩
theorem Hx.mlk {m:GV} {ps:List (Dot×Int)} (H:Hx σ τ h) (i:Nat) (hi:h[i]? =some (.th (mpt m ps))) (d:Dot):mlkG τ [.i .i64,.i .i64] (gi 0) true m (.agg [gi d.rep,gi d.seq])=some (.tup [gi ((J0 ps d).getD 0),.bool (J0 ps d).isSome]):=H.hp.mlk i (at_t hi) d
theorem Mz (H:Hx σ τ h) {g:Bool} {n:Nat} {a x:GV} (e:ldG g n τ a=some x):ldX σ h τ g n a=some x:=by
 unfold ldX orX
 cases h1:ldG g n σ a with
 |some y=>have:=Aaj h1 H.sub;rw[e] at this;exact this.symm
 |none=>
  show ldY h τ g n a=some x
  cases a with
  |ptr b off=>
   simp only[ldY]
   cases hl:look h b with
   |none=>exact e
   |some cs=>
    obtain⟨z,i,h2,_⟩:=Q5 hl
    have:=H.hp.pt i h2
    simp only[ldG,this,Option.bind_some] at e
    exact e
  |_=>exact e
theorem own_at {p:Pl α} (H:Hx σ τ h) (i:Nat) (hi:h[i]? =some (.th (ow p.kd v l))) {j:Nat} (hj:j<l.length):iadG p.z v (some j)=some (atz p.z v j)∧(∀ k,fadG k (atz p.z v j)=some (fld k (atz p.z v j)))∧(∀ k m,fadG k (fld m (atz p.z v j))=some (fld (m+k) (atz p.z v j)))∧ldX σ h τ true p.z (atz p.z v j)=some (.agg (p.enc l[j]))∧∀ k n a,0<n→k+n≤p.z→ldX σ h τ a n (fld k (atz p.z v j))=(seg (p.enc l[j]) k n).bind (mkv a):=by
 obtain⟨cs,⟨h1,h2,h3,h4,h5⟩,rfl⟩:=RdN.cellsN (d:=p.kd) (H.hp.sl i (at_t hi)) hj
 refine⟨h1,h2,h3,Mz H h4,fun k n a hn hk=> ?_⟩
 have h6:=h5 k n a hk
 have hl:(p.enc l[j]).length=p.z:=p.len _
 have e:seg (p.enc l[j]) k n=some (((p.enc l[j]).drop k).take n):=by unfold seg;rw[if_pos (by omega)]
 obtain⟨x,hx⟩:∃ x,mkv a (((p.enc l[j]).drop k).take n)=some x:=by
  cases a with
  |true=>exact⟨_,rfl⟩
  |false=>
   cases hc:((p.enc l[j]).drop k).take n with
   |nil=>
        have:(((p.enc l[j]).drop k).take n).length=0:=by rw[hc];rfl
        simp only[List.length_take,List.length_drop] at this;omega
   |cons y ys=>exact⟨y,rfl⟩
 rw[e,Option.bind_some,hx] at h6 ⊢
 exact Mz H h6
theorem A0v {l:List Cell} (H:Hx σ τ h) (i:Nat) (hi:h[i]? =some (.th (ow Ae.kd v l))) {j:Nat} (hj:j<l.length):iadG 8 v (some j)=some (atz 8 v j)∧(∀ k,fadG k (atz 8 v j)=some (fld k (atz 8 v j)))∧(∀ k m,fadG k (fld m (atz 8 v j))=some (fld (m+k) (atz 8 v j)))∧ldX σ h τ true 8 (atz 8 v j)=some (.agg [.str l[j].obj,gi l[j].dot.rep,gi l[j].dot.seq,gi l[j].time,gi l[j].ref.rep,gi l[j].ref.seq,gi l[j].val,.bool l[j].gone])∧∀ k n a,0<n→k+n≤8→ldX σ h τ a n (fld k (atz 8 v j))=(seg [.str l[j].obj,gi l[j].dot.rep,gi l[j].dot.seq,gi l[j].time,gi l[j].ref.rep,gi l[j].ref.seq,gi l[j].val,.bool l[j].gone] k n).bind (mkv a):=own_at H i hi hj
theorem A0w:∀ {h:List Item} {n:Nat} {cs:List GV},look h n=some cs→∃ z,∃ i:Nat,h[i]? =some (.box z n cs)
 |[],_,_,e=>by cases e
 | .box z m cs'::h,n,cs,e=>by
  simp only[look] at e
  by_cases hm:m=n
  ·rw[if_pos hm] at e
   injection e with e;subst e hm
   exact⟨z,0,rfl⟩
  ·rw[if_neg hm] at e
   obtain⟨z',i,h1⟩:=A0w e
   exact⟨z',i+1,by simpa using h1⟩
 | .th r::h,n,cs,e=>by
  obtain⟨z',i,h1⟩:=A0w (h:=h) (by simpa [look] using e)
  exact⟨z',i+1,by simpa using h1⟩
theorem Aax (H:Hx σ τ h) {i:Nat} {r:Thg} (hi:h[i]? =some (.th r)) {b:Nat} (hb:∀ fp,r.P τ fp→b∈fp):look h b=none:=by
 cases hl:look h b with
 |none=>rfl
 |some cs=>
  obtain⟨z,j,h1⟩:=A0w hl
  obtain⟨_,fp,hs,hn,_⟩:=H.hp
  obtain⟨F,k1,k2,k3,_⟩:=A0q hs hn
  have hj:=k1 j (pt z b cs) (by rw[List.getElem?_map,h1];rfl)
  have hr:=k1 i _ (at_t hi)
  have hij:i≠j:=by
   rintro rfl
   rw[hi] at h1;cases h1
  have h2:b∈F j:=by rw[hj.1];exact List.mem_cons_self
  exact(k3 i j hij b (hb _ hr) h2).elim
theorem Ahv (H:Hx σ τ h) {p:Pl α} {i:Nat} (hi:h[i]? =some (.th (ow p.kd v l))) {j:Nat} (hj:j<l.length) {m n:Nat} {x:GV} (e:genX σ false τ (stG n τ (fld m (atz p.z v j)) x) k):stX σ false h τ n k (fld m (atz p.z v j)) x:=by
 obtain⟨fp,ho,_⟩:=H.hp.see (at_t hi)
 rcases OS.flat.1 ho with⟨rfl,_⟩|⟨g,pre,post,rfl,hB,rfl⟩
 ·simp at hj
 ·have hn:look h g=none:=Aax H hi fun fp' ho'=>by
   rcases OS.flat.1 ho' with⟨rfl,_⟩|⟨g',pre',post',e',_,rfl⟩
   ·simp at hj
   ·injection e' with e1;rw[e1];exact List.mem_cons_self
  show stB σ false h τ n k g _ x (look h g)
  rw[hn]
  exact e
theorem Aay {p:Pl α} (H:Hx σ τ h) (i:Nat) (hi:h[i]? =some (.th (ow p.kd v l))) {j:Nat} (hj:j<l.length) {m n:Nat} {x:GV} (y:α) (hx:x.cells.length=n) (hn:0<n) (hk:m+n≤p.z) (hy:p.enc y=Ao (p.enc l[j]) m x.cells)
  (kk:∀ τ',Hx σ τ' (h.set i (.th (ow p.kd v (l.set j y))))→k (.tup []) (h.set i (.th (ow p.kd v (l.set j y)))) τ'):stX σ false h τ n k (fld m (atz p.z v j)) x:=by
 obtain⟨τ',e,H'⟩:=H.hp.ste i (at_t hi) hj n m x y hx hn hk hy
 rw[← A89] at H'
 exact Ahv H hi hj ⟨_,τ',_,e,(fun h=>by cases h),H',kk τ' H'⟩
end
end
section
open Go Go.RowKit
abbrev It:Nat:=334
def Iu:Fn1:=⟨47,[.t 6],(rg [o 6 (.mov (.k .nilS))] (rg [o 12 (.lit 3 0 [] []),oM 7 12] (.seq (rg [oM 13 0,oN 14 13,oV 15 (ki 0)] (.blk 0 (.lop (rg [oB 16 .lss 15 14] (.seq (.cnd (.t 16) .skip (.ext 0)) (.seq (.blk 1 (rg [oI 17 3 13 15,oW 18 3 17,o 9 (.new [(.str ⟨#[]⟩),z0,z0]),oS 3 9 18] (rg [oM 19 2,oF 20 1 9,oL 21 20,o 22 (.callv (.t 19) [(.t 21)]),oU 23 22] (.cnd (.t 23) (.reg [oM 24 7,oW 25 3 9,o 26 (.lit 3 1 [(.str ⟨#[]⟩),z0,z0] [(0,3,(.t 25))]),o 27 (.app 3 32 [(.str ⟨#[]⟩),z0,z0] (.t 24) (.t 26)),oM 7 27]) .skip)))) (.reg [oZ 28 15 1,oM 15 28]))))))) (.seq (rg [oM 29 1,oN 30 29,oV 31 (ki 0)] (.blk 2 (.lop (rg [oB 32 .lss 31 30] (.seq (.cnd (.t 32) .skip (.ext 2)) (.seq (.blk 3 (rg [oI 33 3 29 31,oW 34 3 33,o 11 (.new [(.str ⟨#[]⟩),z0,z0]),oS 3 11 34] (rg [oM 35 2,oF 36 1 11,oL 37 36,o 38 (.callv (.t 35) [(.t 37)])] (.cnd (.t 38) (.reg [oM 39 7,oW 40 3 11,o 41 (.lit 3 1 [(.str ⟨#[]⟩),z0,z0] [(0,3,(.t 40))]),o 42 (.app 3 32 [(.str ⟨#[]⟩),z0,z0] (.t 39) (.t 41)),oM 7 42]) .skip)))) (.reg [oZ 43 31 1,oM 31 43]))))))) (rg [oM 44 7,o 45 (.call 379 [(.t 44),(.k (.fn 324 []))])] (rg [oM 46 7,oM 6 46] .ret))))))⟩
theorem O5:A8 Tryz.prog It=some Iu:=by kernel_rfl
abbrev Jc:Nat:=337
def O6:Fn1:=⟨4,[],(.reg [oM 2 0,o 3 (.call 381 [(.t 2),(.k (.fn 382 []))])])⟩
theorem X2:A8 Tryz.prog Jc=some O6:=by kernel_rfl
abbrev Ku:Nat:=338
def Kv:Fn1:=⟨64,[.t 4],(rg [o 4 (.mov (.k .nilS))] (rg [o 13 (.lit 8 0 [] []),oM 14 0,o 15 (.app 8 72 [(.str ⟨#[]⟩),z0,z0,z0,z0,z0,z0,(.bool false)] (.t 13) (.t 14)),oM 5 15] (rg [o 16 (.mkm),oM 6 16] (.seq (rg [oM 17 0,oN 18 17,oV 19 (ki 0)] (.blk 0 (.lop (rg [oB 20 .lss 19 18] (.seq (.cnd (.t 20) .skip (.ext 0)) (.seq (.blk 1 (rg [oM 21 19,oI 22 8 17 19,oW 23 8 22,o 8 (.new [(.str ⟨#[]⟩),z0,z0,z0,z0,z0,z0,(.bool false)]),oM 7 21,oS 8 8 23] (.reg [oM 24 6,oF 25 1 8,oW 26 2 25,oM 27 7,on (.mup [.i .i64,.i .i64] (.t 24) (.t 26) (.t 27))]))) (.reg [oZ 28 19 1,oM 19 28]))))))) (.seq (rg [oM 29 1,oN 30 29,oV 31 (ki 0)] (.blk 2 (.lop (rg [oB 32 .lss 31 30] (.seq (.cnd (.t 32) .skip (.ext 2)) (.seq (.blk 3 (rg [oI 33 8 29 31,oW 34 8 33,o 10 (.new [(.str ⟨#[]⟩),z0,z0,z0,z0,z0,z0,(.bool false)]),oS 8 10 34] (rg [oM 36 6,oF 37 1 10,oW 38 2 37,o 39 (.mlk [.i .i64,.i .i64] z0 true (.t 36) (.t 38)),oM 35 39,o 40 (.ext 0 (.t 35)),o 41 (.ext 1 (.t 35)),oM 11 40,oM 12 41] (rg [oM 42 12] (.cnd (.t 42) (.reg [oM 43 5,oM 44 11,oM 45 5,oM 46 11,oI 47 8 45 46,oF 48 7 47,oL 49 48,oM 50 49,og 51 50 false (.fad 7 (.t 10)),og 52 50 false (.ld false 1 (.t 51)),o 53 (.pick (.t 50) kt (.t 52)),oI 54 8 43 44,oF 55 7 54,oS 1 55 53]) (.reg [oM 56 5,oW 57 8 10,o 58 (.lit 8 1 [(.str ⟨#[]⟩),z0,z0,z0,z0,z0,z0,(.bool false)] [(0,8,(.t 57))]),o 59 (.app 8 72 [(.str ⟨#[]⟩),z0,z0,z0,z0,z0,z0,(.bool false)] (.t 56) (.t 58)),oM 5 59])))))) (.reg [oZ 60 31 1,oM 31 60]))))))) (rg [oM 61 5,o 62 (.call 360 [(.t 61),(.k (.fn 383 []))])] (rg [oM 63 5,oM 4 63] .ret)))))))⟩
theorem Sn:A8 Tryz.prog Ku=some Kv:=by kernel_rfl
theorem V5 {σ0 σ:St} {rs:List Thg} {v:GV} {l:List Live} (H:Hp σ0 σ rs) (k:Nat) (hk:rs[k]? =some (ow Ai.kd v l)) (hl:l.length≤1099511627776) (htri:∀ x∈l,∀ y∈l,Br x y=false→Br y x=false→x=y):∃ τ,Ret Tryz.prog Jc [v] σ (.tup []) τ∧Hp σ0 τ (rs.set k (ow Ai.kd v (Bc Br l))):=by
 have key:∃ r τ,Ret Tryz.prog Jc [v] σ r τ∧r= .tup []∧Hp σ0 τ (rs.set k (ow Ai.kd v (Bc Br l))):=by
  refine Lv X2 (Z0z rfl) (Hx.of H) ?_
  simp +contextual (disch:=omega) only[go_sem,O6]
  obtain⟨τ,R,H1⟩:=A3h H k hk hl htri
  refine by_m R (Hx.of H1) ?_
  simp +contextual (disch:=omega) only[go_sem]
  exact fun _=>⟨_,rfl,rfl,H1⟩
 obtain⟨r,τ,R,rfl,h⟩:=key
 exact⟨τ,R,h⟩
theorem A3i {α:Type} {p q:α→Bool} {a b:List α} {i n:Nat} (ha:a.length≤n) (hb:b.length≤n):(a.filter p++(b.take i).filter q).length≤n+n:=by
 rw[List.length_append]
 have:=List.length_filter_le p a
 have:=I4 (p:=q) (i:=i) hb
 omega
theorem N0 (σ:St) (va vb:GV) (a b:List Tally) (ha:RS Ab.kd σ va a) (hb:RS Ab.kd σ vb b) (F:Nat) (caps:List (Nat×Nat)) (f:Int→Bool) (hf:∀ τ t,σ <+: τ→t∈a∨t∈b→Ret Tryz.prog F (gi t.rep::caps.map fun c=>.ptr c.1 c.2) τ (.bool (f t.rep)) τ) (hla:a.length≤1073741824) (hlb:b.length≤1073741824) (htri:((a.filter (fun t=> !f t.rep)++b.filter fun t=>f t.rep).map tkey).Nodup):∃ r τ,Ret Tryz.prog It [va,vb,.fn F caps] σ r τ∧Hp σ τ [ow Ab.kd r (Fs f a b)]:=by
 refine Lv O5 (Z0z rfl) (Hx.refl σ) ?_
 simp +contextual (disch:=omega) only[go_sem,Iu,ha.len]
 intro n fn τ H
 refine Bs a.length 15 0 (fun i env h=>∃ w,env 1=vb∧env 2= .fn F caps∧env 7=w∧env 13=va∧env 14=gi a.length∧h=[.th (ow Ab.kd w ((a.take i).filter fun t=> !f t.rep))]) (fun env h=>∃ w,env 1=vb∧env 2= .fn F caps∧env 7=w∧h=[.th (ow Ab.kd w (a.filter fun t=> !f t.rep))]) (fun env h=>False) _ (H.emp Ab.kd rfl) (by simp +contextual (disch:=omega) only[go_sem]) ⟨_,by simp +contextual (disch:=omega) only[go_sem],by simp +contextual (disch:=omega) only[go_sem],by simp +contextual (disch:=omega) only[go_sem],by simp +contextual (disch:=omega) only[go_sem],by simp +contextual (disch:=omega) only[go_sem],rfl⟩ ?_ ?_ ?_ ?_
 ·clear H
  rintro J Y W hJ hY hW i env h τ hi ei c0 H ⟨w,e1,e2,e7,e13,e14,rfl⟩
  have L1:=Aa ha hi
  simp +contextual (disch:=omega) only[go_sem,c0,e1,e2,e7,e13,e14,ei,A4,L1]
  intro m fm τ1 _ τ2 H2
  refine by_b H2 (hf _ a[i] H2.sub (.inl (List.getElem_mem hi))) (fun k1=> ?_) (fun k1=> ?_)
  ·simp +contextual (disch:=omega) only[go_sem,e1,e2,e7,e13,e14,ei]
   exact hJ _ _ _ _ (H2.re [1] (by decide)) ⟨w,by simp +contextual (disch:=omega) only[go_sem,e1],by simp +contextual (disch:=omega) only[go_sem,e2],by simp +contextual (disch:=omega) only[go_sem,e7],by simp +contextual (disch:=omega) only[go_sem,e13],by simp +contextual (disch:=omega) only[go_sem,e14],by rw[Js hi (by simp[k1])];rfl⟩
  ·simp +contextual (disch:=omega) only[go_sem,e1,e2,e7,e13,e14,ei]
   intro n3 f3 τ3 H3
   refine Dn (p:=Ab) H3 2 rfl a[i] Dm (by decide) (by have:=I4 (p:=fun t=> !f t.rep) (i:=i) hla;omega) fun w' τ4 H4=> ?_
   simp +contextual (disch:=omega) only[go_sem,e1,e2,e13,e14,ei]
   exact hJ _ _ _ _ (H4.re [2] (by decide)) ⟨w',by simp +contextual (disch:=omega) only[go_sem,e1],by simp +contextual (disch:=omega) only[go_sem,e2],by simp +contextual (disch:=omega) only[go_sem],by simp +contextual (disch:=omega) only[go_sem,e13],by simp +contextual (disch:=omega) only[go_sem,e14],by rw[Ir hi (by simp[k1])];rfl⟩
 ·clear H
  rintro Y hY env h τ ei c0 H ⟨w,e1,e2,e7,e13,e14,rfl⟩
  simp +contextual (disch:=omega) only[go_sem,c0,e14,ei]
  exact hY _ _ _ H ⟨w,e1,e2,e7,by rw[List.take_length]⟩
 rotate_left
 ·exact fun _ _ _ _ h=>h.elim
 clear H
 rintro env h τ H ⟨w,e1,e2,e7,rfl⟩
 simp +contextual (disch:=omega) only[go_sem,e1,e2,e7,hb.len]
 refine Bs b.length 31 2 (fun i env h=>∃ w,env 2= .fn F caps∧env 7=w∧env 29=vb∧env 30=gi b.length∧h=[.th (ow Ab.kd w (a.filter (fun t=> !f t.rep)++(b.take i).filter fun t=>f t.rep))]) (fun env h=>∃ w,env 7=w∧h=[.th (ow Ab.kd w (a.filter (fun t=> !f t.rep)++b.filter fun t=>f t.rep))]) (fun env h=>False) _ H (by simp +contextual (disch:=omega) only[go_sem]) ⟨w,by simp +contextual (disch:=omega) only[go_sem,e2],by simp +contextual (disch:=omega) only[go_sem,e7],by simp +contextual (disch:=omega) only[go_sem],by simp +contextual (disch:=omega) only[go_sem],by simp⟩ ?_ ?_ ?_ ?_
 ·clear H e1 e2 e7
  rintro J Y W hJ hY hW i env h τ hi ei c0 H ⟨w,e2,e7,e29,e30,rfl⟩
  have L1:=Aa hb hi
  simp +contextual (disch:=omega) only[go_sem,c0,e2,e7,e29,e30,ei,A4,L1]
  intro m fm τ1 _ τ2 H2
  refine by_b H2 (hf _ b[i] H2.sub (.inr (List.getElem_mem hi))) (fun k1=> ?_) (fun k1=> ?_)
  rotate_left
  ·simp +contextual (disch:=omega) only[go_sem,e2,e7,e29,e30,ei]
   exact hJ _ _ _ _ (H2.re [1] (by decide)) ⟨w,by simp +contextual (disch:=omega) only[go_sem,e2],by simp +contextual (disch:=omega) only[go_sem,e7],by simp +contextual (disch:=omega) only[go_sem,e29],by simp +contextual (disch:=omega) only[go_sem,e30],by rw[Js hi (by simp[k1])];rfl⟩
  ·simp +contextual (disch:=omega) only[go_sem,e2,e7,e29,e30,ei]
   intro n3 f3 τ3 H3
   refine Dn (p:=Ab) H3 2 rfl b[i] Dm (by decide) (by have:=A3i (p:=fun t=> !f t.rep) (q:=fun t=>f t.rep) (i:=i) hla hlb;omega) fun w' τ4 H4=> ?_
   simp +contextual (disch:=omega) only[go_sem,e2,e29,e30,ei]
   exact hJ _ _ _ _ (H4.re [2] (by decide)) ⟨w',by simp +contextual (disch:=omega) only[go_sem,e2],by simp +contextual (disch:=omega) only[go_sem],by simp +contextual (disch:=omega) only[go_sem,e29],by simp +contextual (disch:=omega) only[go_sem,e30],by rw[Ir hi (by simp[k1]),←List.append_assoc];rfl⟩
 ·clear H e1 e2 e7
  rintro Y hY env h τ ei c0 H ⟨w,e2,e7,e29,e30,rfl⟩
  simp +contextual (disch:=omega) only[go_sem,c0,e30,ei]
  exact hY _ _ _ H ⟨w,e7,by rw[List.take_length]⟩
 ·clear H e1 e2 e7
  rintro env h τ H ⟨w,e7,rfl⟩
  simp +contextual (disch:=omega) only[go_sem,e7]
  have hll:=A3i (p:=fun t=> !f t.rep) (q:=fun t=>f t.rep) (i:=b.length) hla hlb
  rw[List.take_length] at hll
  obtain⟨τ5,R5,H5⟩:=A0t H.hp 0 rfl (by omega) (A8b htri)
  refine by_m (h':=[.th (ow Ab.kd w (Fs f a b))]) R5 H5 ?_
  simp +contextual (disch:=omega) only[go_sem,e7]
  exact fun _=>⟨_,rfl,H5⟩
 ·exact fun _ _ _ _ h=>h.elim
theorem Aaz {a b:List Cell} {x:Cell} (hxa:x.dot∈a.map (·.dot)) (hxb:x.dot∉b.map (·.dot)):Du a (b++[x])=(Du a b).map (Sm x):=by
 unfold Du
 have hf:Ip a x=false:=by
  cases e:Ip a x with
  |false=>rfl
  |true=>exact absurd hxa (Iq.1 e)
 rw[List.map_append,List.map_map,List.filter_append,List.filter_cons,hf]
 simp only[Bool.false_eq_true,if_false,List.filter_nil,List.append_nil]
 congr 1
 ·refine(List.map_congr_left fun c hc=> ?_)
  simp only[Function.comp,Sm,M7,List.any_append,List.any_cons,List.any_nil,Bool.or_false]
  by_cases e:c.dot=x.dot
  ·simp[e,Bool.or_assoc]
  ·have e':¬ x.dot=c.dot:=fun h=>e h.symm
   simp[e,e']
 ·refine((List.map_congr_left fun c hc=> ?_).trans (List.map_id _)).symm
  unfold Sm
  rw[if_neg fun e=>hxb (List.mem_map.2 ⟨c,(List.mem_filter.1 hc).1,e⟩)];rfl
theorem A5q {a b:List Cell} {x:Cell} (hxa:x.dot∉a.map (·.dot)):Du a (b++[x])=Du a b++[x]:=by
 have ht:Ip a x=true:=Iq.2 hxa
 unfold Du
 rw[List.filter_append,List.filter_cons,ht]
 simp only[if_true,List.filter_nil,←List.append_assoc]
 congr 2
 refine List.map_congr_left fun c hc=> ?_
 have:¬ x.dot=c.dot:=fun h=>hxa (List.mem_map.2 ⟨c,hc,h.symm⟩)
 simp[M7,this]
theorem Ab0 (a:List Cell):Du a []=a:=by
 simp only[Du,List.filter_nil,List.append_nil]
 refine(List.map_congr_left fun c _=> ?_).trans (List.map_id _)
 simp[M7]
theorem A0x (a b:List Cell):(Du a b).length≤a.length+b.length:=by
 unfold Du
 rw[List.length_append,List.length_map]
 have:=List.length_filter_le (Ip a) b
 omega
theorem Ade {a b:List Cell} {i:Nat} (hi:i<a.length):∃ h:i<(Du a b).length,(Du a b)[i]=M7 b a[i]:=by
 have h:i<(Du a b).length:=by unfold Du;rw[List.length_append,List.length_map];omega
 refine⟨h,?_⟩
 show(a.map (M7 b)++b.filter (Ip a))[i]'h=_
 exact(List.getElem_append_left (by simpa using hi)).trans (List.getElem_map _)
theorem Ab1 {l:List Cell} {x:Cell} {k:Nat} (hn:(l.map (·.dot)).Nodup) (hk:k<l.length) (hd:l[k].dot=x.dot):l.map (Sm x)=l.set k {l[k] with gone:=l[k].gone||x.gone}:=by
 refine List.ext_getElem (by simp) fun j h1 h2=> ?_
 have hj:j<l.length:=by simpa using h1
 rw[List.getElem_map,List.getElem_set]
 unfold Sm
 by_cases hjk:k=j
 ·subst hjk
  rw[if_pos rfl,if_pos hd]
 ·rw[if_neg hjk,if_neg fun e=>hjk (Ad7 hn hk hj (by rw[hd,e]))]
set_option maxHeartbeats 2000000 in
theorem Q9 (σ:St) (va vb:GV) (a b:List Cell) (ha:RS Ae.kd σ va a) (hb:RS Ae.kd σ vb b) (hla:a.length≤1073741824) (hlb:b.length≤1073741824) (hpa:a.Pairwise fun a b=>Bq a.dot b.dot=true) (hnb:(b.map (·.dot)).Nodup):∃ r τ,Ret Tryz.prog Ku [va,vb] σ r τ∧Hp σ τ [ow Ae.kd r (Cy a b)]:=by
 have hna:=Ks hpa
 refine Lv Sn (Z0z rfl) (Hx.refl σ) ?_
 simp +contextual (disch:=omega) only[go_sem,Kv]
 intro n fn τ H
 refine Ad5 (p:=Ae) H (ha.pre H.sub) (by decide) (by omega) fun w τ1 H1=> ?_
 simp +contextual (disch:=omega) only[go_sem]
 refine by_mkm H1 fun m τ2 H2=> ?_
 simp +contextual (disch:=omega) only[go_sem,ha.len]
 refine Bs a.length 19 0 (fun i env h=>env 1=vb∧env 5=w∧env 6=m∧env 17=va∧env 18=gi a.length∧h=[.th (mpt m (plc 0 (a.take i))),.th (ow Ae.kd w a)]) (fun env h=>env 1=vb∧env 5=w∧env 6=m∧h=[.th (mpt m (plc 0 a)),.th (ow Ae.kd w a)]) (fun env h=>False) _ H2 (by simp +contextual (disch:=omega) only[go_sem]) ⟨by simp +contextual (disch:=omega) only[go_sem],by simp +contextual (disch:=omega) only[go_sem],by simp +contextual (disch:=omega) only[go_sem],by simp +contextual (disch:=omega) only[go_sem],by simp +contextual (disch:=omega) only[go_sem],rfl⟩ ?_ ?_ ?_ ?_
 ·clear H H1 H2
  rintro J Y W hJ hY hW i env h τ hi ei c0 H ⟨e1,e5,e6,e17,e18,rfl⟩
  have L1:=A7 ha hi
  simp +contextual (disch:=omega) only[go_sem,c0,e1,e5,e6,e17,e18,ei,A4,L1]
  intro n1 f1 τ1 _ τ2 H2
  refine by_mup H2 1 rfl a[i].dot i (Aa2 hpa hi) fun τ3 H3=> ?_
  simp +contextual (disch:=omega) only[go_sem,ei]
  refine hJ _ _ _ _ (H3.re [1,2] (by decide)) ⟨by simp +contextual (disch:=omega) only[go_sem,e1],by simp +contextual (disch:=omega) only[go_sem,e5],by simp +contextual (disch:=omega) only[go_sem,e6],by simp +contextual (disch:=omega) only[go_sem,e17],by simp +contextual (disch:=omega) only[go_sem,e18],?_⟩
  rw[Ag hi,A01,List.length_take,Nat.min_eq_left (by omega),Nat.zero_add]
  rfl
 ·clear H H1 H2
  rintro Y hY env h τ ei c0 H ⟨e1,e5,e6,e17,e18,rfl⟩
  simp +contextual (disch:=omega) only[go_sem,c0,e18,ei]
  exact hY _ _ _ H ⟨e1,e5,e6,by rw[List.take_length]⟩
 rotate_left
 ·exact fun _ _ _ _ h=>h.elim
 clear H H1 H2
 rintro env h τ H ⟨e1,e5,e6,rfl⟩
 simp +contextual (disch:=omega) only[go_sem,e1,hb.len]
 refine Bs b.length 31 2 (fun i env h=>∃ w,env 5=w∧env 6=m∧env 29=vb∧env 30=gi b.length∧h=[.th (mpt m (plc 0 a)),.th (ow Ae.kd w (Du a (b.take i)))]) (fun env h=>∃ w,env 5=w∧h=[.th (mpt m (plc 0 a)),.th (ow Ae.kd w (Du a b))]) (fun env h=>False) _ H (by simp +contextual (disch:=omega) only[go_sem]) ⟨w,by simp +contextual (disch:=omega) only[go_sem,e5],by simp +contextual (disch:=omega) only[go_sem,e6],by simp +contextual (disch:=omega) only[go_sem],by simp +contextual (disch:=omega) only[go_sem],by rw[List.take_zero,Ab0]⟩ ?_ ?_ ?_ ?_
 ·clear H e1 e5 e6
  rintro J Y W hJ hY hW i env h τ hi ei c0 H ⟨w,e5,e6,e29,e30,rfl⟩
  have L1:=A7 hb hi
  have hxb:b[i].dot∉(b.take i).map (·.dot):=fun hm=>by
   obtain⟨c,hc,e⟩:=List.mem_map.1 hm
   obtain⟨j,hj,rfl⟩:=List.getElem_of_mem hc
   have hj2:j<b.length:=by simp at hj;omega
   rw[List.getElem_take] at e
   have:=Ad7 hnb hj2 hi e
   simp at hj;omega
  have hjn:=Jb hna (((List.take_sublist i b).map (·.dot)).nodup hnb)
  have hjl:=A0x a (b.take i)
  have hjl2:(b.take i).length≤b.length:=by rw[List.length_take];omega
  simp +contextual (disch:=omega) only[go_sem,c0,e5,e6,e29,e30,ei,A4,L1]
  intro n1 f1 τ1 _ τ2 H2
  have ML:=H2.mlk 1 rfl b[i].dot
  rw[Nl] at ML
  cases hx:Cm a b[i].dot with
  |none=>
   have hxa:b[i].dot∉a.map (·.dot):=fun h=>by obtain⟨k,hk⟩:=A3f h;rw[hx] at hk;cases hk
   simp only[hx,Option.map_none,Option.getD_none,Option.isSome_none] at ML
   simp +contextual (disch:=omega) only[go_sem,ML,e5,e6,e29,e30,ei]
   intro n3 f3 τ3 H3
   refine Dn (p:=Ae) H3 3 rfl b[i] Dm (by decide) (by omega) fun w' τ4 H4=> ?_
   simp +contextual (disch:=omega) only[go_sem,e6,e29,e30,ei]
   exact hJ _ _ _ _ (H4.re [2,3] (by decide)) ⟨w',by simp +contextual (disch:=omega) only[go_sem],by simp +contextual (disch:=omega) only[go_sem,e6],by simp +contextual (disch:=omega) only[go_sem,e29],by simp +contextual (disch:=omega) only[go_sem,e30],by rw[Ag hi,A5q hxa];rfl⟩
  |some k=>
   obtain⟨hk,hd⟩:=Df hx
   obtain⟨hk2,hke⟩:=Ade (b:=b.take i) hk
   have hxa:b[i].dot∈a.map (·.dot):=List.mem_map.2 ⟨a[k],List.getElem_mem hk,hd⟩
   simp only[hx,Option.map_some,Option.getD_some,Option.isSome_some,Nat.zero_add] at ML
   have O1:=A0v H2 2 rfl hk2
   have hgs:=Ab1 (x:=b[i]) hjn hk2 (by rw[hke];exact hd)
   have hst:∀ b',b'=((Du a (b.take i))[k].gone||b[i].gone)→Du a (b.take (i+1))=(Du a (b.take i)).set k {(Du a (b.take i))[k] with gone:=b'}:=fun b' e=>by
    rw[Ag hi,Aaz hxa hxb,hgs,e]
   cases hg:(Du a (b.take i))[k].gone with
   |true=>
    simp +contextual (disch:=omega) only[go_sem,ML,e5,e6,e29,e30,ei,A4,O1,hg]
    refine Aay (p:=Ae) H2 2 rfl hk2 {(Du a (b.take i))[k] with gone:=true} rfl (by decide) (by decide) rfl fun τ3 H3=> ?_
    simp +contextual (disch:=omega) only[go_sem,e5,e6,e29,e30,ei]
    exact hJ _ _ _ _ (H3.re [1,2] (by decide)) ⟨w,by simp +contextual (disch:=omega) only[go_sem,e5],by simp +contextual (disch:=omega) only[go_sem,e6],by simp +contextual (disch:=omega) only[go_sem,e29],by simp +contextual (disch:=omega) only[go_sem,e30],by rw[hst true (by rw[hg];rfl)];rfl⟩
   |false=>
    simp +contextual (disch:=omega) only[go_sem,ML,e5,e6,e29,e30,ei,A4,O1,hg]
    refine Aay (p:=Ae) H2 2 rfl hk2 {(Du a (b.take i))[k] with gone:=b[i].gone} rfl (by decide) (by decide) rfl fun τ3 H3=> ?_
    simp +contextual (disch:=omega) only[go_sem,e5,e6,e29,e30,ei]
    exact hJ _ _ _ _ (H3.re [1,2] (by decide)) ⟨w,by simp +contextual (disch:=omega) only[go_sem,e5],by simp +contextual (disch:=omega) only[go_sem,e6],by simp +contextual (disch:=omega) only[go_sem,e29],by simp +contextual (disch:=omega) only[go_sem,e30],by rw[hst b[i].gone (by rw[hg];rfl)];rfl⟩
 ·clear H e1 e5 e6
  rintro Y hY env h τ ei c0 H ⟨w,e5,e6,e29,e30,rfl⟩
  simp +contextual (disch:=omega) only[go_sem,c0,e30,ei]
  exact hY _ _ _ H ⟨w,e5,by rw[List.take_length]⟩
 ·clear H e1 e5 e6
  rintro env h τ H ⟨w,e5,rfl⟩
  simp +contextual (disch:=omega) only[go_sem,e5]
  have hjl:=A0x a b
  obtain⟨τ5,R5,H5⟩:=A0u H.hp 1 rfl (by omega) (Aat (Jb hna hnb))
  refine by_m (h':=[.th (mpt m (plc 0 a)),.th (ow Ae.kd w (Cy a b))]) R5 H5 ?_
  simp +contextual (disch:=omega) only[go_sem,e5]
  exact fun _=>⟨_,rfl,Hp.sel H5 [1] (by decide)⟩
 ·exact fun _ _ _ _ h=>h.elim
end
section
open Go Go.RowKit
abbrev Ahw:Nat:=53
def Ahx:Fn1:=⟨26,[.t 4],(rg [oV 4 (ki 0)] (.seq (.blk 0 (rg [oM 6 0,oC 7 176 6,oU 8 7,oM 9 8,og 10 9 false (.mov (.t 1)),og 11 9 false (.call 176 [(.t 10)]),og 12 9 false (.un .not (.t 11)),o 13 (.pick (.t 9) kt (.t 12)),oM 5 13] (.cnd (.t 5) (rg [oV 4 (ki 3)] .ret) (rg [oM 15 0,oM 16 1,oD 17 156 15 16,oM 14 17] (.cnd (.t 14) (rg [oV 4 (ki 0)] .ret) (rg [oM 19 0,oM 20 1,oD 21 177 19 20,oM 18 21] (.cnd (.t 18) (rg [o 4 (.mov (ki (-1)))] .ret) (rg [oM 23 1,oM 24 0,oD 25 177 23 24,oM 22 25] (.cnd (.t 22) (rg [oV 4 (ki 1)] .ret) .skip))))))))) (rg [oV 4 (ki 2)] .ret)))⟩
abbrev Ahy:Nat:=56
def Ahz:Fn1:=⟨21,[.t 2],(rg [o 2 (.mov (.k .nilS))] (rg [o 6 (.call 179 []),oM 3 6] (.seq (rg [oM 7 0,oN 8 7,oV 9 (ki 0)] (.blk 0 (.lop (rg [oB 10 .lss 9 8] (.seq (.cnd (.t 10) .skip (.ext 0)) (.seq (.blk 1 (rg [oI 11 1 7 9,oL 12 11,oM 5 12] (.seq (rg [oM 13 5,oC 14 176 13,oU 15 14] (.cnd (.t 15) (rg [o 2 (.mov (.k .nilS))] .ret) .skip)) (.reg [oM 16 3,oM 17 5,oD 18 180 16 17,oM 3 18])))) (.reg [oZ 19 9 1,oM 9 19]))))))) (rg [oM 20 3,oM 2 20] .ret))))⟩
abbrev Ai0:Nat:=58
def Ai1:Fn1:=⟨26,[.t 2],(rg [o 2 (.mov (.k .nilS))] (rg [o 6 (.lit 1 0 [] []),oM 3 6] (.seq (rg [oM 7 0,oN 8 7,oV 9 (ki 0)] (.blk 0 (.lop (rg [oB 10 .lss 9 8] (.seq (.cnd (.t 10) .skip (.ext 0)) (.seq (.blk 1 (rg [oM 11 9,oI 12 1 7 9,oL 13 12,oM 4 11,oM 5 13] (.seq (rg [oM 14 5,oC 15 176 14,oU 16 15] (.cnd (.t 16) (rg [o 2 (.mov (.k .nilS))] .ret) .skip)) (.seq (rg [oM 17 4,o 18 (.bin .eql (.t 17) (ki 0))] (.cnd (.t 18) (.reg [oM 19 5,oC 20 182 19,oM 3 20]) .skip)) (.reg [oM 21 3,oM 22 5,oD 23 183 21 22,oM 3 23]))))) (.reg [oZ 24 9 1,oM 9 24]))))))) (rg [oM 25 3,oM 2 25] .ret))))⟩
abbrev Ai2:Nat:=183
def Ai3:Fn1:=⟨36,[.t 4],(rg [o 4 (.mov (.k .nilS))] (.seq (rg [oM 8 0,oC 9 176 8,oU 10 9,oM 11 10,og 12 11 false (.mov (.t 1)),og 13 11 false (.call 176 [(.t 12)]),og 14 11 false (.un .not (.t 13)),o 15 (.pick (.t 11) kt (.t 14))] (.cnd (.t 15) (rg [o 4 (.mov (.k .nilS))] .ret) .skip)) (rg [oM 16 0,oC 17 182 16,oM 5 17] (.seq (rg [oM 18 1,oN 19 18,oV 20 (ki 0)] (.blk 0 (.lop (rg [oB 21 .lss 20 19] (.seq (.cnd (.t 21) .skip (.ext 0)) (.seq (.blk 1 (rg [oM 22 20,oI 23 1 18 20,oL 24 23,oM 6 22,oM 7 24] (.reg [oM 25 5,oM 26 6,oM 27 5,oM 28 6,oI 29 1 27 28,oL 30 29,oM 31 7,o 32 (.mm false (.t 30) (.t 31)),oI 33 1 25 26,oS 1 33 32]))) (.reg [oZ 34 20 1,oM 20 34]))))))) (rg [oM 35 5,oM 4 35] .ret)))))⟩
def kMin (a b:List Int):List Int:=zipK mn a b
def ordOf (a b:List Int):Int:=if okK a&&okK b then(if a=b then 0 else if M3 a b then -1 else if M3 b a then 1 else 2) else 3
def joinL (ll:List (List Int)):List Int:=if ll.all okK then ll.foldl kMax [0,0,0] else[]
theorem Adf (a b:List Int):(kMax a b).length≤3:=Acs mx a b
def meetG:List (List Int)→List Int
 |[]=>[]
 |k::r=>(k::r).foldl kMin k
def meetL (ll:List (List Int)):List Int:=if ll.all okK then meetG ll else[]
end
section
open Go Go.RowKit
abbrev Abq:Nat:=335
def Abr:Fn1:=⟨16,[.t 4],(rg [oV 4 kf] (.seq (.drw [oF 5 1 1,oL 6 5,oM 7 0,oI 8 1 6 7,oL 9 8,oF 10 0 2,oL 11 10,oM 12 0,oI 13 1 11 12,oL 14 13] [oB 15 .gtr 9 14,oM 4 15]) .ret))⟩
abbrev Ai4:Nat:=270
def Ai5:Fn1:=⟨134,[.c 4 true 4,.t 5],(rg [oX 2 0,oX 3 1,o 4 (.new [.nilS,.nilS,.nilS,.nilS]),oV 5 (ki 0)] (rg [oW 13 4 2,oC 14 255 13,o 6 (.new [.nilS,.nilS,.nilS,.nilS]),oS 4 6 14] (.seq (.blk 0 (rg [oW 16 4 2,oC 17 195 16,oU 18 17,oM 19 18,og 20 19 false (.ld true 6 (.t 3)),og 21 19 false (.call 225 [(.t 20)]),og 22 19 false (.un .not (.t 21)),o 23 (.pick (.t 19) kt (.t 22)),oM 15 23] (.cnd (.t 15) (rg [oW 24 4 6,oS 4 4 24,oV 5 (ki 3)] .ret) (rg [oF 26 1 3,oL 27 26,oF 28 0 2,oL 29 28,oD 30 177 27 29,oM 25 30] (.cnd (.t 25) (rg [oW 31 4 6,oS 4 4 31,oV 5 (ki 1)] .ret) (rg [oF 33 0 3,oL 34 33,oF 35 0 2,oL 36 35,oD 37 177 34 36,oU 38 37,oM 32 38] (.cnd (.t 32) (rg [oW 39 4 6,oS 4 4 39,oV 5 (ki 2)] .ret) .skip))))))) (rg [oF 40 0 2,oL 41 40,oF 42 1 3,oL 43 42,oD 44 180 41 43,o 45 (.build [.nilS,.nilS,.nilS,.nilS] [(0,1,(.t 44))]),o 7 (.new [.nilS,.nilS,.nilS,.nilS]),oS 4 7 45] (rg [oF 46 1 2,oL 47 46,oF 48 2 3,oL 49 48,o 50 (.mkf 335 [(.t 3),(.t 2)]),o 51 (.call 334 [(.t 47),(.t 49),(.t 50)]),oF 52 1 7,oS 1 52 51] (.seq (rg [oF 53 2 2,oL 54 53,oN 55 54,oV 56 (ki 0)] (.blk 1 (.lop (rg [oB 57 .lss 56 55] (.seq (.cnd (.t 57) .skip (.ext 1)) (.seq (.blk 2 (rg [oI 58 6 54 56,oW 59 6 58,o 9 (.new [(.bool false),(.str ⟨#[]⟩),(.str ⟨#[]⟩),z0,z0,z0]),oS 6 9 59] (rg [oF 60 1 3,oL 61 60,oF 62 4 9,oW 63 2 62,oD 64 170 61 63,oM 65 64,og 66 65 true (.fad 0 (.t 3)),og 67 65 true (.ld false 1 (.t 66)),og 68 65 true (.fad 4 (.t 9)),og 69 65 true (.ld true 2 (.t 68)),og 70 65 true (.call 170 [(.t 67),(.t 69)]),og 71 65 true (.un .not (.t 70)),o 72 (.pick (.t 65) (.t 71) kf),oM 73 72,og 74 73 true (.fad 3 (.t 3)),og 75 73 true (.ld false 1 (.t 74)),og 76 73 true (.ld true 6 (.t 9)),og 77 73 true (.call 318 [(.t 75),(.t 76)]),og 78 73 true (.un .not (.t 77)),o 79 (.pick (.t 73) (.t 78) kf),oM 10 79] (rg [oM 80 10,oU 81 80,oM 82 81,og 83 82 true (.fad 4 (.t 3)),og 84 82 true (.ld false 1 (.t 83)),og 85 82 true (.fad 4 (.t 9)),og 86 82 true (.ld true 2 (.t 85)),og 87 82 true (.call 336 [(.t 84),(.t 86)]),og 88 82 true (.un .not (.t 87)),o 89 (.pick (.t 82) (.t 88) kf)] (.cnd (.t 89) (.reg [oF 90 2 7,oL 91 90,oW 92 6 9,o 93 (.lit 6 1 [(.bool false),(.str ⟨#[]⟩),(.str ⟨#[]⟩),z0,z0,z0] [(0,6,(.t 92))]),o 94 (.app 6 64 [(.bool false),(.str ⟨#[]⟩),(.str ⟨#[]⟩),z0,z0,z0] (.t 91) (.t 93)),oF 95 2 7,oS 1 95 94]) .skip))))) (.reg [oZ 96 56 1,oM 56 96]))))))) (.seq (rg [oF 97 3 3,oL 98 97,oN 99 98,oV 100 (ki 0)] (.blk 3 (.lop (rg [oB 101 .lss 100 99] (.seq (.cnd (.t 101) .skip (.ext 3)) (.seq (.blk 4 (rg [oI 102 6 98 100,oW 103 6 102,o 12 (.new [(.bool false),(.str ⟨#[]⟩),(.str ⟨#[]⟩),z0,z0,z0]),oS 6 12 103] (rg [oF 104 0 2,oL 105 104,oF 106 4 12,oW 107 2 106,oD 108 170 105 107,oU 109 108] (.cnd (.t 109) (.reg [oF 110 2 7,oL 111 110,oW 112 6 12,o 113 (.lit 6 1 [(.bool false),(.str ⟨#[]⟩),(.str ⟨#[]⟩),z0,z0,z0] [(0,6,(.t 112))]),o 114 (.app 6 64 [(.bool false),(.str ⟨#[]⟩),(.str ⟨#[]⟩),z0,z0,z0] (.t 111) (.t 113)),oF 115 2 7,oS 1 115 114]) .skip)))) (.reg [oZ 116 100 1,oM 100 116]))))))) (rg [oF 117 2 7,oL 118 117,oC 119 337 118] (rg [oF 120 3 2,oL 121 120,oF 122 5 3,oL 123 122,oD 124 338 121 123,oF 125 3 7,oS 1 125 124] (.seq (rg [oW 126 4 7,oC 127 260 126] (.cnd (.t 127) (rg [oW 128 4 6,oS 4 4 128,oV 5 (ki 4)] .ret) .skip)) (.seq (rg [oW 129 4 7,oC 130 195 129,oU 131 130] (.cnd (.t 131) (rg [oW 132 4 6,oS 4 4 132,oV 5 (ki 3)] .ret) .skip)) (rg [oW 133 4 7,oS 4 4 133,oV 5 (ki 0)] .ret))))))))))))⟩
def fromD (s:State) (d:Delta) (rep:Int):Bool:=decide (at0 s.know rep<at0 d.know rep)
def keepD (d:Delta) (l:Live):Bool:= !(B5 d.know l.dot&&(!B5 d.base l.dot&& !decide (l∈d.lives)))&& !decide (l.dot∈d.dead)
def newD (s:State) (l:Live):Bool:= !B5 s.know l.dot
def Ai6 (s:State) (d:Delta):State:=⟨kMax s.know d.know,Fs (fromD s d) s.tallies d.tallies,Bc Br (s.lives.filter (keepD d)++d.lives.filter (newD s)),Cy s.cells d.cells⟩
def Ai7 (s:State) (d:Delta):State×Int:=
 if !(Bh s&&Aao d) then(s,3) else if M3 d.know s.know then(s,1) else if !M3 d.base s.know then(s,2) else
 if A0e (Ai6 s d) then(s,4) else if !Bh (Ai6 s d) then(s,3) else(Ai6 s d,0)
theorem Ai8 {l:List Tally} (h:Fb l=true):l.Pairwise fun a b=>Ah a b=true:=by
 simp only[Fb,Bool.and_eq_true,Dq,talP] at h
 exact Ta (lt:=Ah) (fun a b c h1 h2=>Nt.trans _ _ _ h1 h2) fun i hi=>(h.1 i hi).2
theorem Adg {l:List Tally} (h:Fb l=true) {t:Tally} (ht:t∈l):0≤t.rep∧t.rep≤2:=by
 simp only[Fb,Bool.and_eq_true,Dq,talP] at h
 obtain⟨i,hi,rfl⟩:=List.getElem_of_mem ht
 have:=(h.1 i hi).1
 rw[Di hi] at this
 simp only[tal1,Bool.and_eq_true] at this
 exact Cc.1 this.2.1
theorem A3j {l:List Live} (h:l.Pairwise fun a b=>Bq a.dot b.dot=true):(l.map (·.dot)).Nodup:=by
 rw[List.Nodup,List.pairwise_map]
 refine h.imp fun {a b} h1 e=> ?_
 rw[e,Nk] at h1;cases h1
theorem Ab2 {l:List Live} (h:(l.map (·.dot)).Nodup):∀ x∈l,∀ y∈l,Br x y=false→Br y x=false→x=y:=fun x hx y hy h1 h2=>Aas h hx hy (Tz h1 h2)
theorem A8d {p:Live→Bool} {k:List Int} {a b:List Live} (ha:a.Pairwise fun a b=>Bq a.dot b.dot=true) (hb:b.Pairwise fun a b=>Bq a.dot b.dot=true) (hk:∀ l∈a,B5 k l.dot=true):((a.filter p++b.filter fun l=> !B5 k l.dot).map (·.dot)).Nodup:=by
 rw[List.map_append,List.nodup_append]
 refine⟨A3j (ha.filter _),A3j (hb.filter _),?_⟩
 intro x hx y hy e
 obtain⟨t,ht,rfl⟩:=List.mem_map.1 hx
 obtain⟨u,hu,rfl⟩:=List.mem_map.1 hy
 have h1:=hk t (List.mem_filter.1 ht).1
 have h2:=(List.mem_filter.1 hu).2
 rw[← e,h1] at h2;cases h2
theorem Jd {α:Type} (f:α→Nat) (l m:List α):sumL f (l++m)=sumL f l+sumL f m:=by simp[sumL]
theorem Ab3 {α:Type} (f:α→Nat) {g:α→α} (hg:∀ x,f (g x)=f x) (l:List α):sumL f (l.map g)=sumL f l:=by
 unfold sumL
 rw[List.map_map]
 congr 1
 exact List.map_congr_left fun x _=>hg x
theorem Ab4 (f:Int→Bool) (a b:List Tally):(Fs f a b).length≤a.length+b.length∧sumL Ar (Fs f a b)≤sumL Ar a+sumL Ar b:=by
 unfold Fs
 rw[Fm,O0 Ar (Cv _ _),List.length_append,Jd]
 have:=List.length_filter_le (fun t:Tally=> !f t.rep) a
 have:=List.length_filter_le (fun t:Tally=>f t.rep) b
 have:=Fr Ar (fun t:Tally=> !f t.rep) a
 have:=Fr Ar (fun t:Tally=>f t.rep) b
 omega
theorem A3k (a b:List Cell):(Cy a b).length≤a.length+b.length∧sumL D8 (Cy a b)≤sumL D8 a+sumL D8 b:=by
 unfold Cy
 rw[Fm,O0 D8 (Cv _ _)]
 refine⟨A0x a b,?_⟩
 unfold Du
 rw[Jd,Ab3 D8 (g:=M7 b) fun x=>rfl]
 have:=Fr D8 (Ip a) b
 omega
theorem Adh (p q:Live→Bool) (a b:List Live):(Bc Br (a.filter p++b.filter q)).length≤a.length+b.length∧sumL Ck (Bc Br (a.filter p++b.filter q))≤sumL Ck a+sumL Ck b:=by
 rw[Fm,O0 Ck (Cv _ _),List.length_append,Jd]
 have:=List.length_filter_le p a
 have:=List.length_filter_le q b
 have:=Fr Ck p a
 have:=Fr Ck q b
 omega
abbrev z4':List GV:=[GV.nilS,GV.nilS,GV.nilS,GV.nilS]
end
section
open Go Go.RowKit
abbrev Rh:Nat:=339
def Ri:Fn1:=⟨54,[.t 4],(rg [o 4 (.mov (.k .nilS))] (rg [o 9 (.lit 8 0 [] []),oM 10 0,o 11 (.app 8 72 [(.str ⟨#[]⟩),z0,z0,z0,z0,z0,z0,(.bool false)] (.t 9) (.t 10)),oM 5 11] (.seq (rg [oV 6 (ki 0)] (.blk 0 (.lop (.seq (rg [oM 12 6,oM 13 1,oN 14 13,oB 15 .lss 12 14] (.cnd (.t 15) .skip (.ext 0))) (.seq (.blk 1 (rg [o 7 (.mov (ki (-1)))] (.seq (rg [oV 8 (ki 0)] (.blk 2 (.lop (.seq (rg [oM 18 8,oM 19 5,oN 20 19,oB 21 .lss 18 20] (.cnd (.t 21) .skip (.ext 2))) (.seq (.blk 3 (.seq (.drw [oM 24 5,oM 25 8,oI 26 8 24 25,oF 27 1 26,oW 28 2 27,oM 29 1,oM 30 6,oI 31 8 29 30,oF 32 1 31,oW 33 2 32] [o 34 (.eqs false [.i .i64,.i .i64] (.t 28) (.t 33))]) (.cnd (.t 34) (.reg [oM 35 8,oM 7 35]) .skip))) (.reg [oM 22 8,oZ 23 22 1,oM 8 23])))))) (rg [oM 36 7,o 37 (.bin .lss (.t 36) (ki 0))] (.cnd (.t 37) (.reg [oM 38 5,oM 39 1,oM 40 6,oI 41 8 39 40,oW 42 8 41,oD 43 322 38 42,oM 5 43]) (rg [oM 44 1,oM 45 6,oI 46 8 44 45,oF 47 7 46,oL 48 47] (.cnd (.t 48) (.reg [oM 49 5,oM 50 7,oI 51 8 49 50,oF 52 7 51,on (.st 1 (.t 52) kt)]) .skip))))))) (.reg [oM 16 6,oZ 17 16 1,oM 6 17])))))) (rg [oM 53 5,oM 4 53] .ret))))⟩
theorem A0y:A8 Tryz.prog Rh=some Ri:=by kernel_rfl
theorem V6 (l:List Cell) (x:Cell) (d:Dot):Cm (l++[x]) d=(Cm l d).or (if x.dot=d then some l.length else none):=by
 unfold Cm
 rw[List.findIdx?_append]
 congr 1
 by_cases h:x.dot=d<;>simp[h,List.findIdx?_cons]
theorem A8e {l:List Cell} (hn:(l.map (·.dot)).Nodup) {k:Nat} (hk:k<l.length) {d:Dot} (h:l[k].dot=d):Cj (l.take (k+1)) d=k:=by
 have hno:d∉(l.take k).map (·.dot):=fun hm=>by
  obtain⟨c,hc,e⟩:=List.mem_map.1 hm
  obtain⟨j,hj,rfl⟩:=List.getElem_of_mem hc
  have hj1:j<k∧j<l.length:=by rw[List.length_take] at hj;omega
  rw[List.getElem_take] at e
  have:=Ad7 hn hj1.2 hk (by rw[e,h])
  omega
 unfold Cj
 rw[Ag hk,V6,A3g hno,if_pos h]
 simp;omega
theorem A5r {l:List Cell} {k:Nat} (hk:k<l.length) {d:Dot} (h:l[k].dot≠d):Cj (l.take (k+1)) d=Cj (l.take k) d:=by
 unfold Cj
 rw[Ag hk,V6,if_neg h]
 simp
set_option maxHeartbeats 2000000 in
theorem X3 (σ:St) (va vb:GV) (a b:List Cell) (ha:RS Ae.kd σ va a) (hb:RS Ae.kd σ vb b) (hla:a.length≤1073741824) (hlb:b.length≤1073741824) (hpa:a.Pairwise fun a b=>Bq a.dot b.dot=true) (hnb:(b.map (·.dot)).Nodup):∃ r τ,Ret Tryz.prog Rh [va,vb] σ r τ∧Hp σ τ [ow Ae.kd r (Cy a b)]:=by
 have hna:=Ks hpa
 refine Lv A0y (Z0z rfl) (Hx.refl σ) ?_
 simp +contextual (disch:=omega) only[go_sem,Ri]
 intro n fn τ H
 refine Ad5 (p:=Ae) H (ha.pre H.sub) (by decide) (by omega) fun w τ1 H1=> ?_
 simp +contextual (disch:=omega) only[go_sem]
 refine Bs b.length 6 0 (fun i env h=>∃ w,env 1=vb∧env 5=w∧h=[.th (ow Ae.kd w (Cy a (b.take i)))]) (fun env h=>∃ w,env 5=w∧h=[.th (ow Ae.kd w (Cy a b))]) (fun env h=>False) _ H1 (by simp +contextual (disch:=omega) only[go_sem]) ⟨w,by simp +contextual (disch:=omega) only[go_sem],by simp +contextual (disch:=omega) only[go_sem],by rw[← V4 hpa hnb 0 (by omega)];rfl⟩ ?_ ?_ ?_ (fun _ _ _ _ h=>h.elim)
 ·clear H H1
  rintro J Y W hJ hY hW i env h τ hi ei c0 H ⟨w,e1,e5,rfl⟩
  have hst:A0s (Cy a (b.take i)) b[i]=Cy a (b.take (i+1)):=by
   rw[Ag hi]
   refine Yp hna ?_
   rw[← Ag hi]
   exact((List.take_sublist _ b).map (·.dot)).nodup hnb
  have hjn:((Cy a (b.take i)).map (·.dot)).Nodup:=((Cv Cl (Du a (b.take i))).map _).nodup_iff.2 (Jb hna (((List.take_sublist i b).map (·.dot)).nodup hnb))
  have hml:=(A3k a (b.take i)).1
  have hbl:(b.take i).length≤b.length:=by rw[List.length_take];omega
  generalize Cy a (b.take i)=O at*
  have B1:=A7 hb hi
  simp +contextual (disch:=omega) only[go_sem,c0,e1,e5,ei,hb.len]
  refine Bs O.length 8 2 (fun k env h=>env 1=vb∧env 5=w∧env 6=gi i∧env 7=gi (Cj (O.take k) b[i].dot)∧h=[.th (ow Ae.kd w O)]) (fun env h=>env 1=vb∧env 5=w∧env 6=gi i∧env 7=gi (Cj O b[i].dot)∧h=[.th (ow Ae.kd w O)]) (fun env h=>False) _ H (by simp +contextual (disch:=omega) only[go_sem]) ⟨by simp +contextual (disch:=omega) only[go_sem,e1],by simp +contextual (disch:=omega) only[go_sem,e5],by simp +contextual (disch:=omega) only[go_sem,ei],by simp +contextual (disch:=omega) only[go_sem];rfl,rfl⟩ ?_ ?_ ?_ (fun _ _ _ _ h=>h.elim)
  ·clear H e1 e5 ei
   rintro J2 Y2 W2 hJ2 hY2 hW2 k env h τ hk ek c1 H ⟨e1,e5,e6,e7,rfl⟩
   have O1:=A0v H 0 rfl hk
   have ol:=(H.hp.sl 0 rfl).len
   by_cases hx:O[k].dot=b[i].dot
   ·have bx:decide (O[k].dot=b[i].dot)=true:=decide_eq_true hx
    simp +contextual (disch:=omega) only[go_sem,c1,e1,e5,e6,e7,ek,A4,B1,O1,ol,bx]
    exact hJ2 _ _ _ _ H ⟨by simp +contextual (disch:=omega) only[go_sem,e1],by simp +contextual (disch:=omega) only[go_sem,e5],by simp +contextual (disch:=omega) only[go_sem,e6],by simp +contextual (disch:=omega) only[go_sem,A8e hjn hk hx],rfl⟩
   ·have bx:decide (O[k].dot=b[i].dot)=false:=decide_eq_false hx
    simp +contextual (disch:=omega) only[go_sem,c1,e1,e5,e6,e7,ek,A4,B1,O1,ol,bx]
    exact hJ2 _ _ _ _ H ⟨by simp +contextual (disch:=omega) only[go_sem,e1],by simp +contextual (disch:=omega) only[go_sem,e5],by simp +contextual (disch:=omega) only[go_sem,e6],by simp +contextual (disch:=omega) only[go_sem,A5r hk hx,e7],rfl⟩
  ·clear H e1 e5 ei
   rintro Y2 hY2 env h τ ek c1 H ⟨e1,e5,e6,e7,rfl⟩
   have ol:=(H.hp.sl 0 rfl).len
   simp +contextual (disch:=omega) only[go_sem,c1,e5,ek,ol]
   exact hY2 _ _ _ H ⟨by simp +contextual (disch:=omega) only[go_sem,e1],by simp +contextual (disch:=omega) only[go_sem,e5],by simp +contextual (disch:=omega) only[go_sem,e6],by rw[List.take_length] at e7;simp +contextual (disch:=omega) only[go_sem,e7],rfl⟩
  clear H e1 e5 ei
  rintro env h τ H ⟨e1,e5,e6,e7,rfl⟩
  cases hx:Cm O b[i].dot with
  |none=>
   have hno:Cj O b[i].dot= -1:=by simp[Cj,hx]
   have cm:decide ((-1:Int)<0)=true:=rfl
   rw[hno] at e7
   simp +contextual (disch:=omega) only[go_sem,e7,cm,e1,e5,e6,A4,B1]
   obtain⟨w',τ2,R2,K2⟩:=A0l τ w O (H.hp.sl 0 rfl) b[i] (by omega)
   refine by_c H R2 K2 fun H2=> ?_
   simp +contextual (disch:=omega) only[go_sem,e6]
   refine hJ _ _ _ _ (H2.re [0] (by decide)) ⟨w',by simp +contextual (disch:=omega) only[go_sem,e1],by simp +contextual (disch:=omega) only[go_sem],?_⟩
   rw[← hst]
   simp only[A0s,hx];rfl
  |some k=>
   obtain⟨hk,hd⟩:=Df hx
   have hno:Cj O b[i].dot=k:=by simp[Cj,hx]
   have cm:decide ((k:Int)<0)=false:=by simp
   rw[hno] at e7
   have O1:=A0v H 0 rfl hk
   cases hg:b[i].gone with
   |false=>
    simp +contextual (disch:=omega) only[go_sem,e7,cm,e1,e5,e6,A4,B1,hg]
    refine hJ _ _ _ _ H ⟨w,by simp +contextual (disch:=omega) only[go_sem,e1],by simp +contextual (disch:=omega) only[go_sem,e5],?_⟩
    rw[← hst]
    simp only[A0s,hx,hg,Bool.false_eq_true,if_false]
   |true=>
    simp +contextual (disch:=omega) only[go_sem,e7,cm,e1,e5,e6,A4,B1,hg,O1]
    refine Aay (p:=Ae) H 0 rfl hk {O[k] with gone:=true} rfl (by decide) (by decide) rfl fun τ3 H3=> ?_
    simp +contextual (disch:=omega) only[go_sem,e6]
    refine hJ _ _ _ _ H3 ⟨w,by simp +contextual (disch:=omega) only[go_sem,e1],by simp +contextual (disch:=omega) only[go_sem,e5],?_⟩
    rw[← hst]
    simp only[A0s,hx,hg,if_true]
    rw[Q4 _ hk];rfl
 ·clear H H1
  rintro Y hY env h τ ei c0 H ⟨w,e1,e5,rfl⟩
  simp +contextual (disch:=omega) only[go_sem,c0,e1,ei,hb.len]
  exact hY _ _ _ H ⟨w,e5,by rw[List.take_length]⟩
 ·clear H H1
  rintro env h τ H ⟨w,e5,rfl⟩
  simp +contextual (disch:=omega) only[go_sem,e5]
  exact fun _=>⟨_,rfl,H.hp⟩
end
section
open Go Go.RowKit
abbrev Ai9:Nat:=271
def Aia:Fn1:=⟨164,[.c 4 true 4],(rg [oX 2 0,oX 3 1,o 4 (.new [.nilS,.nilS,.nilS,.nilS])] (.seq (.drw [oF 14 0 2,oL 15 14,oF 16 1 3,oL 17 16,oD 18 181 15 17,oF 19 3 2,oL 20 19,oF 21 5 3,oL 22 21,oD 23 339 20 22,o 24 (.build [.nilS,.nilS,.nilS,.nilS] [(0,1,(.t 18)),(3,1,(.t 23))]),o 5 (.new [.nilS,.nilS,.nilS,.nilS])] [oS 4 5 24]) (.seq (rg [oV 6 (ki 0)] (.blk 0 (.lop (.seq (rg [oM 25 6,oF 26 1 2,oL 27 26,oN 28 27,oB 29 .lss 25 28] (.cnd (.t 29) .skip (.ext 0))) (.seq (.blk 1 (rg [oF 32 1 2,oL 33 32,oM 34 6,oI 35 3 33 34,oW 36 3 35,o 7 (.new [(.str ⟨#[]⟩),z0,z0]),oS 3 7 36] (.seq (.drw [oF 37 1 3,oL 38 37,oF 39 1 7,oL 40 39,oI 41 1 38 40,oL 42 41,oF 43 0 2,oL 44 43,oF 45 1 7,oL 46 45,oI 47 1 44 46,oL 48 47] [oB 49 .leq 42 48]) (.cnd (.t 49) (.reg [oF 50 0 7,oL 51 50,oF 52 1 7,oL 53 52,oF 54 2 7,oL 55 54,o 56 (.call 319 [(.t 5),(.t 51),(.t 53),(.t 55)])]) .skip)))) (.reg [oM 30 6,oZ 31 30 1,oM 6 31])))))) (.seq (rg [oV 8 (ki 0)] (.blk 2 (.lop (.seq (rg [oM 57 8,oF 58 2 3,oL 59 58,oN 60 59,oB 61 .lss 57 60] (.cnd (.t 61) .skip (.ext 2))) (.seq (.blk 3 (rg [oF 64 2 3,oL 65 64,oM 66 8,oI 67 3 65 66,oW 68 3 67,o 9 (.new [(.str ⟨#[]⟩),z0,z0]),oS 3 9 68] (.seq (.drw [oF 69 1 3,oL 70 69,oF 71 1 9,oL 72 71,oI 73 1 70 72,oL 74 73,oF 75 0 2,oL 76 75,oF 77 1 9,oL 78 77,oI 79 1 76 78,oL 80 79] [oB 81 .gtr 74 80]) (.cnd (.t 81) (.reg [oF 82 0 9,oL 83 82,oF 84 1 9,oL 85 84,oF 86 2 9,oL 87 86,o 88 (.call 319 [(.t 5),(.t 83),(.t 85),(.t 87)])]) .skip)))) (.reg [oM 62 8,oZ 63 62 1,oM 8 63])))))) (.seq (rg [oV 10 (ki 0)] (.blk 4 (.lop (.seq (rg [oM 89 10,oF 90 2 2,oL 91 90,oN 92 91,oB 93 .lss 89 92] (.cnd (.t 93) .skip (.ext 4))) (.seq (.blk 5 (rg [oF 96 2 2,oL 97 96,oM 98 10,oI 99 6 97 98,oW 100 6 99,o 11 (.new [(.bool false),(.str ⟨#[]⟩),(.str ⟨#[]⟩),z0,z0,z0]),oS 6 11 100] (rg [oF 101 1 3,oL 102 101,oF 103 4 11,oW 104 2 103,oD 105 45 102 104,oM 106 105,og 107 106 true (.fad 0 (.t 3)),og 108 106 true (.ld false 1 (.t 107)),og 109 106 true (.fad 4 (.t 11)),og 110 106 true (.ld true 2 (.t 109)),og 111 106 true (.call 45 [(.t 108),(.t 110)]),og 112 106 true (.un .not (.t 111)),o 113 (.pick (.t 106) (.t 112) kf),oM 114 113,og 115 114 true (.fad 3 (.t 3)),og 116 114 true (.ld false 1 (.t 115)),og 117 114 true (.ld true 6 (.t 11)),og 118 114 true (.call 234 [(.t 116),(.t 117)]),og 119 114 true (.un .not (.t 118)),o 120 (.pick (.t 114) (.t 119) kf),oM 12 120] (rg [oM 121 12,oU 122 121,oM 123 122,og 124 123 true (.fad 4 (.t 3)),og 125 123 true (.ld false 1 (.t 124)),og 126 123 true (.fad 4 (.t 11)),og 127 123 true (.ld true 2 (.t 126)),og 128 123 true (.call 340 [(.t 125),(.t 127)]),og 129 123 true (.un .not (.t 128)),o 130 (.pick (.t 123) (.t 129) kf)] (.cnd (.t 130) (.reg [oF 131 2 5,oL 132 131,oW 133 6 11,o 134 (.lit 6 1 [(.bool false),(.str ⟨#[]⟩),(.str ⟨#[]⟩),z0,z0,z0] [(0,6,(.t 133))]),o 135 (.app 6 64 [(.bool false),(.str ⟨#[]⟩),(.str ⟨#[]⟩),z0,z0,z0] (.t 132) (.t 134)),oF 136 2 5,oS 1 136 135]) .skip))))) (.reg [oM 94 10,oZ 95 94 1,oM 10 95])))))) (.seq (rg [oV 13 (ki 0)] (.blk 6 (.lop (.seq (rg [oM 137 13,oF 138 3 3,oL 139 138,oN 140 139,oB 141 .lss 137 140] (.cnd (.t 141) .skip (.ext 6))) (.seq (.blk 7 (.seq (.drw [oF 144 0 2,oL 145 144,oF 146 3 3,oL 147 146,oM 148 13,oI 149 6 147 148,oF 150 4 149,oW 151 2 150] [oD 152 45 145 151,oU 153 152]) (.cnd (.t 153) (.drw [oF 154 2 5,oL 155 154,oF 156 3 3,oL 157 156,oM 158 13,oI 159 6 157 158,oW 160 6 159] [oD 161 320 155 160,oF 162 2 5,oS 1 162 161]) .skip))) (.reg [oM 142 13,oZ 143 142 1,oM 13 143])))))) (rg [oW 163 4 5,oS 4 4 163] .ret)))))))⟩
theorem A3l {L M:List Tally} {t:Tally} (hn:(M.map tkey).Nodup) (hs:(L++[t]).Sublist M):Gf (Bc Ah L) t.obj t.rep t.sum=Bc Ah (L++[t]):=by
 have h1:((L++[t]).map tkey).Nodup:=(hs.map tkey).nodup hn
 rw[Ms]
 refine Ad8 (acc:=Bc Ah L) fun hm=> ?_
 have hm:=((Cv Ah L).map tkey).mem_iff.1 hm
 rw[List.map_append,List.nodup_append] at h1
 exact h1.2.2 _ hm (tkey t) (by simp) rfl
theorem Ab5 {α:Type} (p:α→Bool) (l:List α) (i:Nat):((l.take i).filter p).Sublist (l.filter p):=(List.take_sublist i l).filter p
theorem Adi {l:List Tally} (h:Fb l=true) {t:Tally} (ht:t∈l): -1000000≤t.sum∧t.sum≤1000000:=by
 simp only[Fb,Bool.and_eq_true,Dq,talP] at h
 obtain⟨i,hi,rfl⟩:=List.getElem_of_mem ht
 have:=(h.1 i hi).1
 rw[Di hi] at this
 simp only[tal1,Bool.and_eq_true] at this
 have:=Cc.1 this.2.2
 omega
theorem A6x (p q:Tally→Bool) (a b:List Tally) (i j:Nat):(Bc Ah ((a.take i).filter p++(b.take j).filter q)).length≤a.length+b.length∧sumL Ar (Bc Ah ((a.take i).filter p++(b.take j).filter q))≤sumL Ar a+sumL Ar b:=by
 rw[Fm,O0 Ar (Cv _ _),List.length_append,Jd]
 have h1:=List.length_filter_le p (a.take i)
 have h2:=List.length_filter_le q (b.take j)
 have h3:=Fr Ar p (a.take i)
 have h4:=Fr Ar q (b.take j)
 have h5:=E2 Ar a i
 have h6:=E2 Ar b j
 rw[List.length_take] at h1 h2
 omega
theorem Hm {s:State} {n:Nat} (h:Ad s≤n):s.know.length≤n∧s.tallies.length≤n∧s.lives.length≤n∧s.cells.length≤n:=by
 unfold Ad at h
 omega
end
section
open Go Go.RowKit
abbrev Aib:Nat:=166
def Aic:Fn1:=⟨57,[.c 4 true 4,.t 5],(rg [oX 2 0,oX 3 1,o 4 (.new [.nilS,.nilS,.nilS,.nilS]),oV 5 (ki 0)] (rg [oW 8 4 2,oC 9 247 8,o 6 (.new [.nilS,.nilS,.nilS,.nilS]),oS 4 6 9] (.seq (rg [oW 10 4 2,oC 11 199 10,oU 12 11,oM 13 12,og 14 13 false (.ld true 6 (.t 3)),og 15 13 false (.call 219 [(.t 14)]),og 16 13 false (.un .not (.t 15)),o 17 (.pick (.t 13) kt (.t 16))] (.cnd (.t 17) (rg [oW 18 4 6,oS 4 4 18,oV 5 (ki 3)] .ret) .skip)) (.seq (rg [oF 19 1 3,oL 20 19,oF 21 0 2,oL 22 21,oD 23 178 20 22] (.cnd (.t 23) (rg [oW 24 4 6,oS 4 4 24,oV 5 (ki 1)] .ret) .skip)) (.seq (rg [oF 25 0 3,oL 26 25,oF 27 0 2,oL 28 27,oD 29 178 26 28,oU 30 29] (.cnd (.t 30) (rg [oW 31 4 6,oS 4 4 31,oV 5 (ki 2)] .ret) .skip)) (rg [oW 32 4 2,oW 33 6 3,oD 34 271 32 33,o 7 (.new [.nilS,.nilS,.nilS,.nilS]),oS 4 7 34] (.seq (rg [oF 35 1 7,oL 36 35,oN 37 36,o 38 (.bin .gtr (.t 37) (ki 120)),oM 39 38,og 40 39 false (.fad 2 (.t 7)),og 41 39 false (.ld false 1 (.t 40)),og 42 39 false (.len false (.t 41)),og 43 39 false (.bin .gtr (.t 42) (ki 120)),o 44 (.pick (.t 39) kt (.t 43)),oM 45 44,og 46 45 false (.fad 3 (.t 7)),og 47 45 false (.ld false 1 (.t 46)),og 48 45 false (.len false (.t 47)),og 49 45 false (.bin .gtr (.t 48) (ki 120)),o 50 (.pick (.t 45) kt (.t 49))] (.cnd (.t 50) (rg [oW 51 4 6,oS 4 4 51,oV 5 (ki 4)] .ret) .skip)) (.seq (rg [oW 52 4 7,oC 53 199 52,oU 54 53] (.cnd (.t 54) (rg [oW 55 4 6,oS 4 4 55,oV 5 (ki 3)] .ret) .skip)) (rg [oW 56 4 7,oS 4 4 56,oV 5 (ki 0)] .ret)))))))))⟩
end
section
open Go Go.RowKit
abbrev z4:List GV:=[GV.nilS,GV.nilS,GV.nilS,GV.nilS]
end
section
open Go Go.RowKit
end
section
open Go Go.RowKit
abbrev n_s_DoUnit:Nat:=44
def F_s_DoUnit:Fn1:=⟨20,[.c 4 true 4,.t 5],(rg [oX 2 0,oX 3 1,o 4 (.new [.nilS,.nilS,.nilS,.nilS]),oV 5 (ki 0)] (.seq (rg [oF 6 0 3,oL 7 6] (.cnd (.t 7) (rg [oW 8 4 2,oF 9 11 3,oW 10 6 9,oD 11 166 8 10,o 12 (.ext 0 (.t 11)),o 13 (.ext 1 (.t 11)),oS 4 4 12,oM 5 13] .ret) .skip)) (rg [oW 14 4 2,oF 15 1 3,oW 16 10 15,oD 17 140 14 16,o 18 (.ext 0 (.t 17)),o 19 (.ext 1 (.t 17)),oS 4 4 18,oM 5 19] .ret)))⟩
abbrev n_i_DoUnit:Nat:=164
def F_i_DoUnit:Fn1:=⟨20,[.c 4 true 4,.t 5],(rg [oX 2 0,oX 3 1,o 4 (.new [.nilS,.nilS,.nilS,.nilS]),oV 5 (ki 0)] (.seq (rg [oF 6 0 3,oL 7 6] (.cnd (.t 7) (rg [oW 8 4 2,oF 9 11 3,oW 10 6 9,oD 11 270 8 10,o 12 (.ext 0 (.t 11)),o 13 (.ext 1 (.t 11)),oS 4 4 12,oM 5 13] .ret) .skip)) (rg [oW 14 4 2,oF 15 1 3,oW 16 10 15,oD 17 152 14 16,o 18 (.ext 0 (.t 17)),o 19 (.ext 1 (.t 17)),oS 4 4 18,oM 5 19] .ret)))⟩
abbrev Kw:Nat:=43
def Rj:Fn1:=⟨3,[.c 0 true 4],(rg [o 0 (.new [.nilS,.nilS,.nilS,.nilS])] (rg [o 1 (.call 165 []),o 2 (.build [.nilS,.nilS,.nilS,.nilS] [(0,1,(.t 1))]),oS 4 0 2] .ret))⟩
theorem A0z:A8 Tryz.prog Kw=some Rj:=by kernel_rfl
abbrev Ky:Nat:=127
def Rk:Fn1:=⟨3,[.c 0 true 4],(rg [o 0 (.new [.nilS,.nilS,.nilS,.nilS])] (rg [o 1 (.call 179 []),o 2 (.build [.nilS,.nilS,.nilS,.nilS] [(0,1,(.t 1))]),oS 4 0 2] .ret))⟩
theorem A10:A8 Tryz.prog Ky=some Rk:=by kernel_rfl
abbrev Af5:Nat:=62
def Af6:Fn1:=⟨26,[.t 2],(rg [oV 2 kf] (rg [o 7 (.call 43 []),o 3 (.new [.nilS,.nilS,.nilS,.nilS]),oS 4 3 7] (.seq (rg [oV 4 (ki 0)] (.blk 0 (.lop (.seq (rg [oM 8 4,oM 9 0,oN 10 9,oB 11 .lss 8 10] (.cnd (.t 11) .skip (.ext 0))) (.seq (.blk 1 (.seq (.drw [oW 15 4 3,oM 16 0,oM 17 4,oI 18 17 16 17,oW 19 17 18,oD 20 44 15 19,oM 14 20,o 21 (.ext 0 (.t 14)),o 22 (.ext 1 (.t 14)),o 5 (.new [.nilS,.nilS,.nilS,.nilS])] [oS 4 5 21,oM 6 22]) (.seq (rg [oM 23 6,o 24 (.bin .neq (.t 23) (ki 0))] (.cnd (.t 24) (rg [oV 2 kf] .ret) .skip)) (.reg [oW 25 4 5,oS 4 3 25])))) (.reg [oM 12 4,oZ 13 12 1,oM 4 13])))))) (rg [oV 2 kt] .ret))))⟩
abbrev Af7:Nat:=42
def Af8:Fn1:=⟨25,[.t 2],(rg [oV 2 kf] (rg [o 8 (.call 127 []),o 3 (.new [.nilS,.nilS,.nilS,.nilS]),oS 4 3 8] (.seq (rg [oM 9 0,oN 10 9,oV 11 (ki 0)] (.blk 0 (.lop (rg [oB 12 .lss 11 10] (.seq (.cnd (.t 12) .skip (.ext 0)) (.seq (.blk 1 (rg [oI 13 17 9 11,oW 14 17 13,o 5 (.new [(.bool false),z0,z0,z0,.nilS,z0,(.str ⟨#[]⟩),(.str ⟨#[]⟩),z0,z0,z0,.nilS,.nilS,.nilS,.nilS,.nilS,.nilS]),oS 17 5 14] (rg [oW 16 4 3,oW 17 17 5,oD 18 164 16 17,oM 15 18,o 19 (.ext 0 (.t 15)),o 20 (.ext 1 (.t 15)),o 6 (.new [.nilS,.nilS,.nilS,.nilS]),oS 4 6 19,oM 7 20] (.seq (rg [oM 21 7,o 22 (.bin .neq (.t 21) (ki 0))] (.cnd (.t 22) (rg [oV 2 kf] .ret) .skip)) (.reg [oW 23 4 6,oS 4 3 23]))))) (.reg [oZ 24 11 1,oM 11 24]))))))) (rg [oV 2 kt] .ret))))⟩
abbrev zeU:List GV:=[.bool false,gi 0,gi 0,gi 0,.nilS,gi 0,.str ⟨#[]⟩,.str ⟨#[]⟩,gi 0,gi 0,gi 0,.nilS,.nilS,.nilS,.nilS,.nilS,.nilS]
def Af9 (s:State) (u:Unit_):State×Int:=if u.batch then Ai7 s u.delta else A5k s u.act
def st0:State:=⟨[0,0,0],[],[],[]⟩
theorem X4 (σ:St):∃ r τ,Ret Tryz.prog Kw [] σ (.agg r) τ∧Hp σ τ [own A9 r st0]:=by
 have key:∃ q τ,Ret Tryz.prog Kw [] σ q τ∧∃ r,q= .agg r∧Hp σ τ [own A9 r st0]:=by
  refine Lv A0z (Z0z rfl) (Hx.refl σ) ?_
  simp +contextual (disch:=omega) only[go_sem,Rj]
  intro n f τ H
  obtain⟨kv,τ1,R1,K1⟩:=A08 τ
  refine by_c H R1 K1 fun H1=> ?_
  have ck:=(H1.hp.sl 0 rfl).cell
  simp +contextual (disch:=omega) only[go_sem,ck]
  intro τ2 H2
  exact⟨_,rfl,_,rfl,Hp.ownState (x:=st0) (((((H2.sel [0] (by decide)).nilS (d:=Ae.kd)).nilS (d:=Ai.kd)).nilS (d:=Ab.kd)).sel [3,0,1,2] (by decide))⟩
 obtain⟨q,τ,R,r,rfl,h⟩:=key
 exact⟨r,τ,R,h⟩
theorem X5 (σ:St):∃ r τ,Ret Tryz.prog Ky [] σ (.agg r) τ∧Hp σ τ [own A9 r st0]:=by
 have key:∃ q τ,Ret Tryz.prog Ky [] σ q τ∧∃ r,q= .agg r∧Hp σ τ [own A9 r st0]:=by
  refine Lv A10 (Z0z rfl) (Hx.refl σ) ?_
  simp +contextual (disch:=omega) only[go_sem,Rk]
  intro n f τ H
  obtain⟨kv,τ1,R1,K1⟩:=A09 τ
  refine by_c H R1 K1 fun H1=> ?_
  have ck:=(H1.hp.sl 0 rfl).cell
  simp +contextual (disch:=omega) only[go_sem,ck]
  intro τ2 H2
  exact⟨_,rfl,_,rfl,Hp.ownState (x:=st0) (((((H2.sel [0] (by decide)).nilS (d:=Ae.kd)).nilS (d:=Ai.kd)).nilS (d:=Ab.kd)).sel [3,0,1,2] (by decide))⟩
 obtain⟨q,τ,R,r,rfl,h⟩:=key
 exact⟨r,τ,R,h⟩
def runU (us:List Unit_):Nat→Option State
 |0=>some st0
 |i+1=>(runU us i).bind fun s=>if h:i<us.length then(if (Af9 s us[i]).2=0 then some (Af9 s us[i]).1 else none) else some s
def mayStand (us:List Unit_):Bool:=(runU us us.length).isSome
end
section
open Go Go.RowKit
abbrev A3m:Nat:=151
def A3n:Fn1:=⟨11,[.c 2 true 2],(rg [oX 1 0,o 2 (.new [z0,z0])] (rg [o 3 (.new [z0,z0])] (rg [oF 4 0 1,oL 5 4,oF 6 0 3,oS 1 6 5] (rg [oF 7 1 1,oL 8 7,oF 9 1 3,oS 1 9 8] (rg [oW 10 2 3,oS 2 2 10] .ret)))))⟩
theorem A8f:A8 Tryz.prog A3m=some A3n:=by kernel_rfl
theorem Je (σ:St) (x:Dot):Ret Tryz.prog A3m [.agg [.int .i64 x.rep,.int .i64 x.seq]] σ (.agg [.int .i64 x.rep,.int .i64 x.seq]) σ:=by
 refine Al A8f (Z0z rfl) (by simp[vLt,cLt,sLt]) ?_
 simp +contextual (disch:=omega) only[go_sem,A3n]
end
section
open Go Go.RowKit
abbrev Yq:Nat:=147
def Yr:Fn1:=⟨22,[.t 2],(rg [o 2 (.mov (.k .nilS))] (rg [oM 5 0,oN 6 5,o 7 (.mks 1 8 [z0] (.t 6) (.t 6)),oM 3 7] (.seq (rg [oV 4 (ki 0)] (.blk 0 (.lop (.seq (rg [oM 8 4,oM 9 0,oN 10 9,oB 11 .lss 8 10] (.cnd (.t 11) .skip (.ext 0))) (.seq (.blk 1 (.reg [oM 14 3,oM 15 4,oM 16 0,oM 17 4,oI 18 1 16 17,oL 19 18,oI 20 1 14 15,oS 1 20 19])) (.reg [oM 12 4,oZ 13 12 1,oM 4 13])))))) (rg [oM 21 3,oM 2 21] .ret))))⟩
theorem A5s:A8 Tryz.prog Yq=some Yr:=by kernel_rfl
theorem Rl (σ:St) (v:GV) (l:List Int) (hR:RS pI.kd σ v l) (hl:l.length≤1099511627776):∃ r τ,Ret Tryz.prog Yq [v] σ r τ∧Hp σ τ [ow pI.kd r l]:=by
 refine Nf (rs:=fun r=>[ow pI.kd r l]) A5s (Z0z rfl) ?_
 have hmk:∀ ze,mksG 1 8 ze σ (some l.length) (some l.length)=some (.sl σ.length 0 l.length,σ++[some (.row 1 (reps l.length ze))]):=fun ze=>Xw (by omega)
 simp +contextual (disch:=omega) only[go_sem,Yr,hR.len,hmk]
 have H0:=((Hp.refl σ).new 1 (reps l.length (pI.enc 0))).toRow 0 (p:=pI) rfl (List.replicate l.length 0) rfl (T6 _ _ _) l.length (by simp)
 refine B4 l.length 4 (fun i env τ=>env 0=v∧env 3= .sl σ.length 0 l.length∧Hp σ τ [ow pI.kd (.sl σ.length 0 l.length) (l.take i++List.replicate (l.length - i) 0)]) rfl ⟨rfl,rfl,by rw[List.take_zero,List.nil_append,Nat.sub_zero];exact H0⟩ ?_ ?_
 ·rintro i env τ hi e4 c0 ⟨e0,e3,H⟩
  have h1:=hR.pre H.sub
  have h2:=H.sl 0 rfl
  have hj:=T7 (z:=(0:Int)) hi
  obtain⟨τ',es,H'⟩:=H.stw 0 rfl hj 1 (.int .i64 l[i]) l[i] rfl rfl (by decide)
  rw[Ng hi] at H'
  have es:stG 1 τ (atz 1 (.sl σ.length 0 l.length) i) (.int .i64 l[i])=some (.tup [],τ'):=es
  simp +contextual (disch:=omega) only[go_sem,e0,e3,e4,c0,hR.len,Db h1 hi,Db h2 hj,es]
  exact H'
 ·rintro env τ e4 c0 ⟨e0,e3,H⟩
  rw[T8] at H
  simp +contextual (disch:=omega) only[go_sem,e0,e3,e4,c0,hR.len]
  exact⟨_,rfl,H⟩
end
section
open Go Go.RowKit
abbrev n_l_toAct:Nat:=31
def F_l_toAct:Fn1:=⟨32,[.c 2 true 10],(rg [oX 1 0,o 2 (.new [z0,z0,z0,.nilS,z0,(.str ⟨#[]⟩),(.str ⟨#[]⟩),z0,z0,z0])] (rg [o 3 (.new [z0,z0,z0,.nilS,z0,(.str ⟨#[]⟩),(.str ⟨#[]⟩),z0,z0,z0])] (rg [oF 4 0 1,oW 5 2 4,oC 6 151 5,oF 7 0 3,oS 2 7 6] (rg [oF 8 2 1,oL 9 8,oF 10 2 3,oS 1 10 9] (rg [oF 11 3 1,oL 12 11,oC 13 147 12,oF 14 3 3,oS 1 14 13] (rg [oF 15 4 1,oL 16 15,oF 17 4 3,oS 1 17 16] (rg [oF 18 5 1,oL 19 18,oF 20 5 3,oS 1 20 19] (rg [oF 21 6 1,oL 22 21,oF 23 6 3,oS 1 23 22] (rg [oF 24 7 1,oL 25 24,oF 26 7 3,oS 1 26 25] (rg [oF 27 8 1,oW 28 2 27,oC 29 151 28,oF 30 8 3,oS 2 30 29] (rg [oW 31 10 3,oS 10 2 31] .ret)))))))))))⟩
end
section
open Go Go.RowKit
abbrev Ys:Nat:=254
def Yt:Fn1:=⟨25,[.c 2 true 8],(rg [oX 1 0,o 2 (.new [(.str ⟨#[]⟩),z0,z0,z0,z0,z0,z0,(.bool false)])] (rg [o 3 (.new [(.str ⟨#[]⟩),z0,z0,z0,z0,z0,z0,(.bool false)])] (rg [oF 4 0 1,oL 5 4,oF 6 0 3,oS 1 6 5] (rg [oF 7 1 1,oW 8 2 7,oC 9 151 8,oF 10 1 3,oS 2 10 9] (rg [oF 11 3 1,oL 12 11,oF 13 3 3,oS 1 13 12] (rg [oF 14 4 1,oW 15 2 14,oC 16 151 15,oF 17 4 3,oS 2 17 16] (rg [oF 18 6 1,oL 19 18,oF 20 6 3,oS 1 20 19] (rg [oF 21 7 1,oL 22 21,oF 23 7 3,oS 1 23 22] (rg [oW 24 8 3,oS 8 2 24] .ret)))))))))⟩
theorem A5t:A8 Tryz.prog Ys=some Yt:=by kernel_rfl
theorem A3o (σ:St) (x:Cell):Ret Tryz.prog Ys [.agg [.str x.obj,.int .i64 x.dot.rep,.int .i64 x.dot.seq,.int .i64 x.time,.int .i64 x.ref.rep,.int .i64 x.ref.seq,.int .i64 x.val,.bool x.gone]] σ (.agg [.str x.obj,.int .i64 x.dot.rep,.int .i64 x.dot.seq,.int .i64 x.time,.int .i64 x.ref.rep,.int .i64 x.ref.seq,.int .i64 x.val,.bool x.gone]) σ:=by
 refine Al A5t (Z0z rfl) (by simp[vLt,cLt,sLt]) ?_
 simp +contextual (disch:=omega) only[go_sem,Yt]
 refine Ac (Je _ x.dot) ?_
 simp +contextual (disch:=omega) only[go_sem,List.append_nil]
 refine Ac (Je _ x.ref) ?_
 simp +contextual (disch:=omega) only[go_sem,List.append_nil]
end
section
open Go Go.RowKit
abbrev V7:Nat:=150
def V8:Fn1:=⟨23,[.t 2],(rg [o 2 (.mov (.k .nilS))] (rg [oM 5 0,oN 6 5,o 7 (.mks 8 72 [(.str ⟨#[]⟩),z0,z0,z0,z0,z0,z0,(.bool false)] (.t 6) (.t 6)),oM 3 7] (.seq (rg [oV 4 (ki 0)] (.blk 0 (.lop (.seq (rg [oM 8 4,oM 9 0,oN 10 9,oB 11 .lss 8 10] (.cnd (.t 11) .skip (.ext 0))) (.seq (.blk 1 (.reg [oM 14 3,oM 15 4,oM 16 0,oM 17 4,oI 18 8 16 17,oW 19 8 18,oC 20 254 19,oI 21 8 14 15,oS 8 21 20])) (.reg [oM 12 4,oZ 13 12 1,oM 4 13])))))) (rg [oM 22 3,oM 2 22] .ret))))⟩
theorem A3p:A8 Tryz.prog V7=some V8:=by kernel_rfl
theorem A11 (σ:St) (v:GV) (l:List Cell) (hR:RS Ae.kd σ v l) (hl:l.length≤1099511627776):∃ r τ,Ret Tryz.prog V7 [v] σ r τ∧Hp σ τ [ow Ae.kd r l]:=by
 refine Nf (rs:=fun r=>[ow Ae.kd r l]) A3p (Z0z rfl) ?_
 have hmk:∀ ze,mksG 8 72 ze σ (some l.length) (some l.length)=some (.sl σ.length 0 l.length,σ++[some (.row 8 (reps l.length ze))]):=fun ze=>Xw (by omega)
 simp +contextual (disch:=omega) only[go_sem,V8,hR.len,hmk]
 have H0:=((Hp.refl σ).new 8 (reps l.length (Ae.enc ⟨⟨#[]⟩,⟨0,0⟩,0,⟨0,0⟩,0,false⟩))).toRow 0 (p:=Ae) rfl (List.replicate l.length ⟨⟨#[]⟩,⟨0,0⟩,0,⟨0,0⟩,0,false⟩) rfl (T6 _ _ _) l.length (by simp)
 refine B4 l.length 4 (fun i env τ=>env 0=v∧env 3= .sl σ.length 0 l.length∧Hp σ τ [ow Ae.kd (.sl σ.length 0 l.length) (l.take i++List.replicate (l.length - i) ⟨⟨#[]⟩,⟨0,0⟩,0,⟨0,0⟩,0,false⟩)]) rfl ⟨rfl,rfl,by rw[List.take_zero,List.nil_append,Nat.sub_zero];exact H0⟩ ?_ ?_
 ·rintro i env τ hi e4 c0 ⟨e0,e3,H⟩
  have h1:=hR.pre H.sub
  have h2:=H.sl 0 rfl
  have hj:=T7 (z:=(⟨⟨#[]⟩,⟨0,0⟩,0,⟨0,0⟩,0,false⟩:Cell)) hi
  simp +contextual (disch:=omega) only[go_sem,e0,e3,e4,c0,hR.len,A7 h1 hi]
  refine Ac (A3o τ l[i]) ?_
  obtain⟨τ',es,H'⟩:=H.stw 0 rfl hj 8 (.agg [.str l[i].obj,.int .i64 l[i].dot.rep,.int .i64 l[i].dot.seq,.int .i64 l[i].time,.int .i64 l[i].ref.rep,.int .i64 l[i].ref.seq,.int .i64 l[i].val,.bool l[i].gone]) l[i] rfl rfl (by decide)
  rw[Ng hi] at H'
  have es:stG 8 τ (atz 8 (.sl σ.length 0 l.length) i) (.agg [.str l[i].obj,.int .i64 l[i].dot.rep,.int .i64 l[i].dot.seq,.int .i64 l[i].time,.int .i64 l[i].ref.rep,.int .i64 l[i].ref.seq,.int .i64 l[i].val,.bool l[i].gone])=some (.tup [],τ'):=es
  simp +contextual (disch:=omega) only[go_sem,e0,e3,e4,c0,hR.len,A7 h1 hi,A7 h2 hj,es]
  exact H'
 ·rintro env τ e4 c0 ⟨e0,e3,H⟩
  rw[T8] at H
  simp +contextual (disch:=omega) only[go_sem,e0,e3,e4,c0,hR.len]
  exact⟨_,rfl,H⟩
end
section
open Go Go.RowKit
abbrev n_l_toDotS:Nat:=305
def F_l_toDotS:Fn1:=⟨23,[.t 2],(rg [o 2 (.mov (.k .nilS))] (rg [oM 5 0,oN 6 5,o 7 (.mks 2 16 [z0,z0] (.t 6) (.t 6)),oM 3 7] (.seq (rg [oV 4 (ki 0)] (.blk 0 (.lop (.seq (rg [oM 8 4,oM 9 0,oN 10 9,oB 11 .lss 8 10] (.cnd (.t 11) .skip (.ext 0))) (.seq (.blk 1 (.reg [oM 14 3,oM 15 4,oM 16 0,oM 17 4,oI 18 2 16 17,oW 19 2 18,oC 20 151 19,oI 21 2 14 15,oS 2 21 20])) (.reg [oM 12 4,oZ 13 12 1,oM 4 13])))))) (rg [oM 22 3,oM 2 22] .ret))))⟩
end
section
open Go Go.RowKit
abbrev Yu:Nat:=253
def Yv:Fn1:=⟨21,[.c 2 true 6],(rg [oX 1 0,o 2 (.new [(.bool false),(.str ⟨#[]⟩),(.str ⟨#[]⟩),z0,z0,z0])] (rg [o 3 (.new [(.bool false),(.str ⟨#[]⟩),(.str ⟨#[]⟩),z0,z0,z0])] (rg [oF 4 0 1,oL 5 4,oF 6 0 3,oS 1 6 5] (rg [oF 7 1 1,oL 8 7,oF 9 1 3,oS 1 9 8] (rg [oF 10 2 1,oL 11 10,oF 12 2 3,oS 1 12 11] (rg [oF 13 3 1,oL 14 13,oF 15 3 3,oS 1 15 14] (rg [oF 16 4 1,oW 17 2 16,oC 18 151 17,oF 19 4 3,oS 2 19 18] (rg [oW 20 6 3,oS 6 2 20] .ret))))))))⟩
theorem A5u:A8 Tryz.prog Yu=some Yv:=by kernel_rfl
theorem A3q (σ:St) (x:Live):Ret Tryz.prog Yu [.agg [.bool x.map,.str x.obj,.str x.key,.int .i64 x.val,.int .i64 x.dot.rep,.int .i64 x.dot.seq]] σ (.agg [.bool x.map,.str x.obj,.str x.key,.int .i64 x.val,.int .i64 x.dot.rep,.int .i64 x.dot.seq]) σ:=by
 refine Al A5u (Z0z rfl) (by simp[vLt,cLt,sLt]) ?_
 simp +contextual (disch:=omega) only[go_sem,Yv]
 refine Ac (Je _ x.dot) ?_
 simp +contextual (disch:=omega) only[go_sem,List.append_nil]
end
section
open Go Go.RowKit
abbrev V9:Nat:=149
def Va:Fn1:=⟨23,[.t 2],(rg [o 2 (.mov (.k .nilS))] (rg [oM 5 0,oN 6 5,o 7 (.mks 6 64 [(.bool false),(.str ⟨#[]⟩),(.str ⟨#[]⟩),z0,z0,z0] (.t 6) (.t 6)),oM 3 7] (.seq (rg [oV 4 (ki 0)] (.blk 0 (.lop (.seq (rg [oM 8 4,oM 9 0,oN 10 9,oB 11 .lss 8 10] (.cnd (.t 11) .skip (.ext 0))) (.seq (.blk 1 (.reg [oM 14 3,oM 15 4,oM 16 0,oM 17 4,oI 18 6 16 17,oW 19 6 18,oC 20 253 19,oI 21 6 14 15,oS 6 21 20])) (.reg [oM 12 4,oZ 13 12 1,oM 4 13])))))) (rg [oM 22 3,oM 2 22] .ret))))⟩
theorem A3r:A8 Tryz.prog V9=some Va:=by kernel_rfl
theorem A12 (σ:St) (v:GV) (l:List Live) (hR:RS Ai.kd σ v l) (hl:l.length≤1099511627776):∃ r τ,Ret Tryz.prog V9 [v] σ r τ∧Hp σ τ [ow Ai.kd r l]:=by
 refine Nf (rs:=fun r=>[ow Ai.kd r l]) A3r (Z0z rfl) ?_
 have hmk:∀ ze,mksG 6 64 ze σ (some l.length) (some l.length)=some (.sl σ.length 0 l.length,σ++[some (.row 6 (reps l.length ze))]):=fun ze=>Xw (by omega)
 simp +contextual (disch:=omega) only[go_sem,Va,hR.len,hmk]
 have H0:=((Hp.refl σ).new 6 (reps l.length (Ai.enc ⟨false,⟨#[]⟩,⟨#[]⟩,0,⟨0,0⟩⟩))).toRow 0 (p:=Ai) rfl (List.replicate l.length ⟨false,⟨#[]⟩,⟨#[]⟩,0,⟨0,0⟩⟩) rfl (T6 _ _ _) l.length (by simp)
 refine B4 l.length 4 (fun i env τ=>env 0=v∧env 3= .sl σ.length 0 l.length∧Hp σ τ [ow Ai.kd (.sl σ.length 0 l.length) (l.take i++List.replicate (l.length - i) ⟨false,⟨#[]⟩,⟨#[]⟩,0,⟨0,0⟩⟩)]) rfl ⟨rfl,rfl,by rw[List.take_zero,List.nil_append,Nat.sub_zero];exact H0⟩ ?_ ?_
 ·rintro i env τ hi e4 c0 ⟨e0,e3,H⟩
  have h1:=hR.pre H.sub
  have h2:=H.sl 0 rfl
  have hj:=T7 (z:=(⟨false,⟨#[]⟩,⟨#[]⟩,0,⟨0,0⟩⟩:Live)) hi
  simp +contextual (disch:=omega) only[go_sem,e0,e3,e4,c0,hR.len,A6 h1 hi]
  refine Ac (A3q τ l[i]) ?_
  obtain⟨τ',es,H'⟩:=H.stw 0 rfl hj 6 (.agg [.bool l[i].map,.str l[i].obj,.str l[i].key,.int .i64 l[i].val,.int .i64 l[i].dot.rep,.int .i64 l[i].dot.seq]) l[i] rfl rfl (by decide)
  rw[Ng hi] at H'
  have es:stG 6 τ (atz 6 (.sl σ.length 0 l.length) i) (.agg [.bool l[i].map,.str l[i].obj,.str l[i].key,.int .i64 l[i].val,.int .i64 l[i].dot.rep,.int .i64 l[i].dot.seq])=some (.tup [],τ'):=es
  simp +contextual (disch:=omega) only[go_sem,e0,e3,e4,c0,hR.len,A6 h1 hi,A6 h2 hj,es]
  exact H'
 ·rintro env τ e4 c0 ⟨e0,e3,H⟩
  rw[T8] at H
  simp +contextual (disch:=omega) only[go_sem,e0,e3,e4,c0,hR.len]
  exact⟨_,rfl,H⟩
end
section
open Go Go.RowKit
abbrev Vb:Nat:=252
def Vc:Fn1:=⟨14,[.c 2 true 3],(rg [oX 1 0,o 2 (.new [(.str ⟨#[]⟩),z0,z0])] (rg [o 3 (.new [(.str ⟨#[]⟩),z0,z0])] (rg [oF 4 0 1,oL 5 4,oF 6 0 3,oS 1 6 5] (rg [oF 7 1 1,oL 8 7,oF 9 1 3,oS 1 9 8] (rg [oF 10 2 1,oL 11 10,oF 12 2 3,oS 1 12 11] (rg [oW 13 3 3,oS 3 2 13] .ret))))))⟩
theorem A3s:A8 Tryz.prog Vb=some Vc:=by kernel_rfl
theorem A13 (σ:St) (x:Tally):Ret Tryz.prog Vb [.agg [.str x.obj,.int .i64 x.rep,.int .i64 x.sum]] σ (.agg [.str x.obj,.int .i64 x.rep,.int .i64 x.sum]) σ:=by
 refine Al A3s (Z0z rfl) (by simp[vLt,cLt,sLt]) ?_
 simp +contextual (disch:=omega) only[go_sem,Vc]
end
section
open Go Go.RowKit
abbrev Rm:Nat:=148
def Rn:Fn1:=⟨23,[.t 2],(rg [o 2 (.mov (.k .nilS))] (rg [oM 5 0,oN 6 5,o 7 (.mks 3 32 [(.str ⟨#[]⟩),z0,z0] (.t 6) (.t 6)),oM 3 7] (.seq (rg [oV 4 (ki 0)] (.blk 0 (.lop (.seq (rg [oM 8 4,oM 9 0,oN 10 9,oB 11 .lss 8 10] (.cnd (.t 11) .skip (.ext 0))) (.seq (.blk 1 (.reg [oM 14 3,oM 15 4,oM 16 0,oM 17 4,oI 18 3 16 17,oW 19 3 18,oC 20 252 19,oI 21 3 14 15,oS 3 21 20])) (.reg [oM 12 4,oZ 13 12 1,oM 4 13])))))) (rg [oM 22 3,oM 2 22] .ret))))⟩
theorem A14:A8 Tryz.prog Rm=some Rn:=by kernel_rfl
theorem X6 (σ:St) (v:GV) (l:List Tally) (hR:RS Ab.kd σ v l) (hl:l.length≤1099511627776):∃ r τ,Ret Tryz.prog Rm [v] σ r τ∧Hp σ τ [ow Ab.kd r l]:=by
 refine Nf (rs:=fun r=>[ow Ab.kd r l]) A14 (Z0z rfl) ?_
 have hmk:∀ ze,mksG 3 32 ze σ (some l.length) (some l.length)=some (.sl σ.length 0 l.length,σ++[some (.row 3 (reps l.length ze))]):=fun ze=>Xw (by omega)
 simp +contextual (disch:=omega) only[go_sem,Rn,hR.len,hmk]
 have H0:=((Hp.refl σ).new 3 (reps l.length (Ab.enc ⟨⟨#[]⟩,0,0⟩))).toRow 0 (p:=Ab) rfl (List.replicate l.length ⟨⟨#[]⟩,0,0⟩) rfl (T6 _ _ _) l.length (by simp)
 refine B4 l.length 4 (fun i env τ=>env 0=v∧env 3= .sl σ.length 0 l.length∧Hp σ τ [ow Ab.kd (.sl σ.length 0 l.length) (l.take i++List.replicate (l.length - i) ⟨⟨#[]⟩,0,0⟩)]) rfl ⟨rfl,rfl,by rw[List.take_zero,List.nil_append,Nat.sub_zero];exact H0⟩ ?_ ?_
 ·rintro i env τ hi e4 c0 ⟨e0,e3,H⟩
  have h1:=hR.pre H.sub
  have h2:=H.sl 0 rfl
  have hj:=T7 (z:=(⟨⟨#[]⟩,0,0⟩:Tally)) hi
  simp +contextual (disch:=omega) only[go_sem,e0,e3,e4,c0,hR.len,Aa h1 hi]
  refine Ac (A13 τ l[i]) ?_
  obtain⟨τ',es,H'⟩:=H.stw 0 rfl hj 3 (.agg [.str l[i].obj,.int .i64 l[i].rep,.int .i64 l[i].sum]) l[i] rfl rfl (by decide)
  rw[Ng hi] at H'
  have es:stG 3 τ (atz 3 (.sl σ.length 0 l.length) i) (.agg [.str l[i].obj,.int .i64 l[i].rep,.int .i64 l[i].sum])=some (.tup [],τ'):=es
  simp +contextual (disch:=omega) only[go_sem,e0,e3,e4,c0,hR.len,Aa h1 hi,Aa h2 hj,es]
  exact H'
 ·rintro env τ e4 c0 ⟨e0,e3,H⟩
  rw[T8] at H
  simp +contextual (disch:=omega) only[go_sem,e0,e3,e4,c0,hR.len]
  exact⟨_,rfl,H⟩
end
section
open Go Go.RowKit
abbrev Aid:Nat:=224
def Aie:Fn1:=⟨29,[.c 2 true 6],(rg [oX 1 0,o 2 (.new [.nilS,.nilS,.nilS,.nilS,.nilS,.nilS])] (rg [o 3 (.new [.nilS,.nilS,.nilS,.nilS,.nilS,.nilS])] (rg [oF 4 0 1,oL 5 4,oC 6 147 5,oF 7 0 3,oS 1 7 6] (rg [oF 8 1 1,oL 9 8,oC 10 147 9,oF 11 1 3,oS 1 11 10] (rg [oF 12 2 1,oL 13 12,oC 14 148 13,oF 15 2 3,oS 1 15 14] (rg [oF 16 3 1,oL 17 16,oC 18 149 17,oF 19 3 3,oS 1 19 18] (rg [oF 20 4 1,oL 21 20,oC 22 305 21,oF 23 4 3,oS 1 23 22] (rg [oF 24 5 1,oL 25 24,oC 26 150 25,oF 27 5 3,oS 1 27 26] (rg [oW 28 6 3,oS 6 2 28] .ret)))))))))⟩
end
section
open Go Go.RowKit
abbrev n_l_toUnit:Nat:=100
def F_l_toUnit:Fn1:=⟨16,[.c 2 true 17],(rg [oX 1 0,o 2 (.new [(.bool false),z0,z0,z0,.nilS,z0,(.str ⟨#[]⟩),(.str ⟨#[]⟩),z0,z0,z0,.nilS,.nilS,.nilS,.nilS,.nilS,.nilS])] (rg [o 3 (.new [(.bool false),z0,z0,z0,.nilS,z0,(.str ⟨#[]⟩),(.str ⟨#[]⟩),z0,z0,z0,.nilS,.nilS,.nilS,.nilS,.nilS,.nilS])] (rg [oF 4 0 1,oL 5 4,oF 6 0 3,oS 1 6 5] (rg [oF 7 1 1,oW 8 10 7,oC 9 31 8,oF 10 1 3,oS 10 10 9] (rg [oF 11 11 1,oW 12 6 11,oC 13 224 12,oF 14 11 3,oS 6 14 13] (rg [oW 15 17 3,oS 17 2 15] .ret))))))⟩
end
section
open Go Go.RowKit
theorem I5 {fps:List (List Nat)} {j:Nat} {fx:List Nat} {g:Nat} (h:g∈(fps.set j fx).flatten):g∈fps.flatten∨g∈fx:=by
 obtain⟨f,hf,hg⟩:=List.mem_flatten.1 h
 rcases List.mem_or_eq_of_mem_set hf with h1|h1
 ·exact .inl (List.mem_flatten.2 ⟨f,h1,hg⟩)
 ·exact .inr (h1 ▸ hg)
theorem M8:∀ {fps:List (List Nat)} {j:Nat} {fx:List Nat},fps.flatten.Nodup→fx.Nodup→(∀ g∈fx,g∉fps.flatten)→(fps.set j fx).flatten.Nodup
 |[],j,fx,_,_,_=>by simp
 |f::fps,0,fx,h,hx,hd=>by
  rw[List.flatten_cons,List.nodup_append] at h
  rw[List.set_cons_zero,List.flatten_cons,List.nodup_append]
  refine⟨hx,h.2.1,fun a ha b hb e=> ?_⟩
  subst e
  exact hd a ha (by rw[List.flatten_cons];exact List.mem_append_right _ hb)
 |f::fps,j+1,fx,h,hx,hd=>by
  rw[List.flatten_cons,List.nodup_append] at h
  rw[List.set_cons_succ,List.flatten_cons,List.nodup_append]
  refine⟨h.1,M8 h.2.1 hx fun g hg hm=>hd g hg (by rw[List.flatten_cons];exact List.mem_append_right _ hm),fun a ha b hb e=> ?_⟩
  subst e
  rcases I5 hb with h1|h1
  ·exact h.2.2 a ha a h1 rfl
  ·exact hd a h1 (by rw[List.flatten_cons];exact List.mem_append_left _ ha)
section os
variable {α:Type} {d:Kd α} {σ τ:St} {l:List α} {v:GV} {fp:List Nat}
theorem A6y {css:List (List GV)} {fps:List (List Nat)} (h:All3 (d.O τ) l css fps):∀ c∈css,c.length=d.z:=by
 induction h with
 |nil=>simp
 |cons h _ ih=>
  intro c hc
  rcases List.mem_cons.1 hc with rfl|hc
  ·exact d.len (d.rd h)
  ·exact ih c hc
theorem OS.setc {x:α} {cs:List GV} {fx:List Nat} (h:OS d τ l v fp) (hx:d.O τ x cs fx) (hn:(fp++fx).Nodup) (hlt:∀ g∈fp++fx,g<τ.length) (hz:0<d.z) {j:Nat} (hj:j<l.length):
  ∃ τ' fp',stG d.z τ (atz d.z v j) (.agg cs)=some (.tup [],τ')∧OS d τ' (l.set j x) v fp'∧Turn τ τ' (fp++fx) fp':=by
 have hcl:=d.len (d.rd hx)
 rcases h with⟨rfl,rfl,rfl⟩|⟨g,pre,css,post,fps,rfl,hB,hA,rfl⟩
 ·simp at hj
 ·rw[List.cons_append,List.nodup_cons] at hn
  obtain⟨hg,hn⟩:=hn
  rw[List.nodup_append] at hn
  have hgt:g<τ.length:=hlt g (by simp)
  have hfl:=T5 hA
  obtain⟨c,f,hc,_,_⟩:=hA.get (j:=j) (a:=l[j]) (by simp[hj])
  have hcz:=A6y hA c (List.mem_of_getElem? hc)
  have hm:(j+1)*d.z≤l.length*d.z:=Nat.mul_le_mul_right _ hj
  rw[Nat.add_mul,Nat.one_mul] at hm
  have e1:Ao css.flatten (j*d.z+0) cs=(css.set j cs).flatten:=by
   rw[Tq (A6y hA) hc (by omega)]
   congr 2
   unfold Ao
   rw[List.take_zero,List.nil_append,List.drop_eq_nil_of_le (by omega),List.append_nil]
  have e2:Ao (pre++css.flatten++post) (pre.length+(j*d.z+0)) cs=pre++(css.set j cs).flatten++post:=by
   rw[Lo (by omega),e1]
  have keep:∀ g',g'≠g→bk (τ.set g (some (.row d.z (pre++(css.set j cs).flatten++post)))) g'=bk τ g':=fun g' hne=>Eu (Ne.symm hne)
  refine⟨τ.set g (some (.row d.z (pre++(css.set j cs).flatten++post))),g::(fps.set j fx).flatten,?_,.inr ⟨g,pre,css.set j cs,post,fps.set j fx,by simp,Bg.2 (by rw[List.getElem?_set_self hgt]),?_,rfl⟩,⟨?_,?_,by simp,?_⟩⟩
  ·simp only[atz,stG,Bg.1 hB]
   rw[if_pos ⟨by simp only[List.length_append];omega,hz,hcl⟩]
   rw[Nat.add_zero] at e2
   rw[show (GV.agg cs).cells=cs from rfl,e2]
  ·refine(hA.set j hx).imp fun a b c hc ho=>d.loc ho fun g' hg'=>keep g' fun e=> ?_
   subst e
   rcases I5 (List.mem_flatten.2 ⟨c,hc,hg'⟩) with h1|h1
   ·exact hg (List.mem_append_left _ h1)
   ·exact hg (List.mem_append_right _ h1)
  ·rw[List.nodup_cons]
   refine⟨fun h1=> ?_,M8 hn.1 hn.2.1 fun g' h1 h2=>hn.2.2 g' h2 g' h1 rfl⟩
   rcases I5 h1 with h1|h1
   ·exact hg (List.mem_append_left _ h1)
   ·exact hg (List.mem_append_right _ h1)
  ·intro g' hg'
   refine .inl ?_
   rcases List.mem_cons.1 hg' with rfl|h1
   ·simp
   ·rcases I5 h1 with h1|h1
    ·simp only[List.cons_append,List.mem_cons,List.mem_append];exact .inr (.inl h1)
    ·simp only[List.cons_append,List.mem_cons,List.mem_append];exact .inr (.inr h1)
  ·intro g' hg' hne
   exact keep g' fun e=>hne (by rw[e];simp)
theorem OS.fresh {x0:α} {ze:List GV} {n len:Nat} (h0:∀ τ,d.O τ x0 ze []) (hB:bk τ n=some (.row d.z (reps len ze))):OS d τ (List.replicate len x0) (.sl n 0 len) [n]:=by
 refine .inr ⟨n,[],List.replicate len ze,[],List.replicate len [],by simp,by rw[hB];simp[reps],?_,?_⟩
 ·clear hB
  induction len with
  |zero=>exact .nil
  |succ k ih=>exact .cons (h0 τ) ih
 ·simp
end os
section rules
variable {P:Program} {D:Bool} {σ τ:St} {h:List Item} {k:Kx} {v:GV} {α:Type} {l:List α} {d:Kd α}
theorem Hx.mk {x0:α} {ze:List GV} {n len z:Nat} (H:Hx σ τ (.box z n (reps len ze)::h)) (d:Kd α) (hz:z=d.z) (h0:∀ τ,d.O τ x0 ze []):Hx σ τ (.th (ow d (.sl n 0 len) (List.replicate len x0))::h):=
 H.hp.conv fun fp hp=>by
  obtain⟨rfl,hB⟩:=hp
  exact OS.fresh h0 (hz ▸ hB)
theorem Aif {x:α} {cs:List GV} (H:Hx σ τ h) (m i:Nat) (hm:h[m]? =some (.th (own d cs x))) (hi:(h.eraseIdx m)[i]? =some (.th (ow d v l))) (hz:0<d.z) {j:Nat} (hj:j<l.length)
  (kk:∀ τ',Hx σ τ' ((h.eraseIdx m).set i (.th (ow d v (l.set j x))))→k (.tup []) ((h.eraseIdx m).set i (.th (ow d v (l.set j x)))) τ'):stX σ false h τ d.z k (atz d.z v j) (.agg cs):=by
 have H1:=H.hp.pick m (at_t hm)
 rw[Aan] at H1
 have hp:(own d cs x::(h.eraseIdx m).map Item.t).Perm (ow d v l::own d cs x::((h.eraseIdx m).map Item.t).eraseIdx i):=((Hp.pick_perm (at_t hi)).cons _).trans (List.Perm.swap _ _ _)
 obtain⟨a,⟨a1,a2,h1,h2,rfl⟩,hn,hbd,ht⟩:=(H1.perm hp).join.turn
 obtain⟨τ',fp',e,ho,hT⟩:=OS.setc h1 h2 hn (fun g hg=>(hbd g hg).2) hz hj
 have H':=Hp.unpick (ht (r':=ow d v (l.set j x)) hT ho) (List.getElem?_eq_some_iff.1 (at_t hi)).1
 rw[← A89] at H'
 have g:genX σ false τ (stG d.z τ (atz d.z v j) (.agg cs)) k:=⟨_,τ',_,e,(fun h=>by cases h),H',kk τ' H'⟩
 rcases h1 with⟨rfl,_⟩|⟨gb,pre,css,post,fps,rfl,hB,hA,rfl⟩
 ·simp at hj
 ·have hno:look h gb=none:=by
   obtain⟨i0,hi0⟩:∃ i0:Nat,h[i0]? =some (.th (ow d (.sl gb pre.length l.length) l)):=by
    have:=List.mem_of_getElem? hi
    have:=List.mem_of_mem_eraseIdx this
    obtain⟨i0,h1,h2⟩:=List.getElem_of_mem this
    exact⟨i0,by rw[List.getElem?_eq_getElem h1,h2]⟩
   refine Aax H hi0 fun fp'' ho'=> ?_
   rcases ho' with⟨rfl,_⟩|⟨g',pre',css',post',fps',e',_,_,rfl⟩
   ·simp at hj
   ·injection e' with e1;rw[e1];exact List.mem_cons_self
  show stB σ false h τ d.z k gb _ (.agg cs) (look h gb)
  rw[hno]
  exact g
end rules
end
section
open Go Go.RowKit
abbrev Aig:Nat:=13
def Aih:Fn1:=⟨23,[.t 2],(rg [o 2 (.mov (.k .nilS))] (rg [oM 5 0,oN 6 5,o 7 (.mks 17 264 [(.bool false),z0,z0,z0,.nilS,z0,(.str ⟨#[]⟩),(.str ⟨#[]⟩),z0,z0,z0,.nilS,.nilS,.nilS,.nilS,.nilS,.nilS] (.t 6) (.t 6)),oM 3 7] (.seq (rg [oV 4 (ki 0)] (.blk 0 (.lop (.seq (rg [oM 8 4,oM 9 0,oN 10 9,oB 11 .lss 8 10] (.cnd (.t 11) .skip (.ext 0))) (.seq (.blk 1 (.reg [oM 14 3,oM 15 4,oM 16 0,oM 17 4,oI 18 17 16 17,oW 19 17 18,oC 20 100 19,oI 21 17 14 15,oS 17 21 20])) (.reg [oM 12 4,oZ 13 12 1,oM 4 13])))))) (rg [oM 22 3,oM 2 22] .ret))))⟩
def act00:Act:=⟨⟨0,0⟩,0,[],0,⟨#[]⟩,⟨#[]⟩,0,⟨0,0⟩⟩
def unit0:Unit_:=⟨false,act00,⟨[],[],[],[],[],[]⟩⟩
abbrev zeA:List GV:=[gi 0,gi 0,gi 0,.nilS,gi 0,.str ⟨#[]⟩,.str ⟨#[]⟩,gi 0,gi 0,gi 0]
abbrev zeD:List GV:=[.nilS,.nilS,.nilS,.nilS,.nilS,.nilS]
end
section
open Go Go.RowKit
abbrev Afa:Nat:=220
def Afb:Fn1:=⟨44,[.t 2],(rg [oX 1 0,oV 2 kf] (rg [oF 3 0 1,oW 4 2 3,o 5 (.build [z0,z0] []),o 6 (.eqs false [.i .i64,.i .i64] (.t 4) (.t 5)),oM 7 6,og 8 7 true (.fad 2 (.t 1)),og 9 7 true (.ld false 1 (.t 8)),og 10 7 true (.bin .eql (.t 9) (ki 0)),o 11 (.pick (.t 7) (.t 10) kf),oM 12 11,og 13 12 true (.fad 3 (.t 1)),og 14 12 true (.ld false 1 (.t 13)),og 15 12 true (.len false (.t 14)),og 16 12 true (.bin .eql (.t 15) (ki 0)),o 17 (.pick (.t 12) (.t 16) kf),oM 18 17,og 19 18 true (.fad 4 (.t 1)),og 20 18 true (.ld false 1 (.t 19)),og 21 18 true (.bin .eql (.t 20) (ki 0)),o 22 (.pick (.t 18) (.t 21) kf),oM 23 22,og 24 23 true (.fad 5 (.t 1)),og 25 23 true (.ld false 1 (.t 24)),og 26 23 true (.bin .eql (.t 25) (.k (.str ⟨#[]⟩))),o 27 (.pick (.t 23) (.t 26) kf),oM 28 27,og 29 28 true (.fad 6 (.t 1)),og 30 28 true (.ld false 1 (.t 29)),og 31 28 true (.bin .eql (.t 30) (.k (.str ⟨#[]⟩))),o 32 (.pick (.t 28) (.t 31) kf),oM 33 32,og 34 33 true (.fad 7 (.t 1)),og 35 33 true (.ld false 1 (.t 34)),og 36 33 true (.bin .eql (.t 35) (ki 0)),o 37 (.pick (.t 33) (.t 36) kf),oM 38 37,og 39 38 true (.fad 8 (.t 1)),og 40 38 true (.ld true 2 (.t 39)),og 41 38 true (.build [z0,z0] []),og 42 38 true (.eqs false [.i .i64,.i .i64] (.t 40) (.t 41)),o 43 (.pick (.t 38) (.t 42) kf),oM 2 43] .ret))⟩
abbrev Abs:Nat:=221
def Abt:Fn1:=⟨37,[.t 2],(rg [oX 1 0,oV 2 kf] (rg [oF 3 0 1,oL 4 3,oN 5 4,o 6 (.bin .eql (.t 5) (ki 0)),oM 7 6,og 8 7 true (.fad 1 (.t 1)),og 9 7 true (.ld false 1 (.t 8)),og 10 7 true (.len false (.t 9)),og 11 7 true (.bin .eql (.t 10) (ki 0)),o 12 (.pick (.t 7) (.t 11) kf),oM 13 12,og 14 13 true (.fad 2 (.t 1)),og 15 13 true (.ld false 1 (.t 14)),og 16 13 true (.len false (.t 15)),og 17 13 true (.bin .eql (.t 16) (ki 0)),o 18 (.pick (.t 13) (.t 17) kf),oM 19 18,og 20 19 true (.fad 3 (.t 1)),og 21 19 true (.ld false 1 (.t 20)),og 22 19 true (.len false (.t 21)),og 23 19 true (.bin .eql (.t 22) (ki 0)),o 24 (.pick (.t 19) (.t 23) kf),oM 25 24,og 26 25 true (.fad 4 (.t 1)),og 27 25 true (.ld false 1 (.t 26)),og 28 25 true (.len false (.t 27)),og 29 25 true (.bin .eql (.t 28) (ki 0)),o 30 (.pick (.t 25) (.t 29) kf),oM 31 30,og 32 31 true (.fad 5 (.t 1)),og 33 31 true (.ld false 1 (.t 32)),og 34 31 true (.len false (.t 33)),og 35 31 true (.bin .eql (.t 34) (ki 0)),o 36 (.pick (.t 31) (.t 35) kf),oM 2 36] .ret))⟩
abbrev Aii:Nat:=226
def Aij:Fn1:=⟨59,[.t 4],(rg [oX 2 0,oX 3 1,oV 4 kf] (rg [oF 5 0 2,oW 6 2 5,oF 7 0 3,oW 8 2 7,o 9 (.eqs false [.i .i64,.i .i64] (.t 6) (.t 8)),oM 10 9,og 11 10 true (.fad 2 (.t 2)),og 12 10 true (.ld false 1 (.t 11)),og 13 10 true (.fad 2 (.t 3)),og 14 10 true (.ld false 1 (.t 13)),og 15 10 true (.bin .eql (.t 12) (.t 14)),o 16 (.pick (.t 10) (.t 15) kf),oM 17 16,og 18 17 true (.fad 3 (.t 2)),og 19 17 true (.ld false 1 (.t 18)),og 20 17 true (.fad 3 (.t 3)),og 21 17 true (.ld false 1 (.t 20)),og 22 17 true (.call 156 [(.t 19),(.t 21)]),o 23 (.pick (.t 17) (.t 22) kf),oM 24 23,og 25 24 true (.fad 4 (.t 2)),og 26 24 true (.ld false 1 (.t 25)),og 27 24 true (.fad 4 (.t 3)),og 28 24 true (.ld false 1 (.t 27)),og 29 24 true (.bin .eql (.t 26) (.t 28)),o 30 (.pick (.t 24) (.t 29) kf),oM 31 30,og 32 31 true (.fad 5 (.t 2)),og 33 31 true (.ld false 1 (.t 32)),og 34 31 true (.fad 5 (.t 3)),og 35 31 true (.ld false 1 (.t 34)),og 36 31 true (.bin .eql (.t 33) (.t 35)),o 37 (.pick (.t 31) (.t 36) kf),oM 38 37,og 39 38 true (.fad 6 (.t 2)),og 40 38 true (.ld false 1 (.t 39)),og 41 38 true (.fad 6 (.t 3)),og 42 38 true (.ld false 1 (.t 41)),og 43 38 true (.bin .eql (.t 40) (.t 42)),o 44 (.pick (.t 38) (.t 43) kf),oM 45 44,og 46 45 true (.fad 7 (.t 2)),og 47 45 true (.ld false 1 (.t 46)),og 48 45 true (.fad 7 (.t 3)),og 49 45 true (.ld false 1 (.t 48)),og 50 45 true (.bin .eql (.t 47) (.t 49)),o 51 (.pick (.t 45) (.t 50) kf),oM 52 51,og 53 52 true (.fad 8 (.t 2)),og 54 52 true (.ld true 2 (.t 53)),og 55 52 true (.fad 8 (.t 3)),og 56 52 true (.ld true 2 (.t 55)),og 57 52 true (.eqs false [.i .i64,.i .i64] (.t 54) (.t 56)),o 58 (.pick (.t 52) (.t 57) kf),oM 4 58] .ret))⟩
abbrev Adj:Nat:=227
def Adk:Fn1:=⟨45,[.t 4],(rg [oX 2 0,oX 3 1,oV 4 kf] (rg [oF 5 0 2,oL 6 5,oF 7 0 3,oL 8 7,oD 9 156 6 8,oM 10 9,og 11 10 true (.fad 1 (.t 2)),og 12 10 true (.ld false 1 (.t 11)),og 13 10 true (.fad 1 (.t 3)),og 14 10 true (.ld false 1 (.t 13)),og 15 10 true (.call 156 [(.t 12),(.t 14)]),o 16 (.pick (.t 10) (.t 15) kf),oM 17 16,og 18 17 true (.fad 2 (.t 2)),og 19 17 true (.ld false 1 (.t 18)),og 20 17 true (.fad 2 (.t 3)),og 21 17 true (.ld false 1 (.t 20)),og 22 17 true (.call 307 [(.t 19),(.t 21)]),o 23 (.pick (.t 17) (.t 22) kf),oM 24 23,og 25 24 true (.fad 3 (.t 2)),og 26 24 true (.ld false 1 (.t 25)),og 27 24 true (.fad 3 (.t 3)),og 28 24 true (.ld false 1 (.t 27)),og 29 24 true (.call 308 [(.t 26),(.t 28)]),o 30 (.pick (.t 24) (.t 29) kf),oM 31 30,og 32 31 true (.fad 4 (.t 2)),og 33 31 true (.ld false 1 (.t 32)),og 34 31 true (.fad 4 (.t 3)),og 35 31 true (.ld false 1 (.t 34)),og 36 31 true (.call 309 [(.t 33),(.t 35)]),o 37 (.pick (.t 31) (.t 36) kf),oM 38 37,og 39 38 true (.fad 5 (.t 2)),og 40 38 true (.ld false 1 (.t 39)),og 41 38 true (.fad 5 (.t 3)),og 42 38 true (.ld false 1 (.t 41)),og 43 38 true (.call 310 [(.t 40),(.t 42)]),o 44 (.pick (.t 38) (.t 43) kf),oM 4 44] .ret))⟩
abbrev Aik:Nat:=97
def Ail:Fn1:=⟨21,[.t 2],(rg [oX 1 0,oV 2 kf] (.seq (rg [oF 3 0 1,oL 4 3] (.cnd (.t 4) (rg [oF 5 11 1,oW 6 6 5,oC 7 219 6,oM 8 7,og 9 8 true (.fad 1 (.t 1)),og 10 8 true (.ld true 10 (.t 9)),og 11 8 true (.call 220 [(.t 10)]),o 12 (.pick (.t 8) (.t 11) kf),oM 2 12] .ret) .skip)) (rg [oF 13 1 1,oW 14 10 13,oC 15 185 14,oM 16 15,og 17 16 true (.fad 11 (.t 1)),og 18 16 true (.ld true 6 (.t 17)),og 19 16 true (.call 221 [(.t 18)]),o 20 (.pick (.t 16) (.t 19) kf),oM 2 20] .ret)))⟩
abbrev n_i_unitOk:Nat:=101
def F_i_unitOk:Fn1:=⟨23,[.t 2],(rg [oX 1 0,oV 2 kf] (.seq (rg [oF 3 0 1,oL 4 3] (.cnd (.t 4) (rg [oF 5 11 1,oW 6 6 5,oC 7 225 6,oM 8 7,og 9 8 true (.fad 1 (.t 1)),og 10 8 true (.ld true 10 (.t 9)),og 11 8 true (.build [z0,z0,z0,.nilS,z0,(.str ⟨#[]⟩),(.str ⟨#[]⟩),z0,z0,z0] []),og 12 8 true (.call 226 [(.t 10),(.t 11)]),o 13 (.pick (.t 8) (.t 12) kf),oM 2 13] .ret) .skip)) (rg [oF 14 1 1,oW 15 10 14,oC 16 169 15,oM 17 16,og 18 17 true (.fad 11 (.t 1)),og 19 17 true (.ld true 6 (.t 18)),og 20 17 true (.build [.nilS,.nilS,.nilS,.nilS,.nilS,.nilS] []),og 21 17 true (.call 227 [(.t 19),(.t 20)]),o 22 (.pick (.t 17) (.t 21) kf),oM 2 22] .ret)))⟩
abbrev Cf:Nat:=307
def Bd:Fn1:=⟨26,[.t 4],(rg [oV 4 kf] (.seq (rg [oM 6 0,oN 7 6,oM 8 1,oN 9 8,oB 10 .neq 7 9] (.cnd (.t 10) (rg [oV 4 kf] .ret) .skip)) (.seq (rg [oM 11 0,oN 12 11,oV 13 (ki 0)] (.blk 0 (.lop (rg [oB 14 .lss 13 12] (.seq (.cnd (.t 14) .skip (.ext 0)) (.seq (.blk 1 (rg [oM 15 13,oM 5 15] (.seq (.drw [oM 16 0,oM 17 5,oI 18 3 16 17,oW 19 3 18,oM 20 1,oM 21 5,oI 22 3 20 21,oW 23 3 22] [o 24 (.eqs true [.s,.i .i64,.i .i64] (.t 19) (.t 23))]) (.cnd (.t 24) (rg [oV 4 kf] .ret) .skip)))) (.reg [oZ 25 13 1,oM 13 25]))))))) (rg [oV 4 kt] .ret))))⟩
theorem Eq:A8 Tryz.prog Cf=some Bd:=by kernel_rfl
abbrev Cp:Nat:=308
def Bi:Fn1:=⟨26,[.t 4],(rg [oV 4 kf] (.seq (rg [oM 6 0,oN 7 6,oM 8 1,oN 9 8,oB 10 .neq 7 9] (.cnd (.t 10) (rg [oV 4 kf] .ret) .skip)) (.seq (rg [oM 11 0,oN 12 11,oV 13 (ki 0)] (.blk 0 (.lop (rg [oB 14 .lss 13 12] (.seq (.cnd (.t 14) .skip (.ext 0)) (.seq (.blk 1 (rg [oM 15 13,oM 5 15] (.seq (.drw [oM 16 0,oM 17 5,oI 18 6 16 17,oW 19 6 18,oM 20 1,oM 21 5,oI 22 6 20 21,oW 23 6 22] [o 24 (.eqs true [.b,.s,.s,.i .i64,.i .i64,.i .i64] (.t 19) (.t 23))]) (.cnd (.t 24) (rg [oV 4 kf] .ret) .skip)))) (.reg [oZ 25 13 1,oM 13 25]))))))) (rg [oV 4 kt] .ret))))⟩
theorem F9:A8 Tryz.prog Cp=some Bi:=by kernel_rfl
abbrev Pb:Nat:=309
def Pc:Fn1:=⟨26,[.t 4],(rg [oV 4 kf] (.seq (rg [oM 6 0,oN 7 6,oM 8 1,oN 9 8,oB 10 .neq 7 9] (.cnd (.t 10) (rg [oV 4 kf] .ret) .skip)) (.seq (rg [oM 11 0,oN 12 11,oV 13 (ki 0)] (.blk 0 (.lop (rg [oB 14 .lss 13 12] (.seq (.cnd (.t 14) .skip (.ext 0)) (.seq (.blk 1 (rg [oM 15 13,oM 5 15] (.seq (.drw [oM 16 0,oM 17 5,oI 18 2 16 17,oW 19 2 18,oM 20 1,oM 21 5,oI 22 2 20 21,oW 23 2 22] [o 24 (.eqs true [.i .i64,.i .i64] (.t 19) (.t 23))]) (.cnd (.t 24) (rg [oV 4 kf] .ret) .skip)))) (.reg [oZ 25 13 1,oM 13 25]))))))) (rg [oV 4 kt] .ret))))⟩
abbrev Cq:Nat:=310
def Bj:Fn1:=⟨26,[.t 4],(rg [oV 4 kf] (.seq (rg [oM 6 0,oN 7 6,oM 8 1,oN 9 8,oB 10 .neq 7 9] (.cnd (.t 10) (rg [oV 4 kf] .ret) .skip)) (.seq (rg [oM 11 0,oN 12 11,oV 13 (ki 0)] (.blk 0 (.lop (rg [oB 14 .lss 13 12] (.seq (.cnd (.t 14) .skip (.ext 0)) (.seq (.blk 1 (rg [oM 15 13,oM 5 15] (.seq (.drw [oM 16 0,oM 17 5,oI 18 8 16 17,oW 19 8 18,oM 20 1,oM 21 5,oI 22 8 20 21,oW 23 8 22] [o 24 (.eqs true [.s,.i .i64,.i .i64,.i .i64,.i .i64,.i .i64,.i .i64,.b] (.t 19) (.t 23))]) (.cnd (.t 24) (rg [oV 4 kf] .ret) .skip)))) (.reg [oZ 25 13 1,oM 13 25]))))))) (rg [oV 4 kt] .ret))))⟩
theorem Fa:A8 Tryz.prog Cq=some Bj:=by kernel_rfl
theorem Jt (σ:St) (v u:GV) (l m:List Tally) (hv:RS Ab.kd σ v l) (hu:RS Ab.kd σ u m) (hl:l.length≤1099511627776):Ret Tryz.prog Cf [v,u] σ (.bool (decide (l=m))) σ:=by
 refine Em Eq (Z0z rfl) trivial ?_
 by_cases hlm:l.length=m.length
 rotate_left
 ·have b:((l.length:Int) != (m.length:Int))=true:=by simp;omega
  have d:decide (l=m)=false:=decide_eq_false fun h=>hlm (by rw[h])
  simp +contextual (disch:=omega) only[go_sem,Bd,hv.len,hu.len,b,d]
  try exact fun _=>rfl
 have b:((l.length:Int) != (m.length:Int))=false:=by simp;omega
 simp +contextual (disch:=omega) only[go_sem,Bd,hv.len,hu.len,b]
 refine Bs l.length 13 0 (fun i env h=>env 0=v∧env 1=u∧env 12=gi l.length∧l.take i=m.take i∧h=[]) (fun env h=>l=m) (fun env h=>env 4= .bool false∧l≠m) _ (Hx.refl σ) (by simp +contextual (disch:=omega) only[go_sem]) ⟨by simp +contextual (disch:=omega) only[go_sem],by simp +contextual (disch:=omega) only[go_sem],by simp +contextual (disch:=omega) only[go_sem],rfl,rfl⟩ ?_ ?_ ?_ ?_
 ·rintro J Y W hJ hY hW i env h' τ hi ei c0 H ⟨e0,e1,e12,he,rfl⟩
  have hj:i<m.length:=by omega
  have L1:=Aa hv hi
  have L2:=Aa hu hj
  by_cases hx:l[i]=m[i]
  ·have b:decide (l[i]=m[i])=true:=decide_eq_true hx
   simp +contextual (disch:=omega) only[go_sem,c0,e0,e1,e12,ei,A4,L1,L2,b]
   exact hJ _ _ _ _ H ⟨by simp +contextual (disch:=omega) only[go_sem,e0],by simp +contextual (disch:=omega) only[go_sem,e1],by simp +contextual (disch:=omega) only[go_sem,e12],by rw[Ag hi,Ag hj,he,hx],rfl⟩
  ·have b:decide (l[i]=m[i])=false:=decide_eq_false hx
   simp +contextual (disch:=omega) only[go_sem,c0,e0,e1,e12,ei,A4,L1,L2,b]
   exact hW _ _ _ H ⟨by simp +contextual (disch:=omega) only[go_sem],fun h=>hx (by subst h;rfl)⟩
 ·rintro Y hY env h' τ ei c0 H ⟨e0,e1,e12,he,rfl⟩
  simp +contextual (disch:=omega) only[go_sem,c0,e12,ei]
  rw[List.take_length,hlm,List.take_length] at he
  exact hY _ _ _ H he
 ·rintro env h' τ H hx
  simp +contextual (disch:=omega) only[go_sem,hx,decide_true]
 ·rintro env h' τ H ⟨e4,hx⟩
  simp +contextual (disch:=omega) only[go_sem,e4,hx,decide_false]
theorem Kz (σ:St) (v u:GV) (l m:List Live) (hv:RS Ai.kd σ v l) (hu:RS Ai.kd σ u m) (hl:l.length≤1099511627776):Ret Tryz.prog Cp [v,u] σ (.bool (decide (l=m))) σ:=by
 refine Em F9 (Z0z rfl) trivial ?_
 by_cases hlm:l.length=m.length
 rotate_left
 ·have b:((l.length:Int) != (m.length:Int))=true:=by simp;omega
  have d:decide (l=m)=false:=decide_eq_false fun h=>hlm (by rw[h])
  simp +contextual (disch:=omega) only[go_sem,Bi,hv.len,hu.len,b,d]
  try exact fun _=>rfl
 have b:((l.length:Int) != (m.length:Int))=false:=by simp;omega
 simp +contextual (disch:=omega) only[go_sem,Bi,hv.len,hu.len,b]
 refine Bs l.length 13 0 (fun i env h=>env 0=v∧env 1=u∧env 12=gi l.length∧l.take i=m.take i∧h=[]) (fun env h=>l=m) (fun env h=>env 4= .bool false∧l≠m) _ (Hx.refl σ) (by simp +contextual (disch:=omega) only[go_sem]) ⟨by simp +contextual (disch:=omega) only[go_sem],by simp +contextual (disch:=omega) only[go_sem],by simp +contextual (disch:=omega) only[go_sem],rfl,rfl⟩ ?_ ?_ ?_ ?_
 ·rintro J Y W hJ hY hW i env h' τ hi ei c0 H ⟨e0,e1,e12,he,rfl⟩
  have hj:i<m.length:=by omega
  have L1:=A6 hv hi
  have L2:=A6 hu hj
  by_cases hx:l[i]=m[i]
  ·have b:decide (l[i]=m[i])=true:=decide_eq_true hx
   simp +contextual (disch:=omega) only[go_sem,c0,e0,e1,e12,ei,A4,L1,L2,b]
   exact hJ _ _ _ _ H ⟨by simp +contextual (disch:=omega) only[go_sem,e0],by simp +contextual (disch:=omega) only[go_sem,e1],by simp +contextual (disch:=omega) only[go_sem,e12],by rw[Ag hi,Ag hj,he,hx],rfl⟩
  ·have b:decide (l[i]=m[i])=false:=decide_eq_false hx
   simp +contextual (disch:=omega) only[go_sem,c0,e0,e1,e12,ei,A4,L1,L2,b]
   exact hW _ _ _ H ⟨by simp +contextual (disch:=omega) only[go_sem],fun h=>hx (by subst h;rfl)⟩
 ·rintro Y hY env h' τ ei c0 H ⟨e0,e1,e12,he,rfl⟩
  simp +contextual (disch:=omega) only[go_sem,c0,e12,ei]
  rw[List.take_length,hlm,List.take_length] at he
  exact hY _ _ _ H he
 ·rintro env h' τ H hx
  simp +contextual (disch:=omega) only[go_sem,hx,decide_true]
 ·rintro env h' τ H ⟨e4,hx⟩
  simp +contextual (disch:=omega) only[go_sem,e4,hx,decide_false]
theorem L3 (σ:St) (v u:GV) (l m:List Cell) (hv:RS Ae.kd σ v l) (hu:RS Ae.kd σ u m) (hl:l.length≤1099511627776):Ret Tryz.prog Cq [v,u] σ (.bool (decide (l=m))) σ:=by
 refine Em Fa (Z0z rfl) trivial ?_
 by_cases hlm:l.length=m.length
 rotate_left
 ·have b:((l.length:Int) != (m.length:Int))=true:=by simp;omega
  have d:decide (l=m)=false:=decide_eq_false fun h=>hlm (by rw[h])
  simp +contextual (disch:=omega) only[go_sem,Bj,hv.len,hu.len,b,d]
  try exact fun _=>rfl
 have b:((l.length:Int) != (m.length:Int))=false:=by simp;omega
 simp +contextual (disch:=omega) only[go_sem,Bj,hv.len,hu.len,b]
 refine Bs l.length 13 0 (fun i env h=>env 0=v∧env 1=u∧env 12=gi l.length∧l.take i=m.take i∧h=[]) (fun env h=>l=m) (fun env h=>env 4= .bool false∧l≠m) _ (Hx.refl σ) (by simp +contextual (disch:=omega) only[go_sem]) ⟨by simp +contextual (disch:=omega) only[go_sem],by simp +contextual (disch:=omega) only[go_sem],by simp +contextual (disch:=omega) only[go_sem],rfl,rfl⟩ ?_ ?_ ?_ ?_
 ·rintro J Y W hJ hY hW i env h' τ hi ei c0 H ⟨e0,e1,e12,he,rfl⟩
  have hj:i<m.length:=by omega
  have L1:=A7 hv hi
  have L2:=A7 hu hj
  by_cases hx:l[i]=m[i]
  ·have b:decide (l[i]=m[i])=true:=decide_eq_true hx
   simp +contextual (disch:=omega) only[go_sem,c0,e0,e1,e12,ei,A4,L1,L2,b]
   exact hJ _ _ _ _ H ⟨by simp +contextual (disch:=omega) only[go_sem,e0],by simp +contextual (disch:=omega) only[go_sem,e1],by simp +contextual (disch:=omega) only[go_sem,e12],by rw[Ag hi,Ag hj,he,hx],rfl⟩
  ·have b:decide (l[i]=m[i])=false:=decide_eq_false hx
   simp +contextual (disch:=omega) only[go_sem,c0,e0,e1,e12,ei,A4,L1,L2,b]
   exact hW _ _ _ H ⟨by simp +contextual (disch:=omega) only[go_sem],fun h=>hx (by subst h;rfl)⟩
 ·rintro Y hY env h' τ ei c0 H ⟨e0,e1,e12,he,rfl⟩
  simp +contextual (disch:=omega) only[go_sem,c0,e12,ei]
  rw[List.take_length,hlm,List.take_length] at he
  exact hY _ _ _ H he
 ·rintro env h' τ H hx
  simp +contextual (disch:=omega) only[go_sem,hx,decide_true]
 ·rintro env h' τ H ⟨e4,hx⟩
  simp +contextual (disch:=omega) only[go_sem,e4,hx,decide_false]
def sameAct (a b:Act):Bool:=decide (a.dot=b.dot)&&(a.time==b.time&&(decide (a.knew=b.knew)&&(a.kind==b.kind&&(decide (a.obj=b.obj)&&(decide (a.key=b.key)&&(a.val==b.val&&decide (a.ref=b.ref)))))))
def noAct (a:Act):Bool:=decide (a.dot=⟨0,0⟩)&&(a.time==0&&(a.knew.isEmpty&&(a.kind==0&&(decide (a.obj=⟨#[]⟩)&&(decide (a.key=⟨#[]⟩)&&(a.val==0&&decide (a.ref=⟨0,0⟩)))))))
abbrev delta0:Delta:=⟨[],[],[],[],[],[]⟩
def Aim (d:Delta):Bool:=d.base.isEmpty&&(d.know.isEmpty&&(d.tallies.isEmpty&&(d.lives.isEmpty&&(d.dead.isEmpty&&d.cells.isEmpty))))
def sameDelta (a b:Delta):Bool:=decide (a.base=b.base)&&(decide (a.know=b.know)&&(decide (a.tallies=b.tallies)&&(decide (a.lives=b.lives)&&(decide (a.dead=b.dead)&&decide (a.cells=b.cells)))))
def A6z (u:Unit_):Bool:=if u.batch then Aao u.delta&&noAct u.act else A2z u.act&&Aim u.delta
abbrev unV (x:Unit_) (kv d0 d1 d2 d3 d4 d5:GV):List GV:=[.bool x.batch,.int .i64 x.act.dot.rep,.int .i64 x.act.dot.seq,.int .i64 x.act.time,kv,.int .i64 x.act.kind,.str x.act.obj,.str x.act.key,.int .i64 x.act.val,.int .i64 x.act.ref.rep,.int .i64 x.act.ref.seq,d0,d1,d2,d3,d4,d5]
end
end Go.Proofs.YtbeoiejnogdkpaaGreat.Sy
