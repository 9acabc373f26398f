/- Texts of this proof, one behind the other. -/
import Derived.Test.YtbeoiejnogdkpaaGreatBChangedBy5
import Derived.Test.YtbeoiejnogdkpaaGreatProg
import Derived.KernelRfl
set_option linter.unusedSimpArgs false
set_option linter.unusedVariables false
set_option maxRecDepth 4000
namespace Go.Proofs.YtbeoiejnogdkpaaGreat.Sy
section
open Go Go.RowKit
abbrev Gn:Nat:=4
def Gp:Fn1:=⟨101,[.t 4],(rg [oX 2 0,oV 4 kf] (rg [oV 5 (ki 1048576)] (rg [oW 16 2 2,oM 17 5,oD 18 18 16 17,oM 5 18] (.seq (rg [oM 19 5,o 20 (.bin .lss (.t 19) (ki 0))] (.cnd (.t 20) (rg [oV 4 kt] .ret) .skip)) (rg [oW 22 2 2,oC 23 20 22,oM 24 1,oD 25 19 23 24,oM 21 25,o 26 (.ext 0 (.t 21)),o 27 (.ext 1 (.t 21)),o 6 (.new [.nilS,.nilS,.nilS,.nilS,.nilS,.nilS]),oS 6 6 26,oM 7 27] (rg [oW 28 2 2,oC 29 20 28,o 8 (.new [.nilS,z0]),oS 2 8 29] (rg [oW 31 2 8,oM 32 1,oD 33 21 31 32,oM 30 33,o 34 (.ext 0 (.t 30)),o 35 (.ext 1 (.t 30)),o 9 (.new [.nilS,.nilS,.nilS,.nilS,.nilS,.nilS]),oS 6 9 34,oM 10 35] (.seq (rg [oW 36 6 9,oW 37 6 6,oD 38 22 36 37,oU 39 38,oM 40 39,og 41 40 false (.mov (.t 10)),og 42 40 false (.mov (.t 7)),og 43 40 false (.eqb true (.t 41) (.t 42)),o 44 (.pick (.t 40) kt (.t 43))] (.cnd (.t 44) (rg [oV 4 kf] .ret) .skip)) (.seq (.seq (.drw [oW 45 2 8,oW 46 2 2,oC 47 20 46] [oD 48 23 45 47,oU 49 48]) (.cnd (.t 49) (rg [oV 4 kf] .ret) .skip)) (rg [oV 11 (ki 1)] (rg [oW 50 2 8,oM 51 11,oD 52 24 50 51,oM 11 52] (.seq (rg [oM 53 11,o 54 (.bin .lss (.t 53) (ki 0)),oM 55 54,og 56 55 false (.ld true 6 (.t 9)),og 57 55 false (.ld true 6 (.t 6)),og 58 55 false (.call 22 [(.t 56),(.t 57)]),og 59 55 false (.un .not (.t 58)),o 60 (.pick (.t 55) kt (.t 59)),oM 61 60,og 62 61 false (.mov (.t 10)),og 63 61 false (.mov (.t 7)),og 64 61 false (.eqb true (.t 62) (.t 63)),o 65 (.pick (.t 61) kt (.t 64))] (.cnd (.t 65) (rg [oV 4 kf] .ret) .skip)) (rg [oV 12 (ki 1)] (rg [oW 66 6 9,oM 67 12,oD 68 25 66 67,oM 12 68] (rg [oV 13 (ki 1)] (rg [oW 69 6 9,oM 70 13,oD 71 26 69 70,oM 13 71] (.seq (rg [oM 72 13,o 73 (.bin .lss (.t 72) (ki 0))] (.cnd (.t 73) (rg [oV 4 kf] .ret) .skip)) (.seq (rg [oM 74 13,oM 75 12,oB 76 .neq 74 75] (.cnd (.t 76) (rg [oV 4 kf] .ret) .skip)) (rg [oW 78 2 2,oC 79 20 78,oM 80 1,oD 81 21 79 80,oM 77 81,o 82 (.ext 0 (.t 77)),o 83 (.ext 1 (.t 77)),o 14 (.new [.nilS,.nilS,.nilS,.nilS,.nilS,.nilS]),oS 6 14 82,oM 15 83] (.seq (rg [oW 84 6 14,oW 85 6 6,oD 86 22 84 85,oU 87 86,oM 88 87,og 89 88 false (.mov (.t 15)),og 90 88 false (.mov (.t 7)),og 91 88 false (.eqb true (.t 89) (.t 90)),o 92 (.pick (.t 88) kt (.t 91))] (.cnd (.t 92) (rg [oV 4 kf] .ret) .skip)) (rg [oV 13 (ki 1)] (rg [oW 93 6 9,oM 94 13,oD 95 26 93 94,oM 13 95] (.seq (rg [oM 96 13,o 97 (.bin .lss (.t 96) (ki 0))] (.cnd (.t 97) (rg [oV 4 kf] .ret) .skip)) (.seq (rg [oM 98 13,oM 99 12,oB 100 .neq 98 99] (.cnd (.t 100) (rg [oV 4 kf] .ret) .skip)) (rg [oV 4 kt] .ret)))))))))))))))))))))))))⟩
theorem Lg:A8 Tryz.prog Gn=some Gp:=by kernel_rfl
theorem law_ChangedBy (σ:St) (cs0:List GV) (x0:Graph) (hR0:eGraph.R σ x0 cs0) (hw0:zGraph x0) (x1:Int) (hw1:I64 x1):∃ r τ,Ret Tryz.prog Gn [.agg cs0,.int .i64 x1] σ r τ∧r= .bool true:=by
 have hR0:=Ajv hR0
 have hl0:=Ay.len hR0
 have hw0:=Ae3 hw0
 refine Agp Lg (Z0z rfl) ?_
 have hB:σ <+: σ++[some (Blk.row 1 (cs0))]:=pre1 _ _
 have hb0:rdB (σ++[some (Blk.row 1 (cs0))]) (σ).length=some (cs0):=Nd (List.prefix_refl _)
 have hs0:(seg cs0 0 2).bind (mkv true)=some (.agg cs0):=Au hl0
 simp +contextual (disch:=omega) only[go_sem,Gp,A5 (Aw (List.prefix_refl _) hb0),hs0,List.append_nil]
 refine Ac (A1s _ cs0 x0 (Ay.pre hR0 (hB.trans (List.prefix_refl _))) (1048576) hw0 (by omega) (by omega)) ?_
 have ge0:= @A9v (1048576) (Ci x0)
 have gm0:= @Sb (1048576) (Ci x0) (by omega)
 try simp +contextual (disch:=omega) only[go_sem,List.append_nil,ite_self,ne_eq,not_true_eq_false,bne_self_eq_false,beq_self_eq_true,A5 (Aw (List.prefix_refl _) hb0),hs0]
 refine⟨fun _=>hB.length_le,fun hn=> ?_⟩
 have hn:=of_decide_eq_false hn
 have hf0:=Gg hn
 have hu0:Ci x0≤1048576:=by omega
 have hc0:=A8r x0
 try simp +contextual (disch:=omega) only[go_sem,List.append_nil,ite_self,ne_eq,not_true_eq_false,bne_self_eq_false,beq_self_eq_true,A5 (Aw (List.prefix_refl _) hb0),hs0]
 have H:=Hp.refl (σ++[some (Blk.row 1 (cs0))])
 try simp +contextual (disch:=omega) only[go_sem,List.append_nil,ite_self,ne_eq,not_true_eq_false,bne_self_eq_false,beq_self_eq_true,A5 (Aw H.sub hb0),hs0]
 obtain⟨_,τ1,R1,_,d1,rfl,K1⟩:=Gx _ cs0 x0 (Ay.pre hR0 (hB.trans H.sub)) (by omega)
 refine Pq R1 K1 ?_
 have H:=H.add K1
 try simp only[List.cons_append,List.nil_append] at H
 have g1:=Au (Ay.len (K1.rd 0 rfl))
 have g1:(seg d1 0 2).bind (mkv true)=some (.agg d1):=g1
 have gl1:d1.length=2:=Ay.len (K1.rd 0 rfl)
 try simp +contextual (disch:=omega) only[go_sem,List.append_nil,ite_self,ne_eq,not_true_eq_false,bne_self_eq_false,beq_self_eq_true,A5 (Aw H.sub hb0),hs0,g1]
 obtain⟨c2_0,τ2,R2,p2⟩:=Vv _ d1 x0 (H.rd 0 rfl) x1 (by omega)
 have q2_0:=p2.rd 0 rfl
 have p2:=p2.sub
 refine Aea R2 p2 ?_
 have hpw:=H.sub.trans p2
 have H:=Hp.refl τ2
 have gl2_0:c2_0.length=6:=Ch.len q2_0
 have g2_0:(seg c2_0 0 6).bind (mkv true)=some (.agg c2_0):=Au gl2_0
 try simp +contextual (disch:=omega) only[go_sem,List.append_nil,ite_self,ne_eq,not_true_eq_false,bne_self_eq_false,beq_self_eq_true,A5 (Aw (hpw.trans H.sub) hb0),hs0,g1,g2_0,gl2_0]
 have H:=H.new 1 c2_0
 try simp +contextual (disch:=omega) only[go_sem,List.append_nil,ite_self,ne_eq,not_true_eq_false,bne_self_eq_false,beq_self_eq_true,A5 (Aw (hpw.trans H.sub) hb0),hs0,A5 (H.pt 0 rfl),g1,g2_0,gl2_0,Bl (cs:=[GV.nilS,GV.nilS,GV.nilS,GV.nilS,GV.nilS,GV.nilS]) gl2_0 rfl,gl2_0]
 obtain⟨_,τ3,R3,_,d3,rfl,K3⟩:=Gx _ cs0 x0 (Ay.pre hR0 (hB.trans (hpw.trans H.sub))) (by omega)
 refine Pq R3 K3 ?_
 have H:=H.add K3
 try simp only[List.cons_append,List.nil_append] at H
 have g3:=Au (Ay.len (K3.rd 0 rfl))
 have g3:(seg d3 0 2).bind (mkv true)=some (.agg d3):=g3
 have gl3:d3.length=2:=Ay.len (K3.rd 0 rfl)
 try simp +contextual (disch:=omega) only[go_sem,List.append_nil,ite_self,ne_eq,not_true_eq_false,bne_self_eq_false,beq_self_eq_true,A5 (Aw (hpw.trans H.sub) hb0),hs0,A5 (H.pt 1 rfl),g1,g2_0,gl2_0,g3]
 have H:=H.new 1 d3
 try simp +contextual (disch:=omega) only[go_sem,List.append_nil,ite_self,ne_eq,not_true_eq_false,bne_self_eq_false,beq_self_eq_true,A5 (Aw (hpw.trans H.sub) hb0),hs0,A5 (H.pt 0 rfl),A5 (H.pt 2 rfl),g1,g2_0,gl2_0,g3,Bl (cs:=[GV.nilS,(GV.int .i64 0)]) gl3 rfl,gl3]
 obtain⟨c4_0,τ4,R4,K4⟩:=L9 _ d3 x0 (H.rd 1 rfl) x1 (by omega)
 refine Pq R4 K4 ?_
 have H:=H.add K4
 try simp only[List.cons_append,List.nil_append] at H
 have gl4_0:c4_0.length=6:=Ch.len (K4.rd 0 rfl)
 have g4_0:(seg c4_0 0 6).bind (mkv true)=some (.agg c4_0):=Au gl4_0
 try simp +contextual (disch:=omega) only[go_sem,List.append_nil,ite_self,ne_eq,not_true_eq_false,bne_self_eq_false,beq_self_eq_true,A5 (Aw (hpw.trans H.sub) hb0),hs0,A5 (H.pt 1 rfl),A5 (H.pt 3 rfl),g1,g2_0,gl2_0,g3,g4_0,gl4_0]
 have H:=H.new 1 c4_0
 try simp +contextual (disch:=omega) only[go_sem,List.append_nil,ite_self,ne_eq,not_true_eq_false,bne_self_eq_false,beq_self_eq_true,A5 (Aw (hpw.trans H.sub) hb0),hs0,A5 (H.pt 0 rfl),A5 (H.pt 2 rfl),A5 (H.pt 4 rfl),g1,g2_0,gl2_0,g3,g4_0,gl4_0,Bl (cs:=[GV.nilS,GV.nilS,GV.nilS,GV.nilS,GV.nilS,GV.nilS]) gl4_0 rfl,gl4_0]
 refine Ac (Jj _ _ _ _ _ (H.rd 1 rfl) (Ch.pre q2_0 H.sub) (by have:=Fd x0 x1;omega)) ?_
 try simp +contextual (disch:=omega) only[go_sem,List.append_nil,ite_self,ne_eq,not_true_eq_false,bne_self_eq_false,beq_self_eq_true,A5 (Aw (hpw.trans H.sub) hb0),hs0,A5 (H.pt 0 rfl),A5 (H.pt 2 rfl),A5 (H.pt 4 rfl),g1,g2_0,gl2_0,g3,g4_0,gl4_0,decide_true,eq_self]
 try simp +contextual (disch:=omega) only[go_sem,List.append_nil,ite_self,ne_eq,not_true_eq_false,bne_self_eq_false,beq_self_eq_true,A5 (Aw (hpw.trans H.sub) hb0),hs0,A5 (H.pt 0 rfl),A5 (H.pt 2 rfl),A5 (H.pt 4 rfl),g1,g2_0,gl2_0,g3,g4_0,gl4_0]
 obtain⟨_,τ5,R5,_,d5,rfl,K5⟩:=Gx _ cs0 x0 (Ay.pre hR0 (hB.trans (hpw.trans H.sub))) (by omega)
 refine Pq R5 K5 ?_
 have H:=H.add K5
 try simp only[List.cons_append,List.nil_append] at H
 have g5:=Au (Ay.len (K5.rd 0 rfl))
 have g5:(seg d5 0 2).bind (mkv true)=some (.agg d5):=g5
 have gl5:d5.length=2:=Ay.len (K5.rd 0 rfl)
 try simp +contextual (disch:=omega) only[go_sem,List.append_nil,ite_self,ne_eq,not_true_eq_false,bne_self_eq_false,beq_self_eq_true,A5 (Aw (hpw.trans H.sub) hb0),hs0,A5 (H.pt 1 rfl),A5 (H.pt 3 rfl),A5 (H.pt 5 rfl),g1,g2_0,gl2_0,g3,g4_0,gl4_0,g5]
 refine Ac (A1j _ _ _ _ _ (H.rd 4 rfl) (H.rd 0 rfl) (by omega)) ?_
 try simp +contextual (disch:=omega) only[go_sem,List.append_nil,ite_self,ne_eq,not_true_eq_false,bne_self_eq_false,beq_self_eq_true,A5 (Aw (hpw.trans H.sub) hb0),hs0,A5 (H.pt 1 rfl),A5 (H.pt 3 rfl),A5 (H.pt 5 rfl),g1,g2_0,gl2_0,g3,g4_0,gl4_0,g5,decide_true,eq_self]
 obtain⟨τ6,R6,H⟩:=Wh 4 d3 x0 (1) H rfl (by omega) (by omega)
 refine C8 R6 ?_
 try simp only[List.set_cons_succ,List.set_cons_zero] at H
 try simp +contextual (disch:=omega) only[go_sem,List.append_nil,ite_self,ne_eq,not_true_eq_false,bne_self_eq_false,beq_self_eq_true,A5 (Aw (hpw.trans H.sub) hb0),hs0,A5 (H.pt 1 rfl),A5 (H.pt 3 rfl),A5 (H.pt 5 rfl),g1,g2_0,gl2_0,g3,g4_0,gl4_0,g5]
 have hng:decide (((1:Int))+((N5 x0:Nat):Int)<0)=false:=decide_eq_false (by omega)
 try simp +contextual (disch:=omega) only[go_sem,List.append_nil,ite_self,ne_eq,not_true_eq_false,bne_self_eq_false,beq_self_eq_true,A5 (Aw (hpw.trans H.sub) hb0),hs0,A5 (H.pt 1 rfl),A5 (H.pt 3 rfl),A5 (H.pt 5 rfl),g1,g2_0,gl2_0,g3,g4_0,gl4_0,g5,A4y,A4z,hng]
 refine Ac (Jj _ _ _ _ _ (H.rd 2 rfl) (Ch.pre q2_0 H.sub) (by have:=Fd x0 x1;omega)) ?_
 try simp +contextual (disch:=omega) only[go_sem,List.append_nil,ite_self,ne_eq,not_true_eq_false,bne_self_eq_false,beq_self_eq_true,A5 (Aw (hpw.trans H.sub) hb0),hs0,A5 (H.pt 1 rfl),A5 (H.pt 3 rfl),A5 (H.pt 5 rfl),g1,g2_0,gl2_0,g3,g4_0,gl4_0,g5,decide_true,eq_self]
 obtain⟨τ7,R7,H⟩:=Wg 2 c4_0 _ (1) H rfl (by omega) (by have:=Qd (Ax x0 x1).1;have:=Fd x0 x1;omega)
 refine C8 R7 ?_
 try simp only[List.set_cons_succ,List.set_cons_zero] at H
 try simp +contextual (disch:=omega) only[go_sem,List.append_nil,ite_self,ne_eq,not_true_eq_false,bne_self_eq_false,beq_self_eq_true,A5 (Aw (hpw.trans H.sub) hb0),hs0,A5 (H.pt 1 rfl),A5 (H.pt 3 rfl),A5 (H.pt 5 rfl),g1,g2_0,gl2_0,g3,g4_0,gl4_0,g5]
 refine Ac (Lc _ _ _ 1 (H.rd 2 rfl) (by omega) (by have:=Qd (Ax x0 x1).1;have:=Fd x0 x1;omega)) ?_
 try simp +contextual (disch:=omega) only[go_sem,List.append_nil,ite_self,ne_eq,not_true_eq_false,bne_self_eq_false,beq_self_eq_true,A5 (Aw (hpw.trans H.sub) hb0),hs0,A5 (H.pt 1 rfl),A5 (H.pt 3 rfl),A5 (H.pt 5 rfl),g1,g2_0,gl2_0,g3,g4_0,gl4_0,g5,A4y,A4z]
 try simp +contextual (disch:=omega) only[go_sem,List.append_nil,ite_self,ne_eq,not_true_eq_false,bne_self_eq_false,beq_self_eq_true,A5 (Aw (hpw.trans H.sub) hb0),hs0,A5 (H.pt 1 rfl),A5 (H.pt 3 rfl),A5 (H.pt 5 rfl),g1,g2_0,gl2_0,g3,g4_0,gl4_0,g5,A4y,A4z]
 try simp +contextual (disch:=omega) only[go_sem,List.append_nil,ite_self,ne_eq,not_true_eq_false,bne_self_eq_false,beq_self_eq_true,A5 (Aw (hpw.trans H.sub) hb0),hs0,A5 (H.pt 1 rfl),A5 (H.pt 3 rfl),A5 (H.pt 5 rfl),g1,g2_0,gl2_0,g3,g4_0,gl4_0,g5,A4y,A4z]
 obtain⟨_,τ8,R8,_,d8,rfl,K8⟩:=Gx _ cs0 x0 (Ay.pre hR0 (hB.trans (hpw.trans H.sub))) (by omega)
 refine Pq R8 K8 ?_
 have H:=H.add K8
 try simp only[List.cons_append,List.nil_append] at H
 have g8:=Au (Ay.len (K8.rd 0 rfl))
 have g8:(seg d8 0 2).bind (mkv true)=some (.agg d8):=g8
 have gl8:d8.length=2:=Ay.len (K8.rd 0 rfl)
 try simp +contextual (disch:=omega) only[go_sem,List.append_nil,ite_self,ne_eq,not_true_eq_false,bne_self_eq_false,beq_self_eq_true,A5 (Aw (hpw.trans H.sub) hb0),hs0,A5 (H.pt 2 rfl),A5 (H.pt 4 rfl),A5 (H.pt 6 rfl),g1,g2_0,gl2_0,g3,g4_0,gl4_0,g5,g8]
 obtain⟨c9_0,τ9,R9,K9⟩:=L9 _ d8 x0 (H.rd 0 rfl) x1 (by omega)
 refine Pq R9 K9 ?_
 have H:=H.add K9
 try simp only[List.cons_append,List.nil_append] at H
 have gl9_0:c9_0.length=6:=Ch.len (K9.rd 0 rfl)
 have g9_0:(seg c9_0 0 6).bind (mkv true)=some (.agg c9_0):=Au gl9_0
 try simp +contextual (disch:=omega) only[go_sem,List.append_nil,ite_self,ne_eq,not_true_eq_false,bne_self_eq_false,beq_self_eq_true,A5 (Aw (hpw.trans H.sub) hb0),hs0,A5 (H.pt 3 rfl),A5 (H.pt 5 rfl),A5 (H.pt 7 rfl),g1,g2_0,gl2_0,g3,g4_0,gl4_0,g5,g8,g9_0,gl9_0]
 have H:=H.new 1 c9_0
 try simp +contextual (disch:=omega) only[go_sem,List.append_nil,ite_self,ne_eq,not_true_eq_false,bne_self_eq_false,beq_self_eq_true,A5 (Aw (hpw.trans H.sub) hb0),hs0,A5 (H.pt 0 rfl),A5 (H.pt 4 rfl),A5 (H.pt 6 rfl),A5 (H.pt 8 rfl),g1,g2_0,gl2_0,g3,g4_0,gl4_0,g5,g8,g9_0,gl9_0,Bl (cs:=[GV.nilS,GV.nilS,GV.nilS,GV.nilS,GV.nilS,GV.nilS]) gl9_0 rfl,gl9_0]
 refine Ac (Jj _ _ _ _ _ (H.rd 1 rfl) (Ch.pre q2_0 H.sub) (by have:=Fd x0 x1;omega)) ?_
 try simp +contextual (disch:=omega) only[go_sem,List.append_nil,ite_self,ne_eq,not_true_eq_false,bne_self_eq_false,beq_self_eq_true,A5 (Aw (hpw.trans H.sub) hb0),hs0,A5 (H.pt 0 rfl),A5 (H.pt 4 rfl),A5 (H.pt 6 rfl),A5 (H.pt 8 rfl),g1,g2_0,gl2_0,g3,g4_0,gl4_0,g5,g8,g9_0,gl9_0,decide_true,eq_self]
 refine Ac (Lc _ _ _ 1 (H.rd 5 rfl) (by omega) (by have:=Qd (Ax x0 x1).1;have:=Fd x0 x1;omega)) ?_
 try simp +contextual (disch:=omega) only[go_sem,List.append_nil,ite_self,ne_eq,not_true_eq_false,bne_self_eq_false,beq_self_eq_true,A5 (Aw (hpw.trans H.sub) hb0),hs0,A5 (H.pt 0 rfl),A5 (H.pt 4 rfl),A5 (H.pt 6 rfl),A5 (H.pt 8 rfl),g1,g2_0,gl2_0,g3,g4_0,gl4_0,g5,g8,g9_0,gl9_0,A4y,A4z]
 try simp +contextual (disch:=omega) only[go_sem,List.append_nil,ite_self,ne_eq,not_true_eq_false,bne_self_eq_false,beq_self_eq_true,A5 (Aw (hpw.trans H.sub) hb0),hs0,A5 (H.pt 0 rfl),A5 (H.pt 4 rfl),A5 (H.pt 6 rfl),A5 (H.pt 8 rfl),g1,g2_0,gl2_0,g3,g4_0,gl4_0,g5,g8,g9_0,gl9_0,A4y,A4z]
 try simp +contextual (disch:=omega) only[go_sem,List.append_nil,ite_self,ne_eq,not_true_eq_false,bne_self_eq_false,beq_self_eq_true,A5 (Aw (hpw.trans H.sub) hb0),hs0,A5 (H.pt 0 rfl),A5 (H.pt 4 rfl),A5 (H.pt 6 rfl),A5 (H.pt 8 rfl),g1,g2_0,gl2_0,g3,g4_0,gl4_0,g5,g8,g9_0,gl9_0,A4y,A4z]
 exact(hB.trans (hpw.trans H.sub)).length_le
end
end Go.Proofs.YtbeoiejnogdkpaaGreat.Sy
