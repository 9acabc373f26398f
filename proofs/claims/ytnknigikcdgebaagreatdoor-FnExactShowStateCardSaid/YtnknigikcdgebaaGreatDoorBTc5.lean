/- Texts of this proof, one behind the other. -/
import Derived.Test.YtnknigikcdgebaaGreatDoorBTc4
import Derived.Test.YtnknigikcdgebaaGreatDoorProg
import Derived.KernelRfl
set_option linter.unusedSimpArgs false
set_option linter.unusedVariables false
set_option maxRecDepth 4000
set_option maxHeartbeats 4000000
open List renaming append_nil→Zaa,prefix_refl→Zab,cons_append→Zac,nil_append→Zad
namespace Go.Proofs.YtnknigikcdgebaaGreatDoor.Sy
open Go Go.RowKit
def F4:Fn1:=⟨27,[.t 2],(rg [oX 1 0,oV 2 kf] (rg [oV 3 (ki 1048576)] (rg [oW 7 14 1,oM 8 3,oD 9 68 7 8,oM 3 9] (.seq (rg [oM 10 3,oE 11 .lss 10 0] (oG 11 (oR 2 kt))) (rg [oW 12 14 1,oC 13 70 12,oC 14 69 13,oM 4 14] (rg [oW 15 14 1,oC 16 70 15,o 5 (.new [z0,z0,z0,.nilS,.nilS,.nilS,.nilS,.nilS,.nilS,.nilS,z0,s0,z0,.nilS]),oS 14 5 16] (rg [oW 17 14 5,oC 18 71 17,oM 6 18] (.seq (rg [oM 19 6,oM 20 4,oB 21 .neq 19 20] (oG 21 (oR 2 kf))) (.seq (dw [oW 22 14 5,oW 23 14 1,oC 24 70 23] [oD 25 72 22 24,oU 26 25] (oG 26 (oR 2 kf))) (oR 2 kt))))))))))⟩
theorem J0:A4 Tryz.prog 13=some F4:=by kernel_rfl
theorem law_ShowReplica (N:St) (cs0:List GV) (x0:Replica) (hR0:eReplica.R N x0 cs0) (hw0:zReplica x0):∃ r U,Ret Tryz.prog 13 [.agg cs0] N r U/\r= .bool true:=by
 have hrep:x0.log.rep<=9223372036854775807:=hw0.2.1.1.2
 have hst:stI x0.log.state:=⟨fun x hx=>(hw0.2.1.2.2.1.2.2.1.2 x hx).2.2.2.1.2,fun x hx=>(hw0.2.1.2.2.1.2.2.2.2 x hx).2.2.2.2.1.2⟩
 have hR0:=Adl hR0
 have hl0:=Bi.len hR0
 have hw0:=Acc hw0
 refine Adi J0 (Z0z rfl) ?_
 have hB:N <+: N++[some (Blk.row 1 (cs0))]:=pre1 _ _
 have hb0:rdB (N++[some (Blk.row 1 (cs0))]) (N).length=some (cs0):=Je (Zab _)
 have hs0:(seg cs0 0 14).bind (mkv true)=some (.agg cs0):=Bb hl0
 simp +contextual (disch:=omega) only[go_sem,F4,A2 (Aq (Zab _) hb0),hs0,Zaa]
 refine A6 (Xw _ cs0 x0 (Bi.pre hR0 (hB.trans (Zab _))) (1048576) hw0 (by omega) (by omega)) ?_
 have ge0:= @A83 (1048576) (Az x0)
 have gm0:= @E5 (1048576) (Az x0) (by omega)
 try simp +contextual (disch:=omega) only[go_sem,Zaa,ite_self,ne_eq,not_true_eq_false,bne_self_eq_false,beq_self_eq_true,A2 (Aq (Zab _) hb0),hs0]
 refine⟨fun _=>hB.length_le,fun hn=> ?_⟩
 have hn:=of_decide_eq_false hn
 have hf0:=B5 hn
 have hu0:Az x0<=1048576:=by omega
 try simp +contextual (disch:=omega) only[go_sem,Zaa,ite_self,ne_eq,not_true_eq_false,bne_self_eq_false,beq_self_eq_true,A2 (Aq (Zab _) hb0),hs0]
 have H:=Hp.refl (N++[some (Blk.row 1 (cs0))])
 try simp +contextual (disch:=omega) only[go_sem,Zaa,ite_self,ne_eq,not_true_eq_false,bne_self_eq_false,beq_self_eq_true,A2 (Aq H.sub hb0),hs0]
 obtain⟨_,U1,R1,_,d1,rfl,K1⟩:=Gn _ cs0 x0 (Bi.pre hR0 (hB.trans H.sub)) (by omega)
 refine F6 R1 K1 ?_
 have H:=H.add K1
 try simp only[Zac,Zad] at H
 have g1:=Bb (Bi.len (K1.rd 0 rfl))
 have g1:(seg d1 0 14).bind (mkv true)=some (.agg d1):=g1
 have gl1:d1.length=14:=Bi.len (K1.rd 0 rfl)
 try simp +contextual (disch:=omega) only[go_sem,Zaa,ite_self,ne_eq,not_true_eq_false,bne_self_eq_false,beq_self_eq_true,A2 (Aq H.sub hb0),hs0,g1]
 refine A6 (Q4 _ d1 x0 (H.rd 0 rfl) (by omega) hrep hst) ?_
 have hpw:=H.sub
 have H:=H.restart
 try simp +contextual (disch:=omega) only[go_sem,Zaa,ite_self,ne_eq,not_true_eq_false,bne_self_eq_false,beq_self_eq_true,A2 (Aq (hpw.trans H.sub) hb0),hs0,g1]
 obtain⟨_,U3,R3,_,d3,rfl,K3⟩:=Gn _ cs0 x0 (Bi.pre hR0 (hB.trans (hpw.trans H.sub))) (by omega)
 refine F6 R3 K3 ?_
 have H:=H.add K3
 try simp only[Zac,Zad] at H
 have g3:=Bb (Bi.len (K3.rd 0 rfl))
 have g3:(seg d3 0 14).bind (mkv true)=some (.agg d3):=g3
 have gl3:d3.length=14:=Bi.len (K3.rd 0 rfl)
 try simp +contextual (disch:=omega) only[go_sem,Zaa,ite_self,ne_eq,not_true_eq_false,bne_self_eq_false,beq_self_eq_true,A2 (Aq (hpw.trans H.sub) hb0),hs0,g1,g3]
 have H:=H.new 1 d3
 try simp +contextual (disch:=omega) only[go_sem,Zaa,ite_self,ne_eq,not_true_eq_false,bne_self_eq_false,beq_self_eq_true,A2 (Aq (hpw.trans H.sub) hb0),hs0,A2 (H.pt 0 rfl),g1,g3,Sm (cs:=[(GV.int .i64 0),(GV.int .i64 0),(GV.int .i64 0),GV.nilS,GV.nilS,GV.nilS,GV.nilS,GV.nilS,GV.nilS,GV.nilS,(GV.int .i64 0),(GV.str ⟨#[]⟩),(GV.int .i64 0),GV.nilS]) gl3 rfl,gl3]
 refine A6 (Q3 _ d3 x0 (H.rd 1 rfl) (by omega) hrep hst) ?_
 try simp +contextual (disch:=omega) only[go_sem,Zaa,ite_self,ne_eq,not_true_eq_false,bne_self_eq_false,beq_self_eq_true,A2 (Aq (hpw.trans H.sub) hb0),hs0,A2 (H.pt 0 rfl),g1,g3]
 try simp +contextual (disch:=omega) only[go_sem,Zaa,ite_self,ne_eq,not_true_eq_false,bne_self_eq_false,beq_self_eq_true,A2 (Aq (hpw.trans H.sub) hb0),hs0,A2 (H.pt 0 rfl),g1,g3]
 try simp +contextual (disch:=omega) only[go_sem,Zaa,ite_self,ne_eq,not_true_eq_false,bne_self_eq_false,beq_self_eq_true,A2 (Aq (hpw.trans H.sub) hb0),hs0,A2 (H.pt 0 rfl),g1,g3]
 obtain⟨_,U5,R5,_,d5,rfl,K5⟩:=Gn _ cs0 x0 (Bi.pre hR0 (hB.trans (hpw.trans H.sub))) (by omega)
 refine F6 R5 K5 ?_
 have H:=H.add K5
 try simp only[Zac,Zad] at H
 have g5:=Bb (Bi.len (K5.rd 0 rfl))
 have g5:(seg d5 0 14).bind (mkv true)=some (.agg d5):=g5
 have gl5:d5.length=14:=Bi.len (K5.rd 0 rfl)
 try simp +contextual (disch:=omega) only[go_sem,Zaa,ite_self,ne_eq,not_true_eq_false,bne_self_eq_false,beq_self_eq_true,A2 (Aq (hpw.trans H.sub) hb0),hs0,A2 (H.pt 1 rfl),g1,g3,g5]
 refine A6 (Xo _ _ _ _ _ (H.rd 2 rfl) (H.rd 0 rfl) (by omega)) ?_
 try simp +contextual (disch:=omega) only[go_sem,Zaa,ite_self,ne_eq,not_true_eq_false,bne_self_eq_false,beq_self_eq_true,A2 (Aq (hpw.trans H.sub) hb0),hs0,A2 (H.pt 1 rfl),g1,g3,g5,decide_true,eq_self]
 exact(hB.trans (hpw.trans H.sub)).length_le
end Go.Proofs.YtnknigikcdgebaaGreatDoor.Sy
