/- ElabNames: for all arguments of bulk at most 1048576 the law answers true, and they read as before. -/
import Derived.Test.YthnhddjlgjecdaaGreatDoorZm6
import Derived.Test.YthnhddjlgjecdaaGreatDoorCards
import Derived.Test.YthnhddjlgjecdaaGreatDoorTie
import Derived.WalkKit
import Derived.ProofKit
set_option autoImplicit false
set_option linter.unnecessarySimpa false
set_option linter.unusedSectionVars false
set_option linter.unusedSimpArgs false
set_option linter.unusedVariables false
set_option maxHeartbeats 8000000
set_option maxRecDepth 100000
set_option relaxedAutoImplicit false


























namespace Go.Proofs.YthnhddjlgjecdaaGreatDoor
open Go X
theorem bod25 : bodT Tryz.prog 25 = true := by kernel_rfl
theorem fl74_0 : fldT Tryz.prog 74 0 = some 0 := by kernel_rfl
instance k_fl_74_0 : KFl Tryz.prog 74 0 0 := ⟨fl74_0⟩
end Go.Proofs.YthnhddjlgjecdaaGreatDoor



































































































namespace Go.Proofs.YthnhddjlgjecdaaGreatDoor
open Go X
theorem two0_ok (kd : Int) (nm : Bs) (p q : Tm) (v v2 : Value) (E : World) (H : GH) (L : List It) (hp : VT H v p) (hq : VT H v2 q) : Ok Tryz.prog 28 #[.int .i64 kd, str nm, v, v2] E H L fun r H' L' => VT H' r (.mk kd nm 0 [p, q]) ∧ L = L' := by
 have := two9_ok kd nm p q v v2 (fun _ => False) E H L Sub.no (by rw [VX, wo_none]; exact hp) (by rw [VX, wo_none]; exact hq)
 simpa only [VX, wo_none] using this
theorem examples9_ok (E : World) (H : GH) (L : List It) (hL : Laid H) : Ok Tryz.prog 10 #[] E H L fun r H' L' => r = .bool true ∧ L = L' := by
 have hx1 := exE3_x.one
 have hx2 := exE3_x.two
 have hx3 := exE3_x.size
 have hx4 := exE3_x.big
 refine enter (N := 133) [] Tryz.func10 rfl rfl rfl rfl fun a w h => ?_
 refine au [1,2,0,6,0,2,7,5] h ?_; intro a w h
 refine al zr26 h fun g1 a w h => ?_
 refine au [5,5,0,2,7,5] h ?_; intro a w h
 refine al zr26 h fun g2 a w h => ?_
 refine au [5,5,0,2,3,4,3,4] h ?_; intro a w h
 refine cl bod28 (two0_ok 4 [] (Tm.mk 1 [] 1 [] : Tm) (Tm.mk 1 [] 1 [] : Tm) _ _ E H _ ⟨none, 0, rfl, RS.nil _ _ _⟩ ⟨none, 0, rfl, RS.nil _ _ _⟩) h (fun r18 H18 L18 a w le18 R h => ?_)
 obtain ⟨⟨A18_0, c18_0, rfl, hk18_0⟩, rfl⟩ := R
 refine bdl lay28 zr28 h fun a w h => ?_
 refine cl bod20 (Elab_ok exE1 _ E H18 _ ⟨none, 0, none, 0, none, 0, A18_0, c18_0, rfl, RS.nil _ _ _, RS.nil _ _ _, RS.nil _ _ _, hk18_0⟩ (hL.up le_) mildE1) h (fun r20 H20 L20 a w le20 R h => ?_)
 obtain ⟨_, rfl, ⟨A20_0, c20_0, A20_1, c20_1, A20_2, c20_2, A20_3, c20_3, rfl, hk20_0, hk20_1, hk20_2, hk20_3⟩, rfl⟩ := R
 rw [exE1_e] at h
 refine au [0,0,4,7,4,7] h ?_; intro a w h
 refine al zr59 h fun g3 a w h => ?_
 refine au [5,5,0,6,0,2,3,4,7,5] h ?_; intro a w h
 refine cl bod20 (Elab_ok exE2 _ E H20 _ ⟨none, 0, none, 0, none, 0, none, 0, rfl, RS.nil _ _ _, RS.nil _ _ _, RS.nil _ _ _, RS.nil _ _ _⟩ (hL.up le_) mildE2) h (fun r26 H26 L26 a w le26 R h => ?_)
 obtain ⟨_, rfl, ⟨A26_0, c26_0, A26_1, c26_1, A26_2, c26_2, A26_3, c26_3, rfl, hk26_0, hk26_1, hk26_2, hk26_3⟩, rfl⟩ := R
 rw [exE2_e] at h
 refine au [0,0,4,7,4,7] h ?_; intro a w h
 refine al zr59 h fun g5 a w h => ?_
 refine au [5,5,0,6,0,2,3,5,3,6] h ?_; intro a w h
 refine cl bod28 (two0_ok 12 [43] (Tm.mk 2 [120] 0 [] : Tm) (Tm.mk 1 [] 1 [] : Tm) _ _ E H26 _ ⟨none, 0, rfl, RS.nil _ _ _⟩ ⟨none, 0, rfl, RS.nil _ _ _⟩) h (fun r31 H31 L31 a w le31 R h => ?_)
 obtain ⟨⟨A31_0, c31_0, rfl, hk31_0⟩, rfl⟩ := R
 refine bsl bs24 h fun g32 a w h => ?_
 obtain ⟨Hq32, leHq32, h, hsHq32⟩ := h.fsl (R := RT) (sz := 4) (ys := [(Tm.mk 12 [43] 0 [(Tm.mk 2 [120] 0 [] : Tm), (Tm.mk 1 [] 1 [] : Tm)])]) 0 (RowR.one rfl (rt_of_vt (cs := [_, _, _, _]) ⟨_, _, rfl, hk31_0⟩)) (fun _ l cs y _ hr => RT.mono l y hr)
 refine bdl lay26 zr26 h fun a w h => ?_
 refine al zr26 h fun g7 a w h => ?_
 refine au [5,5,0,3] h ?_; intro a w h
 refine sqc (fun a w => ∃ (HJ65 : GH) (g8 : Nat) (Aj65_0 : Option Addr) (cj65_0 : Nat) (Aj65_1 : Option Addr) (cj65_1 : Nat) (Aj65_2 : Option Addr) (cj65_2 : Nat) (Aj65_3 : Option Addr) (cj65_3 : Nat), (LE Hq32 HJ65) ∧ (TdS HJ65 Aj65_0 cj65_0 exE3.elb.1.defs) ∧ (HS HJ65 Aj65_1 cj65_1 exE3.elb.1.body.s.kids) ∧ (HS HJ65 Aj65_2 cj65_2 exE3.elb.1.body.b.kids) ∧ (TrS HJ65 Aj65_3 cj65_3 exE3.elb.1.body.kids) ∧ S E HJ65 133 [] [(0, .bool false), (1, .pointer (some ⟨g1, 0, none⟩)), (2, .pointer (some ⟨g2, 0, none⟩)), (4, .int .i64 8), (6, .int .i64 5), (8, .pointer (some ⟨g8, 0, none⟩)), (9, .int .i64 0)] (.obj g8 (.cells #[.slice Aj65_0 exE3.elb.1.defs.length cj65_0, .int .i64 exE3.elb.1.body.kind, str exE3.elb.1.body.name, .int .i64 exE3.elb.1.body.n, .int .i64 exE3.elb.1.body.s.kind, .int .i64 exE3.elb.1.body.s.n, .slice Aj65_1 exE3.elb.1.body.s.kids.length cj65_1, .int .i64 exE3.elb.1.body.b.kind, .int .i64 exE3.elb.1.body.b.n, .slice Aj65_2 exE3.elb.1.body.b.kids.length cj65_2, .slice Aj65_3 exE3.elb.1.body.kids.length cj65_3] 59 (0, 0)) :: .obj g7 (.cells #[.int .i64 3, str [120], .int .i64 0, .slice (some ⟨g32, 0, none⟩) ([(Tm.mk 12 [43] 0 [(Tm.mk 2 [120] 0 [] : Tm), (Tm.mk 1 [] 1 [] : Tm)])]).length 1] 26 (0, 0)) :: .obj g5 (.cells #[.slice A26_0 exE2.elb.1.defs.length c26_0, .int .i64 exE2.elb.1.body.kind, str exE2.elb.1.body.name, .int .i64 exE2.elb.1.body.n, .int .i64 exE2.elb.1.body.s.kind, .int .i64 exE2.elb.1.body.s.n, .slice A26_1 exE2.elb.1.body.s.kids.length c26_1, .int .i64 exE2.elb.1.body.b.kind, .int .i64 exE2.elb.1.body.b.n, .slice A26_2 exE2.elb.1.body.b.kids.length c26_2, .slice A26_3 exE2.elb.1.body.kids.length c26_3] 59 (0, 0)) :: .obj g3 (.cells #[.slice A20_0 exE1.elb.1.defs.length c20_0, .int .i64 exE1.elb.1.body.kind, str exE1.elb.1.body.name, .int .i64 exE1.elb.1.body.n, .int .i64 exE1.elb.1.body.s.kind, .int .i64 exE1.elb.1.body.s.n, .slice A20_1 exE1.elb.1.body.s.kids.length c20_1, .int .i64 exE1.elb.1.body.b.kind, .int .i64 exE1.elb.1.body.b.n, .slice A20_2 exE1.elb.1.body.b.kids.length c20_2, .slice A20_3 exE1.elb.1.body.kids.length c20_3] 59 (0, 0)) :: .obj g2 (.cells #[.int .i64 2, str [120], .int .i64 0, .slice none 0 0] 26 (0, 0)) :: .obj g1 (.cells #[.int .i64 1, str [], .int .i64 1, .slice none 0 0] 26 (0, 0)) :: L) a w) ?_ ?_
 ·refine rgx [0, 4] [_, _] [0, 4] 14 mix h (fun a w h => ?_)
  refine au [8,0,4,5,2,6,8,1,7,5,2,6,8,3,7,5,2,6,8,4,4,6,2,6] h ?_; intro a w h
  refine brl3 2 5 11 true true true (by kernel_rfl) (by kernel_rfl) (by kernel_rfl) (by kernel_rfl) (fun _ => h.st.sees' LE.rfl (by simp)) ?_ ?_ ?_
  ·refine bsl bs23 h fun g37 a w h => ?_
   obtain ⟨Hq37, leHq37, h, hsHq37⟩ := h.fsl (R := RDf) (sz := 5) (ys := [(Df.mk [102] (Tm.mk 3 [120] 0 ([(Tm.mk 12 [43] 0 [(Tm.mk 2 [120] 0 [] : Tm), (Tm.mk 1 [] 1 [] : Tm)])]) : Tm) : Df)]) 0 (RowR.one rfl (⟨_, rfl, rt_of_vt (cs := [_, _, _, _]) ⟨_, _, rfl, hsHq32⟩⟩)) (fun _ l cs y _ hr => RDf.mono l hr)
   refine br0 ?_
   refine bg2 5 11 true true h ?_ ?_
   ·refine clG bod28 (two0_ok 4 [] (Tm.mk 2 [102] 0 [] : Tm) (Tm.mk 1 [] 1 [] : Tm) _ _ E Hq37 _ ⟨none, 0, rfl, RS.nil _ _ _⟩ ⟨none, 0, rfl, RS.nil _ _ _⟩) h (fun r40 H40 L40 a w le40 R h => ?_)
    obtain ⟨⟨A40_0, c40_0, rfl, hk40_0⟩, rfl⟩ := R
    refine au [2,7,8,6,7,5,2,6] h ?_; intro a w h
    have l_Hq32_H40 : LE Hq32 H40 := leHq37.trans le40
    refine bg2 7 11 true true h ?_ ?_
    ·refine clG bod20 (Elab_ok exE3 _ E H40 _ ⟨none, 0, none, 0, (some ⟨g37, 0, none⟩), 1, A40_0, c40_0, rfl, RS.nil _ _ _, RS.nil _ _ _, (FS.up hsHq37 le40), hk40_0⟩ (hL.up le_) mildE3) h (fun r42 H42 L42 a w le42 R h => ?_)
     obtain ⟨_, rfl, ⟨A42_0, c42_0, A42_1, c42_1, A42_2, c42_2, A42_3, c42_3, rfl, hk42_0, hk42_1, hk42_2, hk42_3⟩, rfl⟩ := R
     rw [exE3_e.1] at h
     refine au [2,7,8,8,0,0,2,6,8,9,4,7,2,6,8,10,4,7,2,6] h ?_; intro a w h
     have l_Hq32_H42 : LE Hq32 H42 := (leHq37.trans le40).trans le42
     refine bg1 11 true h ?_
     refine al zr59 h fun g8 a w h => ?_
     refine br0 ?_
     refine bf1 12 ?_
     refine au [5,5,2,7,8,13,0,6,2,6] h ?_; intro a w h
     refine en (by kernel_rfl) ?_
     refine thN ?_
     exact ⟨H42, g8, A42_0, c42_0, A42_1, c42_1, A42_2, c42_2, A42_3, c42_3, l_Hq32_H42, hk42_0, hk42_1, hk42_2, hk42_3, h.to 0 _⟩
    ·refine al zr59 h fun g8 a w h => ?_
     refine br0 ?_
     refine bg1 7 true h ?_
     refine clG bod20 (Elab_ok exE3 _ E H40 _ ⟨none, 0, none, 0, (some ⟨g37, 0, none⟩), 1, A40_0, c40_0, rfl, RS.nil _ _ _, RS.nil _ _ _, (FS.up hsHq37 le40), hk40_0⟩ (hL.up le_) mildE3) h (fun r42 H42 L42 a w le42 R h => ?_)
     obtain ⟨_, rfl, ⟨A42_0, c42_0, A42_1, c42_1, A42_2, c42_2, A42_3, c42_3, rfl, hk42_0, hk42_1, hk42_2, hk42_3⟩, rfl⟩ := R
     rw [exE3_e.1] at h
     refine au [2,7,8,8,0,0,2,6,8,9,4,7,2,6,8,10,4,7,2,6] h ?_; intro a w h
     have l_Hq32_H42 : LE Hq32 H42 := (leHq37.trans le40).trans le42
     refine bf1 12 ?_
     refine au [5,5,2,7,8,13,0,6,2,6] h ?_; intro a w h
     refine en (by kernel_rfl) ?_
     refine thN ?_
     exact ⟨H42, g8, A42_0, c42_0, A42_1, c42_1, A42_2, c42_2, A42_3, c42_3, l_Hq32_H42, hk42_0, hk42_1, hk42_2, hk42_3, h.to 0 _⟩
   ·refine al zr59 h fun g8 a w h => ?_
    refine br0 ?_
    refine bg1 5 true h ?_
    refine clG bod28 (two0_ok 4 [] (Tm.mk 2 [102] 0 [] : Tm) (Tm.mk 1 [] 1 [] : Tm) _ _ E Hq37 _ ⟨none, 0, rfl, RS.nil _ _ _⟩ ⟨none, 0, rfl, RS.nil _ _ _⟩) h (fun r40 H40 L40 a w le40 R h => ?_)
    obtain ⟨⟨A40_0, c40_0, rfl, hk40_0⟩, rfl⟩ := R
    refine au [2,7,8,6,7,5,2,6] h ?_; intro a w h
    refine bg1 7 true h ?_
    refine clG bod20 (Elab_ok exE3 _ E H40 _ ⟨none, 0, none, 0, (some ⟨g37, 0, none⟩), 1, A40_0, c40_0, rfl, RS.nil _ _ _, RS.nil _ _ _, (FS.up hsHq37 le40), hk40_0⟩ (hL.up le_) mildE3) h (fun r42 H42 L42 a w le42 R h => ?_)
    obtain ⟨_, rfl, ⟨A42_0, c42_0, A42_1, c42_1, A42_2, c42_2, A42_3, c42_3, rfl, hk42_0, hk42_1, hk42_2, hk42_3⟩, rfl⟩ := R
    rw [exE3_e.1] at h
    refine au [2,7,8,8,0,0,2,6,8,9,4,7,2,6,8,10,4,7,2,6] h ?_; intro a w h
    have l_Hq32_H42 : LE Hq32 H42 := (leHq37.trans le40).trans le42
    refine bf1 12 ?_
    refine au [5,5,2,7,8,13,0,6,2,6] h ?_; intro a w h
    refine en (by kernel_rfl) ?_
    refine thN ?_
    exact ⟨H42, g8, A42_0, c42_0, A42_1, c42_1, A42_2, c42_2, A42_3, c42_3, l_Hq32_H42, hk42_0, hk42_1, hk42_2, hk42_3, h.to 0 _⟩
  ·refine clG bod28 (two0_ok 4 [] (Tm.mk 2 [102] 0 [] : Tm) (Tm.mk 1 [] 1 [] : Tm) _ _ E Hq32 _ ⟨none, 0, rfl, RS.nil _ _ _⟩ ⟨none, 0, rfl, RS.nil _ _ _⟩) h (fun r40 H40 L40 a w le40 R h => ?_)
   obtain ⟨⟨A40_0, c40_0, rfl, hk40_0⟩, rfl⟩ := R
   refine br0 ?_
   refine bg2 2 11 true true h ?_ ?_
   ·refine bsl bs23 h fun g37 a w h => ?_
    obtain ⟨Hq37, leHq37, h, hsHq37⟩ := h.fsl (R := RDf) (sz := 5) (ys := [(Df.mk [102] (Tm.mk 3 [120] 0 ([(Tm.mk 12 [43] 0 [(Tm.mk 2 [120] 0 [] : Tm), (Tm.mk 1 [] 1 [] : Tm)])]) : Tm) : Df)]) 0 (RowR.one rfl (⟨_, rfl, rt_of_vt (cs := [_, _, _, _]) ⟨_, _, rfl, (KS.up hsHq32 le40)⟩⟩)) (fun _ l cs y _ hr => RDf.mono l hr)
    refine au [2,7,8,6,7,5,2,6] h ?_; intro a w h
    have l_Hq32_Hq37 : LE Hq32 Hq37 := le40.trans leHq37
    refine bg2 7 11 true true h ?_ ?_
    ·refine clG bod20 (Elab_ok exE3 _ E Hq37 _ ⟨none, 0, none, 0, (some ⟨g37, 0, none⟩), 1, A40_0, c40_0, rfl, RS.nil _ _ _, RS.nil _ _ _, hsHq37, (KS.up hk40_0 leHq37)⟩ (hL.up le_) mildE3) h (fun r42 H42 L42 a w le42 R h => ?_)
     obtain ⟨_, rfl, ⟨A42_0, c42_0, A42_1, c42_1, A42_2, c42_2, A42_3, c42_3, rfl, hk42_0, hk42_1, hk42_2, hk42_3⟩, rfl⟩ := R
     rw [exE3_e.1] at h
     refine au [2,7,8,8,0,0,2,6,8,9,4,7,2,6,8,10,4,7,2,6] h ?_; intro a w h
     have l_Hq32_H42 : LE Hq32 H42 := (le40.trans leHq37).trans le42
     refine bg1 11 true h ?_
     refine al zr59 h fun g8 a w h => ?_
     refine br0 ?_
     refine bf1 12 ?_
     refine au [5,5,2,7,8,13,0,6,2,6] h ?_; intro a w h
     refine en (by kernel_rfl) ?_
     refine thN ?_
     exact ⟨H42, g8, A42_0, c42_0, A42_1, c42_1, A42_2, c42_2, A42_3, c42_3, l_Hq32_H42, hk42_0, hk42_1, hk42_2, hk42_3, h.to 0 _⟩
    ·refine al zr59 h fun g8 a w h => ?_
     refine br0 ?_
     refine bg1 7 true h ?_
     refine clG bod20 (Elab_ok exE3 _ E Hq37 _ ⟨none, 0, none, 0, (some ⟨g37, 0, none⟩), 1, A40_0, c40_0, rfl, RS.nil _ _ _, RS.nil _ _ _, hsHq37, (KS.up hk40_0 leHq37)⟩ (hL.up le_) mildE3) h (fun r42 H42 L42 a w le42 R h => ?_)
     obtain ⟨_, rfl, ⟨A42_0, c42_0, A42_1, c42_1, A42_2, c42_2, A42_3, c42_3, rfl, hk42_0, hk42_1, hk42_2, hk42_3⟩, rfl⟩ := R
     rw [exE3_e.1] at h
     refine au [2,7,8,8,0,0,2,6,8,9,4,7,2,6,8,10,4,7,2,6] h ?_; intro a w h
     have l_Hq32_H42 : LE Hq32 H42 := (le40.trans leHq37).trans le42
     refine bf1 12 ?_
     refine au [5,5,2,7,8,13,0,6,2,6] h ?_; intro a w h
     refine en (by kernel_rfl) ?_
     refine thN ?_
     exact ⟨H42, g8, A42_0, c42_0, A42_1, c42_1, A42_2, c42_2, A42_3, c42_3, l_Hq32_H42, hk42_0, hk42_1, hk42_2, hk42_3, h.to 0 _⟩
   ·refine al zr59 h fun g8 a w h => ?_
    refine br0 ?_
    refine bg1 2 true h ?_
    refine bsl bs23 h fun g37 a w h => ?_
    obtain ⟨Hq37, leHq37, h, hsHq37⟩ := h.fsl (R := RDf) (sz := 5) (ys := [(Df.mk [102] (Tm.mk 3 [120] 0 ([(Tm.mk 12 [43] 0 [(Tm.mk 2 [120] 0 [] : Tm), (Tm.mk 1 [] 1 [] : Tm)])]) : Tm) : Df)]) 0 (RowR.one rfl (⟨_, rfl, rt_of_vt (cs := [_, _, _, _]) ⟨_, _, rfl, (KS.up hsHq32 le40)⟩⟩)) (fun _ l cs y _ hr => RDf.mono l hr)
    refine au [2,7,8,6,7,5,2,6] h ?_; intro a w h
    refine bg1 7 true h ?_
    refine clG bod20 (Elab_ok exE3 _ E Hq37 _ ⟨none, 0, none, 0, (some ⟨g37, 0, none⟩), 1, A40_0, c40_0, rfl, RS.nil _ _ _, RS.nil _ _ _, hsHq37, (KS.up hk40_0 leHq37)⟩ (hL.up le_) mildE3) h (fun r42 H42 L42 a w le42 R h => ?_)
    obtain ⟨_, rfl, ⟨A42_0, c42_0, A42_1, c42_1, A42_2, c42_2, A42_3, c42_3, rfl, hk42_0, hk42_1, hk42_2, hk42_3⟩, rfl⟩ := R
    rw [exE3_e.1] at h
    refine au [2,7,8,8,0,0,2,6,8,9,4,7,2,6,8,10,4,7,2,6] h ?_; intro a w h
    have l_Hq32_H42 : LE Hq32 H42 := (le40.trans leHq37).trans le42
    refine bf1 12 ?_
    refine au [5,5,2,7,8,13,0,6,2,6] h ?_; intro a w h
    refine en (by kernel_rfl) ?_
    refine thN ?_
    exact ⟨H42, g8, A42_0, c42_0, A42_1, c42_1, A42_2, c42_2, A42_3, c42_3, l_Hq32_H42, hk42_0, hk42_1, hk42_2, hk42_3, h.to 0 _⟩
  ·refine al zr59 h fun g8 a w h => ?_
   refine br0 ?_
   refine bg2 2 5 true true h ?_ ?_
   ·refine bsl bs23 h fun g37 a w h => ?_
    obtain ⟨Hq37, leHq37, h, hsHq37⟩ := h.fsl (R := RDf) (sz := 5) (ys := [(Df.mk [102] (Tm.mk 3 [120] 0 ([(Tm.mk 12 [43] 0 [(Tm.mk 2 [120] 0 [] : Tm), (Tm.mk 1 [] 1 [] : Tm)])]) : Tm) : Df)]) 0 (RowR.one rfl (⟨_, rfl, rt_of_vt (cs := [_, _, _, _]) ⟨_, _, rfl, hsHq32⟩⟩)) (fun _ l cs y _ hr => RDf.mono l hr)
    refine br0 ?_
    refine bg1 5 true h ?_
    refine clG bod28 (two0_ok 4 [] (Tm.mk 2 [102] 0 [] : Tm) (Tm.mk 1 [] 1 [] : Tm) _ _ E Hq37 _ ⟨none, 0, rfl, RS.nil _ _ _⟩ ⟨none, 0, rfl, RS.nil _ _ _⟩) h (fun r40 H40 L40 a w le40 R h => ?_)
    obtain ⟨⟨A40_0, c40_0, rfl, hk40_0⟩, rfl⟩ := R
    refine au [2,7,8,6,7,5,2,6] h ?_; intro a w h
    refine bg1 7 true h ?_
    refine clG bod20 (Elab_ok exE3 _ E H40 _ ⟨none, 0, none, 0, (some ⟨g37, 0, none⟩), 1, A40_0, c40_0, rfl, RS.nil _ _ _, RS.nil _ _ _, (FS.up hsHq37 le40), hk40_0⟩ (hL.up le_) mildE3) h (fun r42 H42 L42 a w le42 R h => ?_)
    obtain ⟨_, rfl, ⟨A42_0, c42_0, A42_1, c42_1, A42_2, c42_2, A42_3, c42_3, rfl, hk42_0, hk42_1, hk42_2, hk42_3⟩, rfl⟩ := R
    rw [exE3_e.1] at h
    refine au [2,7,8,8,0,0,2,6,8,9,4,7,2,6,8,10,4,7,2,6] h ?_; intro a w h
    have l_Hq32_H42 : LE Hq32 H42 := (leHq37.trans le40).trans le42
    refine bf1 12 ?_
    refine au [5,5,2,7,8,13,0,6,2,6] h ?_; intro a w h
    refine en (by kernel_rfl) ?_
    refine thN ?_
    exact ⟨H42, g8, A42_0, c42_0, A42_1, c42_1, A42_2, c42_2, A42_3, c42_3, l_Hq32_H42, hk42_0, hk42_1, hk42_2, hk42_3, h.to 0 _⟩
   ·refine clG bod28 (two0_ok 4 [] (Tm.mk 2 [102] 0 [] : Tm) (Tm.mk 1 [] 1 [] : Tm) _ _ E Hq32 _ ⟨none, 0, rfl, RS.nil _ _ _⟩ ⟨none, 0, rfl, RS.nil _ _ _⟩) h (fun r40 H40 L40 a w le40 R h => ?_)
    obtain ⟨⟨A40_0, c40_0, rfl, hk40_0⟩, rfl⟩ := R
    refine br0 ?_
    refine bg1 2 true h ?_
    refine bsl bs23 h fun g37 a w h => ?_
    obtain ⟨Hq37, leHq37, h, hsHq37⟩ := h.fsl (R := RDf) (sz := 5) (ys := [(Df.mk [102] (Tm.mk 3 [120] 0 ([(Tm.mk 12 [43] 0 [(Tm.mk 2 [120] 0 [] : Tm), (Tm.mk 1 [] 1 [] : Tm)])]) : Tm) : Df)]) 0 (RowR.one rfl (⟨_, rfl, rt_of_vt (cs := [_, _, _, _]) ⟨_, _, rfl, (KS.up hsHq32 le40)⟩⟩)) (fun _ l cs y _ hr => RDf.mono l hr)
    refine au [2,7,8,6,7,5,2,6] h ?_; intro a w h
    refine bg1 7 true h ?_
    refine clG bod20 (Elab_ok exE3 _ E Hq37 _ ⟨none, 0, none, 0, (some ⟨g37, 0, none⟩), 1, A40_0, c40_0, rfl, RS.nil _ _ _, RS.nil _ _ _, hsHq37, (KS.up hk40_0 leHq37)⟩ (hL.up le_) mildE3) h (fun r42 H42 L42 a w le42 R h => ?_)
    obtain ⟨_, rfl, ⟨A42_0, c42_0, A42_1, c42_1, A42_2, c42_2, A42_3, c42_3, rfl, hk42_0, hk42_1, hk42_2, hk42_3⟩, rfl⟩ := R
    rw [exE3_e.1] at h
    refine au [2,7,8,8,0,0,2,6,8,9,4,7,2,6,8,10,4,7,2,6] h ?_; intro a w h
    have l_Hq32_H42 : LE Hq32 H42 := (le40.trans leHq37).trans le42
    refine bf1 12 ?_
    refine au [5,5,2,7,8,13,0,6,2,6] h ?_; intro a w h
    refine en (by kernel_rfl) ?_
    refine thN ?_
    exact ⟨H42, g8, A42_0, c42_0, A42_1, c42_1, A42_2, c42_2, A42_3, c42_3, l_Hq32_H42, hk42_0, hk42_1, hk42_2, hk42_3, h.to 0 _⟩
 ·rintro a w ⟨HJ65, g8, Aj65_0, cj65_0, Aj65_1, cj65_1, Aj65_2, cj65_2, Aj65_3, cj65_3, leHJ65, hj65_0, hj65_1, hj65_2, hj65_3, h⟩
  refine au [1,2,3,7,3,7] h ?_; intro a w h
  refine cl bod28 (two0_ok 4 [] (Tm.mk 2 [120] 0 [] : Tm) (Tm.mk 2 [120] 0 [] : Tm) _ _ E HJ65 _ ⟨none, 0, rfl, RS.nil _ _ _⟩ ⟨none, 0, rfl, RS.nil _ _ _⟩) h (fun r47 H47 L47 a w le47 R h => ?_)
  obtain ⟨⟨A47_0, c47_0, rfl, hk47_0⟩, rfl⟩ := R
  refine bsl bs24 h fun g48 a w h => ?_
  obtain ⟨Hq48, leHq48, h, hsHq48⟩ := h.fsl (R := RT) (sz := 4) (ys := [(Tm.mk 4 [] 0 [(Tm.mk 2 [120] 0 [] : Tm), (Tm.mk 2 [120] 0 [] : Tm)])]) 0 (RowR.one rfl (rt_of_vt (cs := [_, _, _, _]) ⟨_, _, rfl, hk47_0⟩)) (fun _ l cs y _ hr => RT.mono l y hr)
  refine bdl lay26 zr26 h fun a w h => ?_
  refine al zr26 h fun g10 a w h => ?_
  refine au [5,5,0,2,3,3] h ?_; intro a w h
  refine ldW 6 tN26 h fun a w h => ?_
  refine cl bod28 (two0_ok 13 [] (Tm.mk 3 [120] 0 ([(Tm.mk 4 [] 0 [(Tm.mk 2 [120] 0 [] : Tm), (Tm.mk 2 [120] 0 [] : Tm)])]) : Tm) (Tm.mk 1 [] 1 [] : Tm) _ _ E Hq48 _ ⟨(some ⟨g48, 0, none⟩), 1, rfl, hsHq48⟩ ⟨none, 0, rfl, RS.nil _ _ _⟩) h (fun r53 H53 L53 a w le53 R h => ?_)
  obtain ⟨⟨A53_0, c53_0, rfl, hk53_0⟩, rfl⟩ := R
  refine bdl lay28 zr28 h fun a w h => ?_
  refine cl bod20 (Elab_ok exE4 _ E H53 _ ⟨none, 0, none, 0, none, 0, A53_0, c53_0, rfl, RS.nil _ _ _, RS.nil _ _ _, RS.nil _ _ _, hk53_0⟩ (hL.up le_) mildE4) h (fun r55 H55 L55 a w le55 R h => ?_)
  obtain ⟨_, rfl, ⟨A55_0, c55_0, A55_1, c55_1, A55_2, c55_2, A55_3, c55_3, rfl, hk55_0, hk55_1, hk55_2, hk55_3⟩, rfl⟩ := R
  rw [exE4_e] at h
  refine au [0,0,4,7,4,7] h ?_; intro a w h
  refine al zr59 h fun g11 a w h => ?_
  refine au [5,5,0,6,0,3,0,4] h ?_; intro a w h
  refine sqc (fun a w => S E H55 133 [] [(0, .bool false), (4, .int .i64 8), (6, .int .i64 5), (8, .pointer (some ⟨g8, 0, none⟩)), (9, .int .i64 0), (12, .int .i64 8), (68, .bool (((exE3.elb.1.body.kids.length : Int) : Int) != 2))] (.obj g11 (.cells #[.slice A55_0 exE4.elb.1.defs.length c55_0, .int .i64 exE4.elb.1.body.kind, str exE4.elb.1.body.name, .int .i64 exE4.elb.1.body.n, .int .i64 exE4.elb.1.body.s.kind, .int .i64 exE4.elb.1.body.s.n, .slice A55_1 exE4.elb.1.body.s.kids.length c55_1, .int .i64 exE4.elb.1.body.b.kind, .int .i64 exE4.elb.1.body.b.n, .slice A55_2 exE4.elb.1.body.b.kids.length c55_2, .slice A55_3 exE4.elb.1.body.kids.length c55_3] 59 (0, 0)) :: .obj g10 (.cells #[.int .i64 3, str [120], .int .i64 0, .slice (some ⟨g48, 0, none⟩) ([(Tm.mk 4 [] 0 [(Tm.mk 2 [120] 0 [] : Tm), (Tm.mk 2 [120] 0 [] : Tm)])]).length 1] 26 (0, 0)) :: .obj g8 (.cells #[.slice Aj65_0 exE3.elb.1.defs.length cj65_0, .int .i64 exE3.elb.1.body.kind, str exE3.elb.1.body.name, .int .i64 exE3.elb.1.body.n, .int .i64 exE3.elb.1.body.s.kind, .int .i64 exE3.elb.1.body.s.n, .slice Aj65_1 exE3.elb.1.body.s.kids.length cj65_1, .int .i64 exE3.elb.1.body.b.kind, .int .i64 exE3.elb.1.body.b.n, .slice Aj65_2 exE3.elb.1.body.b.kids.length cj65_2, .slice Aj65_3 exE3.elb.1.body.kids.length cj65_3] 59 (0, 0)) :: .obj g7 (.cells #[.int .i64 3, str [120], .int .i64 0, .slice (some ⟨g32, 0, none⟩) ([(Tm.mk 12 [43] 0 [(Tm.mk 2 [120] 0 [] : Tm), (Tm.mk 1 [] 1 [] : Tm)])]).length 1] 26 (0, 0)) :: .obj g5 (.cells #[.slice A26_0 exE2.elb.1.defs.length c26_0, .int .i64 exE2.elb.1.body.kind, str exE2.elb.1.body.name, .int .i64 exE2.elb.1.body.n, .int .i64 exE2.elb.1.body.s.kind, .int .i64 exE2.elb.1.body.s.n, .slice A26_1 exE2.elb.1.body.s.kids.length c26_1, .int .i64 exE2.elb.1.body.b.kind, .int .i64 exE2.elb.1.body.b.n, .slice A26_2 exE2.elb.1.body.b.kids.length c26_2, .slice A26_3 exE2.elb.1.body.kids.length c26_3] 59 (0, 0)) :: .obj g3 (.cells #[.slice A20_0 exE1.elb.1.defs.length c20_0, .int .i64 exE1.elb.1.body.kind, str exE1.elb.1.body.name, .int .i64 exE1.elb.1.body.n, .int .i64 exE1.elb.1.body.s.kind, .int .i64 exE1.elb.1.body.s.n, .slice A20_1 exE1.elb.1.body.s.kids.length c20_1, .int .i64 exE1.elb.1.body.b.kind, .int .i64 exE1.elb.1.body.b.n, .slice A20_2 exE1.elb.1.body.b.kids.length c20_2, .slice A20_3 exE1.elb.1.body.kids.length c20_3] 59 (0, 0)) :: .obj g2 (.cells #[.int .i64 2, str [120], .int .i64 0, .slice none 0 0] 26 (0, 0)) :: .obj g1 (.cells #[.int .i64 1, str [], .int .i64 1, .slice none 0 0] 26 (0, 0)) :: L) a w) ?_ ?_
  ·refine au [0,5,0,7,3,0,6,0,6,3] h ?_; intro a w h
   refine h.spl (fun c61 h => ?_) (fun c61 h => ?_)
   ·have d61 : exE3.elb.1.defs.length ≠ 1 := cd_ c61
    rw [hx1] at c61; simp at c61
   ·have d61 : exE3.elb.1.defs.length = 1 := cd_ c61
    refine au [0,0,0,7,0,7,3,0,6,0,6,3,5,0,0,3] h ?_; intro a w h
    exact h.to 0 _
  ·rintro a w h
   refine cdB h (fun c68 => ?_) (fun c68 => ?_)
   ·have d68 : exE3.elb.1.body.kids.length ≠ 2 := cd_ c68
    rw [hx2] at c68; simp at c68
   ·have d68 : exE3.elb.1.body.kids.length = 2 := cd_ c68
    refine au [1,8,1,0] h ?_
    refine sqc (fun a w => S E H55 133 [] [(0, .bool (exE3.elb.1.body.same exE3.elb.1.body))] (.obj g11 (.cells #[.slice A55_0 exE4.elb.1.defs.length c55_0, .int .i64 exE4.elb.1.body.kind, str exE4.elb.1.body.name, .int .i64 exE4.elb.1.body.n, .int .i64 exE4.elb.1.body.s.kind, .int .i64 exE4.elb.1.body.s.n, .slice A55_1 exE4.elb.1.body.s.kids.length c55_1, .int .i64 exE4.elb.1.body.b.kind, .int .i64 exE4.elb.1.body.b.n, .slice A55_2 exE4.elb.1.body.b.kids.length c55_2, .slice A55_3 exE4.elb.1.body.kids.length c55_3] 59 (0, 0)) :: .obj g10 (.cells #[.int .i64 3, str [120], .int .i64 0, .slice (some ⟨g48, 0, none⟩) ([(Tm.mk 4 [] 0 [(Tm.mk 2 [120] 0 [] : Tm), (Tm.mk 2 [120] 0 [] : Tm)])]).length 1] 26 (0, 0)) :: .obj g8 (.cells #[.slice Aj65_0 exE3.elb.1.defs.length cj65_0, .int .i64 exE3.elb.1.body.kind, str exE3.elb.1.body.name, .int .i64 exE3.elb.1.body.n, .int .i64 exE3.elb.1.body.s.kind, .int .i64 exE3.elb.1.body.s.n, .slice Aj65_1 exE3.elb.1.body.s.kids.length cj65_1, .int .i64 exE3.elb.1.body.b.kind, .int .i64 exE3.elb.1.body.b.n, .slice Aj65_2 exE3.elb.1.body.b.kids.length cj65_2, .slice Aj65_3 exE3.elb.1.body.kids.length cj65_3] 59 (0, 0)) :: .obj g7 (.cells #[.int .i64 3, str [120], .int .i64 0, .slice (some ⟨g32, 0, none⟩) ([(Tm.mk 12 [43] 0 [(Tm.mk 2 [120] 0 [] : Tm), (Tm.mk 1 [] 1 [] : Tm)])]).length 1] 26 (0, 0)) :: .obj g5 (.cells #[.slice A26_0 exE2.elb.1.defs.length c26_0, .int .i64 exE2.elb.1.body.kind, str exE2.elb.1.body.name, .int .i64 exE2.elb.1.body.n, .int .i64 exE2.elb.1.body.s.kind, .int .i64 exE2.elb.1.body.s.n, .slice A26_1 exE2.elb.1.body.s.kids.length c26_1, .int .i64 exE2.elb.1.body.b.kind, .int .i64 exE2.elb.1.body.b.n, .slice A26_2 exE2.elb.1.body.b.kids.length c26_2, .slice A26_3 exE2.elb.1.body.kids.length c26_3] 59 (0, 0)) :: .obj g3 (.cells #[.slice A20_0 exE1.elb.1.defs.length c20_0, .int .i64 exE1.elb.1.body.kind, str exE1.elb.1.body.name, .int .i64 exE1.elb.1.body.n, .int .i64 exE1.elb.1.body.s.kind, .int .i64 exE1.elb.1.body.s.n, .slice A20_1 exE1.elb.1.body.s.kids.length c20_1, .int .i64 exE1.elb.1.body.b.kind, .int .i64 exE1.elb.1.body.b.n, .slice A20_2 exE1.elb.1.body.b.kids.length c20_2, .slice A20_3 exE1.elb.1.body.kids.length c20_3] 59 (0, 0)) :: .obj g2 (.cells #[.int .i64 2, str [120], .int .i64 0, .slice none 0 0] 26 (0, 0)) :: .obj g1 (.cells #[.int .i64 1, str [], .int .i64 1, .slice none 0 0] 26 (0, 0)) :: L) a w) ?_ ?_
    ·refine au [0,5,0,0,6,2] h ?_; intro a w h
     refine h.spl (fun c70 h => ?_) (fun c70 h => ?_)
     ·have d70 : 8 = 8 := cd_ c70
      refine au [0,0,0,0,6,2] h ?_; intro a w h
      refine h.spl (fun c73 h => ?_) (fun c73 h => ?_)
      ·have d73 : 5 = 5 := cd_ c73
       refine au [4,8,0,0,0,0,6,2] h ?_; intro a w h
       refine h.spl (fun c77 h => ?_) (fun c77 h => ?_)
       ·have d77 : 0 = 0 := cd_ c77
        refine au [4,8,0,0,0,0,6,2] h ?_; intro a w h
        refine h.spl (fun c81 h => ?_) (fun c81 h => ?_)
        ·have d81 : 8 = 8 := cd_ c81
         refine au [4,8,0,0,0,7,3,0] h ?_; intro a w h
         have l_HJ65_H55 : LE HJ65 H55 := ((le47.trans leHq48).trans le53).trans le55
         have hj86 : 0 < exE3.elb.1.defs.length := by first | assumption | omega | (simp; done) | (simp; omega)
         obtain ⟨g86, o86, A86_0, c86_0, A86_1, c86_1, A86_2, c86_2, e86, hv86, hc86⟩ := TdS.get (TdS.up hj65_0 l_HJ65_H55) hj86
         obtain ⟨_, _, _, _, _, _, q86, hk86_0, hk86_1, hk86_2⟩ := hv86; cases q86
         refine iaE sli57 sz74 rfl hj86 e86 h fun a w h => ?_
         refine fa fl74_1 (r := o86 + 0 * 11 + 1) h fun a w h => ?_
         refine fa fl34_3 (r := o86 + 0 * 11 + 4) h fun a w h => ?_
         refine ldHN (l := [_, _, _]) tN31 rfl (sbL 4 3 hc86) h fun a w h => ?_
         refine cl bod26 (Text_ok exE3.elb.1.defs[0].t.s _ E H55 _ (hL.up le_) ⟨A86_0, c86_0, rfl, hk86_0⟩ (by rw [exE3_x.s]; decide) (fun _ x hx => by rw [exE3_x.s] at hx; simp [fu, wh, Sh.hl, hlL] at hx)) h (fun r90 H90 L90 a w le90 R h => ?_)
         obtain ⟨rfl, rfl, rfl⟩ := R
         refine eqb h fun a w h => ?_
         refine h.spl (fun c91 h => ?_) (fun c91 h => ?_)
         ·have d91 : (exE3.elb.1.defs[0].t.s.text) = [40, 105, 110, 116, 32, 45, 62, 32, 105, 110, 116, 41] := cd_ c91
          refine au [4,8,0,0,0,7,3,0] h ?_; intro a w h
          have hj96 : 0 < exE3.elb.1.defs.length := by first | assumption | omega | (simp; done) | (simp; omega)
          obtain ⟨g96, o96, A96_0, c96_0, A96_1, c96_1, A96_2, c96_2, e96, hv96, hc96⟩ := TdS.get (TdS.up hj65_0 l_HJ65_H55) hj96
          obtain ⟨_, _, _, _, _, _, q96, hk96_0, hk96_1, hk96_2⟩ := hv96; cases q96
          refine iaE sli57 sz74 rfl hj96 e96 h fun a w h => ?_
          refine fa fl74_1 (r := o96 + 0 * 11 + 1) h fun a w h => ?_
          refine fa fl34_4 (r := o96 + 0 * 11 + 7) h fun a w h => ?_
          refine fa fl31_0 (r := o96 + 0 * 11 + 7) h fun a w h => ?_
          refine ldH t1_3 (hc96 7 _ rfl) h fun a w h => ?_
          refine eqi h fun a w h => ?_
          refine h.spl (fun c101 h => ?_) (fun c101 h => ?_)
          ·have d101 : exE3.elb.1.defs[0].t.b.kind = 1 := cd_ c101
           refine au [4,8,0,0,0,7,0,7,0,7,3,0,6,2] h ?_; intro a w h
           refine h.spl (fun c108 h => ?_) (fun c108 h => ?_)
           ·have d108 : exE3.elb.1.body.s.kind = 1 := cd_ c108
            refine au [4,8,0,0,0,7,3,0] h ?_; intro a w h
            have hj113 : 0 < exE3.elb.1.defs.length := by first | assumption | omega | (simp; done) | (simp; omega)
            obtain ⟨g113, o113, A113_0, c113_0, A113_1, c113_1, A113_2, c113_2, e113, hv113, hc113⟩ := TdS.get (TdS.up hj65_0 l_HJ65_H55) hj113
            obtain ⟨_, _, _, _, _, _, q113, hk113_0, hk113_1, hk113_2⟩ := hv113; cases q113
            refine iaE sli57 sz74 rfl hj113 e113 h fun a w h => ?_
            refine fa fl74_1 (r := o113 + 0 * 11 + 1) h fun a w h => ?_
            refine fa fl34_1 (r := o113 + 0 * 11 + 2) h fun a w h => ?_
            refine ldH t1_9 (hc113 2 _ rfl) h fun a w h => ?_
            refine eqb h fun a w h => ?_
            refine h.spl (fun c117 h => ?_) (fun c117 h => ?_)
            ·have d117 : exE3.elb.1.defs[0].t.name = [49] := cd_ c117
             refine au [4,8,0,0,0,7] h ?_; intro a w h
             refine ldN (l := [_, _, _, _, _, _, _, _, _, _]) 2 tN34 h fun a w h => ?_
             refine cl bod16 (Bare_ok exE3.elb.1.body _ E H55 _ ⟨Aj65_1, cj65_1, Aj65_2, cj65_2, Aj65_3, cj65_3, rfl, (HS.up hj65_1 l_HJ65_H55), (HS.up hj65_2 l_HJ65_H55), (TrS.up hj65_3 l_HJ65_H55)⟩ (by omega)) h (fun r122 H122 L122 a w le122 R h => ?_)
             obtain ⟨⟨A122_0, c122_0, rfl, hk122_0⟩, rfl⟩ := R
             refine fld1 (r := 0) (by kernel_rfl) h fun a w h => ?_
             refine eqi h fun a w h => ?_
             refine h.spl (fun c124 h => ?_) (fun c124 h => ?_)
             ·have d124 : (exE3.elb.1.body.bare).kind = 4 := cd_ c124
              refine au [4,8,0,0,0,7] h ?_; intro a w h
              refine ldN (l := [_, _, _, _, _, _, _, _, _, _]) 2 tN34 h fun a w h => ?_
              refine fa fl59_1 (r := 1) h fun a w h => ?_
              refine ldN (l := [_, _, _, _, _, _, _, _, _, _]) 2 tN34 h fun a w h => ?_
              have l_HJ65_H122 : LE HJ65 H122 := (((le47.trans leHq48).trans le53).trans le55).trans le122
              refine cl bod11 (SameTr_ok exE3.elb.1.body exE3.elb.1.body _ _ E H122 _ ⟨Aj65_1, cj65_1, Aj65_2, cj65_2, Aj65_3, cj65_3, rfl, (HS.up hj65_1 l_HJ65_H122), (HS.up hj65_2 l_HJ65_H122), (TrS.up hj65_3 l_HJ65_H122)⟩ ⟨Aj65_1, cj65_1, Aj65_2, cj65_2, Aj65_3, cj65_3, rfl, (HS.up hj65_1 l_HJ65_H122), (HS.up hj65_2 l_HJ65_H122), (TrS.up hj65_3 l_HJ65_H122)⟩ (by omega) (by omega)) h (fun r131 H131 L131 a w le131 R h => ?_)
              obtain ⟨rfl, rfl, rfl⟩ := R
              refine au [4,8,0,6,0,3] h ?_; intro a w h
              have h := h.less le122
              exact h.to 0 _
             ·have d124 : (exE3.elb.1.body.bare).kind ≠ 4 := cd_ c124
              rw [exE3_x.bare] at c124; simp at c124
            ·have d117 : exE3.elb.1.defs[0].t.name ≠ [49] := cd_ c117
             rw [exE3_x.nm] at c117; simp at c117
           ·have d108 : exE3.elb.1.body.s.kind ≠ 1 := cd_ c108
            rw [exE3_x.bs] at c108; simp [wh, Sh.kind] at c108
          ·have d101 : exE3.elb.1.defs[0].t.b.kind ≠ 1 := cd_ c101
           rw [exE3_x.b] at c101; simp [wh, Sh.kind] at c101
         ·have d91 : (exE3.elb.1.defs[0].t.s.text) ≠ [40, 105, 110, 116, 32, 45, 62, 32, 105, 110, 116, 41] := cd_ c91
          rw [exE3_x.s, tx3] at c91; simp at c91
        ·have d81 : 8 ≠ 8 := cd_ c81
         simp at c81
       ·have d77 : 0 ≠ 0 := cd_ c77
        simp at c77
      ·have d73 : 5 ≠ 5 := cd_ c73
       simp at c73
     ·have d70 : 8 ≠ 8 := cd_ c70
      simp at c70
    ·rintro a w h
     refine ret_ ?_
     have l_H_H55 : LE H H55 := ((((((((le18.trans le20).trans le26).trans le31).trans leHq32).trans leHJ65).trans le47).trans leHq48).trans le53).trans le55
     refine fin1 0 8 h l_H_H55 ?_
     exact ⟨by rw [(tr_same_iff _ _).2 rfl], rfl⟩
theorem s_big {t : Tr} : t.s.size ≤ t.big ∧ t.b.size ≤ t.big := by
 obtain ⟨k, m, n, s, b, ks⟩ := t
 simp only [Tr.s, Tr.b, Tr.big]; omega
section
variable {G : Bs → Option Sh} {K : Bs → Bool} {fm f g : Bs → Option Value}
def NmR (G : Bs → Option Sh) (K : Bs → Bool) (fm : Bs → Option Value) : Prop := ∀ x, K x = true → ∃ s, G x = some s ∧ fm x = some (str s.text)
def NmK (G : Bs → Option Sh) (f g : Bs → Option Value) : Prop := ∀ x s, G x = some s → f x = some (str s.text) → g x = some (str s.text)
abbrev inL (l : List Bs) : Bs → Bool := fun x => decide (x ∈ l)
theorem NmK.put {s : Sh} {nm : Bs} (h : NmK G f g) (hg : G nm = some s) : NmK G f (upd g nm (some (str s.text))) := by
 intro x s' h1 h2
 by_cases e : x = nm
 · subst e; rw [hg] at h1; cases h1; simp [upd]
 · simp only [upd, if_neg e]; exact h x s' h1 h2
theorem NmK.trans {k : Bs → Option Value} (h : NmK G f g) (q : NmK G g k) : NmK G f k := fun x s hg hf => q x s hg (h x s hg hf)
theorem NmR.up (h : NmR G K f) (k : NmK G f g) : NmR G K g := fun x hx => let ⟨s, h1, h2⟩ := h x hx; ⟨s, h1, k x s h1 h2⟩
theorem NmR.get {x : Bs} {s : Sh} (h : NmR G K f) (hk : K x = true) (hg : G x = some s) : f x = some (str s.text) := by
 obtain ⟨s', h1, h2⟩ := h x hk
 rw [hg] at h1; cases h1; exact h2
theorem NmR.nil : NmR G (inL []) f := fun x hx => by simp [inL] at hx
theorem NmR.snoc {l : List Bs} {x : Bs} {s : Sh} (h : NmR G (inL l) f) (hg : G x = some s) : NmR G (inL (l ++ [x])) (upd f x (some (str s.text))) := by
 intro y hy
 by_cases e : y = x
 · subst e; exact ⟨s, hg, by simp [upd]⟩
 · obtain ⟨s', h1, h2⟩ := h y (by simpa [inL, e] using hy)
   exact ⟨s', h1, by simp only [upd, if_neg e]; exact h2⟩
theorem nm_kids {kd nn : Int} {nm : Bs} {s b : Sh} {ks : List Tr} {fm1 : Bs → Option Value} (hk : (Tr.mk kd nm nn s b ks).bare.okn K = true) (hR : NmR G K fm) (hb : bnd kd = true → G nm = some b)
   (h1 : (bnd kd = false ∧ fm1 = fm) ∨ (bnd kd = true ∧ fm1 = upd fm nm (some (str b.text)))) : NmK G fm fm1 ∧ ∀ k (h : k < ks.length), ∃ K', ks[k].bare.okn K' = true ∧ NmR G K' fm1 := by
 have hkk : NmK G fm fm1 := by
   rcases h1 with ⟨_, rfl⟩ | ⟨hb1, rfl⟩
   · exact fun _ _ _ h => h
   · exact NmK.put (fun _ _ _ h => h) (hb hb1)
 refine ⟨hkk, fun k h => ?_⟩
 simp only [Tr.bare, Tm.okn, Bool.and_eq_true] at hk
 have hl : k < (bareL ks).length := by rw [bareL_map, List.length_map]; exact h
 have q := okn_at hl hk.2.2
 have e : (bareL ks)[k] = ks[k].bare := by simp only [bareL_map, List.getElem_map]
 rw [e] at q
 refine ⟨_, q, fun x hx => ?_⟩
 split at hx
 · rename_i hc
   rw [Bool.and_eq_true] at hc
   rcases h1 with ⟨h0, _⟩ | ⟨hb1, rfl⟩
   · rw [h0] at hc; cases hc.1
   · simp only [Bool.or_eq_true, decide_eq_true_eq] at hx
     by_cases e : x = nm
     · subst e; exact ⟨b, hb hb1, by simp [upd]⟩
     · exact (hR.up hkk) x (hx.resolve_left e)
 · exact (hR.up hkk) x hx
theorem okn_ref {kd nn : Int} {nm : Bs} {s b : Sh} {ks : List Tr} (h2 : kd = 2) (hk : (Tr.mk kd nm nn s b ks).bare.okn K = true) : K nm = true := by
 subst h2
 simp only [Tr.bare, Tm.okn, Bool.and_eq_true] at hk
 simpa using hk.2.1
theorem fine_hl {s : Sh} (h : s.hl = []) : s.right = true → HlOk s := fun _ x hx => by rw [h] at hx; cases hx
end
structure NameF (p : Pg) (G : Bs → Option Sh) : Prop where
 inp : ∀ i (h : i < p.inputs.length), G p.inputs[i].name = some wh
 cel : ∀ i (h : i < p.cells.length), G p.cells[i].name = some ce
 lens : p.inputs.length ≤ 32 ∧ p.cells.length ≤ 32 ∧ p.elb.1.defs.length ≤ 32
 kn : ∀ i (h : i < p.elb.1.defs.length), p.resolve.1.known (i + 1) = p.resolve.1.known i ++ [p.elb.1.defs[i].name]
 kn0 : p.resolve.1.known 0 = p.inputs.map (·.name) ++ p.cells.map (·.name)
 defs : ∀ i (h : i < p.elb.1.defs.length), p.elb.1.defs[i].t.ok G id ∧ p.elb.1.defs[i].t.fine ∧ p.elb.1.defs[i].t.size ≤ 1000000 ∧ p.elb.1.defs[i].t.bare.okn (inL (p.resolve.1.known i)) = true ∧ G p.elb.1.defs[i].name = some p.elb.1.defs[i].t.s
 body : p.elb.1.body.ok G id ∧ p.elb.1.body.fine ∧ p.elb.1.body.size ≤ 1000000 ∧ p.elb.1.body.bare.okn (inL (p.resolve.1.known p.elb.1.defs.length)) = true
theorem fine_s {t : Tr} (h : t.fine) : t.s.hl = [] := by
 obtain ⟨k, m, n, s, b, ks⟩ := t
 simp only [Tr.fine] at h
 exact h.1.1
section
variable {p : Pg} {G : Bs → Option Sh} {f g : Bs → Option Value} {k : Nat}
theorem NmR.takeI (h : NmR G (inL ((p.inputs.take k).map (·.name))) f) (hG : NameF p G) (hk : k < p.inputs.length) : NmR G (inL ((p.inputs.take (k + 1)).map (·.name))) (upd f p.inputs[k].name (some (str [105, 110, 116]))) := by
 rw [List.take_succ_eq_append_getElem hk, List.map_append]
 exact h.snoc (hG.inp k hk)
theorem NmR.takeC (h : NmR G (inL (p.inputs.map (·.name) ++ (p.cells.take k).map (·.name))) f) (hG : NameF p G) (hk : k < p.cells.length) : NmR G (inL (p.inputs.map (·.name) ++ (p.cells.take (k + 1)).map (·.name))) (upd f p.cells[k].name (some (str [114, 101, 102]))) := by
 rw [List.take_succ_eq_append_getElem hk, List.map_append, ← List.append_assoc]
 exact h.snoc (hG.cel k hk)
theorem NmR.takeD (h : NmR G (inL (p.resolve.1.known k)) f) (hG : NameF p G) (hk : k < p.elb.1.defs.length) (q : NmK G f g) : NmR G (inL (p.resolve.1.known (k + 1))) (upd g p.elb.1.defs[k].name (some (str p.elb.1.defs[k].t.s.text))) := by
 rw [hG.kn k hk]
 exact (h.up q).snoc (hG.defs k hk).2.2.2.2
theorem NmR.doneI (h : NmR G (inL ((p.inputs.take k).map (·.name))) f) (hk : ¬ k < p.inputs.length) : NmR G (inL (p.inputs.map (·.name) ++ (p.cells.take 0).map (·.name))) f := by
 rw [List.take_of_length_le (by omega)] at h
 simpa using h
theorem NmR.doneC (h : NmR G (inL (p.inputs.map (·.name) ++ (p.cells.take k).map (·.name))) f) (hG : NameF p G) (hk : ¬ k < p.cells.length) : NmR G (inL (p.resolve.1.known 0)) f := by
 rw [List.take_of_length_le (by omega)] at h
 rw [hG.kn0]; exact h
end
theorem name_f {p : Pg} (h : p.elb.2 = 0) : ∃ G, NameF p G := by
 have hb := bare_f h
 obtain ⟨hz, G, hs⟩ := elab_yes h
 have hp := resolve_pgok hz
 obtain ⟨hr, ds, n, hg, _, e⟩ := resolve_cases hz
 have ei : p.resolve.1.inputs = p.inputs := by rw [e]
 have ec : p.resolve.1.cells = p.cells := by rw [e]
 refine ⟨G, fun i hi => hs.inp _ (by rw [ei]; exact List.getElem_mem hi), fun i hi => hs.cel _ (by rw [ec]; exact List.getElem_mem hi), by have := resolve_len hz; rw [ei, ec, ← hb.len] at this; exact this, fun i hi => ?_, by simp [Pg.known, ei, ec], fun i hi => ?_, ?_⟩
 · have hi2 : i < p.resolve.1.defs.length := by rw [← hb.len]; exact hi
   rw [(hb.defs i hi hi2).2.1]
   unfold Pg.known
   rw [List.take_succ_eq_append_getElem hi2]
   simp only [List.map_append, List.append_assoc, List.map_cons, List.map_nil]
 · obtain ⟨d1, d2, d3⟩ := hs.defs _ (List.getElem_mem hi)
   have hi2 : i < p.resolve.1.defs.length := by rw [← hb.len]; exact hi
   obtain ⟨e1, e2, e3⟩ := hb.defs i hi hi2
   exact ⟨d1, d2, e3, by rw [e1]; exact hp.defs i hi2, d3⟩
 · exact ⟨hs.body.1, hs.body.2.1, hb.size, by rw [hb.body, hb.len]; exact hp.body⟩
theorem mapSS9 : mapT Tryz.prog 80 = some (9, 9) := by kernel_rfl
theorem held9_ok : ∀ (t : Tr) (G : Bs → Option Sh) (K : Bs → Bool) (gm : Nat) (fm : Bs → Option Value) (v : Value) (E : World) (H : GH) (L : List It), Laid H → t.ok G id → t.fine → t.bare.okn K = true → NmR G K fm → VTr H v t → t.size < 1000000000 → t.big < 100000000 →
   Ok Tryz.prog 25 #[v, .map (some gm)] E H (.blk gm (IsMap encS fm) :: L) fun r H' L' => r = .bool true ∧ ∃ fm', NmK G fm fm' ∧ L' = .blk gm (IsMap encS fm') :: L := by
 intro t
 induction t using Tr.ind with
 | h kd nm nn s b ks ih =>
 intro G K gm fm v E H L hL ho hf hk hR hv hb hg
 obtain ⟨At0, ct0, At1, ct1, At2, ct2, rfl, ht0, ht1, ht2⟩ := hv
 dsimp only [Tr.kind, Tr.name, Tr.n, Tr.s, Tr.b, Tr.kids] at ht0 ht1 ht2 ⊢
 simp only [Tr.ok, id] at ho
 obtain ⟨ha, hr, h2, hbd, hz, hks⟩ := ho
 simp only [Tr.fine] at hf
 obtain ⟨⟨hf1, hfs0⟩, ⟨hf2, hfb⟩, hf3⟩ := hf
 simp only [Tr.size] at hb
 simp only [Tr.big] at hg
 have hlen := tr_len_le ks
 refine enter (N := 51) [(0, _), (1, _)] Tryz.func25 rfl rfl rfl rfl fun a w h => ?_
 refine au [1,2] h ?_
 refine bxA h fun g2 a w h => ?_
 refine au [0,6,0,3,0,4,1,2,0,7,0,8,6,2,0,3] h ?_; intro a w h
 refine cdB h (fun c8 => ?_) (fun c8 => ?_)
 ·have d8 : kd = 2 := cd_ c8
  have hfs := hR.get (okn_ref d8 hk) (h2 d8)
  refine sq ?_
  refine rgd [0, 1] [_, _] [2] [2, 3, 5] 1 mix (by kernel_rfl) h (fun a w h => ?_)
  refine au [0,0,0,7,4,2] h ?_; intro a w h
  refine lk1D (f := fm) (q := nm) 1 keyS mapSS9 zr9 h fun a w h => ?_
  rw [hfs] at h
  refine fa fl34_3 (r := 3) h fun a w h => ?_
  refine ldND (l := [_, _, _]) 0 tN31 h fun a w h => ?_
  refine clG bod26 (Text_ok s _ E H _ (hL.up le_) ⟨At0, ct0, rfl, ht0⟩ (by omega) (fine_hl hf1)) h (fun r15 H15 L15 a w le15 R h => ?_)
  obtain ⟨rfl, rfl, rfl⟩ := R
  refine au [6,8,0,6,0,3,1,3,1,4] h ?_; intro a w h
  refine fin1 4 1 h LE.rfl ?_
  exact ⟨by simp, fm, fun _ _ _ q => q, rfl⟩
 ·have d8 : kd ≠ 2 := cd_ c8
  refine au [1,8,1,0,0,4] h ?_
  refine sqc (fun a w => S E H 51 [] [(1, .map (some gm)), (2, .pointer (some ⟨g2, 0, none⟩)), (4, .bool false), (29, .bool (((kd : Int) == 3) || (((kd : Int) == 5) || ((kd : Int) == 9))))] (.obj g2 (.cells #[.int .i64 kd, str nm, .int .i64 nn, .int .i64 s.kind, .int .i64 s.n, .slice At0 s.kids.length ct0, .int .i64 b.kind, .int .i64 b.n, .slice At1 b.kids.length ct1, .slice At2 ks.length ct2] 34 (0, 0)) :: .blk gm (IsMap encS fm) :: L) a w) ?_ ?_
  ·refine au [0,5,0,7,0,8,6,2] h ?_; intro a w h
   refine h.spl (fun c19 h => ?_) (fun c19 h => ?_)
   ·have d19 : kd = 3 := cd_ c19
    refine au [0,0,0,1,0,1,0,1,4,8,0,0,0,1,0,1,0,1,4,8,0,3] h ?_; intro a w h
    exact (by show S _ _ _ _ _ _ _ _; rw [show (.bool (((kd : Int) == 3) || (((kd : Int) == 5) || ((kd : Int) == 9))) : Value) = .bool true from Eq.symm (by first | ((try rw [c19]) <;> (try simp only [Bool.true_or, Bool.or_true, Bool.false_or, Bool.or_false, Bool.true_and, Bool.and_true, Bool.false_and, Bool.and_false, Bool.not_true, Bool.not_false, cond_true, cond_false]); done) | (exfalso; omega))]; exact h.to 0 _)
   ·have d19 : kd ≠ 3 := cd_ c19
    refine au [0,0,0,7,0,8,6,2,5,0] h ?_; intro a w h
    refine h.spl (fun c24 h => ?_) (fun c24 h => ?_)
    ·have d24 : kd = 5 := cd_ c24
     refine au [0,0,0,1,0,1,0,1,4,8,0,3] h ?_; intro a w h
     exact (by show S _ _ _ _ _ _ _ _; rw [show (.bool (((kd : Int) == 3) || (((kd : Int) == 5) || ((kd : Int) == 9))) : Value) = .bool true from Eq.symm (by first | ((try rw [c19]) <;> (try rw [c24]) <;> (try simp only [Bool.true_or, Bool.or_true, Bool.false_or, Bool.or_false, Bool.true_and, Bool.and_true, Bool.false_and, Bool.and_false, Bool.not_true, Bool.not_false, cond_true, cond_false]); done) | (exfalso; omega))]; exact h.to 0 _)
    ·have d24 : kd ≠ 5 := cd_ c24
     refine au [0,0,0,7,0,8,6,2,5,0,0,3] h ?_; intro a w h
     exact (by show S _ _ _ _ _ _ _ _; rw [show (.bool (((kd : Int) == 3) || (((kd : Int) == 5) || ((kd : Int) == 9))) : Value) = .bool ((kd : Int) == 9) from Eq.symm (by first | ((try rw [c19]) <;> (try rw [c24]) <;> (try simp only [Bool.true_or, Bool.or_true, Bool.false_or, Bool.or_false, Bool.true_and, Bool.and_true, Bool.false_and, Bool.and_false, Bool.not_true, Bool.not_false, cond_true, cond_false]); done) | (exfalso; omega))]; exact h.to 0 _)
  ·rintro a w h
   refine cdB h (fun c29 => ?_) (fun c29 => ?_)
   ·have hbn : bnd kd = true := by unfold bnd; simpa using c29
    refine rgd [0] [_] [1, 0] [2, 4] 1 mix (by kernel_rfl) h (fun a w h => ?_)
    refine au [0,0,0,7,4,2,0,7] h ?_; intro a w h
    refine ldND (l := [_, _, _]) 0 tN31 h fun a w h => ?_
    refine clG bod26 (Text_ok b _ E H _ (hL.up le_) ⟨At1, ct1, rfl, ht1⟩ (by omega) (fine_hl hf2)) h (fun r35 H35 L35 a w le35 R h => ?_)
    obtain ⟨rfl, rfl, rfl⟩ := R
    have h := h.pull 1 rfl rfl
    refine mu 0 keyS mapSS9 h fun a w h => ?_
    have h : S _ _ _ _ _ (.blk _ (IsMap encS (upd fm nm (some (str b.text)))) :: _) _ _ := h
    refine au [0,3,0,4,0,4] h ?_
    obtain ⟨fm1, hfe⟩ : ∃ f, f = (upd fm nm (some (str b.text))) := ⟨_, rfl⟩
    rw [← hfe] at h
    obtain ⟨hnk, hkid⟩ := nm_kids hk hR hbd (.inr ⟨hbn, hfe⟩)
    refine au [0,5,0,6,0,3,1,5] h ?_; intro a w h
    obtain ⟨Hg2, leHg2, h, hfg2⟩ := h.frz 1
    refine lp (β := Nat × GH × (Bs → Option Value)) (fun x a w => match x with | (k, HL0, fmk) => ((k ≤ ks.length) ∧ (LE Hg2 HL0) ∧ (NmK G fm1 fmk)) ∧ S E HL0 51 [] [(1, .map (some gm)), (2, .pointer (some ⟨g2, 0, none⟩)), (5, .int .i64 (k : Int))] (.blk gm (IsMap encS fmk) :: L) a w)
     (fun x => match x with | (k, HL0, fmk) => ks.length - k) (0, Hg2, fm1) ⟨⟨Nat.zero_le _, LE.rfl, fun _ _ _ q => q⟩, h.to 0 _⟩ ?_
    rintro ⟨k, HL0, fmk⟩ a w ⟨⟨hk, leHL0, hi⟩, h⟩
    have hik := hi
    refine au [0,4,1,2,0,0,0,7] h ?_; intro a w h
    refine ldH t1_32 (Hc.of (leHL0 _ _ hfg2) rfl) h fun a w h => ?_
    refine au [6,0,6,4,0,3] h ?_; intro a w h
    refine cdB h (fun c40 => ?_) (fun c40 => ?_)
    ·have d40 : k < ks.length := cd_ c40
     refine au [1,8,1,0,0,4,1,5,1,2,0,7] h ?_; intro a w h
     refine ldH t1_32 (Hc.of (leHL0 _ _ hfg2) rfl) h fun a w h => ?_
     refine mv h fun a w h => ?_
     have l_H_HL0 : LE H HL0 := leHg2.trans leHL0
     have hj46 : k < ks.length := by first | assumption | omega | (simp; done) | (simp; omega)
     obtain ⟨g46, o46, A46_0, c46_0, A46_1, c46_1, A46_2, c46_2, e46, hv46, hc46⟩ := TrS.get (TrS.up ht2 l_H_HL0) hj46
     obtain ⟨_, _, _, _, _, _, q46, hk46_0, hk46_1, hk46_2⟩ := hv46; cases q46
     refine iaE sli32 sz34 rfl hj46 e46 h fun a w h => ?_
     refine ldHN tN34 rfl hc46 h fun a w h => ?_
     refine mv h fun a w h => ?_
     obtain ⟨K2, hk2, hr2⟩ := hkid _ hj46
     refine cl bod25 (ih _ (List.getElem_mem hj46) G K2 gm fmk _ E HL0 _ (hL.up le_) (okL_mem.1 hks _ (List.getElem_mem hj46)) (fineL_mem.1 hf3 _ (List.getElem_mem hj46)) hk2 (hr2.up hik) ⟨A46_0, c46_0, A46_1, c46_1, A46_2, c46_2, rfl, hk46_0, hk46_1, hk46_2⟩ (by have := tr_size_le (List.getElem_mem hj46); omega) (by have := big_le (List.getElem_mem hj46); omega)) h (fun r49 H49 L49 a w le49 R h => ?_)
     obtain ⟨rfl, fm49, hnk49, rfl⟩ := R
     refine au [7,1,0,3,2,1,1,8,1,7,1,0,0,5,0,0] h ?_; intro a w h
     refine inc ?_ h fun a w h => ?_
     ·omega
     refine au [0,6,0,3] h ?_; intro a w h
     have l_Hg2_H49 : LE Hg2 H49 := leHL0.trans le49
     exact ⟨((k + 1), H49, fm49), ⟨⟨by omega, l_Hg2_H49, hik.trans hnk49⟩, h.to 0 _⟩, by show _ - (k + 1) < _ - k; omega⟩
    ·have d40 : ks.length ≤ k := cd_ c40
     refine au [2,5,2,2,2,2,2,3,1,0,1,2,0,6,0,3,1,3] h ?_; intro a w h
     have l_H_HL0 : LE H HL0 := leHg2.trans leHL0
     refine fin1 4 0 h l_H_HL0 ?_
     exact ⟨rfl, fmk, hnk.trans hi, rfl⟩
   ·have hbn : bnd kd = false := by unfold bnd; simpa using c29
    refine au [1,8,1,0,0,4,0,4] h ?_
    obtain ⟨fm1, hfe⟩ : ∃ f, f = fm := ⟨_, rfl⟩
    rw [← hfe] at h
    obtain ⟨hnk, hkid⟩ := nm_kids hk hR hbd (.inl ⟨hbn, hfe⟩)
    refine au [0,5,0,6,0,3,1,5] h ?_; intro a w h
    obtain ⟨Hg2, leHg2, h, hfg2⟩ := h.frz 0
    refine lp (β := Nat × GH × (Bs → Option Value)) (fun x a w => match x with | (k, HL0, fmk) => ((k ≤ ks.length) ∧ (LE Hg2 HL0) ∧ (NmK G fm1 fmk)) ∧ S E HL0 51 [] [(1, .map (some gm)), (2, .pointer (some ⟨g2, 0, none⟩)), (5, .int .i64 (k : Int))] (.blk gm (IsMap encS fmk) :: L) a w)
     (fun x => match x with | (k, HL0, fmk) => ks.length - k) (0, Hg2, fm1) ⟨⟨Nat.zero_le _, LE.rfl, fun _ _ _ q => q⟩, h.to 0 _⟩ ?_
    rintro ⟨k, HL0, fmk⟩ a w ⟨⟨hk, leHL0, hi⟩, h⟩
    have hik := hi
    refine au [0,4,1,2,0,0,0,7] h ?_; intro a w h
    refine ldH t1_32 (Hc.of (leHL0 _ _ hfg2) rfl) h fun a w h => ?_
    refine au [6,0,6,4,0,3] h ?_; intro a w h
    refine cdB h (fun c40 => ?_) (fun c40 => ?_)
    ·have d40 : k < ks.length := cd_ c40
     refine au [1,8,1,0,0,4,1,5,1,2,0,7] h ?_; intro a w h
     refine ldH t1_32 (Hc.of (leHL0 _ _ hfg2) rfl) h fun a w h => ?_
     refine mv h fun a w h => ?_
     have l_H_HL0 : LE H HL0 := leHg2.trans leHL0
     have hj46 : k < ks.length := by first | assumption | omega | (simp; done) | (simp; omega)
     obtain ⟨g46, o46, A46_0, c46_0, A46_1, c46_1, A46_2, c46_2, e46, hv46, hc46⟩ := TrS.get (TrS.up ht2 l_H_HL0) hj46
     obtain ⟨_, _, _, _, _, _, q46, hk46_0, hk46_1, hk46_2⟩ := hv46; cases q46
     refine iaE sli32 sz34 rfl hj46 e46 h fun a w h => ?_
     refine ldHN tN34 rfl hc46 h fun a w h => ?_
     refine mv h fun a w h => ?_
     obtain ⟨K2, hk2, hr2⟩ := hkid _ hj46
     refine cl bod25 (ih _ (List.getElem_mem hj46) G K2 gm fmk _ E HL0 _ (hL.up le_) (okL_mem.1 hks _ (List.getElem_mem hj46)) (fineL_mem.1 hf3 _ (List.getElem_mem hj46)) hk2 (hr2.up hik) ⟨A46_0, c46_0, A46_1, c46_1, A46_2, c46_2, rfl, hk46_0, hk46_1, hk46_2⟩ (by have := tr_size_le (List.getElem_mem hj46); omega) (by have := big_le (List.getElem_mem hj46); omega)) h (fun r49 H49 L49 a w le49 R h => ?_)
     obtain ⟨rfl, fm49, hnk49, rfl⟩ := R
     refine au [7,1,0,3,2,1,1,8,1,7,1,0,0,5,0,0] h ?_; intro a w h
     refine inc ?_ h fun a w h => ?_
     ·omega
     refine au [0,6,0,3] h ?_; intro a w h
     have l_Hg2_H49 : LE Hg2 H49 := leHL0.trans le49
     exact ⟨((k + 1), H49, fm49), ⟨⟨by omega, l_Hg2_H49, hik.trans hnk49⟩, h.to 0 _⟩, by show _ - (k + 1) < _ - k; omega⟩
    ·have d40 : ks.length ≤ k := cd_ c40
     refine au [2,5,2,2,2,2,2,3,1,0,1,2,0,6,0,3,1,3] h ?_; intro a w h
     have l_H_HL0 : LE H HL0 := leHg2.trans leHL0
     refine fin1 4 0 h l_H_HL0 ?_
     exact ⟨rfl, fmk, hnk.trans hi, rfl⟩
theorem names_law (p : Pg) (l : List UInt8) (n : Nat) (v : Value) (A : Option Addr) (c : Nat) (E : World) (H : GH) (L : List It) (hv : VP H v p) (hM : Mild p) (hl : US H A c l) (hb : l.length < 1000000000000) (hn : n < 256) (hL : Laid H) :
   Ok Tryz.prog 5 #[v, .slice A l.length c, .int .u8 (n : Int)] E H L fun r H' L' => r = .bool true ∧ L = L' := by
 obtain ⟨Ap0, cp0, Ap1, cp1, Ap2, cp2, Ap3, cp3, rfl, hp0, hp1, hp2, hp3⟩ := hv
 refine enter (N := 104) [(0, _), (1, _), (2, _)] Tryz.func5 rfl rfl rfl rfl fun a w h => ?_
 refine au [1,2] h ?_
 refine bxA h fun g3 a w h => ?_
 refine au [0,6,0,2] h ?_; intro a w h
 refine cl bod10 (examples9_ok E H _ (hL.up le_)) h (fun r16 H16 L16 a w le16 R h => ?_)
 obtain ⟨rfl, rfl⟩ := R
 refine au [0,6,0,3,0,4,1,2,0,0,7,1,0,3,2,1,1,8,1,0,0,4,0,4] h ?_; intro a w h
 refine rgx [0] [_] [0] 8 mix h (fun a w h => ?_)
 refine au [8,0,4,5,2,6,8,2,0,0,2,6,8,3,0,0,2,6,8,7,0,0,2,6] h ?_; intro a w h
 refine bg1 1 true h ?_
 refine clG bod19 (names9_ok E H16 _) h (fun r20 H20 L20 a w le20 R h => ?_)
 obtain ⟨⟨A20, c20, rfl, hk20⟩, rfl⟩ := R
 refine br0 ?_
 refine bg1 4 true h ?_
 have l_H_H20 : LE H H20 := le16.trans le20
 refine clG bod18 (well9_ok lohi l n _ _ _ _ E H20 _ hk20 (US.up hl l_H_H20) (by decide) (by decide) hb hn) h (fun r23 H23 L23 a w le23 R h => ?_)
 obtain ⟨p23, hw23, ⟨A23_0, c23_0, A23_1, c23_1, A23_2, c23_2, A23_3, c23_3, rfl, hk23_0, hk23_1, hk23_2, hk23_3⟩, rfl⟩ := R
 have hm23 := wp_mild hw23 lohi_word
 refine br0 ?_
 have l_H16_H23 : LE H16 H23 := le20.trans le23
 refine bf1 5 ?_
 refine bsl bs56 h fun g24 a w h => ?_
 have l_H_H23 : LE H H23 := (le16.trans le20).trans le23
 obtain ⟨Hq24, leHq24, h, hsHq24⟩ := h.fsl (R := RP) (sz := 7) (ys := [p, p23]) 0 (RowR.cons rfl (rp_of (cs := [_, _, _, _, _, _, _]) ⟨_, _, _, _, _, _, _, _, rfl, (CS.up hp0 l_H_H23), (CS.up hp1 l_H_H23), (FS.up hp2 l_H_H23), (KS.up hp3 l_H_H23)⟩) (RowR.one rfl (rp_of (cs := [_, _, _, _, _, _, _]) ⟨_, _, _, _, _, _, _, _, rfl, hk23_0, hk23_1, hk23_2, hk23_3⟩))) (fun _ l cs y _ hr => RP.mono l hr)
 have hpm : ∀ x ∈ [p, p23], Mild x := by intro x hx; simp only [List.mem_cons, List.not_mem_nil, or_false] at hx; rcases hx with rfl | rfl; exact hM; exact hm23
 refine au [2,7,8,6,6,0,2,6] h ?_; intro a w h
 refine en (by kernel_rfl) ?_
 refine au [1,0,1,5] h ?_
 have h := h.del 0
 refine lp (β := Nat × GH) (fun x a w => match x with | (k, HL0) => ((k ≤ [p, p23].length) ∧ (LE Hq24 HL0)) ∧ S E HL0 104 [] [(7, .bool true), (24, .slice (some ⟨g24, 0, none⟩) ([p, p23]).length 2), (25, .int .i64 (([p, p23]).length : Int)), (26, .int .i64 (k : Int))] (L) a w)
  (fun x => match x with | (k, HL0) => [p, p23].length - k) (0, Hq24) ⟨⟨Nat.zero_le _, LE.rfl⟩, h.to 0 _⟩ ?_
 rintro ⟨k, HL0⟩ a w ⟨⟨hk, leHL0⟩, h⟩
 have hk2 : ([p, p23]).length = 2 := rfl
 refine au [1,2,6,4,0,3,0,4] h ?_; intro a w h
 refine cdB h (fun c27 => ?_) (fun c27 => ?_)
 ·have d27 : k < ([p, p23]).length := cd_ c27
  refine au [1,8,1,0,0,4,1,5,1,2] h ?_
  have hj28 : k < ([p, p23]).length := d27
  obtain ⟨g28, o28, A28_0, c28_0, A28_1, c28_1, A28_2, c28_2, A28_3, c28_3, e28, hv28, hc28⟩ := PS.get (PS.up hsHq24 leHL0) hj28
  obtain ⟨_, _, _, _, _, _, _, _, q28, hk28_0, hk28_1, hk28_2, hk28_3⟩ := hv28; cases q28
  refine iaE sli56 sz28 rfl hj28 e28 h fun a w h => ?_
  refine ldHN tN28 rfl hc28 h fun a w h => ?_
  obtain ⟨pk, hxpk⟩ : ∃ z, z = ([p, p23])[k] := ⟨_, rfl⟩
  rw [← hxpk] at h hk28_0 hk28_1 hk28_2 hk28_3
  have hmx : Mild pk := by rw [hxpk]; exact hpm _ (List.getElem_mem hj28)
  refine al zr28 h fun g9 a w h => ?_
  refine au [5,5,0,2,3,3] h ?_; intro a w h
  refine cl bod20 (Elab_ok (pk) _ E HL0 _ ⟨A28_0, c28_0, A28_1, c28_1, A28_2, c28_2, A28_3, c28_3, rfl, hk28_0, hk28_1, hk28_2, hk28_3⟩ (hL.up le_) hmx) h (fun r32 H32 L32 a w le32 R h => ?_)
  obtain ⟨_, rfl, ⟨A32_0, c32_0, A32_1, c32_1, A32_2, c32_2, A32_3, c32_3, rfl, hk32_0, hk32_1, hk32_2, hk32_3⟩, rfl⟩ := R
  refine au [0,0,4,7,4,7] h ?_; intro a w h
  refine al zr59 h fun g10 a w h => ?_
  refine au [5,5,0,6,0,3,0,4,1,2,0,0,6,3,0,3] h ?_; intro a w h
  refine cdB h (fun c36 => ?_) (fun c36 => ?_)
  ·have d36 : (pk).elb.2 ≠ 0 := cd_ c36
   refine au [2,5,2,2,2,3,1,0,0,5] h ?_
   refine inc ?_ h fun a w h => ?_
   ·omega
   refine au [0,0,0,3] h ?_; intro a w h
   have h := h.del 0
   have h := h.del 0
   have l_Hq24_H32 : LE Hq24 H32 := leHL0.trans le32
   exact ⟨((k + 1), H32), ⟨⟨by omega, l_Hq24_H32⟩, h.to 0 _⟩, by show _ - (k + 1) < _ - k; omega⟩
  ·have d36 : (pk).elb.2 = 0 := cd_ c36
   obtain ⟨G, hG⟩ := name_f (p := pk) (by omega)
   obtain ⟨hn1, hn2, hn3⟩ := hG.lens
   refine au [1,8,1,0,1,2] h ?_
   refine mk0 (enc := encS) h fun gm a w h => ?_
   refine au [0,6,0,3,0,4,1,2,0,6,0,3,1,5] h ?_; intro a w h
   refine lp (β := Nat × (Bs → Option Value)) (fun x a w => match x with | (k1, fmi) => ((k1 ≤ pk.inputs.length) ∧ (NmR G (inL ((pk.inputs.take k1).map (·.name))) fmi)) ∧ S E H32 104 [] [(7, .bool true), (9, .pointer (some ⟨g9, 0, none⟩)), (10, .pointer (some ⟨g10, 0, none⟩)), (11, .int .i64 ((pk).elb.2)), (12, .map (some gm)), (13, .int .i64 (k1 : Int)), (24, .slice (some ⟨g24, 0, none⟩) ([p, p23]).length 2), (25, .int .i64 (([p, p23]).length : Int)), (26, .int .i64 (k : Int)), (27, .bool (decide (((k : Int) : Int) < (([p, p23]).length : Int)))), (29, .agg #[.slice A28_0 ((pk).inputs).length c28_0, .slice A28_1 ((pk).cells).length c28_1, .slice A28_2 ((pk).defs).length c28_2, .int .i64 ((pk).body.kind), str ((pk).body.name), .int .i64 ((pk).body.n), .slice A28_3 ((pk).body.kids).length c28_3]), (30, .tuple #[.agg #[.slice A32_0 (((pk).elb.1).defs).length c32_0, .int .i64 (((pk).elb.1).body.kind), str (((pk).elb.1).body.name), .int .i64 (((pk).elb.1).body.n), .int .i64 (((pk).elb.1).body.s.kind), .int .i64 (((pk).elb.1).body.s.n), .slice A32_1 (((pk).elb.1).body.s.kids).length c32_1, .int .i64 (((pk).elb.1).body.b.kind), .int .i64 (((pk).elb.1).body.b.n), .slice A32_2 (((pk).elb.1).body.b.kids).length c32_2, .slice A32_3 (((pk).elb.1).body.kids).length c32_3], .int .i64 ((pk).elb.2)]), (31, .agg #[.slice A28_0 ((pk).inputs).length c28_0, .slice A28_1 ((pk).cells).length c28_1, .slice A28_2 ((pk).defs).length c28_2, .int .i64 ((pk).body.kind), str ((pk).body.name), .int .i64 ((pk).body.n), .slice A28_3 ((pk).body.kids).length c28_3]), (32, .tuple #[.agg #[.slice A32_0 (((pk).elb.1).defs).length c32_0, .int .i64 (((pk).elb.1).body.kind), str (((pk).elb.1).body.name), .int .i64 (((pk).elb.1).body.n), .int .i64 (((pk).elb.1).body.s.kind), .int .i64 (((pk).elb.1).body.s.n), .slice A32_1 (((pk).elb.1).body.s.kids).length c32_1, .int .i64 (((pk).elb.1).body.b.kind), .int .i64 (((pk).elb.1).body.b.n), .slice A32_2 (((pk).elb.1).body.b.kids).length c32_2, .slice A32_3 (((pk).elb.1).body.kids).length c32_3], .int .i64 ((pk).elb.2)]), (33, .agg #[.slice A32_0 (((pk).elb.1).defs).length c32_0, .int .i64 (((pk).elb.1).body.kind), str (((pk).elb.1).body.name), .int .i64 (((pk).elb.1).body.n), .int .i64 (((pk).elb.1).body.s.kind), .int .i64 (((pk).elb.1).body.s.n), .slice A32_1 (((pk).elb.1).body.s.kids).length c32_1, .int .i64 (((pk).elb.1).body.b.kind), .int .i64 (((pk).elb.1).body.b.n), .slice A32_2 (((pk).elb.1).body.b.kids).length c32_2, .slice A32_3 (((pk).elb.1).body.kids).length c32_3]), (34, .int .i64 ((pk).elb.2)), (35, .int .i64 ((pk).elb.2)), (36, .bool (((pk).elb.2 : Int) != 0)), (37, .map (some gm))] (.blk gm (IsMap encS fmi) :: .obj g10 (.cells #[.slice A32_0 (((pk).elb.1).defs).length c32_0, .int .i64 (((pk).elb.1).body.kind), str (((pk).elb.1).body.name), .int .i64 (((pk).elb.1).body.n), .int .i64 (((pk).elb.1).body.s.kind), .int .i64 (((pk).elb.1).body.s.n), .slice A32_1 (((pk).elb.1).body.s.kids).length c32_1, .int .i64 (((pk).elb.1).body.b.kind), .int .i64 (((pk).elb.1).body.b.n), .slice A32_2 (((pk).elb.1).body.b.kids).length c32_2, .slice A32_3 (((pk).elb.1).body.kids).length c32_3] 59 (0, 0)) :: .obj g9 (.cells #[.slice A28_0 ((pk).inputs).length c28_0, .slice A28_1 ((pk).cells).length c28_1, .slice A28_2 ((pk).defs).length c28_2, .int .i64 ((pk).body.kind), str ((pk).body.name), .int .i64 ((pk).body.n), .slice A28_3 ((pk).body.kids).length c28_3] 28 (0, 0)) :: L) a w)
    (fun x => match x with | (k1, fmi) => pk.inputs.length - k1) (0, (fun _ => none)) ⟨⟨Nat.zero_le _, NmR.nil⟩, h.to 0 _⟩ ?_
   rintro ⟨k1, fmi⟩ a w ⟨⟨hk, hi⟩, h⟩
   refine au [0,4,1,2,0,0,0,7,3,0,6,0,6,4,0,3] h ?_; intro a w h
   refine cdB h (fun c42 => ?_) (fun c42 => ?_)
   ·have d42 : k1 < ((pk).inputs).length := cd_ c42
    refine au [1,8,1,0,0,4,1,5,0,5,0,0,0,7,3,0,0,0] h ?_; intro a w h
    have hj49 : k1 < ((pk).inputs).length := by first | assumption | omega | (simp; done) | (simp; omega)
    obtain ⟨g49, o49, e49, hv49, hc49⟩ := CS.get (CS.up hk28_0 le32) hj49
    refine iaE sli22 sz82 rfl hj49 e49 h fun a w h => ?_
    refine fa fl82_0 (r := o49 + k1 * 3 + 0) h fun a w h => ?_
    refine ldH t1_9 (hc49 0 _ rfl) h fun a w h => ?_
    refine mu 0 keyS mapSS9 h fun a w h => ?_
    have h : S _ _ _ _ _ (.blk _ (IsMap encS (upd fmi ((((pk).inputs)[k1]).name) (some (str [105, 110, 116])))) :: _) _ _ := h
    refine au [1,1,1,7,1,0,0,5,0,0] h ?_; intro a w h
    refine inc ?_ h fun a w h => ?_
    ·omega
    refine au [0,6,0,3] h ?_; intro a w h
    exact ⟨((k1 + 1), (upd fmi ((((pk).inputs)[k1]).name) (some (str [105, 110, 116])))), ⟨⟨by omega, hi.takeI hG hj49⟩, h.to 0 _⟩, by show _ - (k1 + 1) < _ - k1; omega⟩
   ·have d42 : ((pk).inputs).length ≤ k1 := cd_ c42
    refine au [2,5,2,2,2,2,2,3,1,0,0,4,1,2,0,6,0,3,1,5] h ?_; intro a w h
    refine lp (β := Nat × (Bs → Option Value)) (fun x a w => match x with | (k2, fmc) => ((k2 ≤ pk.cells.length) ∧ (NmR G (inL (pk.inputs.map (·.name) ++ (pk.cells.take k2).map (·.name))) fmc)) ∧ S E H32 104 [] [(7, .bool true), (9, .pointer (some ⟨g9, 0, none⟩)), (10, .pointer (some ⟨g10, 0, none⟩)), (11, .int .i64 ((pk).elb.2)), (12, .map (some gm)), (13, .int .i64 (k1 : Int)), (14, .int .i64 (k2 : Int)), (24, .slice (some ⟨g24, 0, none⟩) ([p, p23]).length 2), (25, .int .i64 (([p, p23]).length : Int)), (26, .int .i64 (k : Int)), (27, .bool (decide (((k : Int) : Int) < (([p, p23]).length : Int)))), (29, .agg #[.slice A28_0 ((pk).inputs).length c28_0, .slice A28_1 ((pk).cells).length c28_1, .slice A28_2 ((pk).defs).length c28_2, .int .i64 ((pk).body.kind), str ((pk).body.name), .int .i64 ((pk).body.n), .slice A28_3 ((pk).body.kids).length c28_3]), (30, .tuple #[.agg #[.slice A32_0 (((pk).elb.1).defs).length c32_0, .int .i64 (((pk).elb.1).body.kind), str (((pk).elb.1).body.name), .int .i64 (((pk).elb.1).body.n), .int .i64 (((pk).elb.1).body.s.kind), .int .i64 (((pk).elb.1).body.s.n), .slice A32_1 (((pk).elb.1).body.s.kids).length c32_1, .int .i64 (((pk).elb.1).body.b.kind), .int .i64 (((pk).elb.1).body.b.n), .slice A32_2 (((pk).elb.1).body.b.kids).length c32_2, .slice A32_3 (((pk).elb.1).body.kids).length c32_3], .int .i64 ((pk).elb.2)]), (31, .agg #[.slice A28_0 ((pk).inputs).length c28_0, .slice A28_1 ((pk).cells).length c28_1, .slice A28_2 ((pk).defs).length c28_2, .int .i64 ((pk).body.kind), str ((pk).body.name), .int .i64 ((pk).body.n), .slice A28_3 ((pk).body.kids).length c28_3]), (32, .tuple #[.agg #[.slice A32_0 (((pk).elb.1).defs).length c32_0, .int .i64 (((pk).elb.1).body.kind), str (((pk).elb.1).body.name), .int .i64 (((pk).elb.1).body.n), .int .i64 (((pk).elb.1).body.s.kind), .int .i64 (((pk).elb.1).body.s.n), .slice A32_1 (((pk).elb.1).body.s.kids).length c32_1, .int .i64 (((pk).elb.1).body.b.kind), .int .i64 (((pk).elb.1).body.b.n), .slice A32_2 (((pk).elb.1).body.b.kids).length c32_2, .slice A32_3 (((pk).elb.1).body.kids).length c32_3], .int .i64 ((pk).elb.2)]), (33, .agg #[.slice A32_0 (((pk).elb.1).defs).length c32_0, .int .i64 (((pk).elb.1).body.kind), str (((pk).elb.1).body.name), .int .i64 (((pk).elb.1).body.n), .int .i64 (((pk).elb.1).body.s.kind), .int .i64 (((pk).elb.1).body.s.n), .slice A32_1 (((pk).elb.1).body.s.kids).length c32_1, .int .i64 (((pk).elb.1).body.b.kind), .int .i64 (((pk).elb.1).body.b.n), .slice A32_2 (((pk).elb.1).body.b.kids).length c32_2, .slice A32_3 (((pk).elb.1).body.kids).length c32_3]), (34, .int .i64 ((pk).elb.2)), (35, .int .i64 ((pk).elb.2)), (36, .bool (((pk).elb.2 : Int) != 0)), (37, .map (some gm)), (38, .int .i64 (k1 : Int)), (39, .pointer (some ⟨g9, 0, none⟩)), (40, .slice A28_0 ((pk).inputs).length c28_0), (41, .int .i64 (((pk).inputs).length : Int)), (42, .bool (decide (((k1 : Int) : Int) < (((pk).inputs).length : Int))))] (.blk gm (IsMap encS fmc) :: .obj g10 (.cells #[.slice A32_0 (((pk).elb.1).defs).length c32_0, .int .i64 (((pk).elb.1).body.kind), str (((pk).elb.1).body.name), .int .i64 (((pk).elb.1).body.n), .int .i64 (((pk).elb.1).body.s.kind), .int .i64 (((pk).elb.1).body.s.n), .slice A32_1 (((pk).elb.1).body.s.kids).length c32_1, .int .i64 (((pk).elb.1).body.b.kind), .int .i64 (((pk).elb.1).body.b.n), .slice A32_2 (((pk).elb.1).body.b.kids).length c32_2, .slice A32_3 (((pk).elb.1).body.kids).length c32_3] 59 (0, 0)) :: .obj g9 (.cells #[.slice A28_0 ((pk).inputs).length c28_0, .slice A28_1 ((pk).cells).length c28_1, .slice A28_2 ((pk).defs).length c28_2, .int .i64 ((pk).body.kind), str ((pk).body.name), .int .i64 ((pk).body.n), .slice A28_3 ((pk).body.kids).length c28_3] 28 (0, 0)) :: L) a w)
     (fun x => match x with | (k2, fmc) => pk.cells.length - k2) (0, fmi) ⟨⟨Nat.zero_le _, hi.doneI (by omega)⟩, h.to 0 _⟩ ?_
    rintro ⟨k2, fmc⟩ a w ⟨⟨hk, hi⟩, h⟩
    refine au [0,4,1,2,0,0,0,7,3,0,6,0,6,4,0,3] h ?_; intro a w h
    refine cdB h (fun c56 => ?_) (fun c56 => ?_)
    ·have d56 : k2 < ((pk).cells).length := cd_ c56
     refine au [1,8,1,0,0,4,1,5,0,5,0,0,0,7,3,0,0,0] h ?_; intro a w h
     have hj63 : k2 < ((pk).cells).length := by first | assumption | omega | (simp; done) | (simp; omega)
     obtain ⟨g63, o63, e63, hv63, hc63⟩ := CS.get (CS.up hk28_1 le32) hj63
     refine iaE sli22 sz82 rfl hj63 e63 h fun a w h => ?_
     refine fa fl82_0 (r := o63 + k2 * 3 + 0) h fun a w h => ?_
     refine ldH t1_9 (hc63 0 _ rfl) h fun a w h => ?_
     refine mu 0 keyS mapSS9 h fun a w h => ?_
     have h : S _ _ _ _ _ (.blk _ (IsMap encS (upd fmc ((((pk).cells)[k2]).name) (some (str [114, 101, 102])))) :: _) _ _ := h
     refine au [1,1,1,7,1,0,0,5,0,0] h ?_; intro a w h
     refine inc ?_ h fun a w h => ?_
     ·omega
     refine au [0,6,0,3] h ?_; intro a w h
     exact ⟨((k2 + 1), (upd fmc ((((pk).cells)[k2]).name) (some (str [114, 101, 102])))), ⟨⟨by omega, hi.takeC hG hj63⟩, h.to 0 _⟩, by show _ - (k2 + 1) < _ - k2; omega⟩
    ·have d56 : ((pk).cells).length ≤ k2 := cd_ c56
     refine au [2,5,2,2,2,2,2,3,1,0,0,4,1,2,0,6,0,3,1,5] h ?_; intro a w h
     refine lp (β := Nat × GH × (Bs → Option Value)) (fun x a w => match x with | (k3, HL6, fmd) => ((k3 ≤ pk.elb.1.defs.length) ∧ (LE H32 HL6) ∧ (NmR G (inL (pk.resolve.1.known k3)) fmd)) ∧ S E HL6 104 [] [(7, .bool true), (9, .pointer (some ⟨g9, 0, none⟩)), (10, .pointer (some ⟨g10, 0, none⟩)), (11, .int .i64 ((pk).elb.2)), (12, .map (some gm)), (13, .int .i64 (k1 : Int)), (14, .int .i64 (k2 : Int)), (15, .int .i64 (k3 : Int)), (24, .slice (some ⟨g24, 0, none⟩) ([p, p23]).length 2), (25, .int .i64 (([p, p23]).length : Int)), (26, .int .i64 (k : Int)), (27, .bool (decide (((k : Int) : Int) < (([p, p23]).length : Int)))), (29, .agg #[.slice A28_0 ((pk).inputs).length c28_0, .slice A28_1 ((pk).cells).length c28_1, .slice A28_2 ((pk).defs).length c28_2, .int .i64 ((pk).body.kind), str ((pk).body.name), .int .i64 ((pk).body.n), .slice A28_3 ((pk).body.kids).length c28_3]), (30, .tuple #[.agg #[.slice A32_0 (((pk).elb.1).defs).length c32_0, .int .i64 (((pk).elb.1).body.kind), str (((pk).elb.1).body.name), .int .i64 (((pk).elb.1).body.n), .int .i64 (((pk).elb.1).body.s.kind), .int .i64 (((pk).elb.1).body.s.n), .slice A32_1 (((pk).elb.1).body.s.kids).length c32_1, .int .i64 (((pk).elb.1).body.b.kind), .int .i64 (((pk).elb.1).body.b.n), .slice A32_2 (((pk).elb.1).body.b.kids).length c32_2, .slice A32_3 (((pk).elb.1).body.kids).length c32_3], .int .i64 ((pk).elb.2)]), (31, .agg #[.slice A28_0 ((pk).inputs).length c28_0, .slice A28_1 ((pk).cells).length c28_1, .slice A28_2 ((pk).defs).length c28_2, .int .i64 ((pk).body.kind), str ((pk).body.name), .int .i64 ((pk).body.n), .slice A28_3 ((pk).body.kids).length c28_3]), (32, .tuple #[.agg #[.slice A32_0 (((pk).elb.1).defs).length c32_0, .int .i64 (((pk).elb.1).body.kind), str (((pk).elb.1).body.name), .int .i64 (((pk).elb.1).body.n), .int .i64 (((pk).elb.1).body.s.kind), .int .i64 (((pk).elb.1).body.s.n), .slice A32_1 (((pk).elb.1).body.s.kids).length c32_1, .int .i64 (((pk).elb.1).body.b.kind), .int .i64 (((pk).elb.1).body.b.n), .slice A32_2 (((pk).elb.1).body.b.kids).length c32_2, .slice A32_3 (((pk).elb.1).body.kids).length c32_3], .int .i64 ((pk).elb.2)]), (33, .agg #[.slice A32_0 (((pk).elb.1).defs).length c32_0, .int .i64 (((pk).elb.1).body.kind), str (((pk).elb.1).body.name), .int .i64 (((pk).elb.1).body.n), .int .i64 (((pk).elb.1).body.s.kind), .int .i64 (((pk).elb.1).body.s.n), .slice A32_1 (((pk).elb.1).body.s.kids).length c32_1, .int .i64 (((pk).elb.1).body.b.kind), .int .i64 (((pk).elb.1).body.b.n), .slice A32_2 (((pk).elb.1).body.b.kids).length c32_2, .slice A32_3 (((pk).elb.1).body.kids).length c32_3]), (34, .int .i64 ((pk).elb.2)), (35, .int .i64 ((pk).elb.2)), (36, .bool (((pk).elb.2 : Int) != 0)), (37, .map (some gm)), (38, .int .i64 (k1 : Int)), (39, .pointer (some ⟨g9, 0, none⟩)), (40, .slice A28_0 ((pk).inputs).length c28_0), (41, .int .i64 (((pk).inputs).length : Int)), (42, .bool (decide (((k1 : Int) : Int) < (((pk).inputs).length : Int)))), (52, .int .i64 (k2 : Int)), (53, .pointer (some ⟨g9, 1, none⟩)), (54, .slice A28_1 ((pk).cells).length c28_1), (55, .int .i64 (((pk).cells).length : Int)), (56, .bool (decide (((k2 : Int) : Int) < (((pk).cells).length : Int))))] (.blk gm (IsMap encS fmd) :: .obj g10 (.cells #[.slice A32_0 (((pk).elb.1).defs).length c32_0, .int .i64 (((pk).elb.1).body.kind), str (((pk).elb.1).body.name), .int .i64 (((pk).elb.1).body.n), .int .i64 (((pk).elb.1).body.s.kind), .int .i64 (((pk).elb.1).body.s.n), .slice A32_1 (((pk).elb.1).body.s.kids).length c32_1, .int .i64 (((pk).elb.1).body.b.kind), .int .i64 (((pk).elb.1).body.b.n), .slice A32_2 (((pk).elb.1).body.b.kids).length c32_2, .slice A32_3 (((pk).elb.1).body.kids).length c32_3] 59 (0, 0)) :: .obj g9 (.cells #[.slice A28_0 ((pk).inputs).length c28_0, .slice A28_1 ((pk).cells).length c28_1, .slice A28_2 ((pk).defs).length c28_2, .int .i64 ((pk).body.kind), str ((pk).body.name), .int .i64 ((pk).body.n), .slice A28_3 ((pk).body.kids).length c28_3] 28 (0, 0)) :: L) a w)
      (fun x => match x with | (k3, HL6, fmd) => pk.elb.1.defs.length - k3) (0, H32, fmc) ⟨⟨Nat.zero_le _, LE.rfl, hi.doneC hG (by omega)⟩, h.to 0 _⟩ ?_
     rintro ⟨k3, HL6, fmd⟩ a w ⟨⟨hk, leHL6, hi⟩, h⟩
     refine au [0,4,1,2,0,0,0,7,2,8,6,0,6,4,0,3] h ?_; intro a w h
     refine cdB h (fun c70 => ?_) (fun c70 => ?_)
     ·have d70 : k3 < (((pk).elb.1).defs).length := cd_ c70
      refine au [1,8,1,0,0,4,1,5,0,4,1,2,0,7,2,8,0,0] h ?_; intro a w h
      have hj76 : k3 < (((pk).elb.1).defs).length := by first | assumption | omega | (simp; done) | (simp; omega)
      obtain ⟨g76, o76, A76_0, c76_0, A76_1, c76_1, A76_2, c76_2, e76, hv76, hc76⟩ := TdS.get (TdS.up hk32_0 leHL6) hj76
      obtain ⟨_, _, _, _, _, _, q76, hk76_0, hk76_1, hk76_2⟩ := hv76; cases q76
      refine iaE sli57 sz74 rfl hj76 e76 h fun a w h => ?_
      refine fa fl74_1 (r := o76 + k3 * 11 + 1) h fun a w h => ?_
      refine ldHN (l := [_, _, _, _, _, _, _, _, _, _]) tN34 rfl (sbL 1 10 hc76) h fun a w h => ?_
      refine mv h fun a w h => ?_
      obtain ⟨q1, q2, q3, q4, q5⟩ := hG.defs k3 hj76
      refine cl bod25 (held9_ok (((((pk).elb.1).defs)[k3]).t) G (inL (pk.resolve.1.known k3)) gm fmd _ E HL6 _ (hL.up le_) q1 q2 q4 hi ⟨A76_0, c76_0, A76_1, c76_1, A76_2, c76_2, rfl, hk76_0, hk76_1, hk76_2⟩ (by omega) (by have := fine_big _ q2; omega)) h (fun r80 H80 L80 a w le80 R h => ?_)
      obtain ⟨rfl, fm80, hnk80, rfl⟩ := R
      refine au [7,1,0,3,2,1,1,8,1,0] h ?_; intro a w h
      refine rgd [1] [_] [1, 0] [2, 6, 8, 13] 1 mix (by kernel_rfl) h (fun a w h => ?_)
      refine au [0,0,0,7,4,2,0,0] h ?_; intro a w h
      have l_H32_H80 : LE H32 H80 := leHL6.trans le80
      have hj86 : k3 < (((pk).elb.1).defs).length := by first | assumption | omega | (simp; done) | (simp; omega)
      obtain ⟨g86, o86, A86_0, c86_0, A86_1, c86_1, A86_2, c86_2, e86, hv86, hc86⟩ := TdS.get (TdS.up hk32_0 l_H32_H80) hj86
      obtain ⟨_, _, _, _, _, _, q86, hk86_0, hk86_1, hk86_2⟩ := hv86; cases q86
      refine iaE sli57 sz74 rfl hj86 e86 h fun a w h => ?_
      refine fa fl74_0 (r := o86 + k3 * 11 + 0) h fun a w h => ?_
      refine ldHD t1_9 (hc86 0 _ rfl) h fun a w h => ?_
      refine au [0,7,4,2,0,0] h ?_; intro a w h
      have hj92 : k3 < (((pk).elb.1).defs).length := by first | assumption | omega | (simp; done) | (simp; omega)
      obtain ⟨g92, o92, A92_0, c92_0, A92_1, c92_1, A92_2, c92_2, e92, hv92, hc92⟩ := TdS.get (TdS.up hk32_0 l_H32_H80) hj92
      obtain ⟨_, _, _, _, _, _, q92, hk92_0, hk92_1, hk92_2⟩ := hv92; cases q92
      refine iaE sli57 sz74 rfl hj92 e92 h fun a w h => ?_
      refine fa fl74_1 (r := o92 + k3 * 11 + 1) h fun a w h => ?_
      refine fa fl34_3 (r := o92 + k3 * 11 + 4) h fun a w h => ?_
      refine ldHND (l := [_, _, _]) tN31 rfl (sbL 4 3 hc92) h fun a w h => ?_
      refine clG bod26 (Text_ok (((((pk).elb.1).defs)[k3]).t.s) _ E H80 _ (hL.up le_) ⟨A92_0, c92_0, rfl, hk92_0⟩ (by have := fine_big _ q2; have := (s_big (t := pk.elb.1.defs[k3].t)).1; omega) (fine_hl (fine_s q2))) h (fun r96 H96 L96 a w le96 R h => ?_)
      obtain ⟨rfl, rfl, rfl⟩ := R
      refine mu 0 keyS mapSS9 h fun a w h => ?_
      have h : S _ _ _ _ _ (.blk _ (IsMap encS (upd fm80 (((((pk).elb.1).defs)[k3]).name) (some (str ((((((pk).elb.1).defs)[k3]).t.s).text))))) :: _) _ _ := h
      refine au [1,1,1,7,1,0,0,5,0,0] h ?_; intro a w h
      refine inc ?_ h fun a w h => ?_
      ·omega
      refine au [0,6,0,3] h ?_; intro a w h
      exact ⟨((k3 + 1), H80, (upd fm80 (((((pk).elb.1).defs)[k3]).name) (some (str ((((((pk).elb.1).defs)[k3]).t.s).text))))), ⟨⟨by omega, l_H32_H80, hi.takeD hG hj76 hnk80⟩, h.to 0 _⟩, by show _ - (k3 + 1) < _ - k3; omega⟩
     ·have d70 : (((pk).elb.1).defs).length ≤ k3 := cd_ c70
      refine au [2,5,2,2,2,2,2,3,1,0,1,2,0,7] h ?_; intro a w h
      refine ldN (l := [_, _, _, _, _, _, _, _, _, _]) 1 tN34 h fun a w h => ?_
      refine mv h fun a w h => ?_
      have hdn : NmR G (inL (pk.resolve.1.known pk.elb.1.defs.length)) fmd := by rw [show pk.elb.1.defs.length = k3 by omega]; exact hi
      obtain ⟨q1, q2, q3, q4⟩ := hG.body
      refine cl bod25 (held9_ok (((pk).elb.1).body) G (inL (pk.resolve.1.known pk.elb.1.defs.length)) gm fmd _ E HL6 _ (hL.up le_) q1 q2 q4 hdn ⟨A32_1, c32_1, A32_2, c32_2, A32_3, c32_3, rfl, (HS.up hk32_1 leHL6), (HS.up hk32_2 leHL6), (TrS.up hk32_3 leHL6)⟩ (by omega) (by have := fine_big _ q2; omega)) h (fun r100 H100 L100 a w le100 R h => ?_)
      obtain ⟨rfl, fm100, hnk100, rfl⟩ := R
      refine au [7,1,0,3,2,1,1,8,1,7,1,0,0,5] h ?_; intro a w h
      refine inc ?_ h fun a w h => ?_
      ·omega
      refine au [0,0,0,3] h ?_; intro a w h
      have h := h.del 0
      have h := h.del 0
      have h := h.del 0
      have l_Hq24_H100 : LE Hq24 H100 := ((leHL0.trans le32).trans leHL6).trans le100
      exact ⟨((k + 1), H100), ⟨⟨by omega, l_Hq24_H100⟩, h.to 0 _⟩, by show _ - (k + 1) < _ - k; omega⟩
 ·have d27 : ([p, p23]).length ≤ k := cd_ c27
  refine au [2,5,2,2,2,2,2,3,1,0,1,2,0,0,0,6,0,3,1,3] h ?_; intro a w h
  have l_H_HL0 : LE H HL0 := (((le16.trans le20).trans le23).trans leHq24).trans leHL0
  refine fin1 6 0 h l_H_HL0 ?_
  exact ⟨rfl, rfl⟩
end Go.Proofs.YthnhddjlgjecdaaGreatDoor
namespace Go.Proofs.YthnhddjlgjecdaaGreatDoor.nms
open Go X Go.ChangeShapes Go.WideShapes Go.ChangeAt Go.RowKit
theorem own : ownKnob Tryz.prog.godebug = none := by kernel_rfl
theorem contract (H : Type) (enc : TypeId × Value → H) (W : World) (base : Nat) (args : Array Value) (ds gs : List (DataW H)) (before : List MemPlace)
   (hval : ∀ (j : Nat) t v, Tryz.f5.params[j]? = some t → args[j]? = some v → Value.okWide Tryz.prog W .any base t v)
   (hW : DataW.Whole enc Tryz.prog Tryz.f5.params.toList Rows.elabNamesSpec.vars false W args.toList ds gs before) (hk : Rows.uptoSmall H (ds ++ gs) = true) (hL : laidMetH Tryz.prog Rows.elabNamesUptoRow.laid W) :
   Calls Tryz.prog 5 args W fun e W' => ∃ v, e = .returned v ∧ Rows.elabNamesSpec.post enc Tryz.prog Tryz.f5 false true false false W args v W' := by
 have hW' := hW
 obtain ⟨p, q, hA, hV, rfl, hfz, hnd⟩ := hW
 rw [show Tryz.f5.params = #[28, 35, 5] from rfl] at hA hval
 obtain ⟨v0, vs0, d0, ds0, p0, q0, ha0, rfl, rfl, h0, r0⟩ := trodAll_cons hA
 obtain ⟨v1, vs1, d1, ds1, p1, q1, ha1, rfl, rfl, h1, r1⟩ := trodAll_cons r0
 obtain ⟨v2, vs2, d2, ds2, p2, q2, ha2, rfl, rfl, h2, r2⟩ := trodAll_cons r1
 obtain ⟨rfl, rfl, rfl⟩ := trodAll_nil r2
 obtain rfl : args = #[v0, v1, v2] := by cases args; simp_all
 have hgs : gs = [] := by
   cases gs with
   | nil => rfl
   | cons g gs => exact (show False from hV).elim
 subst hgs
 have hbulk : Rows.uptoBulkAll [d0, d1, d2] ≤ 1048576 := by simpa [Rows.uptoSmall] using hk
 simp only [Rows.uptoBulkAll] at hbulk
 obtain ⟨fuel0, htr0⟩ := h0
 obtain ⟨fuel1, htr1⟩ := h1
 obtain ⟨fuel2, htr2⟩ := h2
 have hagg0 : ∃ cs, v0 = .agg cs := by
   have hok := (hval 0 28 v0 rfl rfl)
   unfold Value.okWide at hok
   rw [Tryz.underlying28] at hok
   obtain ⟨cs, h, _⟩ := hok
   exact ⟨cs, h⟩
 obtain ⟨pg0, hVP0, hM0⟩ := open_pg fuel0 v0 hagg0 (d0, p0) htr0 (by show Rows.uptoBulk d0 ≤ _; omega)
 obtain ⟨A1, c1, l1, rfl, hl1, hb1⟩ := open_u8s (e := 5) Tryz.underlying35 Tryz.underlying5 (by kernel_rfl) (cells_slice Tryz.underlying35 (hval 1 35 v1 rfl rfl)) htr1 (by show Rows.uptoBulk d1 ≤ _; omega)
 obtain ⟨n2, rfl, lo2, hi2⟩ := open_int Tryz.underlying5 (cells_int Tryz.underlying5 (hval 2 5 v2 rfl rfl)) htr2
 obtain ⟨n2, rfl⟩ : ∃ n : Nat, n2 = (n : Int) := ⟨n2.toNat, by simp [IntKind.min, IntKind.max, IntKind.signed, IntKind.bits] at lo2; omega⟩
 simp [IntKind.min, IntKind.max, IntKind.signed, IntKind.bits] at lo2 hi2
 have hlaid : Laid (HW W) := by
   obtain ⟨ps, hv, _⟩ := (hL : laidMet Tryz.prog Rows.elabNamesUptoRow.laid W)
   exact laid_of hv (by simp [Rows.elabNamesUptoRow]) (by simp [Rows.elabNamesUptoRow]) (by simp [Rows.elabNamesUptoRow]) (by simp [Rows.elabNamesUptoRow])
 refine (names_law pg0 l1 n2 v0 A1 c1 W (HW W) [] hVP0 hM0 hl1 (by omega) (by omega) hlaid W (st_world W)).mono fun e W' ⟨r, H', L', he, hle, hst, hr, hl⟩ => ?_
 subst hr
 refine ⟨_, he, post_true (by simpa using hW') rfl rfl rfl rfl (below_of hle hst) (by kernel_rfl) (fun t ht => ?_) rfl Tryz.underlying4⟩
 rw [show Tryz.f5.params = #[28, 35, 5] from rfl] at ht
 have ht' : t = 28 ∨ t = 35 ∨ t = 5 := by simpa using ht
 rcases ht' with rfl | rfl | rfl <;> exact ⟨by kernel_rfl, of_decide_eq_true (by kernel_rfl)⟩
def valOf : DataW Unit → Value
 | .lit (.int k n) => .int k n
 | .lit (.string s) => str s
 | _ => .bool false
def cellsOf : DataW Unit → Array Value
 | .agg ds => (ds.map valOf).toArray
 | _ => #[]
def lay (i : Nat) (o : Obj) : Obj := match i, o with
 | 2, .cells _ t z => .cells (cellsOf Rows.laid_chancel_term_kids) t z
 | 3, .cells _ t z => .cells (cellsOf Rows.laid_chancel_term_ops) t z
 | 1, .cells _ t z => .cells (cellsOf Rows.laid_internal_strconv_uint64pow10) t z
 | 4, .cells _ t z => .cells (cellsOf Rows.laid_chancel_lex_keys) t z
 | 5, .cells _ t z => .cells (cellsOf Rows.laid_math_bits_deBruijn32tab) t z
 | 6, .cells _ t z => .cells (cellsOf Rows.laid_math_bits_deBruijn64tab) t z
 | 0, .cells _ t z => .cells (cellsOf Rows.laid_chancel_eval_kids) t z
 | _, o => o
noncomputable def laidWorld (os : Os) : World :=
 { World.holding Tryz.prog os ⟨#[], #[], []⟩ with heap := (World.holding Tryz.prog os ⟨#[], #[], []⟩).heap.mapIdx lay }
def arg : Array Value := #[.agg #[.slice none 0 0, .slice none 0 0, .slice none 0 0, .int .i64 0, .string ⟨#[]⟩, .int .i64 0, .slice none 0 0], .slice none 0 0, .int .u8 0]
theorem laid_met (os : Os) : laidMet Tryz.prog Rows.elabNamesUptoRow.laid ((laidWorld os).forCall (fun _ _ => 0) ⟨#[], arg, []⟩).memory :=
 laidMet_of_run' 8 (by kernel_rfl) (by kernel_rfl)
theorem reads (os : Os) {H : Type} (enc : TypeId × Value → H) : ∃ places, DataW.whole enc Tryz.prog ((laidWorld os).forCall (fun _ _ => 0) ⟨#[], arg, []⟩).memory Tryz.f5.params.toList Rows.elabNamesSpec.vars false arg.toList 8 = some ([.agg [.nil, .nil, .nil, .agg [.lit (.int .i64 0), .lit (.string []), .lit (.int .i64 0), .nil]], .nil, .lit (.int .u8 0)], [], places) :=
 ⟨[], by kernel_rfl⟩
theorem liftedUpto (os : Os) (started : os.Started) (H : Type) (enc : TypeId × Value → H) (F : Stop.Interp) :
   ReturnsInHanded {} Tryz.checked os 5 .any ((Rows.OpenSpec.upto Rows.elabNamesSpec).preRow enc Tryz.prog Tryz.f5 Rows.elabNamesUptoRow.domain false Rows.elabNamesUptoRow.laid) (((Rows.OpenSpec.upto Rows.elabNamesSpec).at F).post enc Tryz.prog Tryz.f5 false true false false) := by
 obtain ⟨places, hx⟩ := reads os enc
 refine returnsInHanded_of_row (C := Tryz.checked) (s := Rows.OpenSpec.upto Rows.elabNamesSpec) own started (by kernel_rfl) Tryz.func5
   (witness_row_at (enc := enc) (C := Tryz.checked) false (laidWorld os) arg rfl (by kernel_rfl) (by kernel_rfl) (by kernel_rfl)
     (OpenSpec.preRow_of_cond 8 hx (by kernel_rfl) (fun k hk => by cases hk; kernel_rfl) (by kernel_rfl) (laid_met os))) ?_
 intro W base args ds gs before hval hW _ hcond _ hL _ _
 exact contract H enc W base args ds gs before hval hW (hcond _ rfl) hL
theorem andI {a b : Bool} (h : a = true) (k : b = true) : (a && b) = true := by rw [h, k]; rfl
theorem closed : joinedFacts Tryz.prog 5 Tryz.f5 (Rows.OpenSpec.upto Rows.elabNamesSpec).bare Rows.elabNamesUptoRow = true := by
 unfold joinedFacts
 repeat (refine andI ?_ ?_)
 all_goals (as_aux_lemma => kernel_rfl)
theorem saidUpto : Rows.ElabNamesUptoSaid :=
 OpenClaim.holds_of_cond 5 Tryz.f5 rfl rfl rfl rfl rfl rfl rfl ⟨rfl, rfl, rfl, rfl, rfl⟩ rfl rfl rfl rfl rfl (by kernel_rfl) Tryz.func5 closed
   (of_decide_eq_true (by kernel_rfl)) (by unfold Func.isWrapper; first | (rw [if_pos (by decide +kernel)]; kernel_rfl) | (rw [if_neg (by decide +kernel)]; exact ⟨rfl, rfl⟩))
   (fun os started H enc _ F => by rw [OpenClaim.pre_eq_preRow]; exact liftedUpto os started H enc F)
theorem plain (f : FuncId) (fn : Func) (hf : Tryz.pinned.checked.prog.funcNamed "chancel/chancellaw09.ElabNames" = some f) (hfn : Tryz.pinned.checked.prog.funcs[f]? = some fn) :
   true = Tryz.pinned.checked.prog.looks [] ∧ ∀ (j : Nat) t, fn.params[j]? = some t → Tryz.pinned.checked.prog.wantsStandIn t = false := by
 obtain rfl : f = 5 := Option.some.inj ((show Tryz.prog.funcNamed "chancel/chancellaw09.ElabNames" = some 5 by kernel_rfl).symm.trans hf) |>.symm
 obtain rfl : fn = Tryz.f5 := (Option.some.inj (Tryz.func5.symm.trans hfn)).symm
 refine ⟨by kernel_rfl, fun j t ht => ?_⟩
 rw [show Tryz.f5.params = #[28, 35, 5] from rfl] at ht
 have ht' : t = 28 ∨ t = 35 ∨ t = 5 := by simpa using Array.mem_of_getElem? ht
 rcases ht' with rfl | rfl | rfl <;> exact (show Tryz.prog.wantsStandIn _ = false by kernel_rfl)
theorem cardUpto : Rows.ElabNamesUptoCardSaid :=
 Claim7.holds_tied_plain_at .later [] _ _ _ _ saidUpto (fun _ h => by cases h) (by kernel_rfl) (fun _ h => by cases h) elabNamesUpto_row_tie rfl ⟨rfl, rfl⟩ (by kernel_rfl) rfl plain (by kernel_rfl)
end Go.Proofs.YthnhddjlgjecdaaGreatDoor.nms
