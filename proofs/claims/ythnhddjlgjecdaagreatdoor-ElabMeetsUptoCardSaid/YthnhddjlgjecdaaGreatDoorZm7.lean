/- ElabMeets: for all arguments of bulk at most 1048576 the law answers true, and they read as before. -/
import Derived.Test.YthnhddjlgjecdaaGreatDoorZm6
import Derived.Test.YthnhddjlgjecdaaGreatDoorCards
import Derived.Test.YthnhddjlgjecdaaGreatDoorTie
import Derived.WalkKit
import Derived.ProofKit
import Derived.OpenShut
import Derived.Deep.DeepHandedRow
set_option autoImplicit false
set_option linter.unnecessarySimpa false
set_option linter.unusedSectionVars false
set_option linter.unusedSimpArgs false
set_option linter.unusedVariables false
set_option maxHeartbeats 8000000
set_option maxRecDepth 100000
set_option relaxedAutoImplicit false
namespace Go.Proofs.YthnhddjlgjecdaaGreatDoor
open Go X
theorem two0_ok (kd : Int) (nm : Bs) (p q : Tm) (v v2 : Value) (E : World) (H : GH) (L : List It) (hp : VT H v p) (hq : VT H v2 q) : Ok Tryz.prog 28 #[.int .i64 kd, str nm, v, v2] E H L fun r H' L' => VT H' r (.mk kd nm 0 [p, q]) ∧ L = L' := by
 have := two9_ok kd nm p q v v2 (fun _ => False) E H L Sub.no (by rw [VX, wo_none]; exact hp) (by rw [VX, wo_none]; exact hq)
 simpa only [VX, wo_none] using this
theorem examples9_ok (E : World) (H : GH) (L : List It) (hL : Laid H) : Ok Tryz.prog 10 #[] E H L fun r H' L' => r = .bool true ∧ L = L' := by
 have hx1 := exE3_x.one
 have hx2 := exE3_x.two
 have hx3 := exE3_x.size
 have hx4 := exE3_x.big
 refine enter (N := 133) [] Tryz.func10 rfl rfl rfl rfl fun a w h => ?_
 refine au [1,2,0,6,0,2,7,5] h ?_; intro a w h
 refine al zr26 h fun g1 a w h => ?_
 refine au [5,5,0,2,7,5] h ?_; intro a w h
 refine al zr26 h fun g2 a w h => ?_
 refine au [5,5,0,2,3,4,3,4] h ?_; intro a w h
 refine cl bod28 (two0_ok 4 [] (Tm.mk 1 [] 1 [] : Tm) (Tm.mk 1 [] 1 [] : Tm) _ _ E H _ ⟨none, 0, rfl, RS.nil _ _ _⟩ ⟨none, 0, rfl, RS.nil _ _ _⟩) h (fun r18 H18 L18 a w le18 R h => ?_)
 obtain ⟨⟨A18_0, c18_0, rfl, hk18_0⟩, rfl⟩ := R
 refine bdl lay28 zr28 h fun a w h => ?_
 refine cl bod20 (Elab_ok exE1 _ E H18 _ ⟨none, 0, none, 0, none, 0, A18_0, c18_0, rfl, RS.nil _ _ _, RS.nil _ _ _, RS.nil _ _ _, hk18_0⟩ (hL.up le_) mildE1) h (fun r20 H20 L20 a w le20 R h => ?_)
 obtain ⟨_, rfl, ⟨A20_0, c20_0, A20_1, c20_1, A20_2, c20_2, A20_3, c20_3, rfl, hk20_0, hk20_1, hk20_2, hk20_3⟩, rfl⟩ := R
 rw [exE1_e] at h
 refine au [0,0,4,7,4,7] h ?_; intro a w h
 refine al zr59 h fun g3 a w h => ?_
 refine au [5,5,0,6,0,2,3,4,7,5] h ?_; intro a w h
 refine cl bod20 (Elab_ok exE2 _ E H20 _ ⟨none, 0, none, 0, none, 0, none, 0, rfl, RS.nil _ _ _, RS.nil _ _ _, RS.nil _ _ _, RS.nil _ _ _⟩ (hL.up le_) mildE2) h (fun r26 H26 L26 a w le26 R h => ?_)
 obtain ⟨_, rfl, ⟨A26_0, c26_0, A26_1, c26_1, A26_2, c26_2, A26_3, c26_3, rfl, hk26_0, hk26_1, hk26_2, hk26_3⟩, rfl⟩ := R
 rw [exE2_e] at h
 refine au [0,0,4,7,4,7] h ?_; intro a w h
 refine al zr59 h fun g5 a w h => ?_
 refine au [5,5,0,6,0,2,3,5,3,6] h ?_; intro a w h
 refine cl bod28 (two0_ok 12 [43] (Tm.mk 2 [120] 0 [] : Tm) (Tm.mk 1 [] 1 [] : Tm) _ _ E H26 _ ⟨none, 0, rfl, RS.nil _ _ _⟩ ⟨none, 0, rfl, RS.nil _ _ _⟩) h (fun r31 H31 L31 a w le31 R h => ?_)
 obtain ⟨⟨A31_0, c31_0, rfl, hk31_0⟩, rfl⟩ := R
 refine bsl bs24 h fun g32 a w h => ?_
 obtain ⟨Hq32, leHq32, h, hsHq32⟩ := h.fsl (R := RT) (sz := 4) (ys := [(Tm.mk 12 [43] 0 [(Tm.mk 2 [120] 0 [] : Tm), (Tm.mk 1 [] 1 [] : Tm)])]) 0 (RowR.one rfl (rt_of_vt (cs := [_, _, _, _]) ⟨_, _, rfl, hk31_0⟩)) (fun _ l cs y _ hr => RT.mono l y hr)
 refine bdl lay26 zr26 h fun a w h => ?_
 refine al zr26 h fun g7 a w h => ?_
 refine au [5,5,0,3] h ?_; intro a w h
 refine sqc (fun a w => ∃ (HJ65 : GH) (g8 : Nat) (Aj65_0 : Option Addr) (cj65_0 : Nat) (Aj65_1 : Option Addr) (cj65_1 : Nat) (Aj65_2 : Option Addr) (cj65_2 : Nat) (Aj65_3 : Option Addr) (cj65_3 : Nat), (LE Hq32 HJ65) ∧ (TdS HJ65 Aj65_0 cj65_0 exE3.elb.1.defs) ∧ (HS HJ65 Aj65_1 cj65_1 exE3.elb.1.body.s.kids) ∧ (HS HJ65 Aj65_2 cj65_2 exE3.elb.1.body.b.kids) ∧ (TrS HJ65 Aj65_3 cj65_3 exE3.elb.1.body.kids) ∧ S E HJ65 133 [] [(0, .bool false), (1, .pointer (some ⟨g1, 0, none⟩)), (2, .pointer (some ⟨g2, 0, none⟩)), (4, .int .i64 8), (6, .int .i64 5), (8, .pointer (some ⟨g8, 0, none⟩)), (9, .int .i64 0)] (.obj g8 (.cells #[.slice Aj65_0 exE3.elb.1.defs.length cj65_0, .int .i64 exE3.elb.1.body.kind, str exE3.elb.1.body.name, .int .i64 exE3.elb.1.body.n, .int .i64 exE3.elb.1.body.s.kind, .int .i64 exE3.elb.1.body.s.n, .slice Aj65_1 exE3.elb.1.body.s.kids.length cj65_1, .int .i64 exE3.elb.1.body.b.kind, .int .i64 exE3.elb.1.body.b.n, .slice Aj65_2 exE3.elb.1.body.b.kids.length cj65_2, .slice Aj65_3 exE3.elb.1.body.kids.length cj65_3] 59 (0, 0)) :: .obj g7 (.cells #[.int .i64 3, str [120], .int .i64 0, .slice (some ⟨g32, 0, none⟩) ([(Tm.mk 12 [43] 0 [(Tm.mk 2 [120] 0 [] : Tm), (Tm.mk 1 [] 1 [] : Tm)])]).length 1] 26 (0, 0)) :: .obj g5 (.cells #[.slice A26_0 exE2.elb.1.defs.length c26_0, .int .i64 exE2.elb.1.body.kind, str exE2.elb.1.body.name, .int .i64 exE2.elb.1.body.n, .int .i64 exE2.elb.1.body.s.kind, .int .i64 exE2.elb.1.body.s.n, .slice A26_1 exE2.elb.1.body.s.kids.length c26_1, .int .i64 exE2.elb.1.body.b.kind, .int .i64 exE2.elb.1.body.b.n, .slice A26_2 exE2.elb.1.body.b.kids.length c26_2, .slice A26_3 exE2.elb.1.body.kids.length c26_3] 59 (0, 0)) :: .obj g3 (.cells #[.slice A20_0 exE1.elb.1.defs.length c20_0, .int .i64 exE1.elb.1.body.kind, str exE1.elb.1.body.name, .int .i64 exE1.elb.1.body.n, .int .i64 exE1.elb.1.body.s.kind, .int .i64 exE1.elb.1.body.s.n, .slice A20_1 exE1.elb.1.body.s.kids.length c20_1, .int .i64 exE1.elb.1.body.b.kind, .int .i64 exE1.elb.1.body.b.n, .slice A20_2 exE1.elb.1.body.b.kids.length c20_2, .slice A20_3 exE1.elb.1.body.kids.length c20_3] 59 (0, 0)) :: .obj g2 (.cells #[.int .i64 2, str [120], .int .i64 0, .slice none 0 0] 26 (0, 0)) :: .obj g1 (.cells #[.int .i64 1, str [], .int .i64 1, .slice none 0 0] 26 (0, 0)) :: L) a w) ?_ ?_
 ·refine rgx [0, 4] [_, _] [0, 4] 14 mix h (fun a w h => ?_)
  refine au [8,0,4,5,2,6,8,1,7,5,2,6,8,3,7,5,2,6,8,4,4,6,2,6] h ?_; intro a w h
  refine brl3 2 5 11 true true true (by kernel_rfl) (by kernel_rfl) (by kernel_rfl) (by kernel_rfl) (fun _ => h.st.sees' LE.rfl (by simp)) ?_ ?_ ?_
  ·refine bsl bs23 h fun g37 a w h => ?_
   obtain ⟨Hq37, leHq37, h, hsHq37⟩ := h.fsl (R := RDf) (sz := 5) (ys := [(Df.mk [102] (Tm.mk 3 [120] 0 ([(Tm.mk 12 [43] 0 [(Tm.mk 2 [120] 0 [] : Tm), (Tm.mk 1 [] 1 [] : Tm)])]) : Tm) : Df)]) 0 (RowR.one rfl (⟨_, rfl, rt_of_vt (cs := [_, _, _, _]) ⟨_, _, rfl, hsHq32⟩⟩)) (fun _ l cs y _ hr => RDf.mono l hr)
   refine br0 ?_
   refine bg2 5 11 true true h ?_ ?_
   ·refine clG bod28 (two0_ok 4 [] (Tm.mk 2 [102] 0 [] : Tm) (Tm.mk 1 [] 1 [] : Tm) _ _ E Hq37 _ ⟨none, 0, rfl, RS.nil _ _ _⟩ ⟨none, 0, rfl, RS.nil _ _ _⟩) h (fun r40 H40 L40 a w le40 R h => ?_)
    obtain ⟨⟨A40_0, c40_0, rfl, hk40_0⟩, rfl⟩ := R
    refine au [2,7,8,6,7,5,2,6] h ?_; intro a w h
    have l_Hq32_H40 : LE Hq32 H40 := leHq37.trans le40
    refine bg2 7 11 true true h ?_ ?_
    ·refine clG bod20 (Elab_ok exE3 _ E H40 _ ⟨none, 0, none, 0, (some ⟨g37, 0, none⟩), 1, A40_0, c40_0, rfl, RS.nil _ _ _, RS.nil _ _ _, (FS.up hsHq37 le40), hk40_0⟩ (hL.up le_) mildE3) h (fun r42 H42 L42 a w le42 R h => ?_)
     obtain ⟨_, rfl, ⟨A42_0, c42_0, A42_1, c42_1, A42_2, c42_2, A42_3, c42_3, rfl, hk42_0, hk42_1, hk42_2, hk42_3⟩, rfl⟩ := R
     rw [exE3_e.1] at h
     refine au [2,7,8,8,0,0,2,6,8,9,4,7,2,6,8,10,4,7,2,6] h ?_; intro a w h
     have l_Hq32_H42 : LE Hq32 H42 := (leHq37.trans le40).trans le42
     refine bg1 11 true h ?_
     refine al zr59 h fun g8 a w h => ?_
     refine br0 ?_
     refine bf1 12 ?_
     refine au [5,5,2,7,8,13,0,6,2,6] h ?_; intro a w h
     refine en (by kernel_rfl) ?_
     refine thN ?_
     exact ⟨H42, g8, A42_0, c42_0, A42_1, c42_1, A42_2, c42_2, A42_3, c42_3, l_Hq32_H42, hk42_0, hk42_1, hk42_2, hk42_3, h.to 0 _⟩
    ·refine al zr59 h fun g8 a w h => ?_
     refine br0 ?_
     refine bg1 7 true h ?_
     refine clG bod20 (Elab_ok exE3 _ E H40 _ ⟨none, 0, none, 0, (some ⟨g37, 0, none⟩), 1, A40_0, c40_0, rfl, RS.nil _ _ _, RS.nil _ _ _, (FS.up hsHq37 le40), hk40_0⟩ (hL.up le_) mildE3) h (fun r42 H42 L42 a w le42 R h => ?_)
     obtain ⟨_, rfl, ⟨A42_0, c42_0, A42_1, c42_1, A42_2, c42_2, A42_3, c42_3, rfl, hk42_0, hk42_1, hk42_2, hk42_3⟩, rfl⟩ := R
     rw [exE3_e.1] at h
     refine au [2,7,8,8,0,0,2,6,8,9,4,7,2,6,8,10,4,7,2,6] h ?_; intro a w h
     have l_Hq32_H42 : LE Hq32 H42 := (leHq37.trans le40).trans le42
     refine bf1 12 ?_
     refine au [5,5,2,7,8,13,0,6,2,6] h ?_; intro a w h
     refine en (by kernel_rfl) ?_
     refine thN ?_
     exact ⟨H42, g8, A42_0, c42_0, A42_1, c42_1, A42_2, c42_2, A42_3, c42_3, l_Hq32_H42, hk42_0, hk42_1, hk42_2, hk42_3, h.to 0 _⟩
   ·refine al zr59 h fun g8 a w h => ?_
    refine br0 ?_
    refine bg1 5 true h ?_
    refine clG bod28 (two0_ok 4 [] (Tm.mk 2 [102] 0 [] : Tm) (Tm.mk 1 [] 1 [] : Tm) _ _ E Hq37 _ ⟨none, 0, rfl, RS.nil _ _ _⟩ ⟨none, 0, rfl, RS.nil _ _ _⟩) h (fun r40 H40 L40 a w le40 R h => ?_)
    obtain ⟨⟨A40_0, c40_0, rfl, hk40_0⟩, rfl⟩ := R
    refine au [2,7,8,6,7,5,2,6] h ?_; intro a w h
    refine bg1 7 true h ?_
    refine clG bod20 (Elab_ok exE3 _ E H40 _ ⟨none, 0, none, 0, (some ⟨g37, 0, none⟩), 1, A40_0, c40_0, rfl, RS.nil _ _ _, RS.nil _ _ _, (FS.up hsHq37 le40), hk40_0⟩ (hL.up le_) mildE3) h (fun r42 H42 L42 a w le42 R h => ?_)
    obtain ⟨_, rfl, ⟨A42_0, c42_0, A42_1, c42_1, A42_2, c42_2, A42_3, c42_3, rfl, hk42_0, hk42_1, hk42_2, hk42_3⟩, rfl⟩ := R
    rw [exE3_e.1] at h
    refine au [2,7,8,8,0,0,2,6,8,9,4,7,2,6,8,10,4,7,2,6] h ?_; intro a w h
    have l_Hq32_H42 : LE Hq32 H42 := (leHq37.trans le40).trans le42
    refine bf1 12 ?_
    refine au [5,5,2,7,8,13,0,6,2,6] h ?_; intro a w h
    refine en (by kernel_rfl) ?_
    refine thN ?_
    exact ⟨H42, g8, A42_0, c42_0, A42_1, c42_1, A42_2, c42_2, A42_3, c42_3, l_Hq32_H42, hk42_0, hk42_1, hk42_2, hk42_3, h.to 0 _⟩
  ·refine clG bod28 (two0_ok 4 [] (Tm.mk 2 [102] 0 [] : Tm) (Tm.mk 1 [] 1 [] : Tm) _ _ E Hq32 _ ⟨none, 0, rfl, RS.nil _ _ _⟩ ⟨none, 0, rfl, RS.nil _ _ _⟩) h (fun r40 H40 L40 a w le40 R h => ?_)
   obtain ⟨⟨A40_0, c40_0, rfl, hk40_0⟩, rfl⟩ := R
   refine br0 ?_
   refine bg2 2 11 true true h ?_ ?_
   ·refine bsl bs23 h fun g37 a w h => ?_
    obtain ⟨Hq37, leHq37, h, hsHq37⟩ := h.fsl (R := RDf) (sz := 5) (ys := [(Df.mk [102] (Tm.mk 3 [120] 0 ([(Tm.mk 12 [43] 0 [(Tm.mk 2 [120] 0 [] : Tm), (Tm.mk 1 [] 1 [] : Tm)])]) : Tm) : Df)]) 0 (RowR.one rfl (⟨_, rfl, rt_of_vt (cs := [_, _, _, _]) ⟨_, _, rfl, (KS.up hsHq32 le40)⟩⟩)) (fun _ l cs y _ hr => RDf.mono l hr)
    refine au [2,7,8,6,7,5,2,6] h ?_; intro a w h
    have l_Hq32_Hq37 : LE Hq32 Hq37 := le40.trans leHq37
    refine bg2 7 11 true true h ?_ ?_
    ·refine clG bod20 (Elab_ok exE3 _ E Hq37 _ ⟨none, 0, none, 0, (some ⟨g37, 0, none⟩), 1, A40_0, c40_0, rfl, RS.nil _ _ _, RS.nil _ _ _, hsHq37, (KS.up hk40_0 leHq37)⟩ (hL.up le_) mildE3) h (fun r42 H42 L42 a w le42 R h => ?_)
     obtain ⟨_, rfl, ⟨A42_0, c42_0, A42_1, c42_1, A42_2, c42_2, A42_3, c42_3, rfl, hk42_0, hk42_1, hk42_2, hk42_3⟩, rfl⟩ := R
     rw [exE3_e.1] at h
     refine au [2,7,8,8,0,0,2,6,8,9,4,7,2,6,8,10,4,7,2,6] h ?_; intro a w h
     have l_Hq32_H42 : LE Hq32 H42 := (le40.trans leHq37).trans le42
     refine bg1 11 true h ?_
     refine al zr59 h fun g8 a w h => ?_
     refine br0 ?_
     refine bf1 12 ?_
     refine au [5,5,2,7,8,13,0,6,2,6] h ?_; intro a w h
     refine en (by kernel_rfl) ?_
     refine thN ?_
     exact ⟨H42, g8, A42_0, c42_0, A42_1, c42_1, A42_2, c42_2, A42_3, c42_3, l_Hq32_H42, hk42_0, hk42_1, hk42_2, hk42_3, h.to 0 _⟩
    ·refine al zr59 h fun g8 a w h => ?_
     refine br0 ?_
     refine bg1 7 true h ?_
     refine clG bod20 (Elab_ok exE3 _ E Hq37 _ ⟨none, 0, none, 0, (some ⟨g37, 0, none⟩), 1, A40_0, c40_0, rfl, RS.nil _ _ _, RS.nil _ _ _, hsHq37, (KS.up hk40_0 leHq37)⟩ (hL.up le_) mildE3) h (fun r42 H42 L42 a w le42 R h => ?_)
     obtain ⟨_, rfl, ⟨A42_0, c42_0, A42_1, c42_1, A42_2, c42_2, A42_3, c42_3, rfl, hk42_0, hk42_1, hk42_2, hk42_3⟩, rfl⟩ := R
     rw [exE3_e.1] at h
     refine au [2,7,8,8,0,0,2,6,8,9,4,7,2,6,8,10,4,7,2,6] h ?_; intro a w h
     have l_Hq32_H42 : LE Hq32 H42 := (le40.trans leHq37).trans le42
     refine bf1 12 ?_
     refine au [5,5,2,7,8,13,0,6,2,6] h ?_; intro a w h
     refine en (by kernel_rfl) ?_
     refine thN ?_
     exact ⟨H42, g8, A42_0, c42_0, A42_1, c42_1, A42_2, c42_2, A42_3, c42_3, l_Hq32_H42, hk42_0, hk42_1, hk42_2, hk42_3, h.to 0 _⟩
   ·refine al zr59 h fun g8 a w h => ?_
    refine br0 ?_
    refine bg1 2 true h ?_
    refine bsl bs23 h fun g37 a w h => ?_
    obtain ⟨Hq37, leHq37, h, hsHq37⟩ := h.fsl (R := RDf) (sz := 5) (ys := [(Df.mk [102] (Tm.mk 3 [120] 0 ([(Tm.mk 12 [43] 0 [(Tm.mk 2 [120] 0 [] : Tm), (Tm.mk 1 [] 1 [] : Tm)])]) : Tm) : Df)]) 0 (RowR.one rfl (⟨_, rfl, rt_of_vt (cs := [_, _, _, _]) ⟨_, _, rfl, (KS.up hsHq32 le40)⟩⟩)) (fun _ l cs y _ hr => RDf.mono l hr)
    refine au [2,7,8,6,7,5,2,6] h ?_; intro a w h
    refine bg1 7 true h ?_
    refine clG bod20 (Elab_ok exE3 _ E Hq37 _ ⟨none, 0, none, 0, (some ⟨g37, 0, none⟩), 1, A40_0, c40_0, rfl, RS.nil _ _ _, RS.nil _ _ _, hsHq37, (KS.up hk40_0 leHq37)⟩ (hL.up le_) mildE3) h (fun r42 H42 L42 a w le42 R h => ?_)
    obtain ⟨_, rfl, ⟨A42_0, c42_0, A42_1, c42_1, A42_2, c42_2, A42_3, c42_3, rfl, hk42_0, hk42_1, hk42_2, hk42_3⟩, rfl⟩ := R
    rw [exE3_e.1] at h
    refine au [2,7,8,8,0,0,2,6,8,9,4,7,2,6,8,10,4,7,2,6] h ?_; intro a w h
    have l_Hq32_H42 : LE Hq32 H42 := (le40.trans leHq37).trans le42
    refine bf1 12 ?_
    refine au [5,5,2,7,8,13,0,6,2,6] h ?_; intro a w h
    refine en (by kernel_rfl) ?_
    refine thN ?_
    exact ⟨H42, g8, A42_0, c42_0, A42_1, c42_1, A42_2, c42_2, A42_3, c42_3, l_Hq32_H42, hk42_0, hk42_1, hk42_2, hk42_3, h.to 0 _⟩
  ·refine al zr59 h fun g8 a w h => ?_
   refine br0 ?_
   refine bg2 2 5 true true h ?_ ?_
   ·refine bsl bs23 h fun g37 a w h => ?_
    obtain ⟨Hq37, leHq37, h, hsHq37⟩ := h.fsl (R := RDf) (sz := 5) (ys := [(Df.mk [102] (Tm.mk 3 [120] 0 ([(Tm.mk 12 [43] 0 [(Tm.mk 2 [120] 0 [] : Tm), (Tm.mk 1 [] 1 [] : Tm)])]) : Tm) : Df)]) 0 (RowR.one rfl (⟨_, rfl, rt_of_vt (cs := [_, _, _, _]) ⟨_, _, rfl, hsHq32⟩⟩)) (fun _ l cs y _ hr => RDf.mono l hr)
    refine br0 ?_
    refine bg1 5 true h ?_
    refine clG bod28 (two0_ok 4 [] (Tm.mk 2 [102] 0 [] : Tm) (Tm.mk 1 [] 1 [] : Tm) _ _ E Hq37 _ ⟨none, 0, rfl, RS.nil _ _ _⟩ ⟨none, 0, rfl, RS.nil _ _ _⟩) h (fun r40 H40 L40 a w le40 R h => ?_)
    obtain ⟨⟨A40_0, c40_0, rfl, hk40_0⟩, rfl⟩ := R
    refine au [2,7,8,6,7,5,2,6] h ?_; intro a w h
    refine bg1 7 true h ?_
    refine clG bod20 (Elab_ok exE3 _ E H40 _ ⟨none, 0, none, 0, (some ⟨g37, 0, none⟩), 1, A40_0, c40_0, rfl, RS.nil _ _ _, RS.nil _ _ _, (FS.up hsHq37 le40), hk40_0⟩ (hL.up le_) mildE3) h (fun r42 H42 L42 a w le42 R h => ?_)
    obtain ⟨_, rfl, ⟨A42_0, c42_0, A42_1, c42_1, A42_2, c42_2, A42_3, c42_3, rfl, hk42_0, hk42_1, hk42_2, hk42_3⟩, rfl⟩ := R
    rw [exE3_e.1] at h
    refine au [2,7,8,8,0,0,2,6,8,9,4,7,2,6,8,10,4,7,2,6] h ?_; intro a w h
    have l_Hq32_H42 : LE Hq32 H42 := (leHq37.trans le40).trans le42
    refine bf1 12 ?_
    refine au [5,5,2,7,8,13,0,6,2,6] h ?_; intro a w h
    refine en (by kernel_rfl) ?_
    refine thN ?_
    exact ⟨H42, g8, A42_0, c42_0, A42_1, c42_1, A42_2, c42_2, A42_3, c42_3, l_Hq32_H42, hk42_0, hk42_1, hk42_2, hk42_3, h.to 0 _⟩
   ·refine clG bod28 (two0_ok 4 [] (Tm.mk 2 [102] 0 [] : Tm) (Tm.mk 1 [] 1 [] : Tm) _ _ E Hq32 _ ⟨none, 0, rfl, RS.nil _ _ _⟩ ⟨none, 0, rfl, RS.nil _ _ _⟩) h (fun r40 H40 L40 a w le40 R h => ?_)
    obtain ⟨⟨A40_0, c40_0, rfl, hk40_0⟩, rfl⟩ := R
    refine br0 ?_
    refine bg1 2 true h ?_
    refine bsl bs23 h fun g37 a w h => ?_
    obtain ⟨Hq37, leHq37, h, hsHq37⟩ := h.fsl (R := RDf) (sz := 5) (ys := [(Df.mk [102] (Tm.mk 3 [120] 0 ([(Tm.mk 12 [43] 0 [(Tm.mk 2 [120] 0 [] : Tm), (Tm.mk 1 [] 1 [] : Tm)])]) : Tm) : Df)]) 0 (RowR.one rfl (⟨_, rfl, rt_of_vt (cs := [_, _, _, _]) ⟨_, _, rfl, (KS.up hsHq32 le40)⟩⟩)) (fun _ l cs y _ hr => RDf.mono l hr)
    refine au [2,7,8,6,7,5,2,6] h ?_; intro a w h
    refine bg1 7 true h ?_
    refine clG bod20 (Elab_ok exE3 _ E Hq37 _ ⟨none, 0, none, 0, (some ⟨g37, 0, none⟩), 1, A40_0, c40_0, rfl, RS.nil _ _ _, RS.nil _ _ _, hsHq37, (KS.up hk40_0 leHq37)⟩ (hL.up le_) mildE3) h (fun r42 H42 L42 a w le42 R h => ?_)
    obtain ⟨_, rfl, ⟨A42_0, c42_0, A42_1, c42_1, A42_2, c42_2, A42_3, c42_3, rfl, hk42_0, hk42_1, hk42_2, hk42_3⟩, rfl⟩ := R
    rw [exE3_e.1] at h
    refine au [2,7,8,8,0,0,2,6,8,9,4,7,2,6,8,10,4,7,2,6] h ?_; intro a w h
    have l_Hq32_H42 : LE Hq32 H42 := (le40.trans leHq37).trans le42
    refine bf1 12 ?_
    refine au [5,5,2,7,8,13,0,6,2,6] h ?_; intro a w h
    refine en (by kernel_rfl) ?_
    refine thN ?_
    exact ⟨H42, g8, A42_0, c42_0, A42_1, c42_1, A42_2, c42_2, A42_3, c42_3, l_Hq32_H42, hk42_0, hk42_1, hk42_2, hk42_3, h.to 0 _⟩
 ·rintro a w ⟨HJ65, g8, Aj65_0, cj65_0, Aj65_1, cj65_1, Aj65_2, cj65_2, Aj65_3, cj65_3, leHJ65, hj65_0, hj65_1, hj65_2, hj65_3, h⟩
  refine au [1,2,3,7,3,7] h ?_; intro a w h
  refine cl bod28 (two0_ok 4 [] (Tm.mk 2 [120] 0 [] : Tm) (Tm.mk 2 [120] 0 [] : Tm) _ _ E HJ65 _ ⟨none, 0, rfl, RS.nil _ _ _⟩ ⟨none, 0, rfl, RS.nil _ _ _⟩) h (fun r47 H47 L47 a w le47 R h => ?_)
  obtain ⟨⟨A47_0, c47_0, rfl, hk47_0⟩, rfl⟩ := R
  refine bsl bs24 h fun g48 a w h => ?_
  obtain ⟨Hq48, leHq48, h, hsHq48⟩ := h.fsl (R := RT) (sz := 4) (ys := [(Tm.mk 4 [] 0 [(Tm.mk 2 [120] 0 [] : Tm), (Tm.mk 2 [120] 0 [] : Tm)])]) 0 (RowR.one rfl (rt_of_vt (cs := [_, _, _, _]) ⟨_, _, rfl, hk47_0⟩)) (fun _ l cs y _ hr => RT.mono l y hr)
  refine bdl lay26 zr26 h fun a w h => ?_
  refine al zr26 h fun g10 a w h => ?_
  refine au [5,5,0,2,3,3] h ?_; intro a w h
  refine ldW 6 tN26 h fun a w h => ?_
  refine cl bod28 (two0_ok 13 [] (Tm.mk 3 [120] 0 ([(Tm.mk 4 [] 0 [(Tm.mk 2 [120] 0 [] : Tm), (Tm.mk 2 [120] 0 [] : Tm)])]) : Tm) (Tm.mk 1 [] 1 [] : Tm) _ _ E Hq48 _ ⟨(some ⟨g48, 0, none⟩), 1, rfl, hsHq48⟩ ⟨none, 0, rfl, RS.nil _ _ _⟩) h (fun r53 H53 L53 a w le53 R h => ?_)
  obtain ⟨⟨A53_0, c53_0, rfl, hk53_0⟩, rfl⟩ := R
  refine bdl lay28 zr28 h fun a w h => ?_
  refine cl bod20 (Elab_ok exE4 _ E H53 _ ⟨none, 0, none, 0, none, 0, A53_0, c53_0, rfl, RS.nil _ _ _, RS.nil _ _ _, RS.nil _ _ _, hk53_0⟩ (hL.up le_) mildE4) h (fun r55 H55 L55 a w le55 R h => ?_)
  obtain ⟨_, rfl, ⟨A55_0, c55_0, A55_1, c55_1, A55_2, c55_2, A55_3, c55_3, rfl, hk55_0, hk55_1, hk55_2, hk55_3⟩, rfl⟩ := R
  rw [exE4_e] at h
  refine au [0,0,4,7,4,7] h ?_; intro a w h
  refine al zr59 h fun g11 a w h => ?_
  refine au [5,5,0,6,0,3,0,4] h ?_; intro a w h
  refine sqc (fun a w => S E H55 133 [] [(0, .bool false), (4, .int .i64 8), (6, .int .i64 5), (8, .pointer (some ⟨g8, 0, none⟩)), (9, .int .i64 0), (12, .int .i64 8), (68, .bool (((exE3.elb.1.body.kids.length : Int) : Int) != 2))] (.obj g11 (.cells #[.slice A55_0 exE4.elb.1.defs.length c55_0, .int .i64 exE4.elb.1.body.kind, str exE4.elb.1.body.name, .int .i64 exE4.elb.1.body.n, .int .i64 exE4.elb.1.body.s.kind, .int .i64 exE4.elb.1.body.s.n, .slice A55_1 exE4.elb.1.body.s.kids.length c55_1, .int .i64 exE4.elb.1.body.b.kind, .int .i64 exE4.elb.1.body.b.n, .slice A55_2 exE4.elb.1.body.b.kids.length c55_2, .slice A55_3 exE4.elb.1.body.kids.length c55_3] 59 (0, 0)) :: .obj g10 (.cells #[.int .i64 3, str [120], .int .i64 0, .slice (some ⟨g48, 0, none⟩) ([(Tm.mk 4 [] 0 [(Tm.mk 2 [120] 0 [] : Tm), (Tm.mk 2 [120] 0 [] : Tm)])]).length 1] 26 (0, 0)) :: .obj g8 (.cells #[.slice Aj65_0 exE3.elb.1.defs.length cj65_0, .int .i64 exE3.elb.1.body.kind, str exE3.elb.1.body.name, .int .i64 exE3.elb.1.body.n, .int .i64 exE3.elb.1.body.s.kind, .int .i64 exE3.elb.1.body.s.n, .slice Aj65_1 exE3.elb.1.body.s.kids.length cj65_1, .int .i64 exE3.elb.1.body.b.kind, .int .i64 exE3.elb.1.body.b.n, .slice Aj65_2 exE3.elb.1.body.b.kids.length cj65_2, .slice Aj65_3 exE3.elb.1.body.kids.length cj65_3] 59 (0, 0)) :: .obj g7 (.cells #[.int .i64 3, str [120], .int .i64 0, .slice (some ⟨g32, 0, none⟩) ([(Tm.mk 12 [43] 0 [(Tm.mk 2 [120] 0 [] : Tm), (Tm.mk 1 [] 1 [] : Tm)])]).length 1] 26 (0, 0)) :: .obj g5 (.cells #[.slice A26_0 exE2.elb.1.defs.length c26_0, .int .i64 exE2.elb.1.body.kind, str exE2.elb.1.body.name, .int .i64 exE2.elb.1.body.n, .int .i64 exE2.elb.1.body.s.kind, .int .i64 exE2.elb.1.body.s.n, .slice A26_1 exE2.elb.1.body.s.kids.length c26_1, .int .i64 exE2.elb.1.body.b.kind, .int .i64 exE2.elb.1.body.b.n, .slice A26_2 exE2.elb.1.body.b.kids.length c26_2, .slice A26_3 exE2.elb.1.body.kids.length c26_3] 59 (0, 0)) :: .obj g3 (.cells #[.slice A20_0 exE1.elb.1.defs.length c20_0, .int .i64 exE1.elb.1.body.kind, str exE1.elb.1.body.name, .int .i64 exE1.elb.1.body.n, .int .i64 exE1.elb.1.body.s.kind, .int .i64 exE1.elb.1.body.s.n, .slice A20_1 exE1.elb.1.body.s.kids.length c20_1, .int .i64 exE1.elb.1.body.b.kind, .int .i64 exE1.elb.1.body.b.n, .slice A20_2 exE1.elb.1.body.b.kids.length c20_2, .slice A20_3 exE1.elb.1.body.kids.length c20_3] 59 (0, 0)) :: .obj g2 (.cells #[.int .i64 2, str [120], .int .i64 0, .slice none 0 0] 26 (0, 0)) :: .obj g1 (.cells #[.int .i64 1, str [], .int .i64 1, .slice none 0 0] 26 (0, 0)) :: L) a w) ?_ ?_
  ·refine au [0,5,0,7,3,0,6,0,6,3] h ?_; intro a w h
   refine h.spl (fun c61 h => ?_) (fun c61 h => ?_)
   ·have d61 : exE3.elb.1.defs.length ≠ 1 := cd_ c61
    rw [hx1] at c61; simp at c61
   ·have d61 : exE3.elb.1.defs.length = 1 := cd_ c61
    refine au [0,0,0,7,0,7,3,0,6,0,6,3,5,0,0,3] h ?_; intro a w h
    exact h.to 0 _
  ·rintro a w h
   refine cdB h (fun c68 => ?_) (fun c68 => ?_)
   ·have d68 : exE3.elb.1.body.kids.length ≠ 2 := cd_ c68
    rw [hx2] at c68; simp at c68
   ·have d68 : exE3.elb.1.body.kids.length = 2 := cd_ c68
    refine au [1,8,1,0] h ?_
    refine sqc (fun a w => S E H55 133 [] [(0, .bool (exE3.elb.1.body.same exE3.elb.1.body))] (.obj g11 (.cells #[.slice A55_0 exE4.elb.1.defs.length c55_0, .int .i64 exE4.elb.1.body.kind, str exE4.elb.1.body.name, .int .i64 exE4.elb.1.body.n, .int .i64 exE4.elb.1.body.s.kind, .int .i64 exE4.elb.1.body.s.n, .slice A55_1 exE4.elb.1.body.s.kids.length c55_1, .int .i64 exE4.elb.1.body.b.kind, .int .i64 exE4.elb.1.body.b.n, .slice A55_2 exE4.elb.1.body.b.kids.length c55_2, .slice A55_3 exE4.elb.1.body.kids.length c55_3] 59 (0, 0)) :: .obj g10 (.cells #[.int .i64 3, str [120], .int .i64 0, .slice (some ⟨g48, 0, none⟩) ([(Tm.mk 4 [] 0 [(Tm.mk 2 [120] 0 [] : Tm), (Tm.mk 2 [120] 0 [] : Tm)])]).length 1] 26 (0, 0)) :: .obj g8 (.cells #[.slice Aj65_0 exE3.elb.1.defs.length cj65_0, .int .i64 exE3.elb.1.body.kind, str exE3.elb.1.body.name, .int .i64 exE3.elb.1.body.n, .int .i64 exE3.elb.1.body.s.kind, .int .i64 exE3.elb.1.body.s.n, .slice Aj65_1 exE3.elb.1.body.s.kids.length cj65_1, .int .i64 exE3.elb.1.body.b.kind, .int .i64 exE3.elb.1.body.b.n, .slice Aj65_2 exE3.elb.1.body.b.kids.length cj65_2, .slice Aj65_3 exE3.elb.1.body.kids.length cj65_3] 59 (0, 0)) :: .obj g7 (.cells #[.int .i64 3, str [120], .int .i64 0, .slice (some ⟨g32, 0, none⟩) ([(Tm.mk 12 [43] 0 [(Tm.mk 2 [120] 0 [] : Tm), (Tm.mk 1 [] 1 [] : Tm)])]).length 1] 26 (0, 0)) :: .obj g5 (.cells #[.slice A26_0 exE2.elb.1.defs.length c26_0, .int .i64 exE2.elb.1.body.kind, str exE2.elb.1.body.name, .int .i64 exE2.elb.1.body.n, .int .i64 exE2.elb.1.body.s.kind, .int .i64 exE2.elb.1.body.s.n, .slice A26_1 exE2.elb.1.body.s.kids.length c26_1, .int .i64 exE2.elb.1.body.b.kind, .int .i64 exE2.elb.1.body.b.n, .slice A26_2 exE2.elb.1.body.b.kids.length c26_2, .slice A26_3 exE2.elb.1.body.kids.length c26_3] 59 (0, 0)) :: .obj g3 (.cells #[.slice A20_0 exE1.elb.1.defs.length c20_0, .int .i64 exE1.elb.1.body.kind, str exE1.elb.1.body.name, .int .i64 exE1.elb.1.body.n, .int .i64 exE1.elb.1.body.s.kind, .int .i64 exE1.elb.1.body.s.n, .slice A20_1 exE1.elb.1.body.s.kids.length c20_1, .int .i64 exE1.elb.1.body.b.kind, .int .i64 exE1.elb.1.body.b.n, .slice A20_2 exE1.elb.1.body.b.kids.length c20_2, .slice A20_3 exE1.elb.1.body.kids.length c20_3] 59 (0, 0)) :: .obj g2 (.cells #[.int .i64 2, str [120], .int .i64 0, .slice none 0 0] 26 (0, 0)) :: .obj g1 (.cells #[.int .i64 1, str [], .int .i64 1, .slice none 0 0] 26 (0, 0)) :: L) a w) ?_ ?_
    ·refine au [0,5,0,0,6,2] h ?_; intro a w h
     refine h.spl (fun c70 h => ?_) (fun c70 h => ?_)
     ·have d70 : 8 = 8 := cd_ c70
      refine au [0,0,0,0,6,2] h ?_; intro a w h
      refine h.spl (fun c73 h => ?_) (fun c73 h => ?_)
      ·have d73 : 5 = 5 := cd_ c73
       refine au [4,8,0,0,0,0,6,2] h ?_; intro a w h
       refine h.spl (fun c77 h => ?_) (fun c77 h => ?_)
       ·have d77 : 0 = 0 := cd_ c77
        refine au [4,8,0,0,0,0,6,2] h ?_; intro a w h
        refine h.spl (fun c81 h => ?_) (fun c81 h => ?_)
        ·have d81 : 8 = 8 := cd_ c81
         refine au [4,8,0,0,0,7,3,0] h ?_; intro a w h
         have l_HJ65_H55 : LE HJ65 H55 := ((le47.trans leHq48).trans le53).trans le55
         have hj86 : 0 < exE3.elb.1.defs.length := by first | assumption | omega | (simp; done) | (simp; omega)
         obtain ⟨g86, o86, A86_0, c86_0, A86_1, c86_1, A86_2, c86_2, e86, hv86, hc86⟩ := TdS.get (TdS.up hj65_0 l_HJ65_H55) hj86
         obtain ⟨_, _, _, _, _, _, q86, hk86_0, hk86_1, hk86_2⟩ := hv86; cases q86
         refine iaE sli57 sz74 rfl hj86 e86 h fun a w h => ?_
         refine fa fl74_1 (r := o86 + 0 * 11 + 1) h fun a w h => ?_
         refine fa fl34_3 (r := o86 + 0 * 11 + 4) h fun a w h => ?_
         refine ldHN (l := [_, _, _]) tN31 rfl (sbL 4 3 hc86) h fun a w h => ?_
         refine cl bod26 (Text_ok exE3.elb.1.defs[0].t.s _ E H55 _ (hL.up le_) ⟨A86_0, c86_0, rfl, hk86_0⟩ (by rw [exE3_x.s]; decide) (fun _ x hx => by rw [exE3_x.s] at hx; simp [fu, wh, Sh.hl, hlL] at hx)) h (fun r90 H90 L90 a w le90 R h => ?_)
         obtain ⟨rfl, rfl, rfl⟩ := R
         refine eqb h fun a w h => ?_
         refine h.spl (fun c91 h => ?_) (fun c91 h => ?_)
         ·have d91 : (exE3.elb.1.defs[0].t.s.text) = [40, 105, 110, 116, 32, 45, 62, 32, 105, 110, 116, 41] := cd_ c91
          refine au [4,8,0,0,0,7,3,0] h ?_; intro a w h
          have hj96 : 0 < exE3.elb.1.defs.length := by first | assumption | omega | (simp; done) | (simp; omega)
          obtain ⟨g96, o96, A96_0, c96_0, A96_1, c96_1, A96_2, c96_2, e96, hv96, hc96⟩ := TdS.get (TdS.up hj65_0 l_HJ65_H55) hj96
          obtain ⟨_, _, _, _, _, _, q96, hk96_0, hk96_1, hk96_2⟩ := hv96; cases q96
          refine iaE sli57 sz74 rfl hj96 e96 h fun a w h => ?_
          refine fa fl74_1 (r := o96 + 0 * 11 + 1) h fun a w h => ?_
          refine fa fl34_4 (r := o96 + 0 * 11 + 7) h fun a w h => ?_
          refine fa fl31_0 (r := o96 + 0 * 11 + 7) h fun a w h => ?_
          refine ldH t1_3 (hc96 7 _ rfl) h fun a w h => ?_
          refine eqi h fun a w h => ?_
          refine h.spl (fun c101 h => ?_) (fun c101 h => ?_)
          ·have d101 : exE3.elb.1.defs[0].t.b.kind = 1 := cd_ c101
           refine au [4,8,0,0,0,7,0,7,0,7,3,0,6,2] h ?_; intro a w h
           refine h.spl (fun c108 h => ?_) (fun c108 h => ?_)
           ·have d108 : exE3.elb.1.body.s.kind = 1 := cd_ c108
            refine au [4,8,0,0,0,7,3,0] h ?_; intro a w h
            have hj113 : 0 < exE3.elb.1.defs.length := by first | assumption | omega | (simp; done) | (simp; omega)
            obtain ⟨g113, o113, A113_0, c113_0, A113_1, c113_1, A113_2, c113_2, e113, hv113, hc113⟩ := TdS.get (TdS.up hj65_0 l_HJ65_H55) hj113
            obtain ⟨_, _, _, _, _, _, q113, hk113_0, hk113_1, hk113_2⟩ := hv113; cases q113
            refine iaE sli57 sz74 rfl hj113 e113 h fun a w h => ?_
            refine fa fl74_1 (r := o113 + 0 * 11 + 1) h fun a w h => ?_
            refine fa fl34_1 (r := o113 + 0 * 11 + 2) h fun a w h => ?_
            refine ldH t1_9 (hc113 2 _ rfl) h fun a w h => ?_
            refine eqb h fun a w h => ?_
            refine h.spl (fun c117 h => ?_) (fun c117 h => ?_)
            ·have d117 : exE3.elb.1.defs[0].t.name = [49] := cd_ c117
             refine au [4,8,0,0,0,7] h ?_; intro a w h
             refine ldN (l := [_, _, _, _, _, _, _, _, _, _]) 2 tN34 h fun a w h => ?_
             refine cl bod16 (Bare_ok exE3.elb.1.body _ E H55 _ ⟨Aj65_1, cj65_1, Aj65_2, cj65_2, Aj65_3, cj65_3, rfl, (HS.up hj65_1 l_HJ65_H55), (HS.up hj65_2 l_HJ65_H55), (TrS.up hj65_3 l_HJ65_H55)⟩ (by omega)) h (fun r122 H122 L122 a w le122 R h => ?_)
             obtain ⟨⟨A122_0, c122_0, rfl, hk122_0⟩, rfl⟩ := R
             refine fld1 (r := 0) (by kernel_rfl) h fun a w h => ?_
             refine eqi h fun a w h => ?_
             refine h.spl (fun c124 h => ?_) (fun c124 h => ?_)
             ·have d124 : (exE3.elb.1.body.bare).kind = 4 := cd_ c124
              refine au [4,8,0,0,0,7] h ?_; intro a w h
              refine ldN (l := [_, _, _, _, _, _, _, _, _, _]) 2 tN34 h fun a w h => ?_
              refine fa fl59_1 (r := 1) h fun a w h => ?_
              refine ldN (l := [_, _, _, _, _, _, _, _, _, _]) 2 tN34 h fun a w h => ?_
              have l_HJ65_H122 : LE HJ65 H122 := (((le47.trans leHq48).trans le53).trans le55).trans le122
              refine cl bod11 (SameTr_ok exE3.elb.1.body exE3.elb.1.body _ _ E H122 _ ⟨Aj65_1, cj65_1, Aj65_2, cj65_2, Aj65_3, cj65_3, rfl, (HS.up hj65_1 l_HJ65_H122), (HS.up hj65_2 l_HJ65_H122), (TrS.up hj65_3 l_HJ65_H122)⟩ ⟨Aj65_1, cj65_1, Aj65_2, cj65_2, Aj65_3, cj65_3, rfl, (HS.up hj65_1 l_HJ65_H122), (HS.up hj65_2 l_HJ65_H122), (TrS.up hj65_3 l_HJ65_H122)⟩ (by omega) (by omega)) h (fun r131 H131 L131 a w le131 R h => ?_)
              obtain ⟨rfl, rfl, rfl⟩ := R
              refine au [4,8,0,6,0,3] h ?_; intro a w h
              have h := h.less le122
              exact h.to 0 _
             ·have d124 : (exE3.elb.1.body.bare).kind ≠ 4 := cd_ c124
              rw [exE3_x.bare] at c124; simp at c124
            ·have d117 : exE3.elb.1.defs[0].t.name ≠ [49] := cd_ c117
             rw [exE3_x.nm] at c117; simp at c117
           ·have d108 : exE3.elb.1.body.s.kind ≠ 1 := cd_ c108
            rw [exE3_x.bs] at c108; simp [wh, Sh.kind] at c108
          ·have d101 : exE3.elb.1.defs[0].t.b.kind ≠ 1 := cd_ c101
           rw [exE3_x.b] at c101; simp [wh, Sh.kind] at c101
         ·have d91 : (exE3.elb.1.defs[0].t.s.text) ≠ [40, 105, 110, 116, 32, 45, 62, 32, 105, 110, 116, 41] := cd_ c91
          rw [exE3_x.s, tx3] at c91; simp at c91
        ·have d81 : 8 ≠ 8 := cd_ c81
         simp at c81
       ·have d77 : 0 ≠ 0 := cd_ c77
        simp at c77
      ·have d73 : 5 ≠ 5 := cd_ c73
       simp at c73
     ·have d70 : 8 ≠ 8 := cd_ c70
      simp at c70
    ·rintro a w h
     refine ret_ ?_
     have l_H_H55 : LE H H55 := ((((((((le18.trans le20).trans le26).trans le31).trans leHq32).trans leHJ65).trans le47).trans leHq48).trans le53).trans le55
     refine fin1 0 8 h l_H_H55 ?_
     exact ⟨by rw [(tr_same_iff _ _).2 rfl], rfl⟩
theorem s_big {t : Tr} : t.s.size ≤ t.big ∧ t.b.size ≤ t.big := by
 obtain ⟨k, m, n, s, b, ks⟩ := t
 simp only [Tr.s, Tr.b, Tr.big]; omega
theorem sAt_big (ks : List Tr) (i : Nat) : (sAt ks i).size ≤ 1 + bigL ks := by
 by_cases h : i < ks.length
 · have h1 := big_le (List.getElem_mem h)
   have h2 := (s_big (t := ks[i])).1
   unfold sAt; rw [getS h]; omega
 · rw [sAt_none (by omega)]; simp [Sh.size, sizeSL]
structure MeetF (p : Pg) : Prop where
 body : ∃ G, p.elb.1.body.ok G id
 bfine : p.elb.1.body.fine
 bs : p.elb.1.body.s = wh
 bsz : p.elb.1.body.size ≤ 1000000
 len : p.elb.1.defs.length ≤ 32
 defs : ∀ i (h : i < p.elb.1.defs.length), (∃ G, p.elb.1.defs[i].t.ok G id) ∧ p.elb.1.defs[i].t.fine ∧ p.elb.1.defs[i].t.s.kind = 3 ∧ p.elb.1.defs[i].t.size ≤ 1000000
theorem right_fun {p : Pg} (h : p.right = true) : ∀ d ∈ p.defs, d.t.kind = 3 := by
 unfold Pg.right Pg.print at h
 have hf : p.fits = true := by
   cases e : p.fits with
   | true => rfl
   | false => rw [e] at h; simp at h
 unfold Pg.fits at hf
 simp only [Bool.and_eq_true, Bool.not_eq_true', decide_eq_true_eq] at hf
 obtain ⟨hb, _, _⟩ := hf
 unfold Pg.bad at hb
 simp only [Bool.or_eq_false_iff] at hb
 intro d hd
 have := List.any_eq_false.1 hb.2.2.2 d hd
 unfold Df.wrong at this
 simp only [Bool.or_eq_true, Bool.not_eq_true', not_or] at this
 simpa using this.2.2
theorem meet_f {p : Pg} (h : p.elb.2 = 0) : MeetF p := by
 have hb := bare_f h
 obtain ⟨hz, G, hs⟩ := elab_yes h
 obtain ⟨hr, ds, n, hg, _, e⟩ := resolve_cases hz
 obtain ⟨g1, g2, g3⟩ := go_at hg
 have hrl := (resolve_len hz).2.2
 refine ⟨⟨G, hs.body.1⟩, hs.body.2.1, hs.body.2.2.2, hb.size, by rw [hb.len]; exact hrl, fun i hi => ?_⟩
 obtain ⟨d1, d2, d3⟩ := hs.defs _ (List.getElem_mem hi)
 have hi2 : i < p.resolve.1.defs.length := by rw [← hb.len]; exact hi
 obtain ⟨e1, e2, e3⟩ := hb.defs i hi hi2
 have hi3 : i < ds.length := by rw [e] at hi2; exact hi2
 have hk : p.resolve.1.defs[i].t.kind = 3 := by
   have he : p.resolve.1.defs[i].t = ds[i].t := by simp only [e]
   obtain ⟨_, _, m, hm⟩ := g3 i hi3 (by omega)
   rw [he, hm]
   have := right_fun hr _ (List.getElem_mem (show i < p.defs.length by omega))
   generalize p.defs[i].t = t at this
   obtain ⟨k, s, n, ks⟩ := t
   exact this
 refine ⟨⟨G, d1⟩, d2, ?_, e3⟩
 generalize p.elb.1.defs[i].t = t at d1 e1
 rw [← e1] at hk
 obtain ⟨k, m, n, s, b, ks⟩ := t
 simp only [Tr.bare, Tm.kind] at hk
 simp only [Tr.ok, id] at d1
 rw [show (Tr.mk k m n s b ks).s = s from rfl, d1.2.1.2.1 hk]; rfl
theorem kid9_ok (t : Tr) (i : Nat) (v : Value) (E : World) (H : GH) (L : List It) (hv : VTr H v t) : Ok Tryz.prog 52 #[v, .int .i64 (i : Int)] E H L fun r H' L' => VSh H' r (sAt t.kids i) ∧ L = L' := by
 obtain ⟨At0, ct0, At1, ct1, At2, ct2, rfl, ht0, ht1, ht2⟩ := hv
 refine enter (N := 17) [(0, _), (1, _)] Tryz.func52 rfl rfl rfl rfl fun a w h => ?_
 refine au [1,2] h ?_
 refine bxA h fun g2 a w h => ?_
 refine al zr31 h fun g4 a w h => ?_
 refine au [0,3,0,4,1,2,0,0,0,7,2,8,6,0,6,7,0,3] h ?_; intro a w h
 refine cdB h (fun c9 => ?_) (fun c9 => ?_)
 ·have d9 : t.kids.length ≤ i := cd_ c9
  refine au [1,2,7,5,5,5,0,3,1,3,1,4] h ?_; intro a w h
  exact fin (rs := [.cell 4 31]) (vs := [.agg #[_, _, _]]) h rfl (.agg (k0 := 0) tN31 rfl rfl rfl .nil) rfl LE.rfl ⟨LE.rfl, h.st.drop 2⟩ ⟨by rw [sAt_none d9]; exact ⟨_, _, rfl, RS.nil _ _ _⟩, rfl⟩
 ·have d9 : i < t.kids.length := cd_ c9
  refine au [1,8,1,0,1,2,0,7,2,8,0,0] h ?_; intro a w h
  have hj14 : i < t.kids.length := by first | assumption | omega | (simp; done) | (simp; omega)
  obtain ⟨g14, o14, A14_0, c14_0, A14_1, c14_1, A14_2, c14_2, e14, hv14, hc14⟩ := TrS.get ht2 hj14
  obtain ⟨_, _, _, _, _, _, q14, hk14_0, hk14_1, hk14_2⟩ := hv14; cases q14
  refine iaE sli32 sz34 rfl hj14 e14 h fun a w h => ?_
  refine fa fl34_3 (r := o14 + i * 10 + 3) h fun a w h => ?_
  refine ldHN (l := [_, _, _]) tN31 rfl (sbL 3 3 hc14) h fun a w h => ?_
  refine au [5,5,0,3,1,3] h ?_; intro a w h
  exact fin (rs := [.cell 4 31]) (vs := [.agg #[_, _, _]]) h rfl (.agg (k0 := 0) tN31 rfl rfl rfl .nil) rfl LE.rfl ⟨LE.rfl, h.st.drop 2⟩ ⟨by unfold sAt; rw [getS hj14]; exact ⟨_, _, rfl, hk14_0⟩, rfl⟩
theorem meets9_ok : ∀ (t : Tr) (G : Bs → Option Sh) (v : Value) (E : World) (H : GH) (L : List It), t.ok G id → VTr H v t → t.size < 1000000000 → t.big < 100000000 →
   Ok Tryz.prog 23 #[v] E H L fun r H' L' => r = .bool true ∧ L = L' := by
 intro t
 induction t using Tr.ind with
 | h kd nm nn s b ks ih =>
 intro G v E H L ho hv hb hg
 obtain ⟨At0, ct0, At1, ct1, At2, ct2, rfl, ht0, ht1, ht2⟩ := hv
 dsimp only [Tr.kind, Tr.name, Tr.n, Tr.s, Tr.b, Tr.kids] at ht0 ht1 ht2 ⊢
 simp only [Tr.ok, id] at ho
 obtain ⟨ha, hr, _, _, _, hks⟩ := ho
 have hac := arB_cases ha
 simp only [Tr.size] at hb
 simp only [Tr.big] at hg
 have hb0 := sAt_big ks 0
 have hb1 := sAt_big ks 1
 have hb2 := sAt_big ks 2
 have hlen := tr_len_le ks
 refine enter (N := 174) [(0, _)] Tryz.func23 rfl rfl rfl rfl fun a w h => ?_
 refine au [1,2] h ?_
 refine bxA h fun g1 a w h => ?_
 refine au [0,6,0,2,7,5] h ?_; intro a w h
 refine al zr31 h fun g3 a w h => ?_
 refine au [5,5,0,2,7,5] h ?_; intro a w h
 refine al zr31 h fun g4 a w h => ?_
 refine au [5,5,0,2,3,5] h ?_; intro a w h
 refine cl bod52 (kid9_ok (Tr.mk kd nm nn s b ks) 0 _ E H _ ⟨At0, ct0, At1, ct1, At2, ct2, rfl, ht0, ht1, ht2⟩) h (fun r12 H12 L12 a w le12 R h => ?_)
 obtain ⟨⟨A12_0, c12_0, rfl, hk12_0⟩, rfl⟩ := R
 refine al zr31 h fun g5 a w h => ?_
 refine au [5,5,0,2,3,6] h ?_; intro a w h
 refine cl bod52 (kid9_ok (Tr.mk kd nm nn s b ks) 1 _ E H12 _ ⟨At0, ct0, At1, ct1, At2, ct2, rfl, (HS.up ht0 le12), (HS.up ht1 le12), (TrS.up ht2 le12)⟩) h (fun r14 H14 L14 a w le14 R h => ?_)
 obtain ⟨⟨A14_0, c14_0, rfl, hk14_0⟩, rfl⟩ := R
 refine al zr31 h fun g6 a w h => ?_
 refine au [5,5,0,2,0,6,0,3,0,4,1,2,0,7,3,2,0,3] h ?_; intro a w h
 refine thc (fun a w => S E H14 174 [] [(1, .pointer (some ⟨g1, 0, none⟩)), (2, .bool false), (7, .bool true)] (.obj g6 (.cells #[.int .i64 ((sAt ks 1).kind), .int .i64 ((sAt ks 1).n), .slice A14_0 ((sAt ks 1).kids).length c14_0] 31 (0, 0)) :: .obj g5 (.cells #[.int .i64 ((sAt ks 0).kind), .int .i64 ((sAt ks 0).n), .slice A12_0 ((sAt ks 0).kids).length c12_0] 31 (0, 0)) :: .obj g4 (.cells #[.int .i64 2, .int .i64 0, .slice none 0 0] 31 (0, 0)) :: .obj g3 (.cells #[.int .i64 1, .int .i64 0, .slice none 0 0] 31 (0, 0)) :: .obj g1 (.cells #[.int .i64 kd, str nm, .int .i64 nn, .int .i64 s.kind, .int .i64 s.n, .slice At0 s.kids.length ct0, .int .i64 b.kind, .int .i64 b.n, .slice At1 b.kids.length ct1, .slice At2 ks.length ct2] 34 (0, 0)) :: L) a w) ?_ ?_
 ·refine au [1,5,1,2,6,2,0,6,0,3] h ?_; intro a w h
  refine cdB h (fun c17 => ?_) (fun c17 => ?_)
  ·have d17 : kd = 1 := cd_ c17
   obtain q1 := hr.1 d17
   refine au [0,5,0,7] h ?_; intro a w h
   refine ldN (l := [_, _, _]) 4 tN31 h fun a w h => ?_
   refine ldW 3 tN31 h fun a w h => ?_
   have l_H_H14 : LE H H14 := le12.trans le14
   refine cl bod36 (SameSh_ok s (Sh.mk 1 0 [] : Sh) _ _ E H14 _ ⟨At0, ct0, rfl, (HS.up ht0 l_H_H14)⟩ ⟨none, 0, rfl, RS.nil _ _ _⟩ (by omega)) h (fun r22 H22 L22 a w le22 R h => ?_)
   obtain ⟨rfl, rfl, rfl⟩ := R
   have e22 : (s.same (Sh.mk 1 0 [] : Sh)) = true := by rw [sh_same_iff]; first | exact q1 | exact q2 | exact q3
   rw [e22] at h
   refine au [0,6,1,1,1,7,1,0] h ?_; intro a w h
   exact h.to 0 _
  ·have d17 : kd ≠ 1 := cd_ c17
   refine au [1,2,6,2,0,6,0,3] h ?_; intro a w h
   refine cdB h (fun c23 => ?_) (fun c23 => ?_)
   ·have d23 : kd = 2 := cd_ c23
    refine au [0,5,0,6,1,1,1,7,1,0] h ?_; intro a w h
    exact h.to 0 _
   ·have d23 : kd ≠ 2 := cd_ c23
    refine au [1,2,6,2,0,6,0,3] h ?_; intro a w h
    refine cdB h (fun c25 => ?_) (fun c25 => ?_)
    ·have d25 : kd = 3 := cd_ c25
     obtain q1 := hr.2.1 d25
     refine au [0,5,0,7] h ?_; intro a w h
     refine ldN (l := [_, _, _]) 4 tN31 h fun a w h => ?_
     refine fa fl34_4 (r := 6) h fun a w h => ?_
     refine ldN (l := [_, _, _]) 4 tN31 h fun a w h => ?_
     refine ldW 1 tN31 h fun a w h => ?_
     refine bsl bs29 h fun g32 a w h => ?_
     have l_H_H14 : LE H H14 := le12.trans le14
     obtain ⟨Hq32, leHq32, h, hsHq32⟩ := h.fsl (R := RSh) (sz := 3) (ys := [b, (sAt ks 0)]) 0 (RowR.cons rfl (rsh_of_v (cs := [_, _, _]) ⟨_, _, rfl, (HS.up ht1 l_H_H14)⟩) (RowR.one rfl (rsh_of_v (cs := [_, _, _]) ⟨_, _, rfl, (HS.up hk12_0 le14)⟩))) (fun _ l cs y _ hr => RSh.mono l y hr)
     refine bdl lay31 zr31 h fun a w h => ?_
     have l_H_Hq32 : LE H Hq32 := (le12.trans le14).trans leHq32
     refine cl bod36 (SameSh_ok s (Sh.mk 3 0 ([b, (sAt ks 0)]) : Sh) _ _ E Hq32 _ ⟨At0, ct0, rfl, (HS.up ht0 l_H_Hq32)⟩ ⟨(some ⟨g32, 0, none⟩), 2, rfl, hsHq32⟩ (by omega)) h (fun r34 H34 L34 a w le34 R h => ?_)
     obtain ⟨rfl, rfl, rfl⟩ := R
     have e34 : (s.same (Sh.mk 3 0 ([b, (sAt ks 0)]) : Sh)) = true := by rw [sh_same_iff]; first | exact q1 | exact q2 | exact q3
     rw [e34] at h
     refine au [0,6,1,1,1,7,1,0] h ?_; intro a w h
     have h := h.less leHq32
     exact h.to 0 _
    ·have d25 : kd ≠ 3 := cd_ c25
     refine au [1,2,6,2,0,6,0,3] h ?_; intro a w h
     refine cdB h (fun c35 => ?_) (fun c35 => ?_)
     ·have d35 : kd = 4 := cd_ c35
      obtain q1 := hr.2.2.1 d35
      refine au [0,5,3,4,3,3,0,7] h ?_; intro a w h
      refine ldN (l := [_, _, _]) 4 tN31 h fun a w h => ?_
      refine bsl bs29 h fun g41 a w h => ?_
      have l_H_H14 : LE H H14 := le12.trans le14
      obtain ⟨Hq41, leHq41, h, hsHq41⟩ := h.fsl (R := RSh) (sz := 3) (ys := [(sAt ks 1), s]) 0 (RowR.cons rfl (rsh_of_v (cs := [_, _, _]) ⟨_, _, rfl, hk14_0⟩) (RowR.one rfl (rsh_of_v (cs := [_, _, _]) ⟨_, _, rfl, (HS.up ht0 l_H_H14)⟩))) (fun _ l cs y _ hr => RSh.mono l y hr)
      refine bdl lay31 zr31 h fun a w h => ?_
      have l_H12_Hq41 : LE H12 Hq41 := le14.trans leHq41
      refine cl bod36 (SameSh_ok (sAt ks 0) (Sh.mk 3 0 ([(sAt ks 1), s]) : Sh) _ _ E Hq41 _ ⟨A12_0, c12_0, rfl, (HS.up hk12_0 l_H12_Hq41)⟩ ⟨(some ⟨g41, 0, none⟩), 2, rfl, hsHq41⟩ (by omega)) h (fun r43 H43 L43 a w le43 R h => ?_)
      obtain ⟨rfl, rfl, rfl⟩ := R
      have e43 : ((sAt ks 0).same (Sh.mk 3 0 ([(sAt ks 1), s]) : Sh)) = true := by rw [sh_same_iff]; first | exact q1 | exact q2 | exact q3
      rw [e43] at h
      refine au [0,6,1,1,1,7,1,0] h ?_; intro a w h
      have h := h.less leHq41
      exact h.to 0 _
     ·have d35 : kd ≠ 4 := cd_ c35
      refine au [1,2,6,2,0,6,0,3] h ?_; intro a w h
      refine cdB h (fun c44 => ?_) (fun c44 => ?_)
      ·have d44 : kd = 5 := cd_ c44
       obtain ⟨q1, q2⟩ := hr.2.2.2.1 d44
       refine au [0,5,0,7] h ?_; intro a w h
       refine ldN (l := [_, _, _]) 4 tN31 h fun a w h => ?_
       refine ldW 1 tN31 h fun a w h => ?_
       have l_H_H14 : LE H H14 := le12.trans le14
       refine cl bod36 (SameSh_ok b (sAt ks 0) _ _ E H14 _ ⟨At1, ct1, rfl, (HS.up ht1 l_H_H14)⟩ ⟨A12_0, c12_0, rfl, (HS.up hk12_0 le14)⟩ (by omega)) h (fun r49 H49 L49 a w le49 R h => ?_)
       obtain ⟨rfl, rfl, rfl⟩ := R
       have e49 : (b.same (sAt ks 0)) = true := by rw [sh_same_iff]; first | exact q1 | exact q2 | exact q3
       rw [e49] at h
       refine au [0,0,0,7] h ?_; intro a w h
       refine ldN (l := [_, _, _]) 4 tN31 h fun a w h => ?_
       refine ldW 0 tN31 h fun a w h => ?_
       refine cl bod36 (SameSh_ok s (sAt ks 1) _ _ E H14 _ ⟨At0, ct0, rfl, (HS.up ht0 l_H_H14)⟩ ⟨A14_0, c14_0, rfl, hk14_0⟩ (by omega)) h (fun r54 H54 L54 a w le54 R h => ?_)
       obtain ⟨rfl, rfl, rfl⟩ := R
       have e54 : (s.same (sAt ks 1)) = true := by rw [sh_same_iff]; first | exact q1 | exact q2 | exact q3
       rw [e54] at h
       refine au [4,8,0,6,1,1,1,7,1,0] h ?_; intro a w h
       exact h.to 0 _
      ·have d44 : kd ≠ 5 := cd_ c44
       refine au [1,2,6,2,0,6,0,3] h ?_; intro a w h
       refine cdB h (fun c56 => ?_) (fun c56 => ?_)
       ·have d56 : kd = 6 := cd_ c56
        obtain ⟨q1, q2, q3⟩ := hr.2.2.2.2.1 d56
        refine rgx [1, 3, 0, 4] [_, _, _, _] [0, 1, 4, 6, 10, 13] 17 mix h (fun a w h => ?_)
        refine au [8,0,4,5,2,6,8,1,4,6,2,6] h ?_; intro a w h
        refine bg1 2 true h ?_
        refine clG bod36 (SameSh_ok (sAt ks 0) (Sh.mk 1 0 [] : Sh) _ _ E H14 _ ⟨A12_0, c12_0, rfl, (HS.up hk12_0 le14)⟩ ⟨none, 0, rfl, RS.nil _ _ _⟩ (by omega)) h (fun r60 H60 L60 a w le60 R h => ?_)
        obtain ⟨rfl, rfl, rfl⟩ := R
        have e60 : ((sAt ks 0).same (Sh.mk 1 0 [] : Sh)) = true := by rw [sh_same_iff]; first | exact q1 | exact q2 | exact q3
        rw [e60] at h
        refine au [2,7,8,3,0,0,2,6,8,4] h ?_; intro a w h
        refine ldWT 2 tN31 h fun a w h => ?_
        refine au [2,6,8,5,0,7,2,6,8,6] h ?_; intro a w h
        refine ldNT (l := [_, _, _]) 3 tN31 h fun a w h => ?_
        refine tk0 ?_
        refine bg1 7 true h ?_
        have l_H_H14 : LE H H14 := le12.trans le14
        refine clG bod36 (SameSh_ok (sAt ks 1) s _ _ E H14 _ ⟨A14_0, c14_0, rfl, hk14_0⟩ ⟨At0, ct0, rfl, (HS.up ht0 l_H_H14)⟩ (by omega)) h (fun r65 H65 L65 a w le65 R h => ?_)
        obtain ⟨rfl, rfl, rfl⟩ := R
        have e65 : ((sAt ks 1).same s) = true := by rw [sh_same_iff]; first | exact q1 | exact q2 | exact q3
        rw [e65] at h
        refine au [2,7,8,8,4,8,2,6,8,9,0,0,2,6,8,10] h ?_; intro a w h
        refine ldWT 3 tN34 h fun a w h => ?_
        refine au [2,6,8,12,0,7,2,6,8,13] h ?_; intro a w h
        refine ldNT (l := [_, _, _]) 3 tN31 h fun a w h => ?_
        refine tk0 ?_
        refine bg1 11 true h ?_
        refine clG bod52 (kid9_ok (Tr.mk kd nm nn s b ks) 2 _ E H14 _ ⟨At0, ct0, At1, ct1, At2, ct2, rfl, (HS.up ht0 l_H_H14), (HS.up ht1 l_H_H14), (TrS.up ht2 l_H_H14)⟩) h (fun r69 H69 L69 a w le69 R h => ?_)
        obtain ⟨⟨A69_0, c69_0, rfl, hk69_0⟩, rfl⟩ := R
        refine br0 ?_
        refine bg1 14 true h ?_
        have l_H_H69 : LE H H69 := (le12.trans le14).trans le69
        refine clG bod36 (SameSh_ok (sAt ks 2) s _ _ E H69 _ ⟨A69_0, c69_0, rfl, hk69_0⟩ ⟨At0, ct0, rfl, (HS.up ht0 l_H_H69)⟩ (by omega)) h (fun r72 H72 L72 a w le72 R h => ?_)
        obtain ⟨rfl, rfl, rfl⟩ := R
        have e72 : ((sAt ks 2).same s) = true := by rw [sh_same_iff]; first | exact q1 | exact q2 | exact q3
        rw [e72] at h
        refine au [2,7,8,15,4,8,2,6,8,16,0,6,2,6] h ?_; intro a w h
        refine en (by kernel_rfl) ?_
        refine au [1,7,1,0] h ?_
        have h := h.less le69
        exact h.to 0 _
       ·have d56 : kd ≠ 6 := cd_ c56
        refine au [1,2,6,2,0,6,0,3] h ?_; intro a w h
        refine cdB h (fun c74 => ?_) (fun c74 => ?_)
        ·have d74 : kd = 7 := cd_ c74
         obtain ⟨q1, q2⟩ := hr.2.2.2.2.2.1 d74
         refine au [0,5,3,4,3,6] h ?_; intro a w h
         refine cl bod36 (SameSh_ok (sAt ks 0) (Sh.mk 1 0 [] : Sh) _ _ E H14 _ ⟨A12_0, c12_0, rfl, (HS.up hk12_0 le14)⟩ ⟨none, 0, rfl, RS.nil _ _ _⟩ (by omega)) h (fun r78 H78 L78 a w le78 R h => ?_)
         obtain ⟨rfl, rfl, rfl⟩ := R
         have e78 : ((sAt ks 0).same (Sh.mk 1 0 [] : Sh)) = true := by rw [sh_same_iff]; first | exact q1 | exact q2 | exact q3
         rw [e78] at h
         refine au [0,0,0,7] h ?_; intro a w h
         refine ldN (l := [_, _, _]) 4 tN31 h fun a w h => ?_
         refine ldW 3 tN31 h fun a w h => ?_
         have l_H_H14 : LE H H14 := le12.trans le14
         refine cl bod36 (SameSh_ok s (Sh.mk 1 0 [] : Sh) _ _ E H14 _ ⟨At0, ct0, rfl, (HS.up ht0 l_H_H14)⟩ ⟨none, 0, rfl, RS.nil _ _ _⟩ (by omega)) h (fun r83 H83 L83 a w le83 R h => ?_)
         obtain ⟨rfl, rfl, rfl⟩ := R
         have e83 : (s.same (Sh.mk 1 0 [] : Sh)) = true := by rw [sh_same_iff]; first | exact q1 | exact q2 | exact q3
         rw [e83] at h
         refine au [4,8,0,6,1,1,1,7,1,0] h ?_; intro a w h
         exact h.to 0 _
        ·have d74 : kd ≠ 7 := cd_ c74
         refine au [1,2,6,2,0,6,0,3] h ?_; intro a w h
         refine cdB h (fun c85 => ?_) (fun c85 => ?_)
         ·have d85 : kd = 8 := cd_ c85
          obtain q1 := hr.2.2.2.2.2.2.1 d85
          refine au [0,5,3,4,3,6] h ?_; intro a w h
          refine cl bod36 (SameSh_ok (sAt ks 0) (Sh.mk 1 0 [] : Sh) _ _ E H14 _ ⟨A12_0, c12_0, rfl, (HS.up hk12_0 le14)⟩ ⟨none, 0, rfl, RS.nil _ _ _⟩ (by omega)) h (fun r89 H89 L89 a w le89 R h => ?_)
          obtain ⟨rfl, rfl, rfl⟩ := R
          have e89 : ((sAt ks 0).same (Sh.mk 1 0 [] : Sh)) = true := by rw [sh_same_iff]; first | exact q1 | exact q2 | exact q3
          rw [e89] at h
          refine au [0,6,1,1,1,7,1,0] h ?_; intro a w h
          exact h.to 0 _
         ·have d85 : kd ≠ 8 := cd_ c85
          refine au [1,2,6,2,0,6,0,3] h ?_; intro a w h
          refine cdB h (fun c90 => ?_) (fun c90 => ?_)
          ·have d90 : kd = 9 := cd_ c90
           obtain ⟨q1, q2, q3⟩ := hr.2.2.2.2.2.2.2.1 d90
           refine au [0,5,3,4,0,7] h ?_; intro a w h
           refine ldN (l := [_, _, _]) 4 tN31 h fun a w h => ?_
           have l_H_H14 : LE H H14 := le12.trans le14
           refine cl bod36 (SameSh_ok (sAt ks 0) s _ _ E H14 _ ⟨A12_0, c12_0, rfl, (HS.up hk12_0 le14)⟩ ⟨At0, ct0, rfl, (HS.up ht0 l_H_H14)⟩ (by omega)) h (fun r95 H95 L95 a w le95 R h => ?_)
           obtain ⟨rfl, rfl, rfl⟩ := R
           have e95 : ((sAt ks 0).same s) = true := by rw [sh_same_iff]; first | exact q1 | exact q2 | exact q3
           rw [e95] at h
           refine au [0,0,3,3,0,7] h ?_; intro a w h
           refine ldN (l := [_, _, _]) 4 tN31 h fun a w h => ?_
           refine cl bod36 (SameSh_ok (sAt ks 1) s _ _ E H14 _ ⟨A14_0, c14_0, rfl, hk14_0⟩ ⟨At0, ct0, rfl, (HS.up ht0 l_H_H14)⟩ (by omega)) h (fun r100 H100 L100 a w le100 R h => ?_)
           obtain ⟨rfl, rfl, rfl⟩ := R
           have e100 : ((sAt ks 1).same s) = true := by rw [sh_same_iff]; first | exact q1 | exact q2 | exact q3
           rw [e100] at h
           refine au [4,8,0,0,0,7] h ?_; intro a w h
           refine ldN (l := [_, _, _]) 4 tN31 h fun a w h => ?_
           refine ldW 3 tN31 h fun a w h => ?_
           refine cl bod36 (SameSh_ok b (Sh.mk 1 0 [] : Sh) _ _ E H14 _ ⟨At1, ct1, rfl, (HS.up ht1 l_H_H14)⟩ ⟨none, 0, rfl, RS.nil _ _ _⟩ (by omega)) h (fun r106 H106 L106 a w le106 R h => ?_)
           obtain ⟨rfl, rfl, rfl⟩ := R
           have e106 : (b.same (Sh.mk 1 0 [] : Sh)) = true := by rw [sh_same_iff]; first | exact q1 | exact q2 | exact q3
           rw [e106] at h
           refine au [4,8,0,6,1,1,1,7,1,0] h ?_; intro a w h
           exact h.to 0 _
          ·have d90 : kd ≠ 9 := cd_ c90
           refine au [1,2,6,2,0,6,0,3] h ?_; intro a w h
           refine cdB h (fun c108 => ?_) (fun c108 => ?_)
           ·have d108 : kd = 10 := cd_ c108
            obtain ⟨q1, q2⟩ := hr.2.2.2.2.2.2.2.2.1 d108
            refine au [0,5,3,4,3,5] h ?_; intro a w h
            refine cl bod36 (SameSh_ok (sAt ks 0) (Sh.mk 2 0 [] : Sh) _ _ E H14 _ ⟨A12_0, c12_0, rfl, (HS.up hk12_0 le14)⟩ ⟨none, 0, rfl, RS.nil _ _ _⟩ (by omega)) h (fun r112 H112 L112 a w le112 R h => ?_)
            obtain ⟨rfl, rfl, rfl⟩ := R
            have e112 : ((sAt ks 0).same (Sh.mk 2 0 [] : Sh)) = true := by rw [sh_same_iff]; first | exact q1 | exact q2 | exact q3
            rw [e112] at h
            refine au [0,0,0,7] h ?_; intro a w h
            refine ldN (l := [_, _, _]) 4 tN31 h fun a w h => ?_
            refine ldW 3 tN31 h fun a w h => ?_
            have l_H_H14 : LE H H14 := le12.trans le14
            refine cl bod36 (SameSh_ok s (Sh.mk 1 0 [] : Sh) _ _ E H14 _ ⟨At0, ct0, rfl, (HS.up ht0 l_H_H14)⟩ ⟨none, 0, rfl, RS.nil _ _ _⟩ (by omega)) h (fun r117 H117 L117 a w le117 R h => ?_)
            obtain ⟨rfl, rfl, rfl⟩ := R
            have e117 : (s.same (Sh.mk 1 0 [] : Sh)) = true := by rw [sh_same_iff]; first | exact q1 | exact q2 | exact q3
            rw [e117] at h
            refine au [4,8,0,6,1,1,1,7,1,0] h ?_; intro a w h
            exact h.to 0 _
           ·have d108 : kd ≠ 10 := cd_ c108
            refine au [1,2,6,2,0,6,0,3] h ?_; intro a w h
            refine cdB h (fun c119 => ?_) (fun c119 => ?_)
            ·have d119 : kd = 11 := cd_ c119
             obtain ⟨q1, q2, q3⟩ := hr.2.2.2.2.2.2.2.2.2.1 d119
             refine au [0,5,3,4,3,5] h ?_; intro a w h
             refine cl bod36 (SameSh_ok (sAt ks 0) (Sh.mk 2 0 [] : Sh) _ _ E H14 _ ⟨A12_0, c12_0, rfl, (HS.up hk12_0 le14)⟩ ⟨none, 0, rfl, RS.nil _ _ _⟩ (by omega)) h (fun r123 H123 L123 a w le123 R h => ?_)
             obtain ⟨rfl, rfl, rfl⟩ := R
             have e123 : ((sAt ks 0).same (Sh.mk 2 0 [] : Sh)) = true := by rw [sh_same_iff]; first | exact q1 | exact q2 | exact q3
             rw [e123] at h
             refine au [0,0,3,3,3,6] h ?_; intro a w h
             refine cl bod36 (SameSh_ok (sAt ks 1) (Sh.mk 1 0 [] : Sh) _ _ E H14 _ ⟨A14_0, c14_0, rfl, hk14_0⟩ ⟨none, 0, rfl, RS.nil _ _ _⟩ (by omega)) h (fun r127 H127 L127 a w le127 R h => ?_)
             obtain ⟨rfl, rfl, rfl⟩ := R
             have e127 : ((sAt ks 1).same (Sh.mk 1 0 [] : Sh)) = true := by rw [sh_same_iff]; first | exact q1 | exact q2 | exact q3
             rw [e127] at h
             refine au [4,8,0,0,0,7] h ?_; intro a w h
             refine ldN (l := [_, _, _]) 4 tN31 h fun a w h => ?_
             refine ldW 3 tN31 h fun a w h => ?_
             have l_H_H14 : LE H H14 := le12.trans le14
             refine cl bod36 (SameSh_ok s (Sh.mk 1 0 [] : Sh) _ _ E H14 _ ⟨At0, ct0, rfl, (HS.up ht0 l_H_H14)⟩ ⟨none, 0, rfl, RS.nil _ _ _⟩ (by omega)) h (fun r133 H133 L133 a w le133 R h => ?_)
             obtain ⟨rfl, rfl, rfl⟩ := R
             have e133 : (s.same (Sh.mk 1 0 [] : Sh)) = true := by rw [sh_same_iff]; first | exact q1 | exact q2 | exact q3
             rw [e133] at h
             refine au [4,8,0,6,1,1,1,7,1,0] h ?_; intro a w h
             exact h.to 0 _
            ·have d119 : kd ≠ 11 := cd_ c119
             refine au [1,2,6,2,0,6,0,3] h ?_; intro a w h
             refine cdB h (fun c135 => ?_) (fun c135 => ?_)
             ·have d135 : kd = 12 := cd_ c135
              obtain ⟨q1, q2, q3⟩ := hr.2.2.2.2.2.2.2.2.2.2.1 d135
              refine au [0,5,3,4,3,6] h ?_; intro a w h
              refine cl bod36 (SameSh_ok (sAt ks 0) (Sh.mk 1 0 [] : Sh) _ _ E H14 _ ⟨A12_0, c12_0, rfl, (HS.up hk12_0 le14)⟩ ⟨none, 0, rfl, RS.nil _ _ _⟩ (by omega)) h (fun r139 H139 L139 a w le139 R h => ?_)
              obtain ⟨rfl, rfl, rfl⟩ := R
              have e139 : ((sAt ks 0).same (Sh.mk 1 0 [] : Sh)) = true := by rw [sh_same_iff]; first | exact q1 | exact q2 | exact q3
              rw [e139] at h
              refine au [0,0,3,3,3,6] h ?_; intro a w h
              refine cl bod36 (SameSh_ok (sAt ks 1) (Sh.mk 1 0 [] : Sh) _ _ E H14 _ ⟨A14_0, c14_0, rfl, hk14_0⟩ ⟨none, 0, rfl, RS.nil _ _ _⟩ (by omega)) h (fun r143 H143 L143 a w le143 R h => ?_)
              obtain ⟨rfl, rfl, rfl⟩ := R
              have e143 : ((sAt ks 1).same (Sh.mk 1 0 [] : Sh)) = true := by rw [sh_same_iff]; first | exact q1 | exact q2 | exact q3
              rw [e143] at h
              refine au [4,8,0,0,0,7] h ?_; intro a w h
              refine ldN (l := [_, _, _]) 4 tN31 h fun a w h => ?_
              refine ldW 3 tN31 h fun a w h => ?_
              have l_H_H14 : LE H H14 := le12.trans le14
              refine cl bod36 (SameSh_ok s (Sh.mk 1 0 [] : Sh) _ _ E H14 _ ⟨At0, ct0, rfl, (HS.up ht0 l_H_H14)⟩ ⟨none, 0, rfl, RS.nil _ _ _⟩ (by omega)) h (fun r149 H149 L149 a w le149 R h => ?_)
              obtain ⟨rfl, rfl, rfl⟩ := R
              have e149 : (s.same (Sh.mk 1 0 [] : Sh)) = true := by rw [sh_same_iff]; first | exact q1 | exact q2 | exact q3
              rw [e149] at h
              refine au [4,8,0,6,1,1,1,7,1,0] h ?_; intro a w h
              exact h.to 0 _
             ·have d135 : kd ≠ 12 := cd_ c135
              refine au [1,2,6,2,0,6,0,3] h ?_; intro a w h
              refine cdB h (fun c151 => ?_) (fun c151 => ?_)
              ·have d151 : kd = 13 := cd_ c151
               obtain q1 := hr.2.2.2.2.2.2.2.2.2.2.2 d151
               refine au [0,5,0,7] h ?_; intro a w h
               refine ldN (l := [_, _, _]) 4 tN31 h fun a w h => ?_
               refine ldW 0 tN31 h fun a w h => ?_
               have l_H_H14 : LE H H14 := le12.trans le14
               refine cl bod36 (SameSh_ok s (sAt ks 1) _ _ E H14 _ ⟨At0, ct0, rfl, (HS.up ht0 l_H_H14)⟩ ⟨A14_0, c14_0, rfl, hk14_0⟩ (by omega)) h (fun r156 H156 L156 a w le156 R h => ?_)
               obtain ⟨rfl, rfl, rfl⟩ := R
               have e156 : (s.same (sAt ks 1)) = true := by rw [sh_same_iff]; first | exact q1 | exact q2 | exact q3
               rw [e156] at h
               refine au [0,6,1,1,1,7,1,0] h ?_; intro a w h
               exact h.to 0 _
              ·have d151 : kd ≠ 13 := cd_ c151
               exfalso; omega
 ·rintro a w h
  refine au [0,4,1,2,0,6,0,3,1,5] h ?_; intro a w h
  have h := h.del 0
  have h := h.del 0
  have h := h.del 0
  have h := h.del 0
  obtain ⟨Hg1, leHg1, h, hfg1⟩ := h.frz 0
  refine lp (β := Nat × GH) (fun x a w => match x with | (k, HL1) => ((k ≤ ks.length) ∧ (LE Hg1 HL1)) ∧ S E HL1 174 [] [(1, .pointer (some ⟨g1, 0, none⟩)), (2, .bool false), (7, .bool true), (8, .int .i64 (k : Int))] (L) a w)
   (fun x => match x with | (k, HL1) => ks.length - k) (0, Hg1) ⟨⟨Nat.zero_le _, LE.rfl⟩, h.to 0 _⟩ ?_
  rintro ⟨k, HL1⟩ a w ⟨⟨hk, leHL1⟩, h⟩
  refine au [0,4,1,2,0,0,0,7] h ?_; intro a w h
  refine ldH t1_32 (Hc.of (leHL1 _ _ hfg1) rfl) h fun a w h => ?_
  refine au [6,0,6,4,0,3] h ?_; intro a w h
  refine cdB h (fun c161 => ?_) (fun c161 => ?_)
  ·have d161 : k < ks.length := cd_ c161
   refine au [1,8,1,0,0,4,1,5,0,5,0,0,0,0,0,7] h ?_; intro a w h
   refine ldH t1_32 (Hc.of (leHL1 _ _ hfg1) rfl) h fun a w h => ?_
   refine mv h fun a w h => ?_
   have l_H_HL1 : LE H HL1 := ((le12.trans le14).trans leHg1).trans leHL1
   have hj169 : k < ks.length := by first | assumption | omega | (simp; done) | (simp; omega)
   obtain ⟨g169, o169, A169_0, c169_0, A169_1, c169_1, A169_2, c169_2, e169, hv169, hc169⟩ := TrS.get (TrS.up ht2 l_H_HL1) hj169
   obtain ⟨_, _, _, _, _, _, q169, hk169_0, hk169_1, hk169_2⟩ := hv169; cases q169
   refine iaE sli32 sz34 rfl hj169 e169 h fun a w h => ?_
   refine ldHN tN34 rfl hc169 h fun a w h => ?_
   refine cl bod23 (ih _ (List.getElem_mem hj169) G _ E HL1 _ (okL_mem.1 hks _ (List.getElem_mem hj169)) ⟨A169_0, c169_0, A169_1, c169_1, A169_2, c169_2, rfl, hk169_0, hk169_1, hk169_2⟩ (by have := tr_size_le (List.getElem_mem hj169); omega) (by have := big_le (List.getElem_mem hj169); omega)) h (fun r171 H171 L171 a w le171 R h => ?_)
   obtain ⟨rfl, rfl⟩ := R
   refine au [4,8,0,6,1,1,1,7,1,0,0,5,0,0] h ?_; intro a w h
   refine inc ?_ h fun a w h => ?_
   ·omega
   refine au [0,6,0,3] h ?_; intro a w h
   have l_Hg1_H171 : LE Hg1 H171 := leHL1.trans le171
   exact ⟨((k + 1), H171), ⟨⟨by omega, l_Hg1_H171⟩, h.to 0 _⟩, by show _ - (k + 1) < _ - k; omega⟩
  ·have d161 : ks.length ≤ k := cd_ c161
   refine au [2,5,2,2,2,2,2,3,1,0,1,2,0,0,0,6,0,3,1,3] h ?_; intro a w h
   have l_H_HL1 : LE H HL1 := ((le12.trans le14).trans leHg1).trans leHL1
   refine fin1 2 0 h l_H_HL1 ?_
   exact ⟨rfl, rfl⟩
theorem small9_ok : ∀ (t : Tr) (G : Bs → Option Sh) (v : Value) (E : World) (H : GH) (L : List It), t.ok G id → t.fine → VTr H v t → t.size < 1000000000 →
   Ok Tryz.prog 24 #[v] E H L fun r H' L' => r = .bool true ∧ L = L' := by
 intro t
 induction t using Tr.ind with
 | h kd nm nn s b ks ih =>
 intro G v E H L ho hf hv hb
 obtain ⟨At0, ct0, At1, ct1, At2, ct2, rfl, ht0, ht1, ht2⟩ := hv
 dsimp only [Tr.kind, Tr.name, Tr.n, Tr.s, Tr.b, Tr.kids] at ht0 ht1 ht2 ⊢
 simp only [Tr.ok, id] at ho
 obtain ⟨ha, _, _, _, hz, hks⟩ := ho
 simp only [Tr.fine] at hf
 obtain ⟨⟨hf1, hfs⟩, ⟨hf2, hfb⟩, hf3⟩ := hf
 have hwf : ∀ x ∈ s.hl, (Lit.int .i64 x).wf = true := by rw [hf1]; intro x hx; cases hx
 have hzb : kd ≠ 3 → kd ≠ 5 → kd ≠ 9 → b.kind = 0 := fun h3 h5 h9 => by rw [hz (by unfold bnd; simp [h3, h5, h9])]; rfl
 simp only [Tr.size] at hb
 have hlen := tr_len_le ks
 refine enter (N := 60) [(0, _)] Tryz.func24 rfl rfl rfl rfl fun a w h => ?_
 refine au [1,2] h ?_
 refine bxA h fun g1 a w h => ?_
 refine au [0,6,0,2,0,7] h ?_; intro a w h
 refine ldN (l := [_, _, _]) 0 tN31 h fun a w h => ?_
 refine cl bod53 (HolesR_ok s _ E H _ ⟨At0, ct0, rfl, ht0⟩ (by first | assumption | (first | exact hwf _ (List.getElem_mem (by assumption)))) (by first | assumption | omega)) h fun r7 H7 L7 a w le7 R h => ?_
 obtain ⟨A7, c7, ss7, rfl, rfl, rfl, hsl7, hsm7⟩ := R
 obtain ⟨Hf7, leHf7, h, hks7⟩ := h.frw 0 (rint_row ss7) rfl (fun _ _ _ _ _ hr => hr)
 have hks7 : IS Hf7 A7 c7 ss7 := hks7
 have hno : ss7.length = 0 := by rw [List.length_eq_zero_iff, List.eq_nil_iff_forall_not_mem]; intro x hx; have q := (hsm7 x).1 hx; rw [hf1] at q; cases q
 rw [hno] at h
 refine au [6,0,6,2] h ?_; intro a w h
 refine h.spl (fun c9 h => ?_) (fun c9 h => ?_)
 ·have d9 : ([] : List Int).length = 0 := cd_ c9
  refine au [0,0,0,7] h ?_; intro a w h
  refine ldN (l := [_, _, _]) 0 tN31 h fun a w h => ?_
  refine cl bod54 (ShSize_ok s _ E Hf7 _ ⟨At0, ct0, rfl, (HS.up ht0 leHf7)⟩ (by omega)) h (fun r13 H13 L13 a w le13 R h => ?_)
  obtain ⟨rfl, rfl, rfl⟩ := R
  refine le h fun a w h => ?_
  refine h.spl (fun c14 h => ?_) (fun c14 h => ?_)
  ·have d14 : s.size ≤ 100 := cd_ c14
   refine au [4,8,0,0,0,7] h ?_; intro a w h
   refine ldN (l := [_, _, _]) 0 tN31 h fun a w h => ?_
   refine cl bod54 (ShSize_ok b _ E Hf7 _ ⟨At1, ct1, rfl, (HS.up ht1 leHf7)⟩ (by omega)) h (fun r19 H19 L19 a w le19 R h => ?_)
   obtain ⟨rfl, rfl, rfl⟩ := R
   refine le h fun a w h => ?_
   refine h.spl (fun c20 h => ?_) (fun c20 h => ?_)
   ·have d20 : b.size ≤ 100 := cd_ c20
    refine au [4,8,0,0,0,7,0,8,6,2] h ?_; intro a w h
    refine h.spl (fun c25 h => ?_) (fun c25 h => ?_)
    ·have d25 : kd = 3 := cd_ c25
     refine au [0,0,0,1,0,1,0,1,4,8,0,0,0,1,0,1,0,1,4,8,0,0,0,1,0,1,0,1,0,1,4,8,4,8,0,6,0,3,0,4,1,2,0,6,0,3,1,5] h ?_; intro a w h
     obtain ⟨Hg1, leHg1, h, hfg1⟩ := h.frz 0
     refine lp (β := Nat × GH) (fun x a w => match x with | (k, HL0) => ((k ≤ ks.length) ∧ (LE Hg1 HL0)) ∧ S E HL0 60 [] [(1, .pointer (some ⟨g1, 0, none⟩)), (2, .bool false), (3, .bool true), (4, .int .i64 (k : Int))] (L) a w)
      (fun x => match x with | (k, HL0) => ks.length - k) (0, Hg1) ⟨⟨Nat.zero_le _, LE.rfl⟩, h.to 0 _⟩ ?_
     rintro ⟨k, HL0⟩ a w ⟨⟨hk, leHL0⟩, h⟩
     refine au [0,4,1,2,0,0,0,7] h ?_; intro a w h
     refine ldH t1_32 (Hc.of (leHL0 _ _ hfg1) rfl) h fun a w h => ?_
     refine au [6,0,6,4,0,3] h ?_; intro a w h
     refine cdB h (fun c47 => ?_) (fun c47 => ?_)
     ·have d47 : k < ks.length := cd_ c47
      refine au [1,8,1,0,0,4,1,5,0,5,0,0,0,0,0,7] h ?_; intro a w h
      refine ldH t1_32 (Hc.of (leHL0 _ _ hfg1) rfl) h fun a w h => ?_
      refine mv h fun a w h => ?_
      have l_H_HL0 : LE H HL0 := (leHf7.trans leHg1).trans leHL0
      have hj55 : k < ks.length := by first | assumption | omega | (simp; done) | (simp; omega)
      obtain ⟨g55, o55, A55_0, c55_0, A55_1, c55_1, A55_2, c55_2, e55, hv55, hc55⟩ := TrS.get (TrS.up ht2 l_H_HL0) hj55
      obtain ⟨_, _, _, _, _, _, q55, hk55_0, hk55_1, hk55_2⟩ := hv55; cases q55
      refine iaE sli32 sz34 rfl hj55 e55 h fun a w h => ?_
      refine ldHN tN34 rfl hc55 h fun a w h => ?_
      refine cl bod24 (ih _ (List.getElem_mem hj55) G _ E HL0 _ (okL_mem.1 hks _ (List.getElem_mem hj55)) (fineL_mem.1 hf3 _ (List.getElem_mem hj55)) ⟨A55_0, c55_0, A55_1, c55_1, A55_2, c55_2, rfl, hk55_0, hk55_1, hk55_2⟩ (by have := tr_size_le (List.getElem_mem hj55); omega)) h (fun r57 H57 L57 a w le57 R h => ?_)
      obtain ⟨rfl, rfl⟩ := R
      refine au [4,8,0,6,1,1,1,7,1,0,0,5,0,0] h ?_; intro a w h
      refine inc ?_ h fun a w h => ?_
      ·omega
      refine au [0,6,0,3] h ?_; intro a w h
      have l_Hg1_H57 : LE Hg1 H57 := leHL0.trans le57
      exact ⟨((k + 1), H57), ⟨⟨by omega, l_Hg1_H57⟩, h.to 0 _⟩, by show _ - (k + 1) < _ - k; omega⟩
     ·have d47 : ks.length ≤ k := cd_ c47
      refine au [2,5,2,2,2,2,2,3,1,0,1,2,0,0,0,6,0,3,1,3] h ?_; intro a w h
      have l_H_HL0 : LE H HL0 := (leHf7.trans leHg1).trans leHL0
      refine fin1 2 0 h l_H_HL0 ?_
      exact ⟨rfl, rfl⟩
    ·have d25 : kd ≠ 3 := cd_ c25
     refine au [0,0,0,7,0,8,6,2,5,0] h ?_; intro a w h
     refine h.spl (fun c30 h => ?_) (fun c30 h => ?_)
     ·have d30 : kd = 5 := cd_ c30
      refine au [0,0,0,1,0,1,0,1,4,8,0,0,0,1,0,1,0,1,0,1,4,8,4,8,0,6,0,3,0,4,1,2,0,6,0,3,1,5] h ?_; intro a w h
      obtain ⟨Hg1, leHg1, h, hfg1⟩ := h.frz 0
      refine lp (β := Nat × GH) (fun x a w => match x with | (k, HL0) => ((k ≤ ks.length) ∧ (LE Hg1 HL0)) ∧ S E HL0 60 [] [(1, .pointer (some ⟨g1, 0, none⟩)), (2, .bool false), (3, .bool true), (4, .int .i64 (k : Int))] (L) a w)
       (fun x => match x with | (k, HL0) => ks.length - k) (0, Hg1) ⟨⟨Nat.zero_le _, LE.rfl⟩, h.to 0 _⟩ ?_
      rintro ⟨k, HL0⟩ a w ⟨⟨hk, leHL0⟩, h⟩
      refine au [0,4,1,2,0,0,0,7] h ?_; intro a w h
      refine ldH t1_32 (Hc.of (leHL0 _ _ hfg1) rfl) h fun a w h => ?_
      refine au [6,0,6,4,0,3] h ?_; intro a w h
      refine cdB h (fun c47 => ?_) (fun c47 => ?_)
      ·have d47 : k < ks.length := cd_ c47
       refine au [1,8,1,0,0,4,1,5,0,5,0,0,0,0,0,7] h ?_; intro a w h
       refine ldH t1_32 (Hc.of (leHL0 _ _ hfg1) rfl) h fun a w h => ?_
       refine mv h fun a w h => ?_
       have l_H_HL0 : LE H HL0 := (leHf7.trans leHg1).trans leHL0
       have hj55 : k < ks.length := by first | assumption | omega | (simp; done) | (simp; omega)
       obtain ⟨g55, o55, A55_0, c55_0, A55_1, c55_1, A55_2, c55_2, e55, hv55, hc55⟩ := TrS.get (TrS.up ht2 l_H_HL0) hj55
       obtain ⟨_, _, _, _, _, _, q55, hk55_0, hk55_1, hk55_2⟩ := hv55; cases q55
       refine iaE sli32 sz34 rfl hj55 e55 h fun a w h => ?_
       refine ldHN tN34 rfl hc55 h fun a w h => ?_
       refine cl bod24 (ih _ (List.getElem_mem hj55) G _ E HL0 _ (okL_mem.1 hks _ (List.getElem_mem hj55)) (fineL_mem.1 hf3 _ (List.getElem_mem hj55)) ⟨A55_0, c55_0, A55_1, c55_1, A55_2, c55_2, rfl, hk55_0, hk55_1, hk55_2⟩ (by have := tr_size_le (List.getElem_mem hj55); omega)) h (fun r57 H57 L57 a w le57 R h => ?_)
       obtain ⟨rfl, rfl⟩ := R
       refine au [4,8,0,6,1,1,1,7,1,0,0,5,0,0] h ?_; intro a w h
       refine inc ?_ h fun a w h => ?_
       ·omega
       refine au [0,6,0,3] h ?_; intro a w h
       have l_Hg1_H57 : LE Hg1 H57 := leHL0.trans le57
       exact ⟨((k + 1), H57), ⟨⟨by omega, l_Hg1_H57⟩, h.to 0 _⟩, by show _ - (k + 1) < _ - k; omega⟩
      ·have d47 : ks.length ≤ k := cd_ c47
       refine au [2,5,2,2,2,2,2,3,1,0,1,2,0,0,0,6,0,3,1,3] h ?_; intro a w h
       have l_H_HL0 : LE H HL0 := (leHf7.trans leHg1).trans leHL0
       refine fin1 2 0 h l_H_HL0 ?_
       exact ⟨rfl, rfl⟩
     ·have d30 : kd ≠ 5 := cd_ c30
      refine au [0,0,0,7,0,8,6,2,5,0] h ?_; intro a w h
      refine h.spl (fun c35 h => ?_) (fun c35 h => ?_)
      ·have d35 : kd = 9 := cd_ c35
       refine au [0,0,0,1,0,1,0,1,0,1,4,8,4,8,0,6,0,3,0,4,1,2,0,6,0,3,1,5] h ?_; intro a w h
       obtain ⟨Hg1, leHg1, h, hfg1⟩ := h.frz 0
       refine lp (β := Nat × GH) (fun x a w => match x with | (k, HL0) => ((k ≤ ks.length) ∧ (LE Hg1 HL0)) ∧ S E HL0 60 [] [(1, .pointer (some ⟨g1, 0, none⟩)), (2, .bool false), (3, .bool true), (4, .int .i64 (k : Int))] (L) a w)
        (fun x => match x with | (k, HL0) => ks.length - k) (0, Hg1) ⟨⟨Nat.zero_le _, LE.rfl⟩, h.to 0 _⟩ ?_
       rintro ⟨k, HL0⟩ a w ⟨⟨hk, leHL0⟩, h⟩
       refine au [0,4,1,2,0,0,0,7] h ?_; intro a w h
       refine ldH t1_32 (Hc.of (leHL0 _ _ hfg1) rfl) h fun a w h => ?_
       refine au [6,0,6,4,0,3] h ?_; intro a w h
       refine cdB h (fun c47 => ?_) (fun c47 => ?_)
       ·have d47 : k < ks.length := cd_ c47
        refine au [1,8,1,0,0,4,1,5,0,5,0,0,0,0,0,7] h ?_; intro a w h
        refine ldH t1_32 (Hc.of (leHL0 _ _ hfg1) rfl) h fun a w h => ?_
        refine mv h fun a w h => ?_
        have l_H_HL0 : LE H HL0 := (leHf7.trans leHg1).trans leHL0
        have hj55 : k < ks.length := by first | assumption | omega | (simp; done) | (simp; omega)
        obtain ⟨g55, o55, A55_0, c55_0, A55_1, c55_1, A55_2, c55_2, e55, hv55, hc55⟩ := TrS.get (TrS.up ht2 l_H_HL0) hj55
        obtain ⟨_, _, _, _, _, _, q55, hk55_0, hk55_1, hk55_2⟩ := hv55; cases q55
        refine iaE sli32 sz34 rfl hj55 e55 h fun a w h => ?_
        refine ldHN tN34 rfl hc55 h fun a w h => ?_
        refine cl bod24 (ih _ (List.getElem_mem hj55) G _ E HL0 _ (okL_mem.1 hks _ (List.getElem_mem hj55)) (fineL_mem.1 hf3 _ (List.getElem_mem hj55)) ⟨A55_0, c55_0, A55_1, c55_1, A55_2, c55_2, rfl, hk55_0, hk55_1, hk55_2⟩ (by have := tr_size_le (List.getElem_mem hj55); omega)) h (fun r57 H57 L57 a w le57 R h => ?_)
        obtain ⟨rfl, rfl⟩ := R
        refine au [4,8,0,6,1,1,1,7,1,0,0,5,0,0] h ?_; intro a w h
        refine inc ?_ h fun a w h => ?_
        ·omega
        refine au [0,6,0,3] h ?_; intro a w h
        have l_Hg1_H57 : LE Hg1 H57 := leHL0.trans le57
        exact ⟨((k + 1), H57), ⟨⟨by omega, l_Hg1_H57⟩, h.to 0 _⟩, by show _ - (k + 1) < _ - k; omega⟩
       ·have d47 : ks.length ≤ k := cd_ c47
        refine au [2,5,2,2,2,2,2,3,1,0,1,2,0,0,0,6,0,3,1,3] h ?_; intro a w h
        have l_H_HL0 : LE H HL0 := (leHf7.trans leHg1).trans leHL0
        refine fin1 2 0 h l_H_HL0 ?_
        exact ⟨rfl, rfl⟩
      ·have d35 : kd ≠ 9 := cd_ c35
       refine au [0,0,0,7,0,7,0,8,6,2,5,0,4,8,0,6,0,3,0,4,1,2,0,6,0,3,1,5] h ?_; intro a w h
       obtain ⟨Hg1, leHg1, h, hfg1⟩ := h.frz 0
       refine lp (β := Nat × GH) (fun x a w => match x with | (k, HL0) => ((k ≤ ks.length) ∧ (LE Hg1 HL0)) ∧ S E HL0 60 [] [(1, .pointer (some ⟨g1, 0, none⟩)), (2, .bool false), (3, .bool true), (4, .int .i64 (k : Int))] (L) a w)
        (fun x => match x with | (k, HL0) => ks.length - k) (0, Hg1) ⟨⟨Nat.zero_le _, LE.rfl⟩, (by show S _ _ _ _ _ _ _ _; rw [show (.bool true : Value) = .bool ((b.kind : Int) == 0) from Eq.symm (by first | rfl | (simp; done) | (simp; omega) | (congr 1; simp; omega) | (congr 1; omega))]; exact h.to 0 _)⟩ ?_
       rintro ⟨k, HL0⟩ a w ⟨⟨hk, leHL0⟩, h⟩
       refine au [0,4,1,2,0,0,0,7] h ?_; intro a w h
       refine ldH t1_32 (Hc.of (leHL0 _ _ hfg1) rfl) h fun a w h => ?_
       refine au [6,0,6,4,0,3] h ?_; intro a w h
       refine cdB h (fun c47 => ?_) (fun c47 => ?_)
       ·have d47 : k < ks.length := cd_ c47
        refine au [1,8,1,0,0,4,1,5,0,5,0,0,0,0,0,7] h ?_; intro a w h
        refine ldH t1_32 (Hc.of (leHL0 _ _ hfg1) rfl) h fun a w h => ?_
        refine mv h fun a w h => ?_
        have l_H_HL0 : LE H HL0 := (leHf7.trans leHg1).trans leHL0
        have hj55 : k < ks.length := by first | assumption | omega | (simp; done) | (simp; omega)
        obtain ⟨g55, o55, A55_0, c55_0, A55_1, c55_1, A55_2, c55_2, e55, hv55, hc55⟩ := TrS.get (TrS.up ht2 l_H_HL0) hj55
        obtain ⟨_, _, _, _, _, _, q55, hk55_0, hk55_1, hk55_2⟩ := hv55; cases q55
        refine iaE sli32 sz34 rfl hj55 e55 h fun a w h => ?_
        refine ldHN tN34 rfl hc55 h fun a w h => ?_
        refine cl bod24 (ih _ (List.getElem_mem hj55) G _ E HL0 _ (okL_mem.1 hks _ (List.getElem_mem hj55)) (fineL_mem.1 hf3 _ (List.getElem_mem hj55)) ⟨A55_0, c55_0, A55_1, c55_1, A55_2, c55_2, rfl, hk55_0, hk55_1, hk55_2⟩ (by have := tr_size_le (List.getElem_mem hj55); omega)) h (fun r57 H57 L57 a w le57 R h => ?_)
        obtain ⟨rfl, rfl⟩ := R
        refine au [4,8,0,6,1,1,1,7,1,0,0,5,0,0] h ?_; intro a w h
        refine inc ?_ h fun a w h => ?_
        ·omega
        refine au [0,6,0,3] h ?_; intro a w h
        have l_Hg1_H57 : LE Hg1 H57 := leHL0.trans le57
        exact ⟨((k + 1), H57), ⟨⟨by omega, l_Hg1_H57⟩, h.to 0 _⟩, by show _ - (k + 1) < _ - k; omega⟩
       ·have d47 : ks.length ≤ k := cd_ c47
        refine au [2,5,2,2,2,2,2,3,1,0,1,2,0,0,0,6,0,3,1,3] h ?_; intro a w h
        have l_H_HL0 : LE H HL0 := (leHf7.trans leHg1).trans leHL0
        refine fin1 2 0 h l_H_HL0 ?_
        exact ⟨rfl, rfl⟩
   ·have d20 : 100 < b.size := cd_ c20
    simp at c20; omega
  ·have d14 : 100 < s.size := cd_ c14
   simp at c14; omega
 ·have d9 : ([] : List Int).length ≠ 0 := cd_ c9
  simp at c9
theorem meets_law (p : Pg) (l : List UInt8) (n : Nat) (v : Value) (A : Option Addr) (c : Nat) (E : World) (H : GH) (L : List It) (hv : VP H v p) (hM : Mild p) (hl : US H A c l) (hb : l.length < 1000000000000) (hn : n < 256) (hL : Laid H) :
   Ok Tryz.prog 4 #[v, .slice A l.length c, .int .u8 (n : Int)] E H L fun r H' L' => r = .bool true ∧ L = L' := by
 obtain ⟨Ap0, cp0, Ap1, cp1, Ap2, cp2, Ap3, cp3, rfl, hp0, hp1, hp2, hp3⟩ := hv
 refine enter (N := 89) [(0, _), (1, _), (2, _)] Tryz.func4 rfl rfl rfl rfl fun a w h => ?_
 refine au [1,2] h ?_
 refine bxA h fun g3 a w h => ?_
 refine au [0,6,0,2] h ?_; intro a w h
 refine cl bod10 (examples9_ok E H _ (hL.up le_)) h (fun r13 H13 L13 a w le13 R h => ?_)
 obtain ⟨rfl, rfl⟩ := R
 refine au [0,6,0,3,0,4,1,2,0,0,7,1,0,3,2,1,1,8,1,0,0,4,0,4] h ?_; intro a w h
 refine rgx [0] [_] [0] 8 mix h (fun a w h => ?_)
 refine au [8,0,4,5,2,6,8,2,0,0,2,6,8,3,0,0,2,6,8,7,0,0,2,6] h ?_; intro a w h
 refine bg1 1 true h ?_
 refine clG bod19 (names9_ok E H13 _) h (fun r17 H17 L17 a w le17 R h => ?_)
 obtain ⟨⟨A17, c17, rfl, hk17⟩, rfl⟩ := R
 refine br0 ?_
 refine bg1 4 true h ?_
 have l_H_H17 : LE H H17 := le13.trans le17
 refine clG bod18 (well9_ok lohi l n _ _ _ _ E H17 _ hk17 (US.up hl l_H_H17) (by decide) (by decide) hb hn) h (fun r20 H20 L20 a w le20 R h => ?_)
 obtain ⟨p20, hw20, ⟨A20_0, c20_0, A20_1, c20_1, A20_2, c20_2, A20_3, c20_3, rfl, hk20_0, hk20_1, hk20_2, hk20_3⟩, rfl⟩ := R
 have hm20 := wp_mild hw20 lohi_word
 refine br0 ?_
 have l_H13_H20 : LE H13 H20 := le17.trans le20
 refine bf1 5 ?_
 refine bsl bs56 h fun g21 a w h => ?_
 have l_H_H20 : LE H H20 := (le13.trans le17).trans le20
 obtain ⟨Hq21, leHq21, h, hsHq21⟩ := h.fsl (R := RP) (sz := 7) (ys := [p, p20]) 0 (RowR.cons rfl (rp_of (cs := [_, _, _, _, _, _, _]) ⟨_, _, _, _, _, _, _, _, rfl, (CS.up hp0 l_H_H20), (CS.up hp1 l_H_H20), (FS.up hp2 l_H_H20), (KS.up hp3 l_H_H20)⟩) (RowR.one rfl (rp_of (cs := [_, _, _, _, _, _, _]) ⟨_, _, _, _, _, _, _, _, rfl, hk20_0, hk20_1, hk20_2, hk20_3⟩))) (fun _ l cs y _ hr => RP.mono l hr)
 have hpm : ∀ x ∈ [p, p20], Mild x := by intro x hx; simp only [List.mem_cons, List.not_mem_nil, or_false] at hx; rcases hx with rfl | rfl; exact hM; exact hm20
 refine au [2,7,8,6,6,0,2,6] h ?_; intro a w h
 refine en (by kernel_rfl) ?_
 refine au [1,0,1,5] h ?_
 have h := h.del 0
 refine lp (β := Nat × GH) (fun x a w => match x with | (k, HL0) => ((k ≤ [p, p20].length) ∧ (LE Hq21 HL0)) ∧ S E HL0 89 [] [(7, .bool true), (21, .slice (some ⟨g21, 0, none⟩) ([p, p20]).length 2), (22, .int .i64 (([p, p20]).length : Int)), (23, .int .i64 (k : Int))] (L) a w)
  (fun x => match x with | (k, HL0) => [p, p20].length - k) (0, Hq21) ⟨⟨Nat.zero_le _, LE.rfl⟩, h.to 0 _⟩ ?_
 rintro ⟨k, HL0⟩ a w ⟨⟨hk, leHL0⟩, h⟩
 have hk2 : ([p, p20]).length = 2 := rfl
 refine au [1,2,6,4,0,3,0,4] h ?_; intro a w h
 refine cdB h (fun c24 => ?_) (fun c24 => ?_)
 ·have d24 : k < ([p, p20]).length := cd_ c24
  refine au [1,8,1,0,0,4,1,5,1,2] h ?_
  have hj25 : k < ([p, p20]).length := d24
  obtain ⟨g25, o25, A25_0, c25_0, A25_1, c25_1, A25_2, c25_2, A25_3, c25_3, e25, hv25, hc25⟩ := PS.get (PS.up hsHq21 leHL0) hj25
  obtain ⟨_, _, _, _, _, _, _, _, q25, hk25_0, hk25_1, hk25_2, hk25_3⟩ := hv25; cases q25
  refine iaE sli56 sz28 rfl hj25 e25 h fun a w h => ?_
  refine ldHN tN28 rfl hc25 h fun a w h => ?_
  obtain ⟨pk, hxpk⟩ : ∃ z, z = ([p, p20])[k] := ⟨_, rfl⟩
  rw [← hxpk] at h hk25_0 hk25_1 hk25_2 hk25_3
  have hmx : Mild pk := by rw [hxpk]; exact hpm _ (List.getElem_mem hj25)
  refine al zr28 h fun g9 a w h => ?_
  refine au [5,5,0,2,3,3] h ?_; intro a w h
  refine cl bod20 (Elab_ok (pk) _ E HL0 _ ⟨A25_0, c25_0, A25_1, c25_1, A25_2, c25_2, A25_3, c25_3, rfl, hk25_0, hk25_1, hk25_2, hk25_3⟩ (hL.up le_) hmx) h (fun r29 H29 L29 a w le29 R h => ?_)
  obtain ⟨_, rfl, ⟨A29_0, c29_0, A29_1, c29_1, A29_2, c29_2, A29_3, c29_3, rfl, hk29_0, hk29_1, hk29_2, hk29_3⟩, rfl⟩ := R
  refine au [0,0,4,7,4,7] h ?_; intro a w h
  refine al zr59 h fun g10 a w h => ?_
  refine au [5,5,0,6,0,3,0,4,1,2,0,0,6,3,0,3] h ?_; intro a w h
  refine cdB h (fun c33 => ?_) (fun c33 => ?_)
  ·have d33 : (pk).elb.2 ≠ 0 := cd_ c33
   refine au [2,5,2,2,2,3,1,0,0,5] h ?_
   refine inc ?_ h fun a w h => ?_
   ·omega
   refine au [0,0,0,3] h ?_; intro a w h
   have h := h.del 0
   have h := h.del 0
   have l_Hq21_H29 : LE Hq21 H29 := leHL0.trans le29
   exact ⟨((k + 1), H29), ⟨⟨by omega, l_Hq21_H29⟩, h.to 0 _⟩, by show _ - (k + 1) < _ - k; omega⟩
  ·have d33 : (pk).elb.2 = 0 := cd_ c33
   have hmf := meet_f (p := pk) (by omega)
   obtain ⟨G, hG⟩ := hmf.body
   have hml := hmf.len
   refine au [1,8,1,0,0,4,1,2,0,7] h ?_; intro a w h
   refine ldN (l := [_, _, _, _, _, _, _, _, _, _]) 0 tN34 h fun a w h => ?_
   refine cl bod23 (meets9_ok (((pk).elb.1).body) G _ E H29 _ hG ⟨A29_1, c29_1, A29_2, c29_2, A29_3, c29_3, rfl, hk29_1, hk29_2, hk29_3⟩ (by have := hmf.bsz; omega) (by have := fine_big _ hmf.bfine; omega)) h (fun r36 H36 L36 a w le36 R h => ?_)
   obtain ⟨rfl, rfl⟩ := R
   refine au [7,1,0,0,0,7,0,7,0,7,0,8,6,3] h ?_; intro a w h
   refine h.spl (fun c43 h => ?_) (fun c43 h => ?_)
   ·have d43 : ((pk).elb.1).body.s.kind ≠ 1 := cd_ c43
    rw [hmf.bs] at c43; simp [wh, Sh.kind] at c43
   ·have d43 : ((pk).elb.1).body.s.kind = 1 := cd_ c43
    refine au [5,0,0,0,0,7] h ?_; intro a w h
    refine ldN (l := [_, _, _, _, _, _, _, _, _, _]) 0 tN34 h fun a w h => ?_
    refine cl bod24 (small9_ok (((pk).elb.1).body) G _ E H36 _ hG hmf.bfine ⟨A29_1, c29_1, A29_2, c29_2, A29_3, c29_3, rfl, (HS.up hk29_1 le36), (HS.up hk29_2 le36), (TrS.up hk29_3 le36)⟩ (by have := hmf.bsz; omega)) h (fun r48 H48 L48 a w le48 R h => ?_)
    obtain ⟨rfl, rfl⟩ := R
    refine au [7,1,5,0,0,3,2,1,1,8,1,0,1,2,0,6,0,3,1,5] h ?_; intro a w h
    obtain ⟨Hg10, leHg10, h, hfg10⟩ := h.frz 0
    obtain ⟨Hg9, leHg9, h, hfg9⟩ := h.frz 0
    refine lp (β := Nat × GH) (fun x a w => match x with | (k2, HL2) => ((k2 ≤ pk.elb.1.defs.length) ∧ (LE Hg9 HL2)) ∧ S E HL2 89 [] [(7, .bool true), (9, .pointer (some ⟨g9, 0, none⟩)), (10, .pointer (some ⟨g10, 0, none⟩)), (11, .int .i64 ((pk).elb.2)), (12, .int .i64 (k2 : Int)), (21, .slice (some ⟨g21, 0, none⟩) ([p, p20]).length 2), (22, .int .i64 (([p, p20]).length : Int)), (23, .int .i64 (k : Int)), (24, .bool (decide (((k : Int) : Int) < (([p, p20]).length : Int)))), (26, .agg #[.slice A25_0 ((pk).inputs).length c25_0, .slice A25_1 ((pk).cells).length c25_1, .slice A25_2 ((pk).defs).length c25_2, .int .i64 ((pk).body.kind), str ((pk).body.name), .int .i64 ((pk).body.n), .slice A25_3 ((pk).body.kids).length c25_3]), (27, .tuple #[.agg #[.slice A29_0 (((pk).elb.1).defs).length c29_0, .int .i64 (((pk).elb.1).body.kind), str (((pk).elb.1).body.name), .int .i64 (((pk).elb.1).body.n), .int .i64 (((pk).elb.1).body.s.kind), .int .i64 (((pk).elb.1).body.s.n), .slice A29_1 (((pk).elb.1).body.s.kids).length c29_1, .int .i64 (((pk).elb.1).body.b.kind), .int .i64 (((pk).elb.1).body.b.n), .slice A29_2 (((pk).elb.1).body.b.kids).length c29_2, .slice A29_3 (((pk).elb.1).body.kids).length c29_3], .int .i64 ((pk).elb.2)]), (28, .agg #[.slice A25_0 ((pk).inputs).length c25_0, .slice A25_1 ((pk).cells).length c25_1, .slice A25_2 ((pk).defs).length c25_2, .int .i64 ((pk).body.kind), str ((pk).body.name), .int .i64 ((pk).body.n), .slice A25_3 ((pk).body.kids).length c25_3]), (29, .tuple #[.agg #[.slice A29_0 (((pk).elb.1).defs).length c29_0, .int .i64 (((pk).elb.1).body.kind), str (((pk).elb.1).body.name), .int .i64 (((pk).elb.1).body.n), .int .i64 (((pk).elb.1).body.s.kind), .int .i64 (((pk).elb.1).body.s.n), .slice A29_1 (((pk).elb.1).body.s.kids).length c29_1, .int .i64 (((pk).elb.1).body.b.kind), .int .i64 (((pk).elb.1).body.b.n), .slice A29_2 (((pk).elb.1).body.b.kids).length c29_2, .slice A29_3 (((pk).elb.1).body.kids).length c29_3], .int .i64 ((pk).elb.2)]), (30, .agg #[.slice A29_0 (((pk).elb.1).defs).length c29_0, .int .i64 (((pk).elb.1).body.kind), str (((pk).elb.1).body.name), .int .i64 (((pk).elb.1).body.n), .int .i64 (((pk).elb.1).body.s.kind), .int .i64 (((pk).elb.1).body.s.n), .slice A29_1 (((pk).elb.1).body.s.kids).length c29_1, .int .i64 (((pk).elb.1).body.b.kind), .int .i64 (((pk).elb.1).body.b.n), .slice A29_2 (((pk).elb.1).body.b.kids).length c29_2, .slice A29_3 (((pk).elb.1).body.kids).length c29_3]), (31, .int .i64 ((pk).elb.2)), (32, .int .i64 ((pk).elb.2)), (33, .bool (((pk).elb.2 : Int) != 0)), (34, .pointer (some ⟨g10, 1, none⟩)), (35, .agg #[.int .i64 (((pk).elb.1).body.kind), str (((pk).elb.1).body.name), .int .i64 (((pk).elb.1).body.n), .int .i64 (((pk).elb.1).body.s.kind), .int .i64 (((pk).elb.1).body.s.n), .slice A29_1 (((pk).elb.1).body.s.kids).length c29_1, .int .i64 (((pk).elb.1).body.b.kind), .int .i64 (((pk).elb.1).body.b.n), .slice A29_2 (((pk).elb.1).body.b.kids).length c29_2, .slice A29_3 (((pk).elb.1).body.kids).length c29_3]), (36, .bool true), (37, .bool false), (38, .bool false), (39, .pointer (some ⟨g10, 1, none⟩)), (40, .pointer (some ⟨g10, 4, none⟩)), (41, .pointer (some ⟨g10, 4, none⟩)), (42, .int .i64 (((pk).elb.1).body.s.kind)), (43, .bool false), (44, .bool false), (45, .bool false), (46, .pointer (some ⟨g10, 1, none⟩)), (47, .agg #[.int .i64 (((pk).elb.1).body.kind), str (((pk).elb.1).body.name), .int .i64 (((pk).elb.1).body.n), .int .i64 (((pk).elb.1).body.s.kind), .int .i64 (((pk).elb.1).body.s.n), .slice A29_1 (((pk).elb.1).body.s.kids).length c29_1, .int .i64 (((pk).elb.1).body.b.kind), .int .i64 (((pk).elb.1).body.b.n), .slice A29_2 (((pk).elb.1).body.b.kids).length c29_2, .slice A29_3 (((pk).elb.1).body.kids).length c29_3]), (48, .bool true), (49, .bool false), (50, .bool false)] (L) a w)
     (fun x => match x with | (k2, HL2) => pk.elb.1.defs.length - k2) (0, Hg9) ⟨⟨Nat.zero_le _, LE.rfl⟩, h.to 0 _⟩ ?_
    rintro ⟨k2, HL2⟩ a w ⟨⟨hk, leHL2⟩, h⟩
    refine au [0,4,1,2,0,0,0,7] h ?_; intro a w h
    have l_Hg10_HL2 : LE Hg10 HL2 := leHg9.trans leHL2
    refine ldH t1_57 (Hc.of (l_Hg10_HL2 _ _ hfg10) rfl) h fun a w h => ?_
    refine au [6,0,6,4,0,3] h ?_; intro a w h
    refine cdB h (fun c55 => ?_) (fun c55 => ?_)
    ·have d55 : k2 < (((pk).elb.1).defs).length := cd_ c55
     refine au [1,8,1,0,0,4,1,5,1,2,0,7] h ?_; intro a w h
     refine ldH t1_57 (Hc.of (l_Hg10_HL2 _ _ hfg10) rfl) h fun a w h => ?_
     refine mv h fun a w h => ?_
     have l_H29_HL2 : LE H29 HL2 := (((le36.trans le48).trans leHg10).trans leHg9).trans leHL2
     have hj61 : k2 < (((pk).elb.1).defs).length := by first | assumption | omega | (simp; done) | (simp; omega)
     obtain ⟨g61, o61, A61_0, c61_0, A61_1, c61_1, A61_2, c61_2, e61, hv61, hc61⟩ := TdS.get (TdS.up hk29_0 l_H29_HL2) hj61
     obtain ⟨_, _, _, _, _, _, q61, hk61_0, hk61_1, hk61_2⟩ := hv61; cases q61
     refine iaE sli57 sz74 rfl hj61 e61 h fun a w h => ?_
     refine fa fl74_1 (r := o61 + k2 * 11 + 1) h fun a w h => ?_
     refine ldHN (l := [_, _, _, _, _, _, _, _, _, _]) tN34 rfl (sbL 1 10 hc61) h fun a w h => ?_
     obtain ⟨⟨G2, hG2⟩, hf2, hk3, hs2⟩ := hmf.defs k2 hj61
     refine cl bod23 (meets9_ok (((((pk).elb.1).defs)[k2]).t) G2 _ E HL2 _ hG2 ⟨A61_0, c61_0, A61_1, c61_1, A61_2, c61_2, rfl, hk61_0, hk61_1, hk61_2⟩ (by have := hs2; omega) (by have := fine_big _ hf2; omega)) h (fun r64 H64 L64 a w le64 R h => ?_)
     obtain ⟨rfl, rfl⟩ := R
     refine au [7,1,0,0,0,7] h ?_; intro a w h
     have l_Hg10_H64 : LE Hg10 H64 := (leHg9.trans leHL2).trans le64
     refine ldH t1_57 (Hc.of (l_Hg10_H64 _ _ hfg10) rfl) h fun a w h => ?_
     refine mv h fun a w h => ?_
     have l_H29_H64 : LE H29 H64 := ((((le36.trans le48).trans leHg10).trans leHg9).trans leHL2).trans le64
     have hj70 : k2 < (((pk).elb.1).defs).length := by first | assumption | omega | (simp; done) | (simp; omega)
     obtain ⟨g70, o70, A70_0, c70_0, A70_1, c70_1, A70_2, c70_2, e70, hv70, hc70⟩ := TdS.get (TdS.up hk29_0 l_H29_H64) hj70
     obtain ⟨_, _, _, _, _, _, q70, hk70_0, hk70_1, hk70_2⟩ := hv70; cases q70
     refine iaE sli57 sz74 rfl hj70 e70 h fun a w h => ?_
     refine fa fl74_1 (r := o70 + k2 * 11 + 1) h fun a w h => ?_
     refine fa fl34_3 (r := o70 + k2 * 11 + 4) h fun a w h => ?_
     refine fa fl31_0 (r := o70 + k2 * 11 + 4) h fun a w h => ?_
     refine ldH t1_3 (hc70 4 _ rfl) h fun a w h => ?_
     refine nei h fun a w h => ?_
     refine h.spl (fun c75 h => ?_) (fun c75 h => ?_)
     ·have d75 : ((((pk).elb.1).defs)[k2]).t.s.kind ≠ 3 := cd_ c75
      rw [hk3] at c75; simp at c75
     ·have d75 : ((((pk).elb.1).defs)[k2]).t.s.kind = 3 := cd_ c75
      refine au [5,0,0,0,0,7] h ?_; intro a w h
      refine ldH t1_57 (Hc.of (l_Hg10_H64 _ _ hfg10) rfl) h fun a w h => ?_
      refine mv h fun a w h => ?_
      have hj81 : k2 < (((pk).elb.1).defs).length := by first | assumption | omega | (simp; done) | (simp; omega)
      obtain ⟨g81, o81, A81_0, c81_0, A81_1, c81_1, A81_2, c81_2, e81, hv81, hc81⟩ := TdS.get (TdS.up hk29_0 l_H29_H64) hj81
      obtain ⟨_, _, _, _, _, _, q81, hk81_0, hk81_1, hk81_2⟩ := hv81; cases q81
      refine iaE sli57 sz74 rfl hj81 e81 h fun a w h => ?_
      refine fa fl74_1 (r := o81 + k2 * 11 + 1) h fun a w h => ?_
      refine ldHN (l := [_, _, _, _, _, _, _, _, _, _]) tN34 rfl (sbL 1 10 hc81) h fun a w h => ?_
      refine cl bod24 (small9_ok (((((pk).elb.1).defs)[k2]).t) G2 _ E H64 _ hG2 hf2 ⟨A81_0, c81_0, A81_1, c81_1, A81_2, c81_2, rfl, hk81_0, hk81_1, hk81_2⟩ (by have := hs2; omega)) h (fun r84 H84 L84 a w le84 R h => ?_)
      obtain ⟨rfl, rfl⟩ := R
      refine au [7,1,5,0,0,3,2,1,1,8,1,7,1,0,0,5,0,0] h ?_; intro a w h
      refine inc ?_ h fun a w h => ?_
      ·omega
      refine au [0,6,0,3] h ?_; intro a w h
      have l_Hg9_H84 : LE Hg9 H84 := (leHL2.trans le64).trans le84
      exact ⟨((k2 + 1), H84), ⟨⟨by omega, l_Hg9_H84⟩, h.to 0 _⟩, by show _ - (k2 + 1) < _ - k2; omega⟩
    ·have d55 : (((pk).elb.1).defs).length ≤ k2 := cd_ c55
     refine au [2,5,2,2,2,2,2,3,1,7,1,0,0,5] h ?_
     refine inc ?_ h fun a w h => ?_
     ·omega
     refine au [0,0,0,3] h ?_; intro a w h
     have l_Hq21_HL2 : LE Hq21 HL2 := (((((leHL0.trans le29).trans le36).trans le48).trans leHg10).trans leHg9).trans leHL2
     exact ⟨((k + 1), HL2), ⟨⟨by omega, l_Hq21_HL2⟩, h.to 0 _⟩, by show _ - (k + 1) < _ - k; omega⟩
 ·have d24 : ([p, p20]).length ≤ k := cd_ c24
  refine au [2,5,2,2,2,2,2,3,1,0,1,2,0,0,0,6,0,3,1,3] h ?_; intro a w h
  have l_H_HL0 : LE H HL0 := (((le13.trans le17).trans le20).trans leHq21).trans leHL0
  refine fin1 6 0 h l_H_HL0 ?_
  exact ⟨rfl, rfl⟩
end Go.Proofs.YthnhddjlgjecdaaGreatDoor
namespace Go.Proofs.YthnhddjlgjecdaaGreatDoor.meet
open Go X Go.ChangeShapes Go.WideShapes Go.ChangeAt Go.RowKit
theorem own : ownKnob Tryz.prog.godebug = none := by kernel_rfl
theorem contract (H : Type) (enc : TypeId × Value → H) (W : World) (base : Nat) (args : Array Value) (ds gs : List (DataW H)) (before : List MemPlace)
   (hval : ∀ (j : Nat) t v, Tryz.f4.params[j]? = some t → args[j]? = some v → Value.okWide Tryz.prog W .any base t v)
   (hW : DataW.Whole enc Tryz.prog Tryz.f4.params.toList Rows.elabMeetsSpec.vars false W args.toList ds gs before) (hk : Rows.uptoSmall H (ds ++ gs) = true) (hL : laidMetH Tryz.prog Rows.elabMeetsUptoRow.laid W) :
   Calls Tryz.prog 4 args W fun e W' => ∃ v, e = .returned v ∧ Rows.elabMeetsSpec.post enc Tryz.prog Tryz.f4 false true false false W args v W' := by
 have hW' := hW
 obtain ⟨p, q, hA, hV, rfl, hfz, hnd⟩ := hW
 rw [show Tryz.f4.params = #[28, 35, 5] from rfl] at hA hval
 obtain ⟨v0, vs0, d0, ds0, p0, q0, ha0, rfl, rfl, h0, r0⟩ := trodAll_cons hA
 obtain ⟨v1, vs1, d1, ds1, p1, q1, ha1, rfl, rfl, h1, r1⟩ := trodAll_cons r0
 obtain ⟨v2, vs2, d2, ds2, p2, q2, ha2, rfl, rfl, h2, r2⟩ := trodAll_cons r1
 obtain ⟨rfl, rfl, rfl⟩ := trodAll_nil r2
 obtain rfl : args = #[v0, v1, v2] := by cases args; simp_all
 have hgs : gs = [] := by
   cases gs with
   | nil => rfl
   | cons g gs => exact (show False from hV).elim
 subst hgs
 have hbulk : Rows.uptoBulkAll [d0, d1, d2] ≤ 1048576 := by simpa [Rows.uptoSmall] using hk
 simp only [Rows.uptoBulkAll] at hbulk
 obtain ⟨fuel0, htr0⟩ := h0
 obtain ⟨fuel1, htr1⟩ := h1
 obtain ⟨fuel2, htr2⟩ := h2
 have hagg0 : ∃ cs, v0 = .agg cs := by
   have hok := (hval 0 28 v0 rfl rfl)
   unfold Value.okWide at hok
   rw [Tryz.underlying28] at hok
   obtain ⟨cs, h, _⟩ := hok
   exact ⟨cs, h⟩
 obtain ⟨pg0, hVP0, hM0⟩ := open_pg fuel0 v0 hagg0 (d0, p0) htr0 (by show Rows.uptoBulk d0 ≤ _; omega)
 obtain ⟨A1, c1, l1, rfl, hl1, hb1⟩ := open_u8s (e := 5) Tryz.underlying35 Tryz.underlying5 (by kernel_rfl) (cells_slice Tryz.underlying35 (hval 1 35 v1 rfl rfl)) htr1 (by show Rows.uptoBulk d1 ≤ _; omega)
 obtain ⟨n2, rfl, lo2, hi2⟩ := open_int Tryz.underlying5 (cells_int Tryz.underlying5 (hval 2 5 v2 rfl rfl)) htr2
 obtain ⟨n2, rfl⟩ : ∃ n : Nat, n2 = (n : Int) := ⟨n2.toNat, by simp [IntKind.min, IntKind.max, IntKind.signed, IntKind.bits] at lo2; omega⟩
 simp [IntKind.min, IntKind.max, IntKind.signed, IntKind.bits] at lo2 hi2
 have hlaid : Laid (HW W) := by
   obtain ⟨ps, hv, _⟩ := (hL : laidMet Tryz.prog Rows.elabMeetsUptoRow.laid W)
   exact laid_of hv (by simp [Rows.elabMeetsUptoRow]) (by simp [Rows.elabMeetsUptoRow]) (by simp [Rows.elabMeetsUptoRow]) (by simp [Rows.elabMeetsUptoRow])
 refine (meets_law pg0 l1 n2 v0 A1 c1 W (HW W) [] hVP0 hM0 hl1 (by omega) (by omega) hlaid W (st_world W)).mono fun e W' ⟨r, H', L', he, hle, hst, hr, hl⟩ => ?_
 subst hr
 refine ⟨_, he, post_true (by simpa using hW') rfl rfl rfl rfl (below_of hle hst) (by kernel_rfl) (fun t ht => ?_) rfl Tryz.underlying4⟩
 rw [show Tryz.f4.params = #[28, 35, 5] from rfl] at ht
 have ht' : t = 28 ∨ t = 35 ∨ t = 5 := by simpa using ht
 rcases ht' with rfl | rfl | rfl <;> exact ⟨by kernel_rfl, of_decide_eq_true (by kernel_rfl)⟩
def valOf : DataW Unit → Value
 | .lit (.int k n) => .int k n
 | .lit (.string s) => str s
 | _ => .bool false
def cellsOf : DataW Unit → Array Value
 | .agg ds => (ds.map valOf).toArray
 | _ => #[]
def lay (i : Nat) (o : Obj) : Obj := match i, o with
 | 2, .cells _ t z => .cells (cellsOf Rows.laid_chancel_term_kids) t z
 | 3, .cells _ t z => .cells (cellsOf Rows.laid_chancel_term_ops) t z
 | 1, .cells _ t z => .cells (cellsOf Rows.laid_internal_strconv_uint64pow10) t z
 | 4, .cells _ t z => .cells (cellsOf Rows.laid_chancel_lex_keys) t z
 | 5, .cells _ t z => .cells (cellsOf Rows.laid_math_bits_deBruijn32tab) t z
 | 6, .cells _ t z => .cells (cellsOf Rows.laid_math_bits_deBruijn64tab) t z
 | 0, .cells _ t z => .cells (cellsOf Rows.laid_chancel_eval_kids) t z
 | _, o => o
noncomputable def laidWorld (os : Os) : World :=
 { World.holding Tryz.prog os ⟨#[], #[], []⟩ with heap := (World.holding Tryz.prog os ⟨#[], #[], []⟩).heap.mapIdx lay }
def arg : Array Value := #[.agg #[.slice none 0 0, .slice none 0 0, .slice none 0 0, .int .i64 0, .string ⟨#[]⟩, .int .i64 0, .slice none 0 0], .slice none 0 0, .int .u8 0]
theorem laid_met (os : Os) : laidMet Tryz.prog Rows.elabMeetsUptoRow.laid ((laidWorld os).forCall (fun _ _ => 0) ⟨#[], arg, []⟩).memory :=
 laidMet_of_run' 8 (by kernel_rfl) (by kernel_rfl)
theorem reads (os : Os) {H : Type} (enc : TypeId × Value → H) : ∃ places, DataW.whole enc Tryz.prog ((laidWorld os).forCall (fun _ _ => 0) ⟨#[], arg, []⟩).memory Tryz.f4.params.toList Rows.elabMeetsSpec.vars false arg.toList 8 = some ([.agg [.nil, .nil, .nil, .agg [.lit (.int .i64 0), .lit (.string []), .lit (.int .i64 0), .nil]], .nil, .lit (.int .u8 0)], [], places) :=
 ⟨[], by kernel_rfl⟩
theorem liftedUpto (os : Os) (started : os.Started) (H : Type) (enc : TypeId × Value → H) (F : Stop.Interp) :
   ReturnsInHanded {} Tryz.checked os 4 .any ((Rows.OpenSpec.upto Rows.elabMeetsSpec).preRow enc Tryz.prog Tryz.f4 Rows.elabMeetsUptoRow.domain false Rows.elabMeetsUptoRow.laid) (((Rows.OpenSpec.upto Rows.elabMeetsSpec).at F).post enc Tryz.prog Tryz.f4 false true false false) := by
 obtain ⟨places, hx⟩ := reads os enc
 refine returnsInHanded_of_row (C := Tryz.checked) (s := Rows.OpenSpec.upto Rows.elabMeetsSpec) own started (by kernel_rfl) Tryz.func4
   (witness_row_at (enc := enc) (C := Tryz.checked) false (laidWorld os) arg rfl (by kernel_rfl) (by kernel_rfl) (by kernel_rfl)
     (OpenSpec.preRow_of_cond 8 hx (by kernel_rfl) (fun k hk => by cases hk; kernel_rfl) (by kernel_rfl) (laid_met os))) ?_
 intro W base args ds gs before hval hW _ hcond _ hL _ _
 exact contract H enc W base args ds gs before hval hW (hcond _ rfl) hL
theorem andI {a b : Bool} (h : a = true) (k : b = true) : (a && b) = true := by rw [h, k]; rfl
theorem closed : joinedFacts Tryz.prog 4 Tryz.f4 (Rows.OpenSpec.upto Rows.elabMeetsSpec).bare Rows.elabMeetsUptoRow = true := by
 unfold joinedFacts
 repeat (refine andI ?_ ?_)
 all_goals (as_aux_lemma => kernel_rfl)
theorem saidUpto : Rows.ElabMeetsUptoSaid :=
 OpenClaim.holds_of_cond 4 Tryz.f4 rfl rfl rfl rfl rfl rfl rfl ⟨rfl, rfl, rfl, rfl, rfl⟩ rfl rfl rfl rfl rfl (by kernel_rfl) Tryz.func4 closed
   (of_decide_eq_true (by kernel_rfl)) (by unfold Func.isWrapper; first | (rw [if_pos (by decide +kernel)]; kernel_rfl) | (rw [if_neg (by decide +kernel)]; exact ⟨rfl, rfl⟩))
   (fun os started H enc _ F => by rw [OpenClaim.pre_eq_preRow]; exact liftedUpto os started H enc F)
theorem plain (f : FuncId) (fn : Func) (hf : Tryz.pinned.checked.prog.funcNamed "chancel/chancellaw09.ElabMeets" = some f) (hfn : Tryz.pinned.checked.prog.funcs[f]? = some fn) :
   true = Tryz.pinned.checked.prog.looks [] ∧ ∀ (j : Nat) t, fn.params[j]? = some t → Tryz.pinned.checked.prog.wantsStandIn t = false := by
 obtain rfl : f = 4 := Option.some.inj ((show Tryz.prog.funcNamed "chancel/chancellaw09.ElabMeets" = some 4 by kernel_rfl).symm.trans hf) |>.symm
 obtain rfl : fn = Tryz.f4 := (Option.some.inj (Tryz.func4.symm.trans hfn)).symm
 refine ⟨by kernel_rfl, fun j t ht => ?_⟩
 rw [show Tryz.f4.params = #[28, 35, 5] from rfl] at ht
 have ht' : t = 28 ∨ t = 35 ∨ t = 5 := by simpa using Array.mem_of_getElem? ht
 rcases ht' with rfl | rfl | rfl <;> exact (show Tryz.prog.wantsStandIn _ = false by kernel_rfl)
theorem cardUpto : Rows.ElabMeetsUptoCardSaid :=
 Claim7.holds_tied_plain_at .later [] _ _ _ _ saidUpto (fun _ h => by cases h) (by kernel_rfl) (fun _ h => by cases h) elabMeetsUpto_row_tie rfl ⟨rfl, rfl⟩ (by kernel_rfl) rfl plain (by kernel_rfl)
end Go.Proofs.YthnhddjlgjecdaaGreatDoor.meet
