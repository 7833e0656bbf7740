/- ElabBare: for all arguments of bulk at most 1048576 the law answers true, and they read as before. -/
import Derived.Test.YthnhddjlgjecdaaGreatDoorZb6
import Derived.Test.YthnhddjlgjecdaaGreatDoorCards
import Derived.Test.YthnhddjlgjecdaaGreatDoorTie
import Derived.WalkKit
import Derived.ProofKit
import Derived.OpenShut
import Derived.Deep.DeepHandedRow
set_option linter.unnecessarySimpa false
set_option autoImplicit false
set_option linter.unusedSectionVars false
set_option linter.unusedSimpArgs false
set_option linter.unusedVariables false
set_option maxHeartbeats 8000000
set_option maxRecDepth 100000
set_option relaxedAutoImplicit false
namespace Go.Proofs.YthnhddjlgjecdaaGreatDoor
open Go X
theorem two0_ok (kd : Int) (nm : Bs) (p q : Tm) (v v2 : Value) (E : World) (H : GH) (L : List It) (hp : VT H v p) (hq : VT H v2 q) : Ok Tryz.prog 28 #[.int .i64 kd, str nm, v, v2] E H L fun r H' L' => VT H' r (.mk kd nm 0 [p, q]) ∧ L = L' := by
  have := two9_ok kd nm p q v v2 (fun _ => False) E H L Sub.no (by rw [VX, wo_none]; exact hp) (by rw [VX, wo_none]; exact hq)
  simpa only [VX, wo_none] using this
theorem examples9_ok (E : World) (H : GH) (L : List It) (hL : Laid H) : Ok Tryz.prog 10 #[] E H L fun r H' L' => r = .bool true ∧ L = L' := by
  have hx1 := exE3_x.one
  have hx2 := exE3_x.two
  have hx3 := exE3_x.size
  have hx4 := exE3_x.big
  refine enter (N := 133) [] Tryz.func10 rfl rfl rfl rfl fun a w h => ?_
  refine au [1,2,0,6,0,2,7,5] h ?_; intro a w h
  refine al zr26 h fun g1 a w h => ?_
  refine au [5,5,0,2,7,5] h ?_; intro a w h
  refine al zr26 h fun g2 a w h => ?_
  refine au [5,5,0,2,3,4,3,4] h ?_; intro a w h
  refine cl bod28 (two0_ok 4 [] (Tm.mk 1 [] 1 [] : Tm) (Tm.mk 1 [] 1 [] : Tm) _ _ E H _ ⟨none, 0, rfl, RS.nil _ _ _⟩ ⟨none, 0, rfl, RS.nil _ _ _⟩) h (fun r18 H18 L18 a w le18 R h => ?_)
  obtain ⟨⟨A18_0, c18_0, rfl, hk18_0⟩, rfl⟩ := R
  refine bdl lay28 zr28 h fun a w h => ?_
  refine cl bod20 (Elab_ok exE1 _ E H18 _ ⟨none, 0, none, 0, none, 0, A18_0, c18_0, rfl, RS.nil _ _ _, RS.nil _ _ _, RS.nil _ _ _, hk18_0⟩ (hL.up le_) mildE1) h (fun r20 H20 L20 a w le20 R h => ?_)
  obtain ⟨_, rfl, ⟨A20_0, c20_0, A20_1, c20_1, A20_2, c20_2, A20_3, c20_3, rfl, hk20_0, hk20_1, hk20_2, hk20_3⟩, rfl⟩ := R
  rw [exE1_e] at h
  refine au [0,0,4,7,4,7] h ?_; intro a w h
  refine al zr59 h fun g3 a w h => ?_
  refine au [5,5,0,6,0,2,3,4,7,5] h ?_; intro a w h
  refine cl bod20 (Elab_ok exE2 _ E H20 _ ⟨none, 0, none, 0, none, 0, none, 0, rfl, RS.nil _ _ _, RS.nil _ _ _, RS.nil _ _ _, RS.nil _ _ _⟩ (hL.up le_) mildE2) h (fun r26 H26 L26 a w le26 R h => ?_)
  obtain ⟨_, rfl, ⟨A26_0, c26_0, A26_1, c26_1, A26_2, c26_2, A26_3, c26_3, rfl, hk26_0, hk26_1, hk26_2, hk26_3⟩, rfl⟩ := R
  rw [exE2_e] at h
  refine au [0,0,4,7,4,7] h ?_; intro a w h
  refine al zr59 h fun g5 a w h => ?_
  refine au [5,5,0,6,0,2,3,5,3,6] h ?_; intro a w h
  refine cl bod28 (two0_ok 12 [43] (Tm.mk 2 [120] 0 [] : Tm) (Tm.mk 1 [] 1 [] : Tm) _ _ E H26 _ ⟨none, 0, rfl, RS.nil _ _ _⟩ ⟨none, 0, rfl, RS.nil _ _ _⟩) h (fun r31 H31 L31 a w le31 R h => ?_)
  obtain ⟨⟨A31_0, c31_0, rfl, hk31_0⟩, rfl⟩ := R
  refine bsl bs24 h fun g32 a w h => ?_
  obtain ⟨Hq32, leHq32, h, hsHq32⟩ := h.fsl (R := RT) (sz := 4) (ys := [(Tm.mk 12 [43] 0 [(Tm.mk 2 [120] 0 [] : Tm), (Tm.mk 1 [] 1 [] : Tm)])]) 0 (RowR.one rfl (rt_of_vt (cs := [_, _, _, _]) ⟨_, _, rfl, hk31_0⟩)) (fun _ l cs y _ hr => RT.mono l y hr)
  refine bdl lay26 zr26 h fun a w h => ?_
  refine al zr26 h fun g7 a w h => ?_
  refine au [5,5,0,3] h ?_; intro a w h
  refine sqc (fun a w => ∃ (HJ65 : GH) (g8 : Nat) (Aj65_0 : Option Addr) (cj65_0 : Nat) (Aj65_1 : Option Addr) (cj65_1 : Nat) (Aj65_2 : Option Addr) (cj65_2 : Nat) (Aj65_3 : Option Addr) (cj65_3 : Nat), (LE Hq32 HJ65) ∧ (TdS HJ65 Aj65_0 cj65_0 exE3.elb.1.defs) ∧ (HS HJ65 Aj65_1 cj65_1 exE3.elb.1.body.s.kids) ∧ (HS HJ65 Aj65_2 cj65_2 exE3.elb.1.body.b.kids) ∧ (TrS HJ65 Aj65_3 cj65_3 exE3.elb.1.body.kids) ∧ S E HJ65 133 [] [(0, .bool false), (1, .pointer (some ⟨g1, 0, none⟩)), (2, .pointer (some ⟨g2, 0, none⟩)), (4, .int .i64 8), (6, .int .i64 5), (8, .pointer (some ⟨g8, 0, none⟩)), (9, .int .i64 0)] (.obj g8 (.cells #[.slice Aj65_0 exE3.elb.1.defs.length cj65_0, .int .i64 exE3.elb.1.body.kind, str exE3.elb.1.body.name, .int .i64 exE3.elb.1.body.n, .int .i64 exE3.elb.1.body.s.kind, .int .i64 exE3.elb.1.body.s.n, .slice Aj65_1 exE3.elb.1.body.s.kids.length cj65_1, .int .i64 exE3.elb.1.body.b.kind, .int .i64 exE3.elb.1.body.b.n, .slice Aj65_2 exE3.elb.1.body.b.kids.length cj65_2, .slice Aj65_3 exE3.elb.1.body.kids.length cj65_3] 59 (0, 0)) :: .obj g7 (.cells #[.int .i64 3, str [120], .int .i64 0, .slice (some ⟨g32, 0, none⟩) ([(Tm.mk 12 [43] 0 [(Tm.mk 2 [120] 0 [] : Tm), (Tm.mk 1 [] 1 [] : Tm)])]).length 1] 26 (0, 0)) :: .obj g5 (.cells #[.slice A26_0 exE2.elb.1.defs.length c26_0, .int .i64 exE2.elb.1.body.kind, str exE2.elb.1.body.name, .int .i64 exE2.elb.1.body.n, .int .i64 exE2.elb.1.body.s.kind, .int .i64 exE2.elb.1.body.s.n, .slice A26_1 exE2.elb.1.body.s.kids.length c26_1, .int .i64 exE2.elb.1.body.b.kind, .int .i64 exE2.elb.1.body.b.n, .slice A26_2 exE2.elb.1.body.b.kids.length c26_2, .slice A26_3 exE2.elb.1.body.kids.length c26_3] 59 (0, 0)) :: .obj g3 (.cells #[.slice A20_0 exE1.elb.1.defs.length c20_0, .int .i64 exE1.elb.1.body.kind, str exE1.elb.1.body.name, .int .i64 exE1.elb.1.body.n, .int .i64 exE1.elb.1.body.s.kind, .int .i64 exE1.elb.1.body.s.n, .slice A20_1 exE1.elb.1.body.s.kids.length c20_1, .int .i64 exE1.elb.1.body.b.kind, .int .i64 exE1.elb.1.body.b.n, .slice A20_2 exE1.elb.1.body.b.kids.length c20_2, .slice A20_3 exE1.elb.1.body.kids.length c20_3] 59 (0, 0)) :: .obj g2 (.cells #[.int .i64 2, str [120], .int .i64 0, .slice none 0 0] 26 (0, 0)) :: .obj g1 (.cells #[.int .i64 1, str [], .int .i64 1, .slice none 0 0] 26 (0, 0)) :: L) a w) ?_ ?_
  ·refine rgx [0, 4] [_, _] [0, 4] 14 mix h (fun a w h => ?_)
   refine au [8,0,4,5,2,6,8,1,7,5,2,6,8,3,7,5,2,6,8,4,4,6,2,6] h ?_; intro a w h
   refine brl3 2 5 11 true true true (by kernel_rfl) (by kernel_rfl) (by kernel_rfl) (by kernel_rfl) (fun _ => h.st.sees' LE.rfl (by simp)) ?_ ?_ ?_
   ·refine bsl bs23 h fun g37 a w h => ?_
    obtain ⟨Hq37, leHq37, h, hsHq37⟩ := h.fsl (R := RDf) (sz := 5) (ys := [(Df.mk [102] (Tm.mk 3 [120] 0 ([(Tm.mk 12 [43] 0 [(Tm.mk 2 [120] 0 [] : Tm), (Tm.mk 1 [] 1 [] : Tm)])]) : Tm) : Df)]) 0 (RowR.one rfl (⟨_, rfl, rt_of_vt (cs := [_, _, _, _]) ⟨_, _, rfl, hsHq32⟩⟩)) (fun _ l cs y _ hr => RDf.mono l hr)
    refine br0 ?_
    refine bg2 5 11 true true h ?_ ?_
    ·refine clG bod28 (two0_ok 4 [] (Tm.mk 2 [102] 0 [] : Tm) (Tm.mk 1 [] 1 [] : Tm) _ _ E Hq37 _ ⟨none, 0, rfl, RS.nil _ _ _⟩ ⟨none, 0, rfl, RS.nil _ _ _⟩) h (fun r40 H40 L40 a w le40 R h => ?_)
     obtain ⟨⟨A40_0, c40_0, rfl, hk40_0⟩, rfl⟩ := R
     refine au [2,7,8,6,7,5,2,6] h ?_; intro a w h
     have l_Hq32_H40 : LE Hq32 H40 := leHq37.trans le40
     refine bg2 7 11 true true h ?_ ?_
     ·refine clG bod20 (Elab_ok exE3 _ E H40 _ ⟨none, 0, none, 0, (some ⟨g37, 0, none⟩), 1, A40_0, c40_0, rfl, RS.nil _ _ _, RS.nil _ _ _, (FS.up hsHq37 le40), hk40_0⟩ (hL.up le_) mildE3) h (fun r42 H42 L42 a w le42 R h => ?_)
      obtain ⟨_, rfl, ⟨A42_0, c42_0, A42_1, c42_1, A42_2, c42_2, A42_3, c42_3, rfl, hk42_0, hk42_1, hk42_2, hk42_3⟩, rfl⟩ := R
      rw [exE3_e.1] at h
      refine au [2,7,8,8,0,0,2,6,8,9,4,7,2,6,8,10,4,7,2,6] h ?_; intro a w h
      have l_Hq32_H42 : LE Hq32 H42 := (leHq37.trans le40).trans le42
      refine bg1 11 true h ?_
      refine al zr59 h fun g8 a w h => ?_
      refine br0 ?_
      refine bf1 12 ?_
      refine au [5,5,2,7,8,13,0,6,2,6] h ?_; intro a w h
      refine en (by kernel_rfl) ?_
      refine thN ?_
      exact ⟨H42, g8, A42_0, c42_0, A42_1, c42_1, A42_2, c42_2, A42_3, c42_3, l_Hq32_H42, hk42_0, hk42_1, hk42_2, hk42_3, h.to 0 _⟩
     ·refine al zr59 h fun g8 a w h => ?_
      refine br0 ?_
      refine bg1 7 true h ?_
      refine clG bod20 (Elab_ok exE3 _ E H40 _ ⟨none, 0, none, 0, (some ⟨g37, 0, none⟩), 1, A40_0, c40_0, rfl, RS.nil _ _ _, RS.nil _ _ _, (FS.up hsHq37 le40), hk40_0⟩ (hL.up le_) mildE3) h (fun r42 H42 L42 a w le42 R h => ?_)
      obtain ⟨_, rfl, ⟨A42_0, c42_0, A42_1, c42_1, A42_2, c42_2, A42_3, c42_3, rfl, hk42_0, hk42_1, hk42_2, hk42_3⟩, rfl⟩ := R
      rw [exE3_e.1] at h
      refine au [2,7,8,8,0,0,2,6,8,9,4,7,2,6,8,10,4,7,2,6] h ?_; intro a w h
      have l_Hq32_H42 : LE Hq32 H42 := (leHq37.trans le40).trans le42
      refine bf1 12 ?_
      refine au [5,5,2,7,8,13,0,6,2,6] h ?_; intro a w h
      refine en (by kernel_rfl) ?_
      refine thN ?_
      exact ⟨H42, g8, A42_0, c42_0, A42_1, c42_1, A42_2, c42_2, A42_3, c42_3, l_Hq32_H42, hk42_0, hk42_1, hk42_2, hk42_3, h.to 0 _⟩
    ·refine al zr59 h fun g8 a w h => ?_
     refine br0 ?_
     refine bg1 5 true h ?_
     refine clG bod28 (two0_ok 4 [] (Tm.mk 2 [102] 0 [] : Tm) (Tm.mk 1 [] 1 [] : Tm) _ _ E Hq37 _ ⟨none, 0, rfl, RS.nil _ _ _⟩ ⟨none, 0, rfl, RS.nil _ _ _⟩) h (fun r40 H40 L40 a w le40 R h => ?_)
     obtain ⟨⟨A40_0, c40_0, rfl, hk40_0⟩, rfl⟩ := R
     refine au [2,7,8,6,7,5,2,6] h ?_; intro a w h
     refine bg1 7 true h ?_
     refine clG bod20 (Elab_ok exE3 _ E H40 _ ⟨none, 0, none, 0, (some ⟨g37, 0, none⟩), 1, A40_0, c40_0, rfl, RS.nil _ _ _, RS.nil _ _ _, (FS.up hsHq37 le40), hk40_0⟩ (hL.up le_) mildE3) h (fun r42 H42 L42 a w le42 R h => ?_)
     obtain ⟨_, rfl, ⟨A42_0, c42_0, A42_1, c42_1, A42_2, c42_2, A42_3, c42_3, rfl, hk42_0, hk42_1, hk42_2, hk42_3⟩, rfl⟩ := R
     rw [exE3_e.1] at h
     refine au [2,7,8,8,0,0,2,6,8,9,4,7,2,6,8,10,4,7,2,6] h ?_; intro a w h
     have l_Hq32_H42 : LE Hq32 H42 := (leHq37.trans le40).trans le42
     refine bf1 12 ?_
     refine au [5,5,2,7,8,13,0,6,2,6] h ?_; intro a w h
     refine en (by kernel_rfl) ?_
     refine thN ?_
     exact ⟨H42, g8, A42_0, c42_0, A42_1, c42_1, A42_2, c42_2, A42_3, c42_3, l_Hq32_H42, hk42_0, hk42_1, hk42_2, hk42_3, h.to 0 _⟩
   ·refine clG bod28 (two0_ok 4 [] (Tm.mk 2 [102] 0 [] : Tm) (Tm.mk 1 [] 1 [] : Tm) _ _ E Hq32 _ ⟨none, 0, rfl, RS.nil _ _ _⟩ ⟨none, 0, rfl, RS.nil _ _ _⟩) h (fun r40 H40 L40 a w le40 R h => ?_)
    obtain ⟨⟨A40_0, c40_0, rfl, hk40_0⟩, rfl⟩ := R
    refine br0 ?_
    refine bg2 2 11 true true h ?_ ?_
    ·refine bsl bs23 h fun g37 a w h => ?_
     obtain ⟨Hq37, leHq37, h, hsHq37⟩ := h.fsl (R := RDf) (sz := 5) (ys := [(Df.mk [102] (Tm.mk 3 [120] 0 ([(Tm.mk 12 [43] 0 [(Tm.mk 2 [120] 0 [] : Tm), (Tm.mk 1 [] 1 [] : Tm)])]) : Tm) : Df)]) 0 (RowR.one rfl (⟨_, rfl, rt_of_vt (cs := [_, _, _, _]) ⟨_, _, rfl, (KS.up hsHq32 le40)⟩⟩)) (fun _ l cs y _ hr => RDf.mono l hr)
     refine au [2,7,8,6,7,5,2,6] h ?_; intro a w h
     have l_Hq32_Hq37 : LE Hq32 Hq37 := le40.trans leHq37
     refine bg2 7 11 true true h ?_ ?_
     ·refine clG bod20 (Elab_ok exE3 _ E Hq37 _ ⟨none, 0, none, 0, (some ⟨g37, 0, none⟩), 1, A40_0, c40_0, rfl, RS.nil _ _ _, RS.nil _ _ _, hsHq37, (KS.up hk40_0 leHq37)⟩ (hL.up le_) mildE3) h (fun r42 H42 L42 a w le42 R h => ?_)
      obtain ⟨_, rfl, ⟨A42_0, c42_0, A42_1, c42_1, A42_2, c42_2, A42_3, c42_3, rfl, hk42_0, hk42_1, hk42_2, hk42_3⟩, rfl⟩ := R
      rw [exE3_e.1] at h
      refine au [2,7,8,8,0,0,2,6,8,9,4,7,2,6,8,10,4,7,2,6] h ?_; intro a w h
      have l_Hq32_H42 : LE Hq32 H42 := (le40.trans leHq37).trans le42
      refine bg1 11 true h ?_
      refine al zr59 h fun g8 a w h => ?_
      refine br0 ?_
      refine bf1 12 ?_
      refine au [5,5,2,7,8,13,0,6,2,6] h ?_; intro a w h
      refine en (by kernel_rfl) ?_
      refine thN ?_
      exact ⟨H42, g8, A42_0, c42_0, A42_1, c42_1, A42_2, c42_2, A42_3, c42_3, l_Hq32_H42, hk42_0, hk42_1, hk42_2, hk42_3, h.to 0 _⟩
     ·refine al zr59 h fun g8 a w h => ?_
      refine br0 ?_
      refine bg1 7 true h ?_
      refine clG bod20 (Elab_ok exE3 _ E Hq37 _ ⟨none, 0, none, 0, (some ⟨g37, 0, none⟩), 1, A40_0, c40_0, rfl, RS.nil _ _ _, RS.nil _ _ _, hsHq37, (KS.up hk40_0 leHq37)⟩ (hL.up le_) mildE3) h (fun r42 H42 L42 a w le42 R h => ?_)
      obtain ⟨_, rfl, ⟨A42_0, c42_0, A42_1, c42_1, A42_2, c42_2, A42_3, c42_3, rfl, hk42_0, hk42_1, hk42_2, hk42_3⟩, rfl⟩ := R
      rw [exE3_e.1] at h
      refine au [2,7,8,8,0,0,2,6,8,9,4,7,2,6,8,10,4,7,2,6] h ?_; intro a w h
      have l_Hq32_H42 : LE Hq32 H42 := (le40.trans leHq37).trans le42
      refine bf1 12 ?_
      refine au [5,5,2,7,8,13,0,6,2,6] h ?_; intro a w h
      refine en (by kernel_rfl) ?_
      refine thN ?_
      exact ⟨H42, g8, A42_0, c42_0, A42_1, c42_1, A42_2, c42_2, A42_3, c42_3, l_Hq32_H42, hk42_0, hk42_1, hk42_2, hk42_3, h.to 0 _⟩
    ·refine al zr59 h fun g8 a w h => ?_
     refine br0 ?_
     refine bg1 2 true h ?_
     refine bsl bs23 h fun g37 a w h => ?_
     obtain ⟨Hq37, leHq37, h, hsHq37⟩ := h.fsl (R := RDf) (sz := 5) (ys := [(Df.mk [102] (Tm.mk 3 [120] 0 ([(Tm.mk 12 [43] 0 [(Tm.mk 2 [120] 0 [] : Tm), (Tm.mk 1 [] 1 [] : Tm)])]) : Tm) : Df)]) 0 (RowR.one rfl (⟨_, rfl, rt_of_vt (cs := [_, _, _, _]) ⟨_, _, rfl, (KS.up hsHq32 le40)⟩⟩)) (fun _ l cs y _ hr => RDf.mono l hr)
     refine au [2,7,8,6,7,5,2,6] h ?_; intro a w h
     refine bg1 7 true h ?_
     refine clG bod20 (Elab_ok exE3 _ E Hq37 _ ⟨none, 0, none, 0, (some ⟨g37, 0, none⟩), 1, A40_0, c40_0, rfl, RS.nil _ _ _, RS.nil _ _ _, hsHq37, (KS.up hk40_0 leHq37)⟩ (hL.up le_) mildE3) h (fun r42 H42 L42 a w le42 R h => ?_)
     obtain ⟨_, rfl, ⟨A42_0, c42_0, A42_1, c42_1, A42_2, c42_2, A42_3, c42_3, rfl, hk42_0, hk42_1, hk42_2, hk42_3⟩, rfl⟩ := R
     rw [exE3_e.1] at h
     refine au [2,7,8,8,0,0,2,6,8,9,4,7,2,6,8,10,4,7,2,6] h ?_; intro a w h
     have l_Hq32_H42 : LE Hq32 H42 := (le40.trans leHq37).trans le42
     refine bf1 12 ?_
     refine au [5,5,2,7,8,13,0,6,2,6] h ?_; intro a w h
     refine en (by kernel_rfl) ?_
     refine thN ?_
     exact ⟨H42, g8, A42_0, c42_0, A42_1, c42_1, A42_2, c42_2, A42_3, c42_3, l_Hq32_H42, hk42_0, hk42_1, hk42_2, hk42_3, h.to 0 _⟩
   ·refine al zr59 h fun g8 a w h => ?_
    refine br0 ?_
    refine bg2 2 5 true true h ?_ ?_
    ·refine bsl bs23 h fun g37 a w h => ?_
     obtain ⟨Hq37, leHq37, h, hsHq37⟩ := h.fsl (R := RDf) (sz := 5) (ys := [(Df.mk [102] (Tm.mk 3 [120] 0 ([(Tm.mk 12 [43] 0 [(Tm.mk 2 [120] 0 [] : Tm), (Tm.mk 1 [] 1 [] : Tm)])]) : Tm) : Df)]) 0 (RowR.one rfl (⟨_, rfl, rt_of_vt (cs := [_, _, _, _]) ⟨_, _, rfl, hsHq32⟩⟩)) (fun _ l cs y _ hr => RDf.mono l hr)
     refine br0 ?_
     refine bg1 5 true h ?_
     refine clG bod28 (two0_ok 4 [] (Tm.mk 2 [102] 0 [] : Tm) (Tm.mk 1 [] 1 [] : Tm) _ _ E Hq37 _ ⟨none, 0, rfl, RS.nil _ _ _⟩ ⟨none, 0, rfl, RS.nil _ _ _⟩) h (fun r40 H40 L40 a w le40 R h => ?_)
     obtain ⟨⟨A40_0, c40_0, rfl, hk40_0⟩, rfl⟩ := R
     refine au [2,7,8,6,7,5,2,6] h ?_; intro a w h
     refine bg1 7 true h ?_
     refine clG bod20 (Elab_ok exE3 _ E H40 _ ⟨none, 0, none, 0, (some ⟨g37, 0, none⟩), 1, A40_0, c40_0, rfl, RS.nil _ _ _, RS.nil _ _ _, (FS.up hsHq37 le40), hk40_0⟩ (hL.up le_) mildE3) h (fun r42 H42 L42 a w le42 R h => ?_)
     obtain ⟨_, rfl, ⟨A42_0, c42_0, A42_1, c42_1, A42_2, c42_2, A42_3, c42_3, rfl, hk42_0, hk42_1, hk42_2, hk42_3⟩, rfl⟩ := R
     rw [exE3_e.1] at h
     refine au [2,7,8,8,0,0,2,6,8,9,4,7,2,6,8,10,4,7,2,6] h ?_; intro a w h
     have l_Hq32_H42 : LE Hq32 H42 := (leHq37.trans le40).trans le42
     refine bf1 12 ?_
     refine au [5,5,2,7,8,13,0,6,2,6] h ?_; intro a w h
     refine en (by kernel_rfl) ?_
     refine thN ?_
     exact ⟨H42, g8, A42_0, c42_0, A42_1, c42_1, A42_2, c42_2, A42_3, c42_3, l_Hq32_H42, hk42_0, hk42_1, hk42_2, hk42_3, h.to 0 _⟩
    ·refine clG bod28 (two0_ok 4 [] (Tm.mk 2 [102] 0 [] : Tm) (Tm.mk 1 [] 1 [] : Tm) _ _ E Hq32 _ ⟨none, 0, rfl, RS.nil _ _ _⟩ ⟨none, 0, rfl, RS.nil _ _ _⟩) h (fun r40 H40 L40 a w le40 R h => ?_)
     obtain ⟨⟨A40_0, c40_0, rfl, hk40_0⟩, rfl⟩ := R
     refine br0 ?_
     refine bg1 2 true h ?_
     refine bsl bs23 h fun g37 a w h => ?_
     obtain ⟨Hq37, leHq37, h, hsHq37⟩ := h.fsl (R := RDf) (sz := 5) (ys := [(Df.mk [102] (Tm.mk 3 [120] 0 ([(Tm.mk 12 [43] 0 [(Tm.mk 2 [120] 0 [] : Tm), (Tm.mk 1 [] 1 [] : Tm)])]) : Tm) : Df)]) 0 (RowR.one rfl (⟨_, rfl, rt_of_vt (cs := [_, _, _, _]) ⟨_, _, rfl, (KS.up hsHq32 le40)⟩⟩)) (fun _ l cs y _ hr => RDf.mono l hr)
     refine au [2,7,8,6,7,5,2,6] h ?_; intro a w h
     refine bg1 7 true h ?_
     refine clG bod20 (Elab_ok exE3 _ E Hq37 _ ⟨none, 0, none, 0, (some ⟨g37, 0, none⟩), 1, A40_0, c40_0, rfl, RS.nil _ _ _, RS.nil _ _ _, hsHq37, (KS.up hk40_0 leHq37)⟩ (hL.up le_) mildE3) h (fun r42 H42 L42 a w le42 R h => ?_)
     obtain ⟨_, rfl, ⟨A42_0, c42_0, A42_1, c42_1, A42_2, c42_2, A42_3, c42_3, rfl, hk42_0, hk42_1, hk42_2, hk42_3⟩, rfl⟩ := R
     rw [exE3_e.1] at h
     refine au [2,7,8,8,0,0,2,6,8,9,4,7,2,6,8,10,4,7,2,6] h ?_; intro a w h
     have l_Hq32_H42 : LE Hq32 H42 := (le40.trans leHq37).trans le42
     refine bf1 12 ?_
     refine au [5,5,2,7,8,13,0,6,2,6] h ?_; intro a w h
     refine en (by kernel_rfl) ?_
     refine thN ?_
     exact ⟨H42, g8, A42_0, c42_0, A42_1, c42_1, A42_2, c42_2, A42_3, c42_3, l_Hq32_H42, hk42_0, hk42_1, hk42_2, hk42_3, h.to 0 _⟩
  ·rintro a w ⟨HJ65, g8, Aj65_0, cj65_0, Aj65_1, cj65_1, Aj65_2, cj65_2, Aj65_3, cj65_3, leHJ65, hj65_0, hj65_1, hj65_2, hj65_3, h⟩
   refine au [1,2,3,7,3,7] h ?_; intro a w h
   refine cl bod28 (two0_ok 4 [] (Tm.mk 2 [120] 0 [] : Tm) (Tm.mk 2 [120] 0 [] : Tm) _ _ E HJ65 _ ⟨none, 0, rfl, RS.nil _ _ _⟩ ⟨none, 0, rfl, RS.nil _ _ _⟩) h (fun r47 H47 L47 a w le47 R h => ?_)
   obtain ⟨⟨A47_0, c47_0, rfl, hk47_0⟩, rfl⟩ := R
   refine bsl bs24 h fun g48 a w h => ?_
   obtain ⟨Hq48, leHq48, h, hsHq48⟩ := h.fsl (R := RT) (sz := 4) (ys := [(Tm.mk 4 [] 0 [(Tm.mk 2 [120] 0 [] : Tm), (Tm.mk 2 [120] 0 [] : Tm)])]) 0 (RowR.one rfl (rt_of_vt (cs := [_, _, _, _]) ⟨_, _, rfl, hk47_0⟩)) (fun _ l cs y _ hr => RT.mono l y hr)
   refine bdl lay26 zr26 h fun a w h => ?_
   refine al zr26 h fun g10 a w h => ?_
   refine au [5,5,0,2,3,3] h ?_; intro a w h
   refine ldW 6 tN26 h fun a w h => ?_
   refine cl bod28 (two0_ok 13 [] (Tm.mk 3 [120] 0 ([(Tm.mk 4 [] 0 [(Tm.mk 2 [120] 0 [] : Tm), (Tm.mk 2 [120] 0 [] : Tm)])]) : Tm) (Tm.mk 1 [] 1 [] : Tm) _ _ E Hq48 _ ⟨(some ⟨g48, 0, none⟩), 1, rfl, hsHq48⟩ ⟨none, 0, rfl, RS.nil _ _ _⟩) h (fun r53 H53 L53 a w le53 R h => ?_)
   obtain ⟨⟨A53_0, c53_0, rfl, hk53_0⟩, rfl⟩ := R
   refine bdl lay28 zr28 h fun a w h => ?_
   refine cl bod20 (Elab_ok exE4 _ E H53 _ ⟨none, 0, none, 0, none, 0, A53_0, c53_0, rfl, RS.nil _ _ _, RS.nil _ _ _, RS.nil _ _ _, hk53_0⟩ (hL.up le_) mildE4) h (fun r55 H55 L55 a w le55 R h => ?_)
   obtain ⟨_, rfl, ⟨A55_0, c55_0, A55_1, c55_1, A55_2, c55_2, A55_3, c55_3, rfl, hk55_0, hk55_1, hk55_2, hk55_3⟩, rfl⟩ := R
   rw [exE4_e] at h
   refine au [0,0,4,7,4,7] h ?_; intro a w h
   refine al zr59 h fun g11 a w h => ?_
   refine au [5,5,0,6,0,3,0,4] h ?_; intro a w h
   refine sqc (fun a w => S E H55 133 [] [(0, .bool false), (4, .int .i64 8), (6, .int .i64 5), (8, .pointer (some ⟨g8, 0, none⟩)), (9, .int .i64 0), (12, .int .i64 8), (68, .bool (((exE3.elb.1.body.kids.length : Int) : Int) != 2))] (.obj g11 (.cells #[.slice A55_0 exE4.elb.1.defs.length c55_0, .int .i64 exE4.elb.1.body.kind, str exE4.elb.1.body.name, .int .i64 exE4.elb.1.body.n, .int .i64 exE4.elb.1.body.s.kind, .int .i64 exE4.elb.1.body.s.n, .slice A55_1 exE4.elb.1.body.s.kids.length c55_1, .int .i64 exE4.elb.1.body.b.kind, .int .i64 exE4.elb.1.body.b.n, .slice A55_2 exE4.elb.1.body.b.kids.length c55_2, .slice A55_3 exE4.elb.1.body.kids.length c55_3] 59 (0, 0)) :: .obj g10 (.cells #[.int .i64 3, str [120], .int .i64 0, .slice (some ⟨g48, 0, none⟩) ([(Tm.mk 4 [] 0 [(Tm.mk 2 [120] 0 [] : Tm), (Tm.mk 2 [120] 0 [] : Tm)])]).length 1] 26 (0, 0)) :: .obj g8 (.cells #[.slice Aj65_0 exE3.elb.1.defs.length cj65_0, .int .i64 exE3.elb.1.body.kind, str exE3.elb.1.body.name, .int .i64 exE3.elb.1.body.n, .int .i64 exE3.elb.1.body.s.kind, .int .i64 exE3.elb.1.body.s.n, .slice Aj65_1 exE3.elb.1.body.s.kids.length cj65_1, .int .i64 exE3.elb.1.body.b.kind, .int .i64 exE3.elb.1.body.b.n, .slice Aj65_2 exE3.elb.1.body.b.kids.length cj65_2, .slice Aj65_3 exE3.elb.1.body.kids.length cj65_3] 59 (0, 0)) :: .obj g7 (.cells #[.int .i64 3, str [120], .int .i64 0, .slice (some ⟨g32, 0, none⟩) ([(Tm.mk 12 [43] 0 [(Tm.mk 2 [120] 0 [] : Tm), (Tm.mk 1 [] 1 [] : Tm)])]).length 1] 26 (0, 0)) :: .obj g5 (.cells #[.slice A26_0 exE2.elb.1.defs.length c26_0, .int .i64 exE2.elb.1.body.kind, str exE2.elb.1.body.name, .int .i64 exE2.elb.1.body.n, .int .i64 exE2.elb.1.body.s.kind, .int .i64 exE2.elb.1.body.s.n, .slice A26_1 exE2.elb.1.body.s.kids.length c26_1, .int .i64 exE2.elb.1.body.b.kind, .int .i64 exE2.elb.1.body.b.n, .slice A26_2 exE2.elb.1.body.b.kids.length c26_2, .slice A26_3 exE2.elb.1.body.kids.length c26_3] 59 (0, 0)) :: .obj g3 (.cells #[.slice A20_0 exE1.elb.1.defs.length c20_0, .int .i64 exE1.elb.1.body.kind, str exE1.elb.1.body.name, .int .i64 exE1.elb.1.body.n, .int .i64 exE1.elb.1.body.s.kind, .int .i64 exE1.elb.1.body.s.n, .slice A20_1 exE1.elb.1.body.s.kids.length c20_1, .int .i64 exE1.elb.1.body.b.kind, .int .i64 exE1.elb.1.body.b.n, .slice A20_2 exE1.elb.1.body.b.kids.length c20_2, .slice A20_3 exE1.elb.1.body.kids.length c20_3] 59 (0, 0)) :: .obj g2 (.cells #[.int .i64 2, str [120], .int .i64 0, .slice none 0 0] 26 (0, 0)) :: .obj g1 (.cells #[.int .i64 1, str [], .int .i64 1, .slice none 0 0] 26 (0, 0)) :: L) a w) ?_ ?_
   ·refine au [0,5,0,7,3,0,6,0,6,3] h ?_; intro a w h
    refine h.spl (fun c61 h => ?_) (fun c61 h => ?_)
    ·have d61 : exE3.elb.1.defs.length ≠ 1 := cd_ c61
     rw [hx1] at c61; simp at c61
    ·have d61 : exE3.elb.1.defs.length = 1 := cd_ c61
     refine au [0,0,0,7,0,7,3,0,6,0,6,3,5,0,0,3] h ?_; intro a w h
     exact h.to 0 _
   ·rintro a w h
    refine cdB h (fun c68 => ?_) (fun c68 => ?_)
    ·have d68 : exE3.elb.1.body.kids.length ≠ 2 := cd_ c68
     rw [hx2] at c68; simp at c68
    ·have d68 : exE3.elb.1.body.kids.length = 2 := cd_ c68
     refine au [1,8,1,0] h ?_
     refine sqc (fun a w => S E H55 133 [] [(0, .bool (exE3.elb.1.body.same exE3.elb.1.body))] (.obj g11 (.cells #[.slice A55_0 exE4.elb.1.defs.length c55_0, .int .i64 exE4.elb.1.body.kind, str exE4.elb.1.body.name, .int .i64 exE4.elb.1.body.n, .int .i64 exE4.elb.1.body.s.kind, .int .i64 exE4.elb.1.body.s.n, .slice A55_1 exE4.elb.1.body.s.kids.length c55_1, .int .i64 exE4.elb.1.body.b.kind, .int .i64 exE4.elb.1.body.b.n, .slice A55_2 exE4.elb.1.body.b.kids.length c55_2, .slice A55_3 exE4.elb.1.body.kids.length c55_3] 59 (0, 0)) :: .obj g10 (.cells #[.int .i64 3, str [120], .int .i64 0, .slice (some ⟨g48, 0, none⟩) ([(Tm.mk 4 [] 0 [(Tm.mk 2 [120] 0 [] : Tm), (Tm.mk 2 [120] 0 [] : Tm)])]).length 1] 26 (0, 0)) :: .obj g8 (.cells #[.slice Aj65_0 exE3.elb.1.defs.length cj65_0, .int .i64 exE3.elb.1.body.kind, str exE3.elb.1.body.name, .int .i64 exE3.elb.1.body.n, .int .i64 exE3.elb.1.body.s.kind, .int .i64 exE3.elb.1.body.s.n, .slice Aj65_1 exE3.elb.1.body.s.kids.length cj65_1, .int .i64 exE3.elb.1.body.b.kind, .int .i64 exE3.elb.1.body.b.n, .slice Aj65_2 exE3.elb.1.body.b.kids.length cj65_2, .slice Aj65_3 exE3.elb.1.body.kids.length cj65_3] 59 (0, 0)) :: .obj g7 (.cells #[.int .i64 3, str [120], .int .i64 0, .slice (some ⟨g32, 0, none⟩) ([(Tm.mk 12 [43] 0 [(Tm.mk 2 [120] 0 [] : Tm), (Tm.mk 1 [] 1 [] : Tm)])]).length 1] 26 (0, 0)) :: .obj g5 (.cells #[.slice A26_0 exE2.elb.1.defs.length c26_0, .int .i64 exE2.elb.1.body.kind, str exE2.elb.1.body.name, .int .i64 exE2.elb.1.body.n, .int .i64 exE2.elb.1.body.s.kind, .int .i64 exE2.elb.1.body.s.n, .slice A26_1 exE2.elb.1.body.s.kids.length c26_1, .int .i64 exE2.elb.1.body.b.kind, .int .i64 exE2.elb.1.body.b.n, .slice A26_2 exE2.elb.1.body.b.kids.length c26_2, .slice A26_3 exE2.elb.1.body.kids.length c26_3] 59 (0, 0)) :: .obj g3 (.cells #[.slice A20_0 exE1.elb.1.defs.length c20_0, .int .i64 exE1.elb.1.body.kind, str exE1.elb.1.body.name, .int .i64 exE1.elb.1.body.n, .int .i64 exE1.elb.1.body.s.kind, .int .i64 exE1.elb.1.body.s.n, .slice A20_1 exE1.elb.1.body.s.kids.length c20_1, .int .i64 exE1.elb.1.body.b.kind, .int .i64 exE1.elb.1.body.b.n, .slice A20_2 exE1.elb.1.body.b.kids.length c20_2, .slice A20_3 exE1.elb.1.body.kids.length c20_3] 59 (0, 0)) :: .obj g2 (.cells #[.int .i64 2, str [120], .int .i64 0, .slice none 0 0] 26 (0, 0)) :: .obj g1 (.cells #[.int .i64 1, str [], .int .i64 1, .slice none 0 0] 26 (0, 0)) :: L) a w) ?_ ?_
     ·refine au [0,5,0,0,6,2] h ?_; intro a w h
      refine h.spl (fun c70 h => ?_) (fun c70 h => ?_)
      ·have d70 : 8 = 8 := cd_ c70
       refine au [0,0,0,0,6,2] h ?_; intro a w h
       refine h.spl (fun c73 h => ?_) (fun c73 h => ?_)
       ·have d73 : 5 = 5 := cd_ c73
        refine au [4,8,0,0,0,0,6,2] h ?_; intro a w h
        refine h.spl (fun c77 h => ?_) (fun c77 h => ?_)
        ·have d77 : 0 = 0 := cd_ c77
         refine au [4,8,0,0,0,0,6,2] h ?_; intro a w h
         refine h.spl (fun c81 h => ?_) (fun c81 h => ?_)
         ·have d81 : 8 = 8 := cd_ c81
          refine au [4,8,0,0,0,7,3,0] h ?_; intro a w h
          have l_HJ65_H55 : LE HJ65 H55 := ((le47.trans leHq48).trans le53).trans le55
          have hj86 : 0 < exE3.elb.1.defs.length := by first | assumption | omega | (simp; done) | (simp; omega)
          obtain ⟨g86, o86, A86_0, c86_0, A86_1, c86_1, A86_2, c86_2, e86, hv86, hc86⟩ := TdS.get (TdS.up hj65_0 l_HJ65_H55) hj86
          obtain ⟨_, _, _, _, _, _, q86, hk86_0, hk86_1, hk86_2⟩ := hv86; cases q86
          refine iaE sli57 sz74 rfl hj86 e86 h fun a w h => ?_
          refine fa fl74_1 (r := o86 + 0 * 11 + 1) h fun a w h => ?_
          refine fa fl34_3 (r := o86 + 0 * 11 + 4) h fun a w h => ?_
          refine ldHN (l := [_, _, _]) tN31 rfl (sbL 4 3 hc86) h fun a w h => ?_
          refine cl bod26 (Text_ok exE3.elb.1.defs[0].t.s _ E H55 _ (hL.up le_) ⟨A86_0, c86_0, rfl, hk86_0⟩ (by rw [exE3_x.s]; decide) (fun _ x hx => by rw [exE3_x.s] at hx; simp [fu, wh, Sh.hl, hlL] at hx)) h (fun r90 H90 L90 a w le90 R h => ?_)
          obtain ⟨rfl, rfl, rfl⟩ := R
          refine eqb h fun a w h => ?_
          refine h.spl (fun c91 h => ?_) (fun c91 h => ?_)
          ·have d91 : (exE3.elb.1.defs[0].t.s.text) = [40, 105, 110, 116, 32, 45, 62, 32, 105, 110, 116, 41] := cd_ c91
           refine au [4,8,0,0,0,7,3,0] h ?_; intro a w h
           have hj96 : 0 < exE3.elb.1.defs.length := by first | assumption | omega | (simp; done) | (simp; omega)
           obtain ⟨g96, o96, A96_0, c96_0, A96_1, c96_1, A96_2, c96_2, e96, hv96, hc96⟩ := TdS.get (TdS.up hj65_0 l_HJ65_H55) hj96
           obtain ⟨_, _, _, _, _, _, q96, hk96_0, hk96_1, hk96_2⟩ := hv96; cases q96
           refine iaE sli57 sz74 rfl hj96 e96 h fun a w h => ?_
           refine fa fl74_1 (r := o96 + 0 * 11 + 1) h fun a w h => ?_
           refine fa fl34_4 (r := o96 + 0 * 11 + 7) h fun a w h => ?_
           refine fa fl31_0 (r := o96 + 0 * 11 + 7) h fun a w h => ?_
           refine ldH t1_3 (hc96 7 _ rfl) h fun a w h => ?_
           refine eqi h fun a w h => ?_
           refine h.spl (fun c101 h => ?_) (fun c101 h => ?_)
           ·have d101 : exE3.elb.1.defs[0].t.b.kind = 1 := cd_ c101
            refine au [4,8,0,0,0,7,0,7,0,7,3,0,6,2] h ?_; intro a w h
            refine h.spl (fun c108 h => ?_) (fun c108 h => ?_)
            ·have d108 : exE3.elb.1.body.s.kind = 1 := cd_ c108
             refine au [4,8,0,0,0,7,3,0] h ?_; intro a w h
             have hj113 : 0 < exE3.elb.1.defs.length := by first | assumption | omega | (simp; done) | (simp; omega)
             obtain ⟨g113, o113, A113_0, c113_0, A113_1, c113_1, A113_2, c113_2, e113, hv113, hc113⟩ := TdS.get (TdS.up hj65_0 l_HJ65_H55) hj113
             obtain ⟨_, _, _, _, _, _, q113, hk113_0, hk113_1, hk113_2⟩ := hv113; cases q113
             refine iaE sli57 sz74 rfl hj113 e113 h fun a w h => ?_
             refine fa fl74_1 (r := o113 + 0 * 11 + 1) h fun a w h => ?_
             refine fa fl34_1 (r := o113 + 0 * 11 + 2) h fun a w h => ?_
             refine ldH t1_9 (hc113 2 _ rfl) h fun a w h => ?_
             refine eqb h fun a w h => ?_
             refine h.spl (fun c117 h => ?_) (fun c117 h => ?_)
             ·have d117 : exE3.elb.1.defs[0].t.name = [49] := cd_ c117
              refine au [4,8,0,0,0,7] h ?_; intro a w h
              refine ldN (l := [_, _, _, _, _, _, _, _, _, _]) 2 tN34 h fun a w h => ?_
              refine cl bod16 (Bare_ok exE3.elb.1.body _ E H55 _ ⟨Aj65_1, cj65_1, Aj65_2, cj65_2, Aj65_3, cj65_3, rfl, (HS.up hj65_1 l_HJ65_H55), (HS.up hj65_2 l_HJ65_H55), (TrS.up hj65_3 l_HJ65_H55)⟩ (by omega)) h (fun r122 H122 L122 a w le122 R h => ?_)
              obtain ⟨⟨A122_0, c122_0, rfl, hk122_0⟩, rfl⟩ := R
              refine fld1 (r := 0) (by kernel_rfl) h fun a w h => ?_
              refine eqi h fun a w h => ?_
              refine h.spl (fun c124 h => ?_) (fun c124 h => ?_)
              ·have d124 : (exE3.elb.1.body.bare).kind = 4 := cd_ c124
               refine au [4,8,0,0,0,7] h ?_; intro a w h
               refine ldN (l := [_, _, _, _, _, _, _, _, _, _]) 2 tN34 h fun a w h => ?_
               refine fa fl59_1 (r := 1) h fun a w h => ?_
               refine ldN (l := [_, _, _, _, _, _, _, _, _, _]) 2 tN34 h fun a w h => ?_
               have l_HJ65_H122 : LE HJ65 H122 := (((le47.trans leHq48).trans le53).trans le55).trans le122
               refine cl bod11 (SameTr_ok exE3.elb.1.body exE3.elb.1.body _ _ E H122 _ ⟨Aj65_1, cj65_1, Aj65_2, cj65_2, Aj65_3, cj65_3, rfl, (HS.up hj65_1 l_HJ65_H122), (HS.up hj65_2 l_HJ65_H122), (TrS.up hj65_3 l_HJ65_H122)⟩ ⟨Aj65_1, cj65_1, Aj65_2, cj65_2, Aj65_3, cj65_3, rfl, (HS.up hj65_1 l_HJ65_H122), (HS.up hj65_2 l_HJ65_H122), (TrS.up hj65_3 l_HJ65_H122)⟩ (by omega) (by omega)) h (fun r131 H131 L131 a w le131 R h => ?_)
               obtain ⟨rfl, rfl, rfl⟩ := R
               refine au [4,8,0,6,0,3] h ?_; intro a w h
               have h := h.less le122
               exact h.to 0 _
              ·have d124 : (exE3.elb.1.body.bare).kind ≠ 4 := cd_ c124
               rw [exE3_x.bare] at c124; simp at c124
             ·have d117 : exE3.elb.1.defs[0].t.name ≠ [49] := cd_ c117
              rw [exE3_x.nm] at c117; simp at c117
            ·have d108 : exE3.elb.1.body.s.kind ≠ 1 := cd_ c108
             rw [exE3_x.bs] at c108; simp [wh, Sh.kind] at c108
           ·have d101 : exE3.elb.1.defs[0].t.b.kind ≠ 1 := cd_ c101
            rw [exE3_x.b] at c101; simp [wh, Sh.kind] at c101
          ·have d91 : (exE3.elb.1.defs[0].t.s.text) ≠ [40, 105, 110, 116, 32, 45, 62, 32, 105, 110, 116, 41] := cd_ c91
           rw [exE3_x.s, tx3] at c91; simp at c91
         ·have d81 : 8 ≠ 8 := cd_ c81
          simp at c81
        ·have d77 : 0 ≠ 0 := cd_ c77
         simp at c77
       ·have d73 : 5 ≠ 5 := cd_ c73
        simp at c73
      ·have d70 : 8 ≠ 8 := cd_ c70
       simp at c70
     ·rintro a w h
      refine ret_ ?_
      have l_H_H55 : LE H H55 := ((((((((le18.trans le20).trans le26).trans le31).trans leHq32).trans leHJ65).trans le47).trans leHq48).trans le53).trans le55
      refine fin1 0 8 h l_H_H55 ?_
      exact ⟨by rw [(tr_same_iff _ _).2 rfl], rfl⟩
theorem take_eq_succ {ks ms : List Tm} {k : Nat} (h : k < ks.length) (h' : k < ms.length) (e : ks.take k = ms.take k) (s : ks[k].same ms[k] = true) : ks.take (k + 1) = ms.take (k + 1) := by
  rw [List.take_succ_eq_append_getElem h, List.take_succ_eq_append_getElem h', e, (same_iff _ _).1 s]
theorem take_eq_all {ks ms : List Tm} {k : Nat} (hl : ks.length = ms.length) (hk : k = ks.length) (e : ks.take k = ms.take k) : sameL ks ms = true := by
  rw [sameL_iff]; subst hk; rw [List.take_length, hl, List.take_length] at e; exact e
theorem sameL_len {ks ms : List Tm} (h : ks.length ≠ ms.length) : sameL ks ms = false := by
  rw [Bool.eq_false_iff, ne_eq, sameL_iff]; rintro rfl; exact h rfl
theorem sameL_at {ks ms : List Tm} {k : Nat} (h : k < ks.length) (h' : k < ms.length) (s : ks[k].same ms[k] = false ∨ ks[k].same ms[k] = false) : sameL ks ms = false := by
  rw [Bool.eq_false_iff, ne_eq, sameL_iff]; rintro rfl
  have := (same_iff ks[k] ks[k]).2 rfl
  rcases s with s | s <;> rw [this] at s <;> cases s
theorem EqualFunc_ok (ks ms : List Tm) (A A' : Option Addr) (c c' : Nat) (E : World) (H : GH) (L : List It) (hks : KS H A c ks) (hms : KS H A' c' ms) (hb : ks.length < 1000000000000)
    (hf : ∀ x ∈ ks, ∀ y ∈ ms, ∀ vx vy, VT H vx x → VT H vy y → ∀ L, Ok Tryz.prog 30 #[vx, vy] E H L fun r H' L' => r = .bool (x.same y) ∧ H = H' ∧ L = L') :
    Ok Tryz.prog 67 #[.slice A ks.length c, .slice A' ms.length c', .func (.func 30) #[] #[]] E H L fun r H' L' => r = .bool (sameL ks ms) ∧ H = H' ∧ L = L' := by
  refine enter (N := 32) [(0, _), (1, _), (2, _)] Tryz.func67 rfl rfl rfl rfl fun a w h => ?_
  refine au [1,2,0,6,0,3,0,4,1,2,0,0,6,0,0,0,6,0,6,3,0,3] h ?_; intro a w h
  refine cdB h (fun c14 => ?_) (fun c14 => ?_)
  ·have hfact : sameL ks ms = false := sameL_len (by simp at c14; omega)
   refine au [1,2,0,6,0,3,1,3,1,4] h ?_; intro a w h
   refine fin1 6 0 h LE.rfl ?_
   exact ⟨by rw [hfact], rfl, rfl⟩
  ·have hlen : ks.length = ms.length := by simp at c14; omega
   refine au [1,8,1,0,0,4,1,2,0,0,6,0,0,0,0,3,1,5] h ?_; intro a w h
   refine lp (β := Nat) (fun k a w => (k ≤ ks.length ∧ ks.take k = ms.take k) ∧ S E H 32 [] [(17, .int .i64 (k : Int)), (15, .slice A ks.length c), (16, .int .i64 (ks.length : Int)), (1, .slice A' ms.length c'), (2, .func (.func 30) #[] #[])] (L) a w)
    (fun k => ks.length - k) 0 ⟨⟨Nat.zero_le _, rfl⟩, h.to 0 _⟩ ?_
   rintro k a w ⟨pre, h⟩
   refine au [1,2,6,4,0,3,0,4] h ?_; intro a w h
   refine cdB h (fun c18 => ?_) (fun c18 => ?_)
   ·have c18 : k < ks.length := by simpa using c18
    have c18m : k < ms.length := by omega
    obtain ⟨g, off, A2, c2, rfl, hx, hcx⟩ := KS.get hks c18
    obtain ⟨g', off', A3, c3, rfl, hy, hcy⟩ := KS.get hms c18m
    refine au [1,8,1,0,0,4,1,5,1,2,0,0] h ?_; intro a w h
    refine ia sli24 sz26 rfl c18 h fun a w h => ?_
    refine ldHN tN26 rfl hcx h fun a w h => ?_
    refine al zr26 h fun g8 a w h => ?_
    refine au [0,6,5,5,0,2,0,0,0,0] h ?_; intro a w h
    refine ia sli24 sz26 rfl c18m h fun a w h => ?_
    refine ldHN tN26 rfl hcy h fun a w h => ?_
    refine al zr26 h fun g9 a w h => ?_
    refine au [5,5,0,2,0,0,3,4,3,3] h ?_; intro a w h
    refine cl bod30 (hf _ (List.getElem_mem c18) _ (List.getElem_mem c18m) _ _ hx hy _) h fun r H1 L1 a w le R h => ?_
    obtain ⟨rfl, rfl, rfl⟩ := R
    refine au [7,1,0,3] h ?_; intro a w h
    refine cdB h (fun c30 => ?_) (fun c30 => ?_)
    ·have hfact : sameL ks ms = false := sameL_at c18 c18m (by simpa using c30)
     refine au [1,2,0,6,0,3,1,3,1,6,1,4,1,4,1,6,1,4] h ?_; intro a w h
     refine fin1 6 2 h LE.rfl ?_
     exact ⟨by rw [hfact], rfl, rfl⟩
    ·have c30 : ks[k].same ms[k] = true := by simpa using c30
     refine au [1,8,1,7,1,0,0,5] h ?_
     refine inc ?_ h fun a w h => ?_
     ·omega
     refine au [0,0,0,3] h ?_; intro a w h
     exact ⟨(k + 1), ⟨⟨by omega, take_eq_succ c18 c18m pre.2 c30⟩, h.to 2 _⟩, by show _ - (k + 1) < _ - k; omega⟩
   ·have hk : k = ks.length := by simp at c18; omega
    have hfact : sameL ks ms = true := take_eq_all hlen hk pre.2
    refine au [2,5,2,2,2,2,2,3,1,0,1,2,0,6,0,3,1,3] h ?_; intro a w h
    refine fin1 6 0 h LE.rfl ?_
    exact ⟨by rw [hfact], rfl, rfl⟩
theorem Same_ok : ∀ (t u : Tm) (v v' : Value) (E : World) (H : GH) (L : List It), VT H v t → VT H v' u → t.size < 1000000000000 →
    Ok Tryz.prog 30 #[v, v'] E H L fun r H' L' => r = .bool (t.same u) ∧ H = H' ∧ L = L' := by
  intro t
  induction t using Tm.ind with
  | h kd nm nn ks ih =>
  intro u v v' E H L hv hv' hb
  obtain ⟨kd', nm', nn', ms⟩ := u
  obtain ⟨A, c, rfl, hks⟩ := hv.mk
  obtain ⟨A', c', rfl, hms⟩ := hv'.mk
  simp only [Tm.size] at hb
  have hlen := length_le_sizeL ks
  refine enter (N := 31) [(0, _), (1, _)] Tryz.func30 rfl rfl rfl rfl fun a w h => ?_
  refine au [1,2] h ?_
  refine bxA h fun g2 a w h => ?_
  refine bxA h fun g3 a w h => ?_
  refine au [0,6,0,2,0,7,2,8,0,7,0,8,6,2] h ?_; intro a w h
  refine h.spl (fun c9 h => ?_) (fun c9 h => ?_)
  ·refine au [0,0,0,7,2,8,0,7,0,8,6,8,4,8] h ?_; intro a w h
   refine h.spl (fun c16 h => ?_) (fun c16 h => ?_)
   ·refine au [0,0,0,7,2,8,0,7,0,8,6,2,4,8] h ?_; intro a w h
    refine h.spl (fun c23 h => ?_) (fun c23 h => ?_)
    ·refine au [0,0,0,7,2,8,0,7,0,8] h ?_; intro a w h
     refine cl bod67 (EqualFunc_ok ks ms A A' c c' E H _ hks hms (by omega) (fun x hx y _ vx vy hvx hvy L => ih x hx y vx vy E H L hvx hvy (by have := size_le_sizeL hx; omega))) h fun r H1 L1 a w le R h => ?_
     obtain ⟨rfl, rfl, rfl⟩ := R
     refine au [4,8,0,6,0,3,1,3] h ?_; intro a w h
     refine fin1 4 2 h LE.rfl ?_
     exact ⟨by rw [same_mk, c9, c16, c23]; first | done | rfl, rfl, rfl⟩
    ·refine au [0,0,0,1,0,1,0,1,0,1,0,1,5,0,0,6,0,3,1,3] h ?_; intro a w h
     refine fin1 4 2 h LE.rfl ?_
     exact ⟨by rw [same_mk, c9, c16, c23]; first | done | rfl, rfl, rfl⟩
   ·refine au [0,0,0,1,0,1,0,1,0,1,0,1,5,0,0,0,0,1,0,1,0,1,0,1,0,1,5,0,0,6,0,3,1,3] h ?_; intro a w h
    refine fin1 4 2 h LE.rfl ?_
    exact ⟨by rw [same_mk, c9, c16]; first | done | rfl, rfl, rfl⟩
  ·refine au [0,0,0,1,0,1,0,1,0,1,0,1,5,0,0,0,0,1,0,1,0,1,0,1,0,1,5,0,0,0,0,1,0,1,0,1,0,1,0,1,5,0,0,6,0,3,1,3] h ?_; intro a w h
   refine fin1 4 2 h LE.rfl ?_
   exact ⟨by rw [same_mk, c9]; first | done | rfl, rfl, rfl⟩
theorem bare_law (p : Pg) (l : List UInt8) (n : Nat) (v : Value) (A : Option Addr) (c : Nat) (E : World) (H : GH) (L : List It) (hv : VP H v p) (hM : Mild p) (hl : US H A c l) (hb : l.length < 1000000000000) (hn : n < 256) (hL : Laid H) :
    Ok Tryz.prog 8 #[v, .slice A l.length c, .int .u8 (n : Int)] E H L fun r H' L' => r = .bool true ∧ L = L' := by
  obtain ⟨Ap0, cp0, Ap1, cp1, Ap2, cp2, Ap3, cp3, rfl, hp0, hp1, hp2, hp3⟩ := hv
  refine enter (N := 127) [(0, _), (1, _), (2, _)] Tryz.func8 rfl rfl rfl rfl fun a w h => ?_
  refine au [1,2] h ?_
  refine bxA h fun g3 a w h => ?_
  refine au [0,6,0,2] h ?_; intro a w h
  refine cl bod10 (examples9_ok E H _ (hL.up le_)) h (fun r15 H15 L15 a w le15 R h => ?_)
  obtain ⟨rfl, rfl⟩ := R
  refine au [0,6,0,3,0,4,1,2,0,0,7,1,0,3,2,1,1,8,1,0,0,4,0,4] h ?_; intro a w h
  refine rgx [0] [_] [0] 8 mix h (fun a w h => ?_)
  refine au [8,0,4,5,2,6,8,2,0,0,2,6,8,3,0,0,2,6,8,7,0,0,2,6] h ?_; intro a w h
  refine bg1 1 true h ?_
  refine clG bod19 (names9_ok E H15 _) h (fun r19 H19 L19 a w le19 R h => ?_)
  obtain ⟨⟨A19, c19, rfl, hk19⟩, rfl⟩ := R
  refine br0 ?_
  refine bg1 4 true h ?_
  have l_H_H19 : LE H H19 := le15.trans le19
  refine clG bod18 (well9_ok lohi l n _ _ _ _ E H19 _ hk19 (US.up hl l_H_H19) (by decide) (by decide) hb hn) h (fun r22 H22 L22 a w le22 R h => ?_)
  obtain ⟨p22, hw22, ⟨A22_0, c22_0, A22_1, c22_1, A22_2, c22_2, A22_3, c22_3, rfl, hk22_0, hk22_1, hk22_2, hk22_3⟩, rfl⟩ := R
  have hm22 := wp_mild hw22 lohi_word
  refine br0 ?_
  have l_H15_H22 : LE H15 H22 := le19.trans le22
  refine bf1 5 ?_
  refine bsl bs56 h fun g23 a w h => ?_
  have l_H_H22 : LE H H22 := (le15.trans le19).trans le22
  obtain ⟨Hq23, leHq23, h, hsHq23⟩ := h.fsl (R := RP) (sz := 7) (ys := [p, p22]) 0 (RowR.cons rfl (rp_of (cs := [_, _, _, _, _, _, _]) ⟨_, _, _, _, _, _, _, _, rfl, (CS.up hp0 l_H_H22), (CS.up hp1 l_H_H22), (FS.up hp2 l_H_H22), (KS.up hp3 l_H_H22)⟩) (RowR.one rfl (rp_of (cs := [_, _, _, _, _, _, _]) ⟨_, _, _, _, _, _, _, _, rfl, hk22_0, hk22_1, hk22_2, hk22_3⟩))) (fun _ l cs y _ hr => RP.mono l hr)
  have hpm : ∀ x ∈ [p, p22], Mild x := by intro x hx; simp only [List.mem_cons, List.not_mem_nil, or_false] at hx; rcases hx with rfl | rfl; exact hM; exact hm22
  refine au [2,7,8,6,6,0,2,6] h ?_; intro a w h
  refine en (by kernel_rfl) ?_
  refine au [1,0,1,5] h ?_
  have h := h.del 0
  refine lp (β := Nat × GH) (fun x a w => match x with | (k, HL0) => ((k ≤ [p, p22].length) ∧ (LE Hq23 HL0)) ∧ S E HL0 127 [] [(7, .bool true), (23, .slice (some ⟨g23, 0, none⟩) ([p, p22]).length 2), (24, .int .i64 (([p, p22]).length : Int)), (25, .int .i64 (k : Int))] (L) a w)
   (fun x => match x with | (k, HL0) => [p, p22].length - k) (0, Hq23) ⟨⟨Nat.zero_le _, LE.rfl⟩, h.to 0 _⟩ ?_
  rintro ⟨k, HL0⟩ a w ⟨⟨hk, leHL0⟩, h⟩
  have hk2 : ([p, p22]).length = 2 := rfl
  refine au [1,2,6,4,0,3,0,4] h ?_; intro a w h
  refine cdB h (fun c26 => ?_) (fun c26 => ?_)
  ·have d26 : k < ([p, p22]).length := cd_ c26
   refine au [1,8,1,0,0,4,1,5,1,2] h ?_
   have hj27 : k < ([p, p22]).length := d26
   obtain ⟨g27, o27, A27_0, c27_0, A27_1, c27_1, A27_2, c27_2, A27_3, c27_3, e27, hv27, hc27⟩ := PS.get (PS.up hsHq23 leHL0) hj27
   obtain ⟨_, _, _, _, _, _, _, _, q27, hk27_0, hk27_1, hk27_2, hk27_3⟩ := hv27; cases q27
   refine iaE sli56 sz28 rfl hj27 e27 h fun a w h => ?_
   refine ldHN tN28 rfl hc27 h fun a w h => ?_
   obtain ⟨pk, hxpk⟩ : ∃ z, z = ([p, p22])[k] := ⟨_, rfl⟩
   rw [← hxpk] at h hk27_0 hk27_1 hk27_2 hk27_3
   have hmx : Mild pk := by rw [hxpk]; exact hpm _ (List.getElem_mem hj27)
   refine al zr28 h fun g9 a w h => ?_
   refine au [5,5,0,2,3,3] h ?_; intro a w h
   refine cl bod29 (Resolve_ok (pk) _ E HL0 _ ⟨A27_0, c27_0, A27_1, c27_1, A27_2, c27_2, A27_3, c27_3, rfl, hk27_0, hk27_1, hk27_2, hk27_3⟩ (hL.up le_) (hmx)) h (fun r31 H31 L31 a w le31 R h => ?_)
   obtain ⟨_, rfl, ⟨A31_0_0, c31_0_0, A31_0_1, c31_0_1, A31_0_2, c31_0_2, A31_0_3, c31_0_3, rfl, hk31_0_0, hk31_0_1, hk31_0_2, hk31_0_3⟩, hl31⟩ := R
   subst L31
   refine au [0,0,4,7,4,7] h ?_; intro a w h
   refine al zr28 h fun g10 a w h => ?_
   refine au [5,5,0,6,0,2,3,4] h ?_; intro a w h
   refine cl bod20 (Elab_ok (pk) _ E H31 _ ⟨A27_0, c27_0, A27_1, c27_1, A27_2, c27_2, A27_3, c27_3, rfl, (CS.up hk27_0 le31), (CS.up hk27_1 le31), (FS.up hk27_2 le31), (KS.up hk27_3 le31)⟩ (hL.up le_) (hmx)) h (fun r36 H36 L36 a w le36 R h => ?_)
   obtain ⟨_, rfl, ⟨A36_0, c36_0, A36_1, c36_1, A36_2, c36_2, A36_3, c36_3, rfl, hk36_0, hk36_1, hk36_2, hk36_3⟩, rfl⟩ := R
   refine au [0,0,4,7,4,7] h ?_; intro a w h
   refine al zr59 h fun g12 a w h => ?_
   refine au [5,5,0,6,0,3,0,4,1,2,0,0,6,3,0,3] h ?_; intro a w h
   refine cdB h (fun c40 => ?_) (fun c40 => ?_)
   ·have d40 : (pk).resolve.2 ≠ 0 := cd_ c40
    have hz := elab_err (p := pk) d40
    refine au [0,4,1,2,0,0,0,0,6,3] h ?_; intro a w h
    refine h.spl (fun c43 h => ?_) (fun c43 h => ?_)
    ·have d43 : (pk).elb.2 ≠ (pk).resolve.2 := cd_ c43
     rw [hz] at c43; simp at c43
    ·have d43 : (pk).elb.2 = (pk).resolve.2 := cd_ c43
     refine au [0,0,0,7,0,8,6,0,6,3] h ?_; intro a w h
     refine h.spl (fun c48 h => ?_) (fun c48 h => ?_)
     ·have d48 : (((pk).elb.1).defs).length ≠ 0 := cd_ c48
      rw [hz] at c48; simp [Ty.zero] at c48
     ·have d48 : (((pk).elb.1).defs).length = 0 := cd_ c48
      refine au [5,0,0,0,0,7,0,7,0,8,6,3,5,0,0,3] h ?_; intro a w h
      refine cdB h (fun c55 => ?_) (fun c55 => ?_)
      ·have d55 : ((pk).elb.1).body.kind ≠ 0 := cd_ c55
       rw [hz] at c55; simp [Ty.zero, Tr.kind] at c55
      ·have d55 : ((pk).elb.1).body.kind = 0 := cd_ c55
       refine au [1,8,1,0,2,5,2,2,2,3,1,0,0,5] h ?_
       refine inc ?_ h fun a w h => ?_
       ·omega
       refine au [0,0,0,3] h ?_; intro a w h
       have h := h.del 0
       have h := h.del 0
       have h := h.del 0
       have l_Hq23_H36 : LE Hq23 H36 := (leHL0.trans le31).trans le36
       exact ⟨((k + 1), H36), ⟨⟨by omega, l_Hq23_H36⟩, h.to 0 _⟩, by show _ - (k + 1) < _ - k; omega⟩
   ·have d40 : (pk).resolve.2 = 0 := cd_ c40
    have hr0 : pk.resolve.2 = 0 := by omega
    refine au [1,8,1,0,0,4,1,2,0,0,6,3,0,3] h ?_; intro a w h
    refine cdB h (fun c57 => ?_) (fun c57 => ?_)
    ·have d57 : (pk).elb.2 ≠ 0 := cd_ c57
     have hz := elab_z hr0 d57
     refine au [0,4,1,2,0,0,6,3] h ?_; intro a w h
     refine h.spl (fun c59 h => ?_) (fun c59 h => ?_)
     ·have d59 : (pk).elb.2 ≠ 8 := cd_ c59
      rw [hz] at c59; simp at c59
     ·have d59 : (pk).elb.2 = 8 := cd_ c59
      refine au [0,0,0,7,0,8,6,0,6,3] h ?_; intro a w h
      refine h.spl (fun c64 h => ?_) (fun c64 h => ?_)
      ·have d64 : (((pk).elb.1).defs).length ≠ 0 := cd_ c64
       rw [hz] at c64; simp [Ty.zero] at c64
      ·have d64 : (((pk).elb.1).defs).length = 0 := cd_ c64
       refine au [5,0,0,0,0,7,0,7,0,8,6,3,5,0,0,3] h ?_; intro a w h
       refine cdB h (fun c71 => ?_) (fun c71 => ?_)
       ·have d71 : ((pk).elb.1).body.kind ≠ 0 := cd_ c71
        rw [hz] at c71; simp [Ty.zero, Tr.kind] at c71
       ·have d71 : ((pk).elb.1).body.kind = 0 := cd_ c71
        refine au [1,8,1,0,2,5,2,2,2,3,1,0,0,5] h ?_
        refine inc ?_ h fun a w h => ?_
        ·omega
        refine au [0,0,0,3] h ?_; intro a w h
        have h := h.del 0
        have h := h.del 0
        have h := h.del 0
        have l_Hq23_H36 : LE Hq23 H36 := (leHL0.trans le31).trans le36
        exact ⟨((k + 1), H36), ⟨⟨by omega, l_Hq23_H36⟩, h.to 0 _⟩, by show _ - (k + 1) < _ - k; omega⟩
    ·have d57 : (pk).elb.2 = 0 := cd_ c57
     have hbf := bare_f (p := pk) (by omega)
     have hrl := (resolve_len hr0).2.2
     have hln := hbf.len
     refine au [1,8,1,0,0,4,0,4] h ?_
     refine rgx [0, 1] [_, _] [1, 4, 9, 12] 16 mix h (fun a w h => ?_)
     refine au [8,0,0,7,2,6,8,1,3,8,2,6,8,2,6,0,2,6,8,3,0,7,2,6,8,4,4,0,2,6,8,5,6,0,2,6,8,6,6,3] h ?_; intro a w h
     refine h.spl (fun c78 h => ?_) (fun c78 h => ?_)
     ·have d78 : (((pk).elb.1).defs).length ≠ (((pk).resolve.1).defs).length := cd_ c78
      rw [hbf.len] at c78; simp at c78
     ·have d78 : (((pk).elb.1).defs).length = (((pk).resolve.1).defs).length := cd_ c78
      refine au [2,6,8,7,0,0,2,6,8,8,0,7,2,6,8,9] h ?_; intro a w h
      refine ldNT (l := [_, _, _, _, _, _, _, _, _, _]) 0 tN34 h fun a w h => ?_
      refine au [2,6,8,11,0,7,2,6,8,12] h ?_; intro a w h
      refine ldNT (l := [_, _, _, _]) 1 tN26 h fun a w h => ?_
      refine tk0 ?_
      refine bg1 10 true h ?_
      refine clG bod16 (Bare_ok (((pk).elb.1).body) _ E H36 _ ⟨A36_1, c36_1, A36_2, c36_2, A36_3, c36_3, rfl, hk36_1, hk36_2, hk36_3⟩ (by have := hbf.size; omega)) h (fun r82 H82 L82 a w le82 R h => ?_)
      obtain ⟨⟨A82_0, c82_0, rfl, hk82_0⟩, rfl⟩ := R
      refine br0 ?_
      refine bg1 13 true h ?_
      have l_H31_H82 : LE H31 H82 := le36.trans le82
      refine clG bod30 (Same_ok ((((pk).elb.1).body).bare) (((pk).resolve.1).body) _ _ E H82 _ ⟨A82_0, c82_0, rfl, hk82_0⟩ ⟨A31_0_3, c31_0_3, rfl, (KS.up hk31_0_3 l_H31_H82)⟩ (by have := hbf.size; rw [bare_size]; omega)) h (fun r85 H85 L85 a w le85 R h => ?_)
      obtain ⟨rfl, rfl, rfl⟩ := R
      refine au [2,7,8,14,7,1,2,6,8,15,5,0,2,6] h ?_; intro a w h
      refine en (by kernel_rfl) ?_
      refine thN ?_
      refine cdB h (fun c87 => ?_) (fun c87 => ?_)
      ·have d87 : (((((pk).elb.1).body).bare).same (((pk).resolve.1).body)) = false := cd_ c87
       rw [hbf.body, (same_iff _ _).2 rfl] at c87; simp at c87
      ·have d87 : (((((pk).elb.1).body).bare).same (((pk).resolve.1).body)) = true := cd_ c87
       refine au [1,8,1,0,1,2,0,6,0,3,1,5] h ?_; intro a w h
       obtain ⟨Hg12, leHg12, h, hfg12⟩ := h.frz 0
       obtain ⟨Hg10, leHg10, h, hfg10⟩ := h.frz 0
       obtain ⟨Hg9, leHg9, h, hfg9⟩ := h.frz 0
       refine lp (β := Nat × GH) (fun x a w => match x with | (k2, HL2) => ((k2 ≤ pk.elb.1.defs.length) ∧ (LE Hg9 HL2)) ∧ S E HL2 127 [] [(7, .bool true), (9, .pointer (some ⟨g9, 0, none⟩)), (10, .pointer (some ⟨g10, 0, none⟩)), (11, .int .i64 ((pk).resolve.2)), (12, .pointer (some ⟨g12, 0, none⟩)), (13, .int .i64 ((pk).elb.2)), (14, .int .i64 (k2 : Int)), (23, .slice (some ⟨g23, 0, none⟩) ([p, p22]).length 2), (24, .int .i64 (([p, p22]).length : Int)), (25, .int .i64 (k : Int)), (26, .bool (decide (((k : Int) : Int) < (([p, p22]).length : Int)))), (28, .agg #[.slice A27_0 ((pk).inputs).length c27_0, .slice A27_1 ((pk).cells).length c27_1, .slice A27_2 ((pk).defs).length c27_2, .int .i64 ((pk).body.kind), str ((pk).body.name), .int .i64 ((pk).body.n), .slice A27_3 ((pk).body.kids).length c27_3]), (29, .tuple #[.agg #[.slice A31_0_0 (((pk).resolve.1).inputs).length c31_0_0, .slice A31_0_1 (((pk).resolve.1).cells).length c31_0_1, .slice A31_0_2 (((pk).resolve.1).defs).length c31_0_2, .int .i64 (((pk).resolve.1).body.kind), str (((pk).resolve.1).body.name), .int .i64 (((pk).resolve.1).body.n), .slice A31_0_3 (((pk).resolve.1).body.kids).length c31_0_3], .int .i64 ((pk).resolve.2)]), (30, .agg #[.slice A27_0 ((pk).inputs).length c27_0, .slice A27_1 ((pk).cells).length c27_1, .slice A27_2 ((pk).defs).length c27_2, .int .i64 ((pk).body.kind), str ((pk).body.name), .int .i64 ((pk).body.n), .slice A27_3 ((pk).body.kids).length c27_3]), (31, .tuple #[.agg #[.slice A31_0_0 (((pk).resolve.1).inputs).length c31_0_0, .slice A31_0_1 (((pk).resolve.1).cells).length c31_0_1, .slice A31_0_2 (((pk).resolve.1).defs).length c31_0_2, .int .i64 (((pk).resolve.1).body.kind), str (((pk).resolve.1).body.name), .int .i64 (((pk).resolve.1).body.n), .slice A31_0_3 (((pk).resolve.1).body.kids).length c31_0_3], .int .i64 ((pk).resolve.2)]), (32, .agg #[.slice A31_0_0 (((pk).resolve.1).inputs).length c31_0_0, .slice A31_0_1 (((pk).resolve.1).cells).length c31_0_1, .slice A31_0_2 (((pk).resolve.1).defs).length c31_0_2, .int .i64 (((pk).resolve.1).body.kind), str (((pk).resolve.1).body.name), .int .i64 (((pk).resolve.1).body.n), .slice A31_0_3 (((pk).resolve.1).body.kids).length c31_0_3]), (33, .int .i64 ((pk).resolve.2)), (34, .tuple #[.agg #[.slice A36_0 (((pk).elb.1).defs).length c36_0, .int .i64 (((pk).elb.1).body.kind), str (((pk).elb.1).body.name), .int .i64 (((pk).elb.1).body.n), .int .i64 (((pk).elb.1).body.s.kind), .int .i64 (((pk).elb.1).body.s.n), .slice A36_1 (((pk).elb.1).body.s.kids).length c36_1, .int .i64 (((pk).elb.1).body.b.kind), .int .i64 (((pk).elb.1).body.b.n), .slice A36_2 (((pk).elb.1).body.b.kids).length c36_2, .slice A36_3 (((pk).elb.1).body.kids).length c36_3], .int .i64 ((pk).elb.2)]), (35, .agg #[.slice A27_0 ((pk).inputs).length c27_0, .slice A27_1 ((pk).cells).length c27_1, .slice A27_2 ((pk).defs).length c27_2, .int .i64 ((pk).body.kind), str ((pk).body.name), .int .i64 ((pk).body.n), .slice A27_3 ((pk).body.kids).length c27_3]), (36, .tuple #[.agg #[.slice A36_0 (((pk).elb.1).defs).length c36_0, .int .i64 (((pk).elb.1).body.kind), str (((pk).elb.1).body.name), .int .i64 (((pk).elb.1).body.n), .int .i64 (((pk).elb.1).body.s.kind), .int .i64 (((pk).elb.1).body.s.n), .slice A36_1 (((pk).elb.1).body.s.kids).length c36_1, .int .i64 (((pk).elb.1).body.b.kind), .int .i64 (((pk).elb.1).body.b.n), .slice A36_2 (((pk).elb.1).body.b.kids).length c36_2, .slice A36_3 (((pk).elb.1).body.kids).length c36_3], .int .i64 ((pk).elb.2)]), (37, .agg #[.slice A36_0 (((pk).elb.1).defs).length c36_0, .int .i64 (((pk).elb.1).body.kind), str (((pk).elb.1).body.name), .int .i64 (((pk).elb.1).body.n), .int .i64 (((pk).elb.1).body.s.kind), .int .i64 (((pk).elb.1).body.s.n), .slice A36_1 (((pk).elb.1).body.s.kids).length c36_1, .int .i64 (((pk).elb.1).body.b.kind), .int .i64 (((pk).elb.1).body.b.n), .slice A36_2 (((pk).elb.1).body.b.kids).length c36_2, .slice A36_3 (((pk).elb.1).body.kids).length c36_3]), (38, .int .i64 ((pk).elb.2)), (39, .int .i64 ((pk).resolve.2)), (40, .bool (((pk).resolve.2 : Int) != 0)), (56, .int .i64 ((pk).elb.2)), (57, .bool (((pk).elb.2 : Int) != 0)), (72, .pointer (some ⟨g12, 0, none⟩)), (73, .slice A36_0 (((pk).elb.1).defs).length c36_0), (74, .int .i64 ((((pk).elb.1).defs).length : Int)), (75, .pointer (some ⟨g10, 2, none⟩)), (76, .slice A31_0_2 (((pk).resolve.1).defs).length c31_0_2), (77, .int .i64 ((((pk).resolve.1).defs).length : Int)), (78, .bool false), (79, .bool false), (80, .pointer (some ⟨g12, 1, none⟩)), (81, .agg #[.int .i64 (((pk).elb.1).body.kind), str (((pk).elb.1).body.name), .int .i64 (((pk).elb.1).body.n), .int .i64 (((pk).elb.1).body.s.kind), .int .i64 (((pk).elb.1).body.s.n), .slice A36_1 (((pk).elb.1).body.s.kids).length c36_1, .int .i64 (((pk).elb.1).body.b.kind), .int .i64 (((pk).elb.1).body.b.n), .slice A36_2 (((pk).elb.1).body.b.kids).length c36_2, .slice A36_3 (((pk).elb.1).body.kids).length c36_3]), (82, .agg #[.int .i64 (((((pk).elb.1).body).bare).kind), str (((((pk).elb.1).body).bare).name), .int .i64 (((((pk).elb.1).body).bare).n), .slice A82_0 (((((pk).elb.1).body).bare).kids).length c82_0]), (83, .pointer (some ⟨g10, 3, none⟩)), (84, .agg #[.int .i64 (((pk).resolve.1).body.kind), str (((pk).resolve.1).body.name), .int .i64 (((pk).resolve.1).body.n), .slice A31_0_3 (((pk).resolve.1).body.kids).length c31_0_3]), (85, .bool (((((pk).elb.1).body).bare).same (((pk).resolve.1).body))), (86, .bool (!(((((pk).elb.1).body).bare).same (((pk).resolve.1).body)))), (87, .bool (!(((((pk).elb.1).body).bare).same (((pk).resolve.1).body))))] (L) a w)
        (fun x => match x with | (k2, HL2) => pk.elb.1.defs.length - k2) (0, Hg9) ⟨⟨Nat.zero_le _, LE.rfl⟩, h.to 0 _⟩ ?_
       rintro ⟨k2, HL2⟩ a w ⟨⟨hk, leHL2⟩, h⟩
       refine au [0,4,1,2,0,0,0,7] h ?_; intro a w h
       have l_Hg12_HL2 : LE Hg12 HL2 := (leHg10.trans leHg9).trans leHL2
       refine ldH t1_57 (Hc.of (l_Hg12_HL2 _ _ hfg12) rfl) h fun a w h => ?_
       refine au [6,0,6,4,0,3] h ?_; intro a w h
       refine cdB h (fun c92 => ?_) (fun c92 => ?_)
       ·have d92 : k2 < (((pk).elb.1).defs).length := cd_ c92
        refine au [1,8,1,0,0,4,1,5,0,4] h ?_
        refine rgx [] [] [1, 5, 8, 12, 17, 21, 23, 27] 30 mix h (fun a w h => ?_)
        refine au [8,0,0,7,2,6,8,1] h ?_; intro a w h
        refine ldHT t1_57 (Hc.of (l_Hg12_HL2 _ _ hfg12) rfl) h fun a w h => ?_
        refine au [2,6,8,2,0,0,2,6,8,3] h ?_; intro a w h
        have l_H36_HL2 : LE H36 HL2 := (((le82.trans leHg12).trans leHg10).trans leHg9).trans leHL2
        have hj98 : k2 < (((pk).elb.1).defs).length := by first | assumption | omega | (simp; done) | (simp; omega)
        obtain ⟨g98, o98, A98_0, c98_0, A98_1, c98_1, A98_2, c98_2, e98, hv98, hc98⟩ := TdS.get (TdS.up hk36_0 l_H36_HL2) hj98
        obtain ⟨_, _, _, _, _, _, q98, hk98_0, hk98_1, hk98_2⟩ := hv98; cases q98
        refine iaE sli57 sz74 rfl hj98 e98 h fun a w h => ?_
        refine au [2,6,8,4] h ?_
        refine fa fl74_1 (r := o98 + k2 * 11 + 1) h fun a w h => ?_
        refine au [2,6,8,5] h ?_
        refine ldHNT (l := [_, _, _, _, _, _, _, _, _, _]) tN34 rfl (sbL 1 10 hc98) h fun a w h => ?_
        refine au [2,6,8,7,0,7,2,6,8,8] h ?_; intro a w h
        have l_Hg10_HL2 : LE Hg10 HL2 := leHg9.trans leHL2
        refine ldHT t1_23 (Hc.of (l_Hg10_HL2 _ _ hfg10) rfl) h fun a w h => ?_
        refine au [2,6,8,9,0,0,2,6,8,10] h ?_; intro a w h
        have l_H31_HL2 : LE H31 HL2 := ((((le36.trans le82).trans leHg12).trans leHg10).trans leHg9).trans leHL2
        have hj105 : k2 < (((pk).resolve.1).defs).length := by have := hbf.len; omega
        obtain ⟨g105, o105, A105_0, c105_0, e105, hv105, hc105⟩ := FS.get (FS.up hk31_0_2 l_H31_HL2) hj105
        obtain ⟨_, _, q105, hk105_0⟩ := hv105; cases q105
        refine iaE sli23 sz93 rfl hj105 e105 h fun a w h => ?_
        refine au [2,6,8,11] h ?_
        refine fa fl93_1 (r := o105 + k2 * 5 + 1) h fun a w h => ?_
        refine au [2,6,8,12] h ?_
        refine ldHNT (l := [_, _, _, _]) tN26 rfl (sbL 1 4 hc105) h fun a w h => ?_
        refine tk0 ?_
        refine bg1 6 true h ?_
        have hds := (hbf.defs k2 hj98 (by have := hbf.len; omega)).2.2
        refine clG bod16 (Bare_ok (((((pk).elb.1).defs)[k2]).t) _ E HL2 _ ⟨A98_0, c98_0, A98_1, c98_1, A98_2, c98_2, rfl, hk98_0, hk98_1, hk98_2⟩ (by omega)) h (fun r101 H101 L101 a w le101 R h => ?_)
        obtain ⟨⟨A101_0, c101_0, rfl, hk101_0⟩, rfl⟩ := R
        refine br0 ?_
        refine bg1 13 true h ?_
        refine clG bod30 (Same_ok ((((((pk).elb.1).defs)[k2]).t).bare) (((((pk).resolve.1).defs)[k2]).t) _ _ E H101 _ ⟨A101_0, c101_0, rfl, hk101_0⟩ ⟨A105_0, c105_0, rfl, (KS.up hk105_0 le101)⟩ (by rw [bare_size]; omega)) h (fun r108 H108 L108 a w le108 R h => ?_)
        obtain ⟨rfl, rfl, rfl⟩ := R
        refine au [2,7,8,14,7,1] h ?_; intro a w h
        refine h.spl (fun c109 h => ?_) (fun c109 h => ?_)
        ·have d109 : (((((((pk).elb.1).defs)[k2]).t).bare).same (((((pk).resolve.1).defs)[k2]).t)) = false := cd_ c109
         rw [(hbf.defs k2 hj98 hj105).1, (same_iff _ _).2 rfl] at c109; simp at c109
        ·have d109 : (((((((pk).elb.1).defs)[k2]).t).bare).same (((((pk).resolve.1).defs)[k2]).t)) = true := cd_ c109
         refine au [2,6,8,15,0,0,2,6,8,16,0,7,2,6,8,17] h ?_; intro a w h
         refine ldHT t1_57 (Hc.of (l_Hg12_HL2 _ _ hfg12) rfl) h fun a w h => ?_
         refine au [2,6,8,18,0,0,2,6,8,19] h ?_; intro a w h
         have hj114 : k2 < (((pk).elb.1).defs).length := by first | assumption | omega | (simp; done) | (simp; omega)
         obtain ⟨g114, o114, A114_0, c114_0, A114_1, c114_1, A114_2, c114_2, e114, hv114, hc114⟩ := TdS.get (TdS.up hk36_0 l_H36_HL2) hj114
         obtain ⟨_, _, _, _, _, _, q114, hk114_0, hk114_1, hk114_2⟩ := hv114; cases q114
         refine iaE sli57 sz74 rfl hj114 e114 h fun a w h => ?_
         refine au [2,6,8,20] h ?_
         refine fa fl74_0 (r := o114 + k2 * 11 + 0) h fun a w h => ?_
         refine au [2,6,8,21] h ?_
         refine ldHT t1_9 (hc114 0 _ rfl) h fun a w h => ?_
         refine au [2,6,8,22,0,7,2,6,8,23] h ?_; intro a w h
         refine ldHT t1_23 (Hc.of (l_Hg10_HL2 _ _ hfg10) rfl) h fun a w h => ?_
         refine au [2,6,8,24,0,0,2,6,8,25] h ?_; intro a w h
         have hj120 : k2 < (((pk).resolve.1).defs).length := by first | assumption | omega | (simp; done) | (simp; omega)
         obtain ⟨g120, o120, A120_0, c120_0, e120, hv120, hc120⟩ := FS.get (FS.up hk31_0_2 l_H31_HL2) hj120
         obtain ⟨_, _, q120, hk120_0⟩ := hv120; cases q120
         refine iaE sli23 sz93 rfl hj120 e120 h fun a w h => ?_
         refine au [2,6,8,26] h ?_
         refine fa fl93_0 (r := o120 + k2 * 5 + 0) h fun a w h => ?_
         refine au [2,6,8,27] h ?_
         refine ldHT t1_9 (hc120 0 _ rfl) h fun a w h => ?_
         refine au [2,6,8,28,7,0,2,6,8,29,5,0,2,6] h ?_; intro a w h
         refine en (by kernel_rfl) ?_
         refine thN ?_
         refine cdB h (fun c124 => ?_) (fun c124 => ?_)
         ·have d124 : ((((pk).elb.1).defs)[k2]).name ≠ ((((pk).resolve.1).defs)[k2]).name := cd_ c124
          rw [(hbf.defs k2 hj98 hj105).2.1] at c124; simp at c124
         ·have d124 : ((((pk).elb.1).defs)[k2]).name = ((((pk).resolve.1).defs)[k2]).name := cd_ c124
          refine au [1,8,1,7,1,0,0,5,0,0] h ?_; intro a w h
          refine inc ?_ h fun a w h => ?_
          ·omega
          refine au [0,6,0,3] h ?_; intro a w h
          have l_Hg9_H101 : LE Hg9 H101 := leHL2.trans le101
          exact ⟨((k2 + 1), H101), ⟨⟨by omega, l_Hg9_H101⟩, h.to 0 _⟩, by show _ - (k2 + 1) < _ - k2; omega⟩
       ·have d92 : (((pk).elb.1).defs).length ≤ k2 := cd_ c92
        refine au [2,5,2,2,2,2,2,3,1,7,1,0,0,5] h ?_
        refine inc ?_ h fun a w h => ?_
        ·omega
        refine au [0,0,0,3] h ?_; intro a w h
        have l_Hq23_HL2 : LE Hq23 HL2 := ((((((leHL0.trans le31).trans le36).trans le82).trans leHg12).trans leHg10).trans leHg9).trans leHL2
        exact ⟨((k + 1), HL2), ⟨⟨by omega, l_Hq23_HL2⟩, h.to 0 _⟩, by show _ - (k + 1) < _ - k; omega⟩
  ·have d26 : ([p, p22]).length ≤ k := cd_ c26
   refine au [2,5,2,2,2,2,2,3,1,0,1,2,0,0,0,6,0,3,1,3] h ?_; intro a w h
   have l_H_HL0 : LE H HL0 := (((le15.trans le19).trans le22).trans leHq23).trans leHL0
   refine fin1 6 0 h l_H_HL0 ?_
   exact ⟨rfl, rfl⟩
end Go.Proofs.YthnhddjlgjecdaaGreatDoor
namespace Go.Proofs.YthnhddjlgjecdaaGreatDoor.bare
open Go X Go.ChangeShapes Go.WideShapes Go.ChangeAt Go.RowKit
theorem own : ownKnob Tryz.prog.godebug = none := by kernel_rfl
theorem contract (H : Type) (enc : TypeId × Value → H) (W : World) (base : Nat) (args : Array Value) (ds gs : List (DataW H)) (before : List MemPlace)
    (hval : ∀ (j : Nat) t v, Tryz.f8.params[j]? = some t → args[j]? = some v → Value.okWide Tryz.prog W .any base t v)
    (hW : DataW.Whole enc Tryz.prog Tryz.f8.params.toList Rows.elabBareSpec.vars false W args.toList ds gs before) (hk : Rows.uptoSmall H (ds ++ gs) = true) (hL : laidMetH Tryz.prog Rows.elabBareUptoRow.laid W) :
    Calls Tryz.prog 8 args W fun e W' => ∃ v, e = .returned v ∧ Rows.elabBareSpec.post enc Tryz.prog Tryz.f8 false true false false W args v W' := by
  have hW' := hW
  obtain ⟨p, q, hA, hV, rfl, hfz, hnd⟩ := hW
  rw [show Tryz.f8.params = #[28, 35, 5] from rfl] at hA hval
  obtain ⟨v0, vs0, d0, ds0, p0, q0, ha0, rfl, rfl, h0, r0⟩ := trodAll_cons hA
  obtain ⟨v1, vs1, d1, ds1, p1, q1, ha1, rfl, rfl, h1, r1⟩ := trodAll_cons r0
  obtain ⟨v2, vs2, d2, ds2, p2, q2, ha2, rfl, rfl, h2, r2⟩ := trodAll_cons r1
  obtain ⟨rfl, rfl, rfl⟩ := trodAll_nil r2
  obtain rfl : args = #[v0, v1, v2] := by cases args; simp_all
  have hgs : gs = [] := by
    cases gs with
    | nil => rfl
    | cons g gs => exact (show False from hV).elim
  subst hgs
  have hbulk : Rows.uptoBulkAll [d0, d1, d2] ≤ 1048576 := by simpa [Rows.uptoSmall] using hk
  simp only [Rows.uptoBulkAll] at hbulk
  obtain ⟨fuel0, htr0⟩ := h0
  obtain ⟨fuel1, htr1⟩ := h1
  obtain ⟨fuel2, htr2⟩ := h2
  have hagg0 : ∃ cs, v0 = .agg cs := by
    have hok := (hval 0 28 v0 rfl rfl)
    unfold Value.okWide at hok
    rw [Tryz.underlying28] at hok
    obtain ⟨cs, h, _⟩ := hok
    exact ⟨cs, h⟩
  obtain ⟨pg0, hVP0, hM0⟩ := open_pg fuel0 v0 hagg0 (d0, p0) htr0 (by show Rows.uptoBulk d0 ≤ _; omega)
  obtain ⟨A1, c1, l1, rfl, hl1, hb1⟩ := open_u8s (e := 5) Tryz.underlying35 Tryz.underlying5 (by kernel_rfl) (cells_slice Tryz.underlying35 (hval 1 35 v1 rfl rfl)) htr1 (by show Rows.uptoBulk d1 ≤ _; omega)
  obtain ⟨n2, rfl, lo2, hi2⟩ := open_int Tryz.underlying5 (cells_int Tryz.underlying5 (hval 2 5 v2 rfl rfl)) htr2
  obtain ⟨n2, rfl⟩ : ∃ n : Nat, n2 = (n : Int) := ⟨n2.toNat, by simp [IntKind.min, IntKind.max, IntKind.signed, IntKind.bits] at lo2; omega⟩
  simp [IntKind.min, IntKind.max, IntKind.signed, IntKind.bits] at lo2 hi2
  have hlaid : Laid (HW W) := by
    obtain ⟨ps, hv, _⟩ := (hL : laidMet Tryz.prog Rows.elabBareUptoRow.laid W)
    exact laid_of hv (by simp [Rows.elabBareUptoRow]) (by simp [Rows.elabBareUptoRow]) (by simp [Rows.elabBareUptoRow]) (by simp [Rows.elabBareUptoRow])
  refine (bare_law pg0 l1 n2 v0 A1 c1 W (HW W) [] hVP0 hM0 hl1 (by omega) (by omega) hlaid W (st_world W)).mono fun e W' ⟨r, H', L', he, hle, hst, hr, hl⟩ => ?_
  subst hr
  refine ⟨_, he, post_true (by simpa using hW') rfl rfl rfl rfl (below_of hle hst) (by kernel_rfl) (fun t ht => ?_) rfl Tryz.underlying4⟩
  rw [show Tryz.f8.params = #[28, 35, 5] from rfl] at ht
  have ht' : t = 28 ∨ t = 35 ∨ t = 5 := by simpa using ht
  rcases ht' with rfl | rfl | rfl <;> exact ⟨by kernel_rfl, of_decide_eq_true (by kernel_rfl)⟩
def valOf : DataW Unit → Value
  | .lit (.int k n) => .int k n
  | .lit (.string s) => str s
  | _ => .bool false
def cellsOf : DataW Unit → Array Value
  | .agg ds => (ds.map valOf).toArray
  | _ => #[]
def lay (i : Nat) (o : Obj) : Obj := match i, o with
  | 2, .cells _ t z => .cells (cellsOf Rows.laid_chancel_term_kids) t z
  | 3, .cells _ t z => .cells (cellsOf Rows.laid_chancel_term_ops) t z
  | 1, .cells _ t z => .cells (cellsOf Rows.laid_internal_strconv_uint64pow10) t z
  | 4, .cells _ t z => .cells (cellsOf Rows.laid_chancel_lex_keys) t z
  | 5, .cells _ t z => .cells (cellsOf Rows.laid_math_bits_deBruijn32tab) t z
  | 6, .cells _ t z => .cells (cellsOf Rows.laid_math_bits_deBruijn64tab) t z
  | 0, .cells _ t z => .cells (cellsOf Rows.laid_chancel_eval_kids) t z
  | _, o => o
noncomputable def laidWorld (os : Os) : World :=
  { World.holding Tryz.prog os ⟨#[], #[], []⟩ with heap := (World.holding Tryz.prog os ⟨#[], #[], []⟩).heap.mapIdx lay }
def arg : Array Value := #[.agg #[.slice none 0 0, .slice none 0 0, .slice none 0 0, .int .i64 0, .string ⟨#[]⟩, .int .i64 0, .slice none 0 0], .slice none 0 0, .int .u8 0]
theorem laid_met (os : Os) : laidMet Tryz.prog Rows.elabBareUptoRow.laid ((laidWorld os).forCall (fun _ _ => 0) ⟨#[], arg, []⟩).memory :=
  laidMet_of_run' 8 (by kernel_rfl) (by kernel_rfl)
theorem reads (os : Os) {H : Type} (enc : TypeId × Value → H) : ∃ places, DataW.whole enc Tryz.prog ((laidWorld os).forCall (fun _ _ => 0) ⟨#[], arg, []⟩).memory Tryz.f8.params.toList Rows.elabBareSpec.vars false arg.toList 8 = some ([.agg [.nil, .nil, .nil, .agg [.lit (.int .i64 0), .lit (.string []), .lit (.int .i64 0), .nil]], .nil, .lit (.int .u8 0)], [], places) :=
  ⟨[], by kernel_rfl⟩
theorem liftedUpto (os : Os) (started : os.Started) (H : Type) (enc : TypeId × Value → H) (F : Stop.Interp) :
    ReturnsInHanded {} Tryz.checked os 8 .any ((Rows.OpenSpec.upto Rows.elabBareSpec).preRow enc Tryz.prog Tryz.f8 Rows.elabBareUptoRow.domain false Rows.elabBareUptoRow.laid) (((Rows.OpenSpec.upto Rows.elabBareSpec).at F).post enc Tryz.prog Tryz.f8 false true false false) := by
  obtain ⟨places, hx⟩ := reads os enc
  refine returnsInHanded_of_row (C := Tryz.checked) (s := Rows.OpenSpec.upto Rows.elabBareSpec) own started (by kernel_rfl) Tryz.func8
    (witness_row_at (enc := enc) (C := Tryz.checked) false (laidWorld os) arg rfl (by kernel_rfl) (by kernel_rfl) (by kernel_rfl)
      (OpenSpec.preRow_of_cond 8 hx (by kernel_rfl) (fun k hk => by cases hk; kernel_rfl) (by kernel_rfl) (laid_met os))) ?_
  intro W base args ds gs before hval hW _ hcond _ hL _ _
  exact contract H enc W base args ds gs before hval hW (hcond _ rfl) hL
theorem andI {a b : Bool} (h : a = true) (k : b = true) : (a && b) = true := by rw [h, k]; rfl
theorem closed : joinedFacts Tryz.prog 8 Tryz.f8 (Rows.OpenSpec.upto Rows.elabBareSpec).bare Rows.elabBareUptoRow = true := by
  unfold joinedFacts
  repeat (refine andI ?_ ?_)
  all_goals (as_aux_lemma => kernel_rfl)
theorem saidUpto : Rows.ElabBareUptoSaid :=
  OpenClaim.holds_of_cond 8 Tryz.f8 rfl rfl rfl rfl rfl rfl rfl ⟨rfl, rfl, rfl, rfl, rfl⟩ rfl rfl rfl rfl rfl (by kernel_rfl) Tryz.func8 closed
    (of_decide_eq_true (by kernel_rfl)) (by unfold Func.isWrapper; first | (rw [if_pos (by decide +kernel)]; kernel_rfl) | (rw [if_neg (by decide +kernel)]; exact ⟨rfl, rfl⟩))
    (fun os started H enc _ F => by rw [OpenClaim.pre_eq_preRow]; exact liftedUpto os started H enc F)
theorem plain (f : FuncId) (fn : Func) (hf : Tryz.pinned.checked.prog.funcNamed "chancel/chancellaw09.ElabBare" = some f) (hfn : Tryz.pinned.checked.prog.funcs[f]? = some fn) :
    true = Tryz.pinned.checked.prog.looks [] ∧ ∀ (j : Nat) t, fn.params[j]? = some t → Tryz.pinned.checked.prog.wantsStandIn t = false := by
  obtain rfl : f = 8 := Option.some.inj ((show Tryz.prog.funcNamed "chancel/chancellaw09.ElabBare" = some 8 by kernel_rfl).symm.trans hf) |>.symm
  obtain rfl : fn = Tryz.f8 := (Option.some.inj (Tryz.func8.symm.trans hfn)).symm
  refine ⟨by kernel_rfl, fun j t ht => ?_⟩
  rw [show Tryz.f8.params = #[28, 35, 5] from rfl] at ht
  have ht' : t = 28 ∨ t = 35 ∨ t = 5 := by simpa using Array.mem_of_getElem? ht
  rcases ht' with rfl | rfl | rfl <;> exact (show Tryz.prog.wantsStandIn _ = false by kernel_rfl)
theorem cardUpto : Rows.ElabBareUptoCardSaid :=
  Claim7.holds_tied_plain_at .later [] _ _ _ _ saidUpto (fun _ h => by cases h) (by kernel_rfl) (fun _ h => by cases h) elabBareUpto_row_tie rfl ⟨rfl, rfl⟩ (by kernel_rfl) rfl plain (by kernel_rfl)
end Go.Proofs.YthnhddjlgjecdaaGreatDoor.bare
