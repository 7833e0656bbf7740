/- ScopeTells: for all arguments of bulk at most 1048576 the law answers true, and they read as before. -/
import Derived.Test.YtdabamobjciidaaGreatDoorZt5
import Derived.Test.YtdabamobjciidaaGreatDoorCards
import Derived.Test.YtdabamobjciidaaGreatDoorTie
import Derived.WalkKit
import Derived.ProofKit
import Derived.OpenShut
import Derived.Deep.DeepHandedRow
set_option autoImplicit false
set_option linter.unnecessarySimpa false
set_option linter.unusedSectionVars false
set_option linter.unusedSimpArgs false
set_option linter.unusedVariables false
set_option maxHeartbeats 8000000
set_option maxRecDepth 100000
set_option relaxedAutoImplicit false
namespace Go.Proofs.YtdabamobjciidaaGreatDoor
open Go X
theorem examples_ok (E : World) (H : GH) (L : List It) (hL : Laid H) : Ok Tryz.prog 4 #[] E H L fun r H' L' => r = .bool true ∧ L' = L := by
 refine enter (N := 190) [] Tryz.func4 rfl rfl rfl rfl fun a w h => ?_
 refine au [1,2,0,6,0,2] h ?_; intro a w h
 refine cl bod16 (of_ok [120] E H _) h (fun r15 H15 L15 a w le15 R h => ?_)
 obtain ⟨rfl, rfl, rfl⟩ := R
 refine cl bod16 (of_ok [121] E H _) h (fun r16 H16 L16 a w le16 R h => ?_)
 obtain ⟨rfl, rfl, rfl⟩ := R
 refine bsl bs22 h fun g17 a w h => ?_
 obtain ⟨HA, leHA, h, hsA⟩ := h.fsl (α := Tm) (R := RT) 0 (ys := [exX, exY]) (RowR.cons (cs := [.int .i64 2, str [120], .int .i64 0, .slice none 0 0]) rfl (rt_leaf 2 [120] 0) (RowR.one (cs := [.int .i64 2, str [121], .int .i64 0, .slice none 0 0]) rfl (rt_leaf 2 [121] 0))) (fun _ l _ y _ hr => RT.mono l y hr)
 have l_H_HA : LE H HA := leHA
 refine bdl lay24 zr24 h fun a w h => ?_
 refine al zr24 h fun g1 a w h => ?_
 refine au [5,5,0,2,3,3] h ?_; intro a w h
 refine cl bod17 (fun_ok [120] exA _ E HA _ (⟨_, _, rfl, KS.up hsA LE.rfl⟩)) h (fun r21 H21 L21 a w le21 R h => ?_)
 obtain ⟨A21, rfl, hk21, rfl⟩ := R
 have l_H_H21 : LE H H21 := l_H_HA.trans le21
 have l_HA_H21 : LE HA H21 := le21
 refine cl bod5 (Rename_ok (exF exA) _ 3 E H21 _ (⟨_, _, rfl, KS.up hk21 LE.rfl⟩) (hL.up l_H_H21) ⟨by decide, by decide⟩ (by decide)) h fun r22 H22 L22 a w le22 R h => ?_
 obtain ⟨v22, rfl, hv22, rfl⟩ := R
 have e22 : (exF exA).ren noS 3 = (.mk 3 [51] 0 [.mk 4 [] 0 [.mk 2 [51] 0 [], .mk 2 [121] 0 []]], 4) := ex1
 rw [e22] at hv22 h
 obtain ⟨A22, c22, rfl, hk22⟩ := hv22
 have l_H_H22 : LE H H22 := l_H_H21.trans le22
 have l_HA_H22 : LE HA H22 := l_HA_H21.trans le22
 have l_H21_H22 : LE H21 H22 := le22
 refine au [0,0,4,7,4,7] h ?_; intro a w h
 refine al zr24 h fun g2 a w h => ?_
 refine au [5,5,0,6,0,2] h ?_; intro a w h
 refine cl bod16 (of_ok [120] E H22 _) h (fun r26 H26 L26 a w le26 R h => ?_)
 obtain ⟨rfl, rfl, rfl⟩ := R
 refine cl bod17 (fun_ok [120] exX _ E H22 _ (⟨none, 0, rfl, RS.nil _ _ _⟩)) h (fun r27 H27 L27 a w le27 R h => ?_)
 obtain ⟨A27, rfl, hk27, rfl⟩ := R
 have l_H_H27 : LE H H27 := l_H_H22.trans le27
 have l_HA_H27 : LE HA H27 := l_HA_H22.trans le27
 have l_H21_H27 : LE H21 H27 := l_H21_H22.trans le27
 have l_H22_H27 : LE H22 H27 := le27
 refine cl bod17 (fun_ok [120] (exF exX) _ E H27 _ (⟨_, _, rfl, KS.up hk27 LE.rfl⟩)) h (fun r28 H28 L28 a w le28 R h => ?_)
 obtain ⟨A28, rfl, hk28, rfl⟩ := R
 have l_H_H28 : LE H H28 := l_H_H27.trans le28
 have l_HA_H28 : LE HA H28 := l_HA_H27.trans le28
 have l_H21_H28 : LE H21 H28 := l_H21_H27.trans le28
 have l_H22_H28 : LE H22 H28 := l_H22_H27.trans le28
 have l_H27_H28 : LE H27 H28 := le28
 refine cl bod5 (Rename_ok (exF (exF exX)) _ (-1) E H28 _ (⟨_, _, rfl, KS.up hk28 LE.rfl⟩) (hL.up l_H_H28) ⟨by decide, by decide⟩ (by decide)) h fun r29 H29 L29 a w le29 R h => ?_
 obtain ⟨v29, rfl, hv29, rfl⟩ := R
 have e29 : (exF (exF exX)).ren noS (-1) = (.mk 3 [45, 49] 0 [.mk 3 [48] 0 [.mk 2 [48] 0 []]], 1) := ex2
 rw [e29] at hv29 h
 obtain ⟨A29, c29, rfl, hk29⟩ := hv29
 have l_H_H29 : LE H H29 := l_H_H28.trans le29
 have l_HA_H29 : LE HA H29 := l_HA_H28.trans le29
 have l_H21_H29 : LE H21 H29 := l_H21_H28.trans le29
 have l_H22_H29 : LE H22 H29 := l_H22_H28.trans le29
 have l_H27_H29 : LE H27 H29 := l_H27_H28.trans le29
 have l_H28_H29 : LE H28 H29 := le29
 refine au [0,0,4,7,4,7] h ?_; intro a w h
 refine al zr24 h fun g4 a w h => ?_
 refine au [5,5,0,6,0,3] h ?_; intro a w h
 refine sqc (fun a w => ∃ (Hc : GH) (g6 : Nat) (B1 B3 B4 : Option Addr), LE H29 Hc ∧ CS Hc B1 1 [exD] ∧ FS Hc B3 1 [⟨[102], exF exX⟩] ∧ KS Hc B4 1 [exA] ∧ S E Hc 190 [] [(2, .pointer (some ⟨g2, 0, none⟩)), (3, .int .i64 4), (4, .pointer (some ⟨g4, 0, none⟩)), (5, .int .i64 1), (6, .pointer (some ⟨g6, 0, none⟩))] (.obj g6 (.cells #[.slice B1 1 1, .slice none 0 0, .slice B3 1 1, .int .i64 3, str [120], .int .i64 0, .slice B4 1 1] 28 (0, 0)) :: .obj g4 (.cells #[.int .i64 3, str [45, 49], .int .i64 0, .slice A29 1 c29] 24 (0, 0)) :: .obj g2 (.cells #[.int .i64 3, str [51], .int .i64 0, .slice A22 1 c22] 24 (0, 0)) :: L) a w) ?_ ?_
 ·refine rgx [2] [_] [6] 11 mix h (fun a w h => ?_)
  refine au [8,0,7,5,2,6,8,6,4,5,2,6] h ?_; intro a w h
  refine brl3 1 2 9 true true true (by kernel_rfl) (by kernel_rfl) (by kernel_rfl) (by kernel_rfl) (fun _ => h.st.sees' (by first | exact LE.rfl | assumption) (by simp)) ?_ ?_ ?_
  ·refine bsl bs25 h fun g33 a w h => ?_
   refine br0 ?_
   refine brl2 2 9 true true (by kernel_rfl) (by kernel_rfl) (by kernel_rfl) (fun _ => h.st.sees' (by first | exact LE.rfl | assumption) (by simp)) ?_ ?_
   ·refine cl bod16 (of_ok [120] E H29 _) h (fun r34 H34 L34 a w le34 R h => ?_) (hS := fun _ _ _ _ _ le R hw => by obtain ⟨rfl, rfl, rfl⟩ := R; exact hw.sees' (by first | exact le | exact LE.trans (by assumption) le) (by simp))
    obtain ⟨rfl, rfl, rfl⟩ := R
    refine br0 ?_
    refine brl2 3 9 true true (by kernel_rfl) (by kernel_rfl) (by kernel_rfl) (fun _ => h.st.sees' (by first | exact LE.rfl | assumption) (by simp)) ?_ ?_
    ·refine cl bod17 (fun_ok [120] exX _ E H29 _ (⟨none, 0, rfl, RS.nil _ _ _⟩)) h (fun r35 H35 L35 a w le35 R h => ?_) (hS := fun _ _ _ _ _ le R hw => by obtain ⟨_, rfl, _, rfl⟩ := R; exact hw.sees' (by first | exact le | exact LE.trans (by assumption) le) (by simp))
     obtain ⟨A35, rfl, hk35, rfl⟩ := R
     have l_H_H35 : LE H H35 := l_H_H29.trans le35
     have l_HA_H35 : LE HA H35 := l_HA_H29.trans le35
     have l_H21_H35 : LE H21 H35 := l_H21_H29.trans le35
     have l_H22_H35 : LE H22 H35 := l_H22_H29.trans le35
     have l_H27_H35 : LE H27 H35 := l_H27_H29.trans le35
     have l_H28_H35 : LE H28 H35 := l_H28_H29.trans le35
     have l_H29_H35 : LE H29 H35 := le35
     refine au [2,7,8,4,7,5,2,6] h ?_; intro a w h
     refine brl3 5 7 9 true false true (by kernel_rfl) (by kernel_rfl) (by kernel_rfl) (by kernel_rfl) (fun _ => h.st.sees' (by first | exact LE.rfl | assumption) (by simp)) ?_ ?_ ?_
     ·refine bsl bs26 h fun g37 a w h => ?_
      refine br0 ?_
      refine brl2 7 9 false true (by kernel_rfl) (by kernel_rfl) (by kernel_rfl) (fun _ => h.st.sees' (by first | exact LE.rfl | assumption) (by simp)) ?_ ?_
      ·refine cl bod17 (fun_ok [120] exA _ E H35 _ (⟨_, _, rfl, KS.up hsA l_HA_H35⟩)) h (fun r39 H39 L39 a w le39 R h => ?_) (hS := fun _ _ _ _ _ le R hw => by obtain ⟨_, rfl, _, rfl⟩ := R; exact hw.sees' (by first | exact le | exact LE.trans (by assumption) le) (by simp))
       obtain ⟨A39, rfl, hk39, rfl⟩ := R
       have l_H_H39 : LE H H39 := l_H_H35.trans le39
       have l_HA_H39 : LE HA H39 := l_HA_H35.trans le39
       have l_H21_H39 : LE H21 H39 := l_H21_H35.trans le39
       have l_H22_H39 : LE H22 H39 := l_H22_H35.trans le39
       have l_H27_H39 : LE H27 H39 := l_H27_H35.trans le39
       have l_H28_H39 : LE H28 H39 := l_H28_H35.trans le39
       have l_H29_H39 : LE H29 H39 := l_H29_H35.trans le39
       have l_H35_H39 : LE H35 H39 := le39
       refine au [2,7,8,8,7,5,2,6] h ?_; intro a w h
       refine brl1 9 true (by kernel_rfl) (by kernel_rfl) (fun _ => h.st.sees' (by first | exact LE.rfl | assumption) (by simp)) ?_
       refine al zr28 h fun g6 a w h => ?_
       refine br0 ?_
       refine brl1 10 false (by kernel_rfl) (by kernel_rfl) (fun _ => h.st.sees' (by first | exact LE.rfl | assumption) (by simp)) ?_
       refine au [5,5,2,7] h ?_; intro a w h
       refine en (by kernel_rfl) ?_
       refine thN ?_
       obtain ⟨Hx, leHx, h, hx1⟩ := h.fsl (α := Dc) (R := RDc) 2 (ys := [exD]) (RowR.one rfl rfl) (fun _ _ _ _ _ hr => hr)
       have l_H_Hx : LE H Hx := l_H_H39.trans leHx
       have l_HA_Hx : LE HA Hx := l_HA_H39.trans leHx
       have l_H21_Hx : LE H21 Hx := l_H21_H39.trans leHx
       have l_H22_Hx : LE H22 Hx := l_H22_H39.trans leHx
       have l_H27_Hx : LE H27 Hx := l_H27_H39.trans leHx
       have l_H28_Hx : LE H28 Hx := l_H28_H39.trans leHx
       have l_H29_Hx : LE H29 Hx := l_H29_H39.trans leHx
       have l_H35_Hx : LE H35 Hx := l_H35_H39.trans leHx
       have l_H39_Hx : LE H39 Hx := leHx
       obtain ⟨Hy, leHy, h, hx3⟩ := h.fsl (α := Df) (R := RDf) 1 (ys := [⟨[102], exF exX⟩]) (RowR.one rfl ⟨_, rfl, rt_of_ks (KS.up hk35 l_H35_Hx)⟩) (fun _ l _ _ _ hr => RDf.mono l hr)
       have l_H_Hy : LE H Hy := l_H_Hx.trans leHy
       have l_HA_Hy : LE HA Hy := l_HA_Hx.trans leHy
       have l_H21_Hy : LE H21 Hy := l_H21_Hx.trans leHy
       have l_H22_Hy : LE H22 Hy := l_H22_Hx.trans leHy
       have l_H27_Hy : LE H27 Hy := l_H27_Hx.trans leHy
       have l_H28_Hy : LE H28 Hy := l_H28_Hx.trans leHy
       have l_H29_Hy : LE H29 Hy := l_H29_Hx.trans leHy
       have l_H35_Hy : LE H35 Hy := l_H35_Hx.trans leHy
       have l_H39_Hy : LE H39 Hy := l_H39_Hx.trans leHy
       have l_Hx_Hy : LE Hx Hy := leHy
       have h := h.pull 2 rfl rfl
       have h := h.pull 2 rfl rfl
       have h := h.pull 2 rfl rfl
       have h := h.del 3
       exact ⟨_, g6, _, _, _, l_H29_Hy, CS.up hx1 l_Hx_Hy, hx3, KS.up hk39 l_H39_Hy, h.to 0 _⟩
      ·refine al zr28 h fun g6 a w h => ?_
       refine br0 ?_
       refine brl1 7 false (by kernel_rfl) (by kernel_rfl) (fun _ => h.st.sees' (by first | exact LE.rfl | assumption) (by simp)) ?_
       refine cl bod17 (fun_ok [120] exA _ E H35 _ (⟨_, _, rfl, KS.up hsA l_HA_H35⟩)) h (fun r39 H39 L39 a w le39 R h => ?_) (hS := fun _ _ _ _ _ le R hw => by obtain ⟨_, rfl, _, rfl⟩ := R; exact hw.sees' (by first | exact le | exact LE.trans (by assumption) le) (by simp))
       obtain ⟨A39, rfl, hk39, rfl⟩ := R
       have l_H_H39 : LE H H39 := l_H_H35.trans le39
       have l_HA_H39 : LE HA H39 := l_HA_H35.trans le39
       have l_H21_H39 : LE H21 H39 := l_H21_H35.trans le39
       have l_H22_H39 : LE H22 H39 := l_H22_H35.trans le39
       have l_H27_H39 : LE H27 H39 := l_H27_H35.trans le39
       have l_H28_H39 : LE H28 H39 := l_H28_H35.trans le39
       have l_H29_H39 : LE H29 H39 := l_H29_H35.trans le39
       have l_H35_H39 : LE H35 H39 := le39
       refine au [2,7,8,8,7,5,2,6] h ?_; intro a w h
       refine brl1 10 false (by kernel_rfl) (by kernel_rfl) (fun _ => h.st.sees' (by first | exact LE.rfl | assumption) (by simp)) ?_
       refine au [5,5,2,7] h ?_; intro a w h
       refine en (by kernel_rfl) ?_
       refine thN ?_
       obtain ⟨Hx, leHx, h, hx1⟩ := h.fsl (α := Dc) (R := RDc) 2 (ys := [exD]) (RowR.one rfl rfl) (fun _ _ _ _ _ hr => hr)
       have l_H_Hx : LE H Hx := l_H_H39.trans leHx
       have l_HA_Hx : LE HA Hx := l_HA_H39.trans leHx
       have l_H21_Hx : LE H21 Hx := l_H21_H39.trans leHx
       have l_H22_Hx : LE H22 Hx := l_H22_H39.trans leHx
       have l_H27_Hx : LE H27 Hx := l_H27_H39.trans leHx
       have l_H28_Hx : LE H28 Hx := l_H28_H39.trans leHx
       have l_H29_Hx : LE H29 Hx := l_H29_H39.trans leHx
       have l_H35_Hx : LE H35 Hx := l_H35_H39.trans leHx
       have l_H39_Hx : LE H39 Hx := leHx
       obtain ⟨Hy, leHy, h, hx3⟩ := h.fsl (α := Df) (R := RDf) 1 (ys := [⟨[102], exF exX⟩]) (RowR.one rfl ⟨_, rfl, rt_of_ks (KS.up hk35 l_H35_Hx)⟩) (fun _ l _ _ _ hr => RDf.mono l hr)
       have l_H_Hy : LE H Hy := l_H_Hx.trans leHy
       have l_HA_Hy : LE HA Hy := l_HA_Hx.trans leHy
       have l_H21_Hy : LE H21 Hy := l_H21_Hx.trans leHy
       have l_H22_Hy : LE H22 Hy := l_H22_Hx.trans leHy
       have l_H27_Hy : LE H27 Hy := l_H27_Hx.trans leHy
       have l_H28_Hy : LE H28 Hy := l_H28_Hx.trans leHy
       have l_H29_Hy : LE H29 Hy := l_H29_Hx.trans leHy
       have l_H35_Hy : LE H35 Hy := l_H35_Hx.trans leHy
       have l_H39_Hy : LE H39 Hy := l_H39_Hx.trans leHy
       have l_Hx_Hy : LE Hx Hy := leHy
       have h := h.pull 2 rfl rfl
       have h := h.pull 2 rfl rfl
       have h := h.pull 2 rfl rfl
       have h := h.del 3
       exact ⟨_, g6, _, _, _, l_H29_Hy, CS.up hx1 l_Hx_Hy, hx3, KS.up hk39 l_H39_Hy, h.to 0 _⟩
     ·refine cl bod17 (fun_ok [120] exA _ E H35 _ (⟨_, _, rfl, KS.up hsA l_HA_H35⟩)) h (fun r39 H39 L39 a w le39 R h => ?_) (hS := fun _ _ _ _ _ le R hw => by obtain ⟨_, rfl, _, rfl⟩ := R; exact hw.sees' (by first | exact le | exact LE.trans (by assumption) le) (by simp))
      obtain ⟨A39, rfl, hk39, rfl⟩ := R
      have l_H_H39 : LE H H39 := l_H_H35.trans le39
      have l_HA_H39 : LE HA H39 := l_HA_H35.trans le39
      have l_H21_H39 : LE H21 H39 := l_H21_H35.trans le39
      have l_H22_H39 : LE H22 H39 := l_H22_H35.trans le39
      have l_H27_H39 : LE H27 H39 := l_H27_H35.trans le39
      have l_H28_H39 : LE H28 H39 := l_H28_H35.trans le39
      have l_H29_H39 : LE H29 H39 := l_H29_H35.trans le39
      have l_H35_H39 : LE H35 H39 := le39
      refine br0 ?_
      refine brl2 5 9 true true (by kernel_rfl) (by kernel_rfl) (by kernel_rfl) (fun _ => h.st.sees' (by first | exact LE.rfl | assumption) (by simp)) ?_ ?_
      ·refine bsl bs26 h fun g37 a w h => ?_
       refine au [2,7,8,8,7,5,2,6] h ?_; intro a w h
       refine brl1 9 true (by kernel_rfl) (by kernel_rfl) (fun _ => h.st.sees' (by first | exact LE.rfl | assumption) (by simp)) ?_
       refine al zr28 h fun g6 a w h => ?_
       refine br0 ?_
       refine brl1 10 false (by kernel_rfl) (by kernel_rfl) (fun _ => h.st.sees' (by first | exact LE.rfl | assumption) (by simp)) ?_
       refine au [5,5,2,7] h ?_; intro a w h
       refine en (by kernel_rfl) ?_
       refine thN ?_
       obtain ⟨Hx, leHx, h, hx1⟩ := h.fsl (α := Dc) (R := RDc) 2 (ys := [exD]) (RowR.one rfl rfl) (fun _ _ _ _ _ hr => hr)
       have l_H_Hx : LE H Hx := l_H_H39.trans leHx
       have l_HA_Hx : LE HA Hx := l_HA_H39.trans leHx
       have l_H21_Hx : LE H21 Hx := l_H21_H39.trans leHx
       have l_H22_Hx : LE H22 Hx := l_H22_H39.trans leHx
       have l_H27_Hx : LE H27 Hx := l_H27_H39.trans leHx
       have l_H28_Hx : LE H28 Hx := l_H28_H39.trans leHx
       have l_H29_Hx : LE H29 Hx := l_H29_H39.trans leHx
       have l_H35_Hx : LE H35 Hx := l_H35_H39.trans leHx
       have l_H39_Hx : LE H39 Hx := leHx
       obtain ⟨Hy, leHy, h, hx3⟩ := h.fsl (α := Df) (R := RDf) 1 (ys := [⟨[102], exF exX⟩]) (RowR.one rfl ⟨_, rfl, rt_of_ks (KS.up hk35 l_H35_Hx)⟩) (fun _ l _ _ _ hr => RDf.mono l hr)
       have l_H_Hy : LE H Hy := l_H_Hx.trans leHy
       have l_HA_Hy : LE HA Hy := l_HA_Hx.trans leHy
       have l_H21_Hy : LE H21 Hy := l_H21_Hx.trans leHy
       have l_H22_Hy : LE H22 Hy := l_H22_Hx.trans leHy
       have l_H27_Hy : LE H27 Hy := l_H27_Hx.trans leHy
       have l_H28_Hy : LE H28 Hy := l_H28_Hx.trans leHy
       have l_H29_Hy : LE H29 Hy := l_H29_Hx.trans leHy
       have l_H35_Hy : LE H35 Hy := l_H35_Hx.trans leHy
       have l_H39_Hy : LE H39 Hy := l_H39_Hx.trans leHy
       have l_Hx_Hy : LE Hx Hy := leHy
       have h := h.pull 2 rfl rfl
       have h := h.pull 2 rfl rfl
       have h := h.pull 2 rfl rfl
       have h := h.del 3
       exact ⟨_, g6, _, _, _, l_H29_Hy, CS.up hx1 l_Hx_Hy, hx3, KS.up hk39 l_H39_Hy, h.to 0 _⟩
      ·refine al zr28 h fun g6 a w h => ?_
       refine br0 ?_
       refine brl1 5 true (by kernel_rfl) (by kernel_rfl) (fun _ => h.st.sees' (by first | exact LE.rfl | assumption) (by simp)) ?_
       refine bsl bs26 h fun g37 a w h => ?_
       refine au [2,7,8,8,7,5,2,6] h ?_; intro a w h
       refine brl1 10 false (by kernel_rfl) (by kernel_rfl) (fun _ => h.st.sees' (by first | exact LE.rfl | assumption) (by simp)) ?_
       refine au [5,6,2,7] h ?_; intro a w h
       refine en (by kernel_rfl) ?_
       refine thN ?_
       obtain ⟨Hx, leHx, h, hx1⟩ := h.fsl (α := Dc) (R := RDc) 2 (ys := [exD]) (RowR.one rfl rfl) (fun _ _ _ _ _ hr => hr)
       have l_H_Hx : LE H Hx := l_H_H39.trans leHx
       have l_HA_Hx : LE HA Hx := l_HA_H39.trans leHx
       have l_H21_Hx : LE H21 Hx := l_H21_H39.trans leHx
       have l_H22_Hx : LE H22 Hx := l_H22_H39.trans leHx
       have l_H27_Hx : LE H27 Hx := l_H27_H39.trans leHx
       have l_H28_Hx : LE H28 Hx := l_H28_H39.trans leHx
       have l_H29_Hx : LE H29 Hx := l_H29_H39.trans leHx
       have l_H35_Hx : LE H35 Hx := l_H35_H39.trans leHx
       have l_H39_Hx : LE H39 Hx := leHx
       obtain ⟨Hy, leHy, h, hx3⟩ := h.fsl (α := Df) (R := RDf) 0 (ys := [⟨[102], exF exX⟩]) (RowR.one rfl ⟨_, rfl, rt_of_ks (KS.up hk35 l_H35_Hx)⟩) (fun _ l _ _ _ hr => RDf.mono l hr)
       have l_H_Hy : LE H Hy := l_H_Hx.trans leHy
       have l_HA_Hy : LE HA Hy := l_HA_Hx.trans leHy
       have l_H21_Hy : LE H21 Hy := l_H21_Hx.trans leHy
       have l_H22_Hy : LE H22 Hy := l_H22_Hx.trans leHy
       have l_H27_Hy : LE H27 Hy := l_H27_Hx.trans leHy
       have l_H28_Hy : LE H28 Hy := l_H28_Hx.trans leHy
       have l_H29_Hy : LE H29 Hy := l_H29_Hx.trans leHy
       have l_H35_Hy : LE H35 Hy := l_H35_Hx.trans leHy
       have l_H39_Hy : LE H39 Hy := l_H39_Hx.trans leHy
       have l_Hx_Hy : LE Hx Hy := leHy
       have h := h.pull 2 rfl rfl
       have h := h.pull 2 rfl rfl
       have h := h.pull 2 rfl rfl
       have h := h.del 3
       exact ⟨_, g6, _, _, _, l_H29_Hy, CS.up hx1 l_Hx_Hy, hx3, KS.up hk39 l_H39_Hy, h.to 0 _⟩
     ·refine al zr28 h fun g6 a w h => ?_
      refine br0 ?_
      refine brl2 5 7 true false (by kernel_rfl) (by kernel_rfl) (by kernel_rfl) (fun _ => h.st.sees' (by first | exact LE.rfl | assumption) (by simp)) ?_ ?_
      ·refine bsl bs26 h fun g37 a w h => ?_
       refine br0 ?_
       refine brl1 7 false (by kernel_rfl) (by kernel_rfl) (fun _ => h.st.sees' (by first | exact LE.rfl | assumption) (by simp)) ?_
       refine cl bod17 (fun_ok [120] exA _ E H35 _ (⟨_, _, rfl, KS.up hsA l_HA_H35⟩)) h (fun r39 H39 L39 a w le39 R h => ?_) (hS := fun _ _ _ _ _ le R hw => by obtain ⟨_, rfl, _, rfl⟩ := R; exact hw.sees' (by first | exact le | exact LE.trans (by assumption) le) (by simp))
       obtain ⟨A39, rfl, hk39, rfl⟩ := R
       have l_H_H39 : LE H H39 := l_H_H35.trans le39
       have l_HA_H39 : LE HA H39 := l_HA_H35.trans le39
       have l_H21_H39 : LE H21 H39 := l_H21_H35.trans le39
       have l_H22_H39 : LE H22 H39 := l_H22_H35.trans le39
       have l_H27_H39 : LE H27 H39 := l_H27_H35.trans le39
       have l_H28_H39 : LE H28 H39 := l_H28_H35.trans le39
       have l_H29_H39 : LE H29 H39 := l_H29_H35.trans le39
       have l_H35_H39 : LE H35 H39 := le39
       refine au [2,7,8,8,7,5,2,6] h ?_; intro a w h
       refine brl1 10 false (by kernel_rfl) (by kernel_rfl) (fun _ => h.st.sees' (by first | exact LE.rfl | assumption) (by simp)) ?_
       refine au [5,6,2,7] h ?_; intro a w h
       refine en (by kernel_rfl) ?_
       refine thN ?_
       obtain ⟨Hx, leHx, h, hx1⟩ := h.fsl (α := Dc) (R := RDc) 2 (ys := [exD]) (RowR.one rfl rfl) (fun _ _ _ _ _ hr => hr)
       have l_H_Hx : LE H Hx := l_H_H39.trans leHx
       have l_HA_Hx : LE HA Hx := l_HA_H39.trans leHx
       have l_H21_Hx : LE H21 Hx := l_H21_H39.trans leHx
       have l_H22_Hx : LE H22 Hx := l_H22_H39.trans leHx
       have l_H27_Hx : LE H27 Hx := l_H27_H39.trans leHx
       have l_H28_Hx : LE H28 Hx := l_H28_H39.trans leHx
       have l_H29_Hx : LE H29 Hx := l_H29_H39.trans leHx
       have l_H35_Hx : LE H35 Hx := l_H35_H39.trans leHx
       have l_H39_Hx : LE H39 Hx := leHx
       obtain ⟨Hy, leHy, h, hx3⟩ := h.fsl (α := Df) (R := RDf) 0 (ys := [⟨[102], exF exX⟩]) (RowR.one rfl ⟨_, rfl, rt_of_ks (KS.up hk35 l_H35_Hx)⟩) (fun _ l _ _ _ hr => RDf.mono l hr)
       have l_H_Hy : LE H Hy := l_H_Hx.trans leHy
       have l_HA_Hy : LE HA Hy := l_HA_Hx.trans leHy
       have l_H21_Hy : LE H21 Hy := l_H21_Hx.trans leHy
       have l_H22_Hy : LE H22 Hy := l_H22_Hx.trans leHy
       have l_H27_Hy : LE H27 Hy := l_H27_Hx.trans leHy
       have l_H28_Hy : LE H28 Hy := l_H28_Hx.trans leHy
       have l_H29_Hy : LE H29 Hy := l_H29_Hx.trans leHy
       have l_H35_Hy : LE H35 Hy := l_H35_Hx.trans leHy
       have l_H39_Hy : LE H39 Hy := l_H39_Hx.trans leHy
       have l_Hx_Hy : LE Hx Hy := leHy
       have h := h.pull 2 rfl rfl
       have h := h.pull 2 rfl rfl
       have h := h.pull 2 rfl rfl
       have h := h.del 3
       exact ⟨_, g6, _, _, _, l_H29_Hy, CS.up hx1 l_Hx_Hy, hx3, KS.up hk39 l_H39_Hy, h.to 0 _⟩
      ·refine cl bod17 (fun_ok [120] exA _ E H35 _ (⟨_, _, rfl, KS.up hsA l_HA_H35⟩)) h (fun r39 H39 L39 a w le39 R h => ?_) (hS := fun _ _ _ _ _ le R hw => by obtain ⟨_, rfl, _, rfl⟩ := R; exact hw.sees' (by first | exact le | exact LE.trans (by assumption) le) (by simp))
       obtain ⟨A39, rfl, hk39, rfl⟩ := R
       have l_H_H39 : LE H H39 := l_H_H35.trans le39
       have l_HA_H39 : LE HA H39 := l_HA_H35.trans le39
       have l_H21_H39 : LE H21 H39 := l_H21_H35.trans le39
       have l_H22_H39 : LE H22 H39 := l_H22_H35.trans le39
       have l_H27_H39 : LE H27 H39 := l_H27_H35.trans le39
       have l_H28_H39 : LE H28 H39 := l_H28_H35.trans le39
       have l_H29_H39 : LE H29 H39 := l_H29_H35.trans le39
       have l_H35_H39 : LE H35 H39 := le39
       refine br0 ?_
       refine brl1 5 true (by kernel_rfl) (by kernel_rfl) (fun _ => h.st.sees' (by first | exact LE.rfl | assumption) (by simp)) ?_
       refine bsl bs26 h fun g37 a w h => ?_
       refine au [2,7,8,8,7,5,2,6] h ?_; intro a w h
       refine brl1 10 false (by kernel_rfl) (by kernel_rfl) (fun _ => h.st.sees' (by first | exact LE.rfl | assumption) (by simp)) ?_
       refine au [5,6,2,7] h ?_; intro a w h
       refine en (by kernel_rfl) ?_
       refine thN ?_
       obtain ⟨Hx, leHx, h, hx1⟩ := h.fsl (α := Dc) (R := RDc) 2 (ys := [exD]) (RowR.one rfl rfl) (fun _ _ _ _ _ hr => hr)
       have l_H_Hx : LE H Hx := l_H_H39.trans leHx
       have l_HA_Hx : LE HA Hx := l_HA_H39.trans leHx
       have l_H21_Hx : LE H21 Hx := l_H21_H39.trans leHx
       have l_H22_Hx : LE H22 Hx := l_H22_H39.trans leHx
       have l_H27_Hx : LE H27 Hx := l_H27_H39.trans leHx
       have l_H28_Hx : LE H28 Hx := l_H28_H39.trans leHx
       have l_H29_Hx : LE H29 Hx := l_H29_H39.trans leHx
       have l_H35_Hx : LE H35 Hx := l_H35_H39.trans leHx
       have l_H39_Hx : LE H39 Hx := leHx
       obtain ⟨Hy, leHy, h, hx3⟩ := h.fsl (α := Df) (R := RDf) 0 (ys := [⟨[102], exF exX⟩]) (RowR.one rfl ⟨_, rfl, rt_of_ks (KS.up hk35 l_H35_Hx)⟩) (fun _ l _ _ _ hr => RDf.mono l hr)
       have l_H_Hy : LE H Hy := l_H_Hx.trans leHy
       have l_HA_Hy : LE HA Hy := l_HA_Hx.trans leHy
       have l_H21_Hy : LE H21 Hy := l_H21_Hx.trans leHy
       have l_H22_Hy : LE H22 Hy := l_H22_Hx.trans leHy
       have l_H27_Hy : LE H27 Hy := l_H27_Hx.trans leHy
       have l_H28_Hy : LE H28 Hy := l_H28_Hx.trans leHy
       have l_H29_Hy : LE H29 Hy := l_H29_Hx.trans leHy
       have l_H35_Hy : LE H35 Hy := l_H35_Hx.trans leHy
       have l_H39_Hy : LE H39 Hy := l_H39_Hx.trans leHy
       have l_Hx_Hy : LE Hx Hy := leHy
       have h := h.pull 2 rfl rfl
       have h := h.pull 2 rfl rfl
       have h := h.pull 2 rfl rfl
       have h := h.del 3
       exact ⟨_, g6, _, _, _, l_H29_Hy, CS.up hx1 l_Hx_Hy, hx3, KS.up hk39 l_H39_Hy, h.to 0 _⟩
    ·refine al zr28 h fun g6 a w h => ?_
     refine br0 ?_
     refine brl1 3 true (by kernel_rfl) (by kernel_rfl) (fun _ => h.st.sees' (by first | exact LE.rfl | assumption) (by simp)) ?_
     refine cl bod17 (fun_ok [120] exX _ E H29 _ (⟨none, 0, rfl, RS.nil _ _ _⟩)) h (fun r35 H35 L35 a w le35 R h => ?_) (hS := fun _ _ _ _ _ le R hw => by obtain ⟨_, rfl, _, rfl⟩ := R; exact hw.sees' (by first | exact le | exact LE.trans (by assumption) le) (by simp))
     obtain ⟨A35, rfl, hk35, rfl⟩ := R
     have l_H_H35 : LE H H35 := l_H_H29.trans le35
     have l_HA_H35 : LE HA H35 := l_HA_H29.trans le35
     have l_H21_H35 : LE H21 H35 := l_H21_H29.trans le35
     have l_H22_H35 : LE H22 H35 := l_H22_H29.trans le35
     have l_H27_H35 : LE H27 H35 := l_H27_H29.trans le35
     have l_H28_H35 : LE H28 H35 := l_H28_H29.trans le35
     have l_H29_H35 : LE H29 H35 := le35
     refine au [2,7,8,4,7,5,2,6] h ?_; intro a w h
     refine brl2 5 7 true false (by kernel_rfl) (by kernel_rfl) (by kernel_rfl) (fun _ => h.st.sees' (by first | exact LE.rfl | assumption) (by simp)) ?_ ?_
     ·refine bsl bs26 h fun g37 a w h => ?_
      refine br0 ?_
      refine brl1 7 false (by kernel_rfl) (by kernel_rfl) (fun _ => h.st.sees' (by first | exact LE.rfl | assumption) (by simp)) ?_
      refine cl bod17 (fun_ok [120] exA _ E H35 _ (⟨_, _, rfl, KS.up hsA l_HA_H35⟩)) h (fun r39 H39 L39 a w le39 R h => ?_) (hS := fun _ _ _ _ _ le R hw => by obtain ⟨_, rfl, _, rfl⟩ := R; exact hw.sees' (by first | exact le | exact LE.trans (by assumption) le) (by simp))
      obtain ⟨A39, rfl, hk39, rfl⟩ := R
      have l_H_H39 : LE H H39 := l_H_H35.trans le39
      have l_HA_H39 : LE HA H39 := l_HA_H35.trans le39
      have l_H21_H39 : LE H21 H39 := l_H21_H35.trans le39
      have l_H22_H39 : LE H22 H39 := l_H22_H35.trans le39
      have l_H27_H39 : LE H27 H39 := l_H27_H35.trans le39
      have l_H28_H39 : LE H28 H39 := l_H28_H35.trans le39
      have l_H29_H39 : LE H29 H39 := l_H29_H35.trans le39
      have l_H35_H39 : LE H35 H39 := le39
      refine au [2,7,8,8,7,5,2,6] h ?_; intro a w h
      refine brl1 10 false (by kernel_rfl) (by kernel_rfl) (fun _ => h.st.sees' (by first | exact LE.rfl | assumption) (by simp)) ?_
      refine au [5,6,2,7] h ?_; intro a w h
      refine en (by kernel_rfl) ?_
      refine thN ?_
      obtain ⟨Hx, leHx, h, hx1⟩ := h.fsl (α := Dc) (R := RDc) 2 (ys := [exD]) (RowR.one rfl rfl) (fun _ _ _ _ _ hr => hr)
      have l_H_Hx : LE H Hx := l_H_H39.trans leHx
      have l_HA_Hx : LE HA Hx := l_HA_H39.trans leHx
      have l_H21_Hx : LE H21 Hx := l_H21_H39.trans leHx
      have l_H22_Hx : LE H22 Hx := l_H22_H39.trans leHx
      have l_H27_Hx : LE H27 Hx := l_H27_H39.trans leHx
      have l_H28_Hx : LE H28 Hx := l_H28_H39.trans leHx
      have l_H29_Hx : LE H29 Hx := l_H29_H39.trans leHx
      have l_H35_Hx : LE H35 Hx := l_H35_H39.trans leHx
      have l_H39_Hx : LE H39 Hx := leHx
      obtain ⟨Hy, leHy, h, hx3⟩ := h.fsl (α := Df) (R := RDf) 0 (ys := [⟨[102], exF exX⟩]) (RowR.one rfl ⟨_, rfl, rt_of_ks (KS.up hk35 l_H35_Hx)⟩) (fun _ l _ _ _ hr => RDf.mono l hr)
      have l_H_Hy : LE H Hy := l_H_Hx.trans leHy
      have l_HA_Hy : LE HA Hy := l_HA_Hx.trans leHy
      have l_H21_Hy : LE H21 Hy := l_H21_Hx.trans leHy
      have l_H22_Hy : LE H22 Hy := l_H22_Hx.trans leHy
      have l_H27_Hy : LE H27 Hy := l_H27_Hx.trans leHy
      have l_H28_Hy : LE H28 Hy := l_H28_Hx.trans leHy
      have l_H29_Hy : LE H29 Hy := l_H29_Hx.trans leHy
      have l_H35_Hy : LE H35 Hy := l_H35_Hx.trans leHy
      have l_H39_Hy : LE H39 Hy := l_H39_Hx.trans leHy
      have l_Hx_Hy : LE Hx Hy := leHy
      have h := h.pull 2 rfl rfl
      have h := h.pull 2 rfl rfl
      have h := h.pull 2 rfl rfl
      have h := h.del 3
      exact ⟨_, g6, _, _, _, l_H29_Hy, CS.up hx1 l_Hx_Hy, hx3, KS.up hk39 l_H39_Hy, h.to 0 _⟩
     ·refine cl bod17 (fun_ok [120] exA _ E H35 _ (⟨_, _, rfl, KS.up hsA l_HA_H35⟩)) h (fun r39 H39 L39 a w le39 R h => ?_) (hS := fun _ _ _ _ _ le R hw => by obtain ⟨_, rfl, _, rfl⟩ := R; exact hw.sees' (by first | exact le | exact LE.trans (by assumption) le) (by simp))
      obtain ⟨A39, rfl, hk39, rfl⟩ := R
      have l_H_H39 : LE H H39 := l_H_H35.trans le39
      have l_HA_H39 : LE HA H39 := l_HA_H35.trans le39
      have l_H21_H39 : LE H21 H39 := l_H21_H35.trans le39
      have l_H22_H39 : LE H22 H39 := l_H22_H35.trans le39
      have l_H27_H39 : LE H27 H39 := l_H27_H35.trans le39
      have l_H28_H39 : LE H28 H39 := l_H28_H35.trans le39
      have l_H29_H39 : LE H29 H39 := l_H29_H35.trans le39
      have l_H35_H39 : LE H35 H39 := le39
      refine br0 ?_
      refine brl1 5 true (by kernel_rfl) (by kernel_rfl) (fun _ => h.st.sees' (by first | exact LE.rfl | assumption) (by simp)) ?_
      refine bsl bs26 h fun g37 a w h => ?_
      refine au [2,7,8,8,7,5,2,6] h ?_; intro a w h
      refine brl1 10 false (by kernel_rfl) (by kernel_rfl) (fun _ => h.st.sees' (by first | exact LE.rfl | assumption) (by simp)) ?_
      refine au [5,6,2,7] h ?_; intro a w h
      refine en (by kernel_rfl) ?_
      refine thN ?_
      obtain ⟨Hx, leHx, h, hx1⟩ := h.fsl (α := Dc) (R := RDc) 2 (ys := [exD]) (RowR.one rfl rfl) (fun _ _ _ _ _ hr => hr)
      have l_H_Hx : LE H Hx := l_H_H39.trans leHx
      have l_HA_Hx : LE HA Hx := l_HA_H39.trans leHx
      have l_H21_Hx : LE H21 Hx := l_H21_H39.trans leHx
      have l_H22_Hx : LE H22 Hx := l_H22_H39.trans leHx
      have l_H27_Hx : LE H27 Hx := l_H27_H39.trans leHx
      have l_H28_Hx : LE H28 Hx := l_H28_H39.trans leHx
      have l_H29_Hx : LE H29 Hx := l_H29_H39.trans leHx
      have l_H35_Hx : LE H35 Hx := l_H35_H39.trans leHx
      have l_H39_Hx : LE H39 Hx := leHx
      obtain ⟨Hy, leHy, h, hx3⟩ := h.fsl (α := Df) (R := RDf) 0 (ys := [⟨[102], exF exX⟩]) (RowR.one rfl ⟨_, rfl, rt_of_ks (KS.up hk35 l_H35_Hx)⟩) (fun _ l _ _ _ hr => RDf.mono l hr)
      have l_H_Hy : LE H Hy := l_H_Hx.trans leHy
      have l_HA_Hy : LE HA Hy := l_HA_Hx.trans leHy
      have l_H21_Hy : LE H21 Hy := l_H21_Hx.trans leHy
      have l_H22_Hy : LE H22 Hy := l_H22_Hx.trans leHy
      have l_H27_Hy : LE H27 Hy := l_H27_Hx.trans leHy
      have l_H28_Hy : LE H28 Hy := l_H28_Hx.trans leHy
      have l_H29_Hy : LE H29 Hy := l_H29_Hx.trans leHy
      have l_H35_Hy : LE H35 Hy := l_H35_Hx.trans leHy
      have l_H39_Hy : LE H39 Hy := l_H39_Hx.trans leHy
      have l_Hx_Hy : LE Hx Hy := leHy
      have h := h.pull 2 rfl rfl
      have h := h.pull 2 rfl rfl
      have h := h.pull 2 rfl rfl
      have h := h.del 3
      exact ⟨_, g6, _, _, _, l_H29_Hy, CS.up hx1 l_Hx_Hy, hx3, KS.up hk39 l_H39_Hy, h.to 0 _⟩
   ·refine al zr28 h fun g6 a w h => ?_
    refine br0 ?_
    refine brl1 2 true (by kernel_rfl) (by kernel_rfl) (fun _ => h.st.sees' (by first | exact LE.rfl | assumption) (by simp)) ?_
    refine cl bod16 (of_ok [120] E H29 _) h (fun r34 H34 L34 a w le34 R h => ?_) (hS := fun _ _ _ _ _ le R hw => by obtain ⟨rfl, rfl, rfl⟩ := R; exact hw.sees' (by first | exact le | exact LE.trans (by assumption) le) (by simp))
    obtain ⟨rfl, rfl, rfl⟩ := R
    refine br0 ?_
    refine brl1 3 true (by kernel_rfl) (by kernel_rfl) (fun _ => h.st.sees' (by first | exact LE.rfl | assumption) (by simp)) ?_
    refine cl bod17 (fun_ok [120] exX _ E H29 _ (⟨none, 0, rfl, RS.nil _ _ _⟩)) h (fun r35 H35 L35 a w le35 R h => ?_) (hS := fun _ _ _ _ _ le R hw => by obtain ⟨_, rfl, _, rfl⟩ := R; exact hw.sees' (by first | exact le | exact LE.trans (by assumption) le) (by simp))
    obtain ⟨A35, rfl, hk35, rfl⟩ := R
    have l_H_H35 : LE H H35 := l_H_H29.trans le35
    have l_HA_H35 : LE HA H35 := l_HA_H29.trans le35
    have l_H21_H35 : LE H21 H35 := l_H21_H29.trans le35
    have l_H22_H35 : LE H22 H35 := l_H22_H29.trans le35
    have l_H27_H35 : LE H27 H35 := l_H27_H29.trans le35
    have l_H28_H35 : LE H28 H35 := l_H28_H29.trans le35
    have l_H29_H35 : LE H29 H35 := le35
    refine au [2,7,8,4,7,5,2,6] h ?_; intro a w h
    refine brl2 5 7 true false (by kernel_rfl) (by kernel_rfl) (by kernel_rfl) (fun _ => h.st.sees' (by first | exact LE.rfl | assumption) (by simp)) ?_ ?_
    ·refine bsl bs26 h fun g37 a w h => ?_
     refine br0 ?_
     refine brl1 7 false (by kernel_rfl) (by kernel_rfl) (fun _ => h.st.sees' (by first | exact LE.rfl | assumption) (by simp)) ?_
     refine cl bod17 (fun_ok [120] exA _ E H35 _ (⟨_, _, rfl, KS.up hsA l_HA_H35⟩)) h (fun r39 H39 L39 a w le39 R h => ?_) (hS := fun _ _ _ _ _ le R hw => by obtain ⟨_, rfl, _, rfl⟩ := R; exact hw.sees' (by first | exact le | exact LE.trans (by assumption) le) (by simp))
     obtain ⟨A39, rfl, hk39, rfl⟩ := R
     have l_H_H39 : LE H H39 := l_H_H35.trans le39
     have l_HA_H39 : LE HA H39 := l_HA_H35.trans le39
     have l_H21_H39 : LE H21 H39 := l_H21_H35.trans le39
     have l_H22_H39 : LE H22 H39 := l_H22_H35.trans le39
     have l_H27_H39 : LE H27 H39 := l_H27_H35.trans le39
     have l_H28_H39 : LE H28 H39 := l_H28_H35.trans le39
     have l_H29_H39 : LE H29 H39 := l_H29_H35.trans le39
     have l_H35_H39 : LE H35 H39 := le39
     refine au [2,7,8,8,7,5,2,6] h ?_; intro a w h
     refine brl1 10 false (by kernel_rfl) (by kernel_rfl) (fun _ => h.st.sees' (by first | exact LE.rfl | assumption) (by simp)) ?_
     refine au [5,6,2,7] h ?_; intro a w h
     refine en (by kernel_rfl) ?_
     refine thN ?_
     obtain ⟨Hx, leHx, h, hx1⟩ := h.fsl (α := Dc) (R := RDc) 2 (ys := [exD]) (RowR.one rfl rfl) (fun _ _ _ _ _ hr => hr)
     have l_H_Hx : LE H Hx := l_H_H39.trans leHx
     have l_HA_Hx : LE HA Hx := l_HA_H39.trans leHx
     have l_H21_Hx : LE H21 Hx := l_H21_H39.trans leHx
     have l_H22_Hx : LE H22 Hx := l_H22_H39.trans leHx
     have l_H27_Hx : LE H27 Hx := l_H27_H39.trans leHx
     have l_H28_Hx : LE H28 Hx := l_H28_H39.trans leHx
     have l_H29_Hx : LE H29 Hx := l_H29_H39.trans leHx
     have l_H35_Hx : LE H35 Hx := l_H35_H39.trans leHx
     have l_H39_Hx : LE H39 Hx := leHx
     obtain ⟨Hy, leHy, h, hx3⟩ := h.fsl (α := Df) (R := RDf) 0 (ys := [⟨[102], exF exX⟩]) (RowR.one rfl ⟨_, rfl, rt_of_ks (KS.up hk35 l_H35_Hx)⟩) (fun _ l _ _ _ hr => RDf.mono l hr)
     have l_H_Hy : LE H Hy := l_H_Hx.trans leHy
     have l_HA_Hy : LE HA Hy := l_HA_Hx.trans leHy
     have l_H21_Hy : LE H21 Hy := l_H21_Hx.trans leHy
     have l_H22_Hy : LE H22 Hy := l_H22_Hx.trans leHy
     have l_H27_Hy : LE H27 Hy := l_H27_Hx.trans leHy
     have l_H28_Hy : LE H28 Hy := l_H28_Hx.trans leHy
     have l_H29_Hy : LE H29 Hy := l_H29_Hx.trans leHy
     have l_H35_Hy : LE H35 Hy := l_H35_Hx.trans leHy
     have l_H39_Hy : LE H39 Hy := l_H39_Hx.trans leHy
     have l_Hx_Hy : LE Hx Hy := leHy
     have h := h.pull 2 rfl rfl
     have h := h.pull 2 rfl rfl
     have h := h.pull 2 rfl rfl
     have h := h.del 3
     exact ⟨_, g6, _, _, _, l_H29_Hy, CS.up hx1 l_Hx_Hy, hx3, KS.up hk39 l_H39_Hy, h.to 0 _⟩
    ·refine cl bod17 (fun_ok [120] exA _ E H35 _ (⟨_, _, rfl, KS.up hsA l_HA_H35⟩)) h (fun r39 H39 L39 a w le39 R h => ?_) (hS := fun _ _ _ _ _ le R hw => by obtain ⟨_, rfl, _, rfl⟩ := R; exact hw.sees' (by first | exact le | exact LE.trans (by assumption) le) (by simp))
     obtain ⟨A39, rfl, hk39, rfl⟩ := R
     have l_H_H39 : LE H H39 := l_H_H35.trans le39
     have l_HA_H39 : LE HA H39 := l_HA_H35.trans le39
     have l_H21_H39 : LE H21 H39 := l_H21_H35.trans le39
     have l_H22_H39 : LE H22 H39 := l_H22_H35.trans le39
     have l_H27_H39 : LE H27 H39 := l_H27_H35.trans le39
     have l_H28_H39 : LE H28 H39 := l_H28_H35.trans le39
     have l_H29_H39 : LE H29 H39 := l_H29_H35.trans le39
     have l_H35_H39 : LE H35 H39 := le39
     refine br0 ?_
     refine brl1 5 true (by kernel_rfl) (by kernel_rfl) (fun _ => h.st.sees' (by first | exact LE.rfl | assumption) (by simp)) ?_
     refine bsl bs26 h fun g37 a w h => ?_
     refine au [2,7,8,8,7,5,2,6] h ?_; intro a w h
     refine brl1 10 false (by kernel_rfl) (by kernel_rfl) (fun _ => h.st.sees' (by first | exact LE.rfl | assumption) (by simp)) ?_
     refine au [5,6,2,7] h ?_; intro a w h
     refine en (by kernel_rfl) ?_
     refine thN ?_
     obtain ⟨Hx, leHx, h, hx1⟩ := h.fsl (α := Dc) (R := RDc) 2 (ys := [exD]) (RowR.one rfl rfl) (fun _ _ _ _ _ hr => hr)
     have l_H_Hx : LE H Hx := l_H_H39.trans leHx
     have l_HA_Hx : LE HA Hx := l_HA_H39.trans leHx
     have l_H21_Hx : LE H21 Hx := l_H21_H39.trans leHx
     have l_H22_Hx : LE H22 Hx := l_H22_H39.trans leHx
     have l_H27_Hx : LE H27 Hx := l_H27_H39.trans leHx
     have l_H28_Hx : LE H28 Hx := l_H28_H39.trans leHx
     have l_H29_Hx : LE H29 Hx := l_H29_H39.trans leHx
     have l_H35_Hx : LE H35 Hx := l_H35_H39.trans leHx
     have l_H39_Hx : LE H39 Hx := leHx
     obtain ⟨Hy, leHy, h, hx3⟩ := h.fsl (α := Df) (R := RDf) 0 (ys := [⟨[102], exF exX⟩]) (RowR.one rfl ⟨_, rfl, rt_of_ks (KS.up hk35 l_H35_Hx)⟩) (fun _ l _ _ _ hr => RDf.mono l hr)
     have l_H_Hy : LE H Hy := l_H_Hx.trans leHy
     have l_HA_Hy : LE HA Hy := l_HA_Hx.trans leHy
     have l_H21_Hy : LE H21 Hy := l_H21_Hx.trans leHy
     have l_H22_Hy : LE H22 Hy := l_H22_Hx.trans leHy
     have l_H27_Hy : LE H27 Hy := l_H27_Hx.trans leHy
     have l_H28_Hy : LE H28 Hy := l_H28_Hx.trans leHy
     have l_H29_Hy : LE H29 Hy := l_H29_Hx.trans leHy
     have l_H35_Hy : LE H35 Hy := l_H35_Hx.trans leHy
     have l_H39_Hy : LE H39 Hy := l_H39_Hx.trans leHy
     have l_Hx_Hy : LE Hx Hy := leHy
     have h := h.pull 2 rfl rfl
     have h := h.pull 2 rfl rfl
     have h := h.pull 2 rfl rfl
     have h := h.del 3
     exact ⟨_, g6, _, _, _, l_H29_Hy, CS.up hx1 l_Hx_Hy, hx3, KS.up hk39 l_H39_Hy, h.to 0 _⟩
  ·refine cl bod16 (of_ok [120] E H29 _) h (fun r34 H34 L34 a w le34 R h => ?_) (hS := fun _ _ _ _ _ le R hw => by obtain ⟨rfl, rfl, rfl⟩ := R; exact hw.sees' (by first | exact le | exact LE.trans (by assumption) le) (by simp))
   obtain ⟨rfl, rfl, rfl⟩ := R
   refine br0 ?_
   refine brl3 1 3 9 true true true (by kernel_rfl) (by kernel_rfl) (by kernel_rfl) (by kernel_rfl) (fun _ => h.st.sees' (by first | exact LE.rfl | assumption) (by simp)) ?_ ?_ ?_
   ·refine bsl bs25 h fun g33 a w h => ?_
    refine br0 ?_
    refine brl2 3 9 true true (by kernel_rfl) (by kernel_rfl) (by kernel_rfl) (fun _ => h.st.sees' (by first | exact LE.rfl | assumption) (by simp)) ?_ ?_
    ·refine cl bod17 (fun_ok [120] exX _ E H29 _ (⟨none, 0, rfl, RS.nil _ _ _⟩)) h (fun r35 H35 L35 a w le35 R h => ?_) (hS := fun _ _ _ _ _ le R hw => by obtain ⟨_, rfl, _, rfl⟩ := R; exact hw.sees' (by first | exact le | exact LE.trans (by assumption) le) (by simp))
     obtain ⟨A35, rfl, hk35, rfl⟩ := R
     have l_H_H35 : LE H H35 := l_H_H29.trans le35
     have l_HA_H35 : LE HA H35 := l_HA_H29.trans le35
     have l_H21_H35 : LE H21 H35 := l_H21_H29.trans le35
     have l_H22_H35 : LE H22 H35 := l_H22_H29.trans le35
     have l_H27_H35 : LE H27 H35 := l_H27_H29.trans le35
     have l_H28_H35 : LE H28 H35 := l_H28_H29.trans le35
     have l_H29_H35 : LE H29 H35 := le35
     refine au [2,7,8,4,7,5,2,6] h ?_; intro a w h
     refine brl3 5 7 9 true false true (by kernel_rfl) (by kernel_rfl) (by kernel_rfl) (by kernel_rfl) (fun _ => h.st.sees' (by first | exact LE.rfl | assumption) (by simp)) ?_ ?_ ?_
     ·refine bsl bs26 h fun g37 a w h => ?_
      refine br0 ?_
      refine brl2 7 9 false true (by kernel_rfl) (by kernel_rfl) (by kernel_rfl) (fun _ => h.st.sees' (by first | exact LE.rfl | assumption) (by simp)) ?_ ?_
      ·refine cl bod17 (fun_ok [120] exA _ E H35 _ (⟨_, _, rfl, KS.up hsA l_HA_H35⟩)) h (fun r39 H39 L39 a w le39 R h => ?_) (hS := fun _ _ _ _ _ le R hw => by obtain ⟨_, rfl, _, rfl⟩ := R; exact hw.sees' (by first | exact le | exact LE.trans (by assumption) le) (by simp))
       obtain ⟨A39, rfl, hk39, rfl⟩ := R
       have l_H_H39 : LE H H39 := l_H_H35.trans le39
       have l_HA_H39 : LE HA H39 := l_HA_H35.trans le39
       have l_H21_H39 : LE H21 H39 := l_H21_H35.trans le39
       have l_H22_H39 : LE H22 H39 := l_H22_H35.trans le39
       have l_H27_H39 : LE H27 H39 := l_H27_H35.trans le39
       have l_H28_H39 : LE H28 H39 := l_H28_H35.trans le39
       have l_H29_H39 : LE H29 H39 := l_H29_H35.trans le39
       have l_H35_H39 : LE H35 H39 := le39
       refine au [2,7,8,8,7,5,2,6] h ?_; intro a w h
       refine brl1 9 true (by kernel_rfl) (by kernel_rfl) (fun _ => h.st.sees' (by first | exact LE.rfl | assumption) (by simp)) ?_
       refine al zr28 h fun g6 a w h => ?_
       refine br0 ?_
       refine brl1 10 false (by kernel_rfl) (by kernel_rfl) (fun _ => h.st.sees' (by first | exact LE.rfl | assumption) (by simp)) ?_
       refine au [5,5,2,7] h ?_; intro a w h
       refine en (by kernel_rfl) ?_
       refine thN ?_
       obtain ⟨Hx, leHx, h, hx1⟩ := h.fsl (α := Dc) (R := RDc) 2 (ys := [exD]) (RowR.one rfl rfl) (fun _ _ _ _ _ hr => hr)
       have l_H_Hx : LE H Hx := l_H_H39.trans leHx
       have l_HA_Hx : LE HA Hx := l_HA_H39.trans leHx
       have l_H21_Hx : LE H21 Hx := l_H21_H39.trans leHx
       have l_H22_Hx : LE H22 Hx := l_H22_H39.trans leHx
       have l_H27_Hx : LE H27 Hx := l_H27_H39.trans leHx
       have l_H28_Hx : LE H28 Hx := l_H28_H39.trans leHx
       have l_H29_Hx : LE H29 Hx := l_H29_H39.trans leHx
       have l_H35_Hx : LE H35 Hx := l_H35_H39.trans leHx
       have l_H39_Hx : LE H39 Hx := leHx
       obtain ⟨Hy, leHy, h, hx3⟩ := h.fsl (α := Df) (R := RDf) 1 (ys := [⟨[102], exF exX⟩]) (RowR.one rfl ⟨_, rfl, rt_of_ks (KS.up hk35 l_H35_Hx)⟩) (fun _ l _ _ _ hr => RDf.mono l hr)
       have l_H_Hy : LE H Hy := l_H_Hx.trans leHy
       have l_HA_Hy : LE HA Hy := l_HA_Hx.trans leHy
       have l_H21_Hy : LE H21 Hy := l_H21_Hx.trans leHy
       have l_H22_Hy : LE H22 Hy := l_H22_Hx.trans leHy
       have l_H27_Hy : LE H27 Hy := l_H27_Hx.trans leHy
       have l_H28_Hy : LE H28 Hy := l_H28_Hx.trans leHy
       have l_H29_Hy : LE H29 Hy := l_H29_Hx.trans leHy
       have l_H35_Hy : LE H35 Hy := l_H35_Hx.trans leHy
       have l_H39_Hy : LE H39 Hy := l_H39_Hx.trans leHy
       have l_Hx_Hy : LE Hx Hy := leHy
       have h := h.pull 2 rfl rfl
       have h := h.pull 2 rfl rfl
       have h := h.pull 2 rfl rfl
       have h := h.del 3
       exact ⟨_, g6, _, _, _, l_H29_Hy, CS.up hx1 l_Hx_Hy, hx3, KS.up hk39 l_H39_Hy, h.to 0 _⟩
      ·refine al zr28 h fun g6 a w h => ?_
       refine br0 ?_
       refine brl1 7 false (by kernel_rfl) (by kernel_rfl) (fun _ => h.st.sees' (by first | exact LE.rfl | assumption) (by simp)) ?_
       refine cl bod17 (fun_ok [120] exA _ E H35 _ (⟨_, _, rfl, KS.up hsA l_HA_H35⟩)) h (fun r39 H39 L39 a w le39 R h => ?_) (hS := fun _ _ _ _ _ le R hw => by obtain ⟨_, rfl, _, rfl⟩ := R; exact hw.sees' (by first | exact le | exact LE.trans (by assumption) le) (by simp))
       obtain ⟨A39, rfl, hk39, rfl⟩ := R
       have l_H_H39 : LE H H39 := l_H_H35.trans le39
       have l_HA_H39 : LE HA H39 := l_HA_H35.trans le39
       have l_H21_H39 : LE H21 H39 := l_H21_H35.trans le39
       have l_H22_H39 : LE H22 H39 := l_H22_H35.trans le39
       have l_H27_H39 : LE H27 H39 := l_H27_H35.trans le39
       have l_H28_H39 : LE H28 H39 := l_H28_H35.trans le39
       have l_H29_H39 : LE H29 H39 := l_H29_H35.trans le39
       have l_H35_H39 : LE H35 H39 := le39
       refine au [2,7,8,8,7,5,2,6] h ?_; intro a w h
       refine brl1 10 false (by kernel_rfl) (by kernel_rfl) (fun _ => h.st.sees' (by first | exact LE.rfl | assumption) (by simp)) ?_
       refine au [5,5,2,7] h ?_; intro a w h
       refine en (by kernel_rfl) ?_
       refine thN ?_
       obtain ⟨Hx, leHx, h, hx1⟩ := h.fsl (α := Dc) (R := RDc) 2 (ys := [exD]) (RowR.one rfl rfl) (fun _ _ _ _ _ hr => hr)
       have l_H_Hx : LE H Hx := l_H_H39.trans leHx
       have l_HA_Hx : LE HA Hx := l_HA_H39.trans leHx
       have l_H21_Hx : LE H21 Hx := l_H21_H39.trans leHx
       have l_H22_Hx : LE H22 Hx := l_H22_H39.trans leHx
       have l_H27_Hx : LE H27 Hx := l_H27_H39.trans leHx
       have l_H28_Hx : LE H28 Hx := l_H28_H39.trans leHx
       have l_H29_Hx : LE H29 Hx := l_H29_H39.trans leHx
       have l_H35_Hx : LE H35 Hx := l_H35_H39.trans leHx
       have l_H39_Hx : LE H39 Hx := leHx
       obtain ⟨Hy, leHy, h, hx3⟩ := h.fsl (α := Df) (R := RDf) 1 (ys := [⟨[102], exF exX⟩]) (RowR.one rfl ⟨_, rfl, rt_of_ks (KS.up hk35 l_H35_Hx)⟩) (fun _ l _ _ _ hr => RDf.mono l hr)
       have l_H_Hy : LE H Hy := l_H_Hx.trans leHy
       have l_HA_Hy : LE HA Hy := l_HA_Hx.trans leHy
       have l_H21_Hy : LE H21 Hy := l_H21_Hx.trans leHy
       have l_H22_Hy : LE H22 Hy := l_H22_Hx.trans leHy
       have l_H27_Hy : LE H27 Hy := l_H27_Hx.trans leHy
       have l_H28_Hy : LE H28 Hy := l_H28_Hx.trans leHy
       have l_H29_Hy : LE H29 Hy := l_H29_Hx.trans leHy
       have l_H35_Hy : LE H35 Hy := l_H35_Hx.trans leHy
       have l_H39_Hy : LE H39 Hy := l_H39_Hx.trans leHy
       have l_Hx_Hy : LE Hx Hy := leHy
       have h := h.pull 2 rfl rfl
       have h := h.pull 2 rfl rfl
       have h := h.pull 2 rfl rfl
       have h := h.del 3
       exact ⟨_, g6, _, _, _, l_H29_Hy, CS.up hx1 l_Hx_Hy, hx3, KS.up hk39 l_H39_Hy, h.to 0 _⟩
     ·refine cl bod17 (fun_ok [120] exA _ E H35 _ (⟨_, _, rfl, KS.up hsA l_HA_H35⟩)) h (fun r39 H39 L39 a w le39 R h => ?_) (hS := fun _ _ _ _ _ le R hw => by obtain ⟨_, rfl, _, rfl⟩ := R; exact hw.sees' (by first | exact le | exact LE.trans (by assumption) le) (by simp))
      obtain ⟨A39, rfl, hk39, rfl⟩ := R
      have l_H_H39 : LE H H39 := l_H_H35.trans le39
      have l_HA_H39 : LE HA H39 := l_HA_H35.trans le39
      have l_H21_H39 : LE H21 H39 := l_H21_H35.trans le39
      have l_H22_H39 : LE H22 H39 := l_H22_H35.trans le39
      have l_H27_H39 : LE H27 H39 := l_H27_H35.trans le39
      have l_H28_H39 : LE H28 H39 := l_H28_H35.trans le39
      have l_H29_H39 : LE H29 H39 := l_H29_H35.trans le39
      have l_H35_H39 : LE H35 H39 := le39
      refine br0 ?_
      refine brl2 5 9 true true (by kernel_rfl) (by kernel_rfl) (by kernel_rfl) (fun _ => h.st.sees' (by first | exact LE.rfl | assumption) (by simp)) ?_ ?_
      ·refine bsl bs26 h fun g37 a w h => ?_
       refine au [2,7,8,8,7,5,2,6] h ?_; intro a w h
       refine brl1 9 true (by kernel_rfl) (by kernel_rfl) (fun _ => h.st.sees' (by first | exact LE.rfl | assumption) (by simp)) ?_
       refine al zr28 h fun g6 a w h => ?_
       refine br0 ?_
       refine brl1 10 false (by kernel_rfl) (by kernel_rfl) (fun _ => h.st.sees' (by first | exact LE.rfl | assumption) (by simp)) ?_
       refine au [5,5,2,7] h ?_; intro a w h
       refine en (by kernel_rfl) ?_
       refine thN ?_
       obtain ⟨Hx, leHx, h, hx1⟩ := h.fsl (α := Dc) (R := RDc) 2 (ys := [exD]) (RowR.one rfl rfl) (fun _ _ _ _ _ hr => hr)
       have l_H_Hx : LE H Hx := l_H_H39.trans leHx
       have l_HA_Hx : LE HA Hx := l_HA_H39.trans leHx
       have l_H21_Hx : LE H21 Hx := l_H21_H39.trans leHx
       have l_H22_Hx : LE H22 Hx := l_H22_H39.trans leHx
       have l_H27_Hx : LE H27 Hx := l_H27_H39.trans leHx
       have l_H28_Hx : LE H28 Hx := l_H28_H39.trans leHx
       have l_H29_Hx : LE H29 Hx := l_H29_H39.trans leHx
       have l_H35_Hx : LE H35 Hx := l_H35_H39.trans leHx
       have l_H39_Hx : LE H39 Hx := leHx
       obtain ⟨Hy, leHy, h, hx3⟩ := h.fsl (α := Df) (R := RDf) 1 (ys := [⟨[102], exF exX⟩]) (RowR.one rfl ⟨_, rfl, rt_of_ks (KS.up hk35 l_H35_Hx)⟩) (fun _ l _ _ _ hr => RDf.mono l hr)
       have l_H_Hy : LE H Hy := l_H_Hx.trans leHy
       have l_HA_Hy : LE HA Hy := l_HA_Hx.trans leHy
       have l_H21_Hy : LE H21 Hy := l_H21_Hx.trans leHy
       have l_H22_Hy : LE H22 Hy := l_H22_Hx.trans leHy
       have l_H27_Hy : LE H27 Hy := l_H27_Hx.trans leHy
       have l_H28_Hy : LE H28 Hy := l_H28_Hx.trans leHy
       have l_H29_Hy : LE H29 Hy := l_H29_Hx.trans leHy
       have l_H35_Hy : LE H35 Hy := l_H35_Hx.trans leHy
       have l_H39_Hy : LE H39 Hy := l_H39_Hx.trans leHy
       have l_Hx_Hy : LE Hx Hy := leHy
       have h := h.pull 2 rfl rfl
       have h := h.pull 2 rfl rfl
       have h := h.pull 2 rfl rfl
       have h := h.del 3
       exact ⟨_, g6, _, _, _, l_H29_Hy, CS.up hx1 l_Hx_Hy, hx3, KS.up hk39 l_H39_Hy, h.to 0 _⟩
      ·refine al zr28 h fun g6 a w h => ?_
       refine br0 ?_
       refine brl1 5 true (by kernel_rfl) (by kernel_rfl) (fun _ => h.st.sees' (by first | exact LE.rfl | assumption) (by simp)) ?_
       refine bsl bs26 h fun g37 a w h => ?_
       refine au [2,7,8,8,7,5,2,6] h ?_; intro a w h
       refine brl1 10 false (by kernel_rfl) (by kernel_rfl) (fun _ => h.st.sees' (by first | exact LE.rfl | assumption) (by simp)) ?_
       refine au [5,6,2,7] h ?_; intro a w h
       refine en (by kernel_rfl) ?_
       refine thN ?_
       obtain ⟨Hx, leHx, h, hx1⟩ := h.fsl (α := Dc) (R := RDc) 2 (ys := [exD]) (RowR.one rfl rfl) (fun _ _ _ _ _ hr => hr)
       have l_H_Hx : LE H Hx := l_H_H39.trans leHx
       have l_HA_Hx : LE HA Hx := l_HA_H39.trans leHx
       have l_H21_Hx : LE H21 Hx := l_H21_H39.trans leHx
       have l_H22_Hx : LE H22 Hx := l_H22_H39.trans leHx
       have l_H27_Hx : LE H27 Hx := l_H27_H39.trans leHx
       have l_H28_Hx : LE H28 Hx := l_H28_H39.trans leHx
       have l_H29_Hx : LE H29 Hx := l_H29_H39.trans leHx
       have l_H35_Hx : LE H35 Hx := l_H35_H39.trans leHx
       have l_H39_Hx : LE H39 Hx := leHx
       obtain ⟨Hy, leHy, h, hx3⟩ := h.fsl (α := Df) (R := RDf) 0 (ys := [⟨[102], exF exX⟩]) (RowR.one rfl ⟨_, rfl, rt_of_ks (KS.up hk35 l_H35_Hx)⟩) (fun _ l _ _ _ hr => RDf.mono l hr)
       have l_H_Hy : LE H Hy := l_H_Hx.trans leHy
       have l_HA_Hy : LE HA Hy := l_HA_Hx.trans leHy
       have l_H21_Hy : LE H21 Hy := l_H21_Hx.trans leHy
       have l_H22_Hy : LE H22 Hy := l_H22_Hx.trans leHy
       have l_H27_Hy : LE H27 Hy := l_H27_Hx.trans leHy
       have l_H28_Hy : LE H28 Hy := l_H28_Hx.trans leHy
       have l_H29_Hy : LE H29 Hy := l_H29_Hx.trans leHy
       have l_H35_Hy : LE H35 Hy := l_H35_Hx.trans leHy
       have l_H39_Hy : LE H39 Hy := l_H39_Hx.trans leHy
       have l_Hx_Hy : LE Hx Hy := leHy
       have h := h.pull 2 rfl rfl
       have h := h.pull 2 rfl rfl
       have h := h.pull 2 rfl rfl
       have h := h.del 3
       exact ⟨_, g6, _, _, _, l_H29_Hy, CS.up hx1 l_Hx_Hy, hx3, KS.up hk39 l_H39_Hy, h.to 0 _⟩
     ·refine al zr28 h fun g6 a w h => ?_
      refine br0 ?_
      refine brl2 5 7 true false (by kernel_rfl) (by kernel_rfl) (by kernel_rfl) (fun _ => h.st.sees' (by first | exact LE.rfl | assumption) (by simp)) ?_ ?_
      ·refine bsl bs26 h fun g37 a w h => ?_
       refine br0 ?_
       refine brl1 7 false (by kernel_rfl) (by kernel_rfl) (fun _ => h.st.sees' (by first | exact LE.rfl | assumption) (by simp)) ?_
       refine cl bod17 (fun_ok [120] exA _ E H35 _ (⟨_, _, rfl, KS.up hsA l_HA_H35⟩)) h (fun r39 H39 L39 a w le39 R h => ?_) (hS := fun _ _ _ _ _ le R hw => by obtain ⟨_, rfl, _, rfl⟩ := R; exact hw.sees' (by first | exact le | exact LE.trans (by assumption) le) (by simp))
       obtain ⟨A39, rfl, hk39, rfl⟩ := R
       have l_H_H39 : LE H H39 := l_H_H35.trans le39
       have l_HA_H39 : LE HA H39 := l_HA_H35.trans le39
       have l_H21_H39 : LE H21 H39 := l_H21_H35.trans le39
       have l_H22_H39 : LE H22 H39 := l_H22_H35.trans le39
       have l_H27_H39 : LE H27 H39 := l_H27_H35.trans le39
       have l_H28_H39 : LE H28 H39 := l_H28_H35.trans le39
       have l_H29_H39 : LE H29 H39 := l_H29_H35.trans le39
       have l_H35_H39 : LE H35 H39 := le39
       refine au [2,7,8,8,7,5,2,6] h ?_; intro a w h
       refine brl1 10 false (by kernel_rfl) (by kernel_rfl) (fun _ => h.st.sees' (by first | exact LE.rfl | assumption) (by simp)) ?_
       refine au [5,6,2,7] h ?_; intro a w h
       refine en (by kernel_rfl) ?_
       refine thN ?_
       obtain ⟨Hx, leHx, h, hx1⟩ := h.fsl (α := Dc) (R := RDc) 2 (ys := [exD]) (RowR.one rfl rfl) (fun _ _ _ _ _ hr => hr)
       have l_H_Hx : LE H Hx := l_H_H39.trans leHx
       have l_HA_Hx : LE HA Hx := l_HA_H39.trans leHx
       have l_H21_Hx : LE H21 Hx := l_H21_H39.trans leHx
       have l_H22_Hx : LE H22 Hx := l_H22_H39.trans leHx
       have l_H27_Hx : LE H27 Hx := l_H27_H39.trans leHx
       have l_H28_Hx : LE H28 Hx := l_H28_H39.trans leHx
       have l_H29_Hx : LE H29 Hx := l_H29_H39.trans leHx
       have l_H35_Hx : LE H35 Hx := l_H35_H39.trans leHx
       have l_H39_Hx : LE H39 Hx := leHx
       obtain ⟨Hy, leHy, h, hx3⟩ := h.fsl (α := Df) (R := RDf) 0 (ys := [⟨[102], exF exX⟩]) (RowR.one rfl ⟨_, rfl, rt_of_ks (KS.up hk35 l_H35_Hx)⟩) (fun _ l _ _ _ hr => RDf.mono l hr)
       have l_H_Hy : LE H Hy := l_H_Hx.trans leHy
       have l_HA_Hy : LE HA Hy := l_HA_Hx.trans leHy
       have l_H21_Hy : LE H21 Hy := l_H21_Hx.trans leHy
       have l_H22_Hy : LE H22 Hy := l_H22_Hx.trans leHy
       have l_H27_Hy : LE H27 Hy := l_H27_Hx.trans leHy
       have l_H28_Hy : LE H28 Hy := l_H28_Hx.trans leHy
       have l_H29_Hy : LE H29 Hy := l_H29_Hx.trans leHy
       have l_H35_Hy : LE H35 Hy := l_H35_Hx.trans leHy
       have l_H39_Hy : LE H39 Hy := l_H39_Hx.trans leHy
       have l_Hx_Hy : LE Hx Hy := leHy
       have h := h.pull 2 rfl rfl
       have h := h.pull 2 rfl rfl
       have h := h.pull 2 rfl rfl
       have h := h.del 3
       exact ⟨_, g6, _, _, _, l_H29_Hy, CS.up hx1 l_Hx_Hy, hx3, KS.up hk39 l_H39_Hy, h.to 0 _⟩
      ·refine cl bod17 (fun_ok [120] exA _ E H35 _ (⟨_, _, rfl, KS.up hsA l_HA_H35⟩)) h (fun r39 H39 L39 a w le39 R h => ?_) (hS := fun _ _ _ _ _ le R hw => by obtain ⟨_, rfl, _, rfl⟩ := R; exact hw.sees' (by first | exact le | exact LE.trans (by assumption) le) (by simp))
       obtain ⟨A39, rfl, hk39, rfl⟩ := R
       have l_H_H39 : LE H H39 := l_H_H35.trans le39
       have l_HA_H39 : LE HA H39 := l_HA_H35.trans le39
       have l_H21_H39 : LE H21 H39 := l_H21_H35.trans le39
       have l_H22_H39 : LE H22 H39 := l_H22_H35.trans le39
       have l_H27_H39 : LE H27 H39 := l_H27_H35.trans le39
       have l_H28_H39 : LE H28 H39 := l_H28_H35.trans le39
       have l_H29_H39 : LE H29 H39 := l_H29_H35.trans le39
       have l_H35_H39 : LE H35 H39 := le39
       refine br0 ?_
       refine brl1 5 true (by kernel_rfl) (by kernel_rfl) (fun _ => h.st.sees' (by first | exact LE.rfl | assumption) (by simp)) ?_
       refine bsl bs26 h fun g37 a w h => ?_
       refine au [2,7,8,8,7,5,2,6] h ?_; intro a w h
       refine brl1 10 false (by kernel_rfl) (by kernel_rfl) (fun _ => h.st.sees' (by first | exact LE.rfl | assumption) (by simp)) ?_
       refine au [5,6,2,7] h ?_; intro a w h
       refine en (by kernel_rfl) ?_
       refine thN ?_
       obtain ⟨Hx, leHx, h, hx1⟩ := h.fsl (α := Dc) (R := RDc) 2 (ys := [exD]) (RowR.one rfl rfl) (fun _ _ _ _ _ hr => hr)
       have l_H_Hx : LE H Hx := l_H_H39.trans leHx
       have l_HA_Hx : LE HA Hx := l_HA_H39.trans leHx
       have l_H21_Hx : LE H21 Hx := l_H21_H39.trans leHx
       have l_H22_Hx : LE H22 Hx := l_H22_H39.trans leHx
       have l_H27_Hx : LE H27 Hx := l_H27_H39.trans leHx
       have l_H28_Hx : LE H28 Hx := l_H28_H39.trans leHx
       have l_H29_Hx : LE H29 Hx := l_H29_H39.trans leHx
       have l_H35_Hx : LE H35 Hx := l_H35_H39.trans leHx
       have l_H39_Hx : LE H39 Hx := leHx
       obtain ⟨Hy, leHy, h, hx3⟩ := h.fsl (α := Df) (R := RDf) 0 (ys := [⟨[102], exF exX⟩]) (RowR.one rfl ⟨_, rfl, rt_of_ks (KS.up hk35 l_H35_Hx)⟩) (fun _ l _ _ _ hr => RDf.mono l hr)
       have l_H_Hy : LE H Hy := l_H_Hx.trans leHy
       have l_HA_Hy : LE HA Hy := l_HA_Hx.trans leHy
       have l_H21_Hy : LE H21 Hy := l_H21_Hx.trans leHy
       have l_H22_Hy : LE H22 Hy := l_H22_Hx.trans leHy
       have l_H27_Hy : LE H27 Hy := l_H27_Hx.trans leHy
       have l_H28_Hy : LE H28 Hy := l_H28_Hx.trans leHy
       have l_H29_Hy : LE H29 Hy := l_H29_Hx.trans leHy
       have l_H35_Hy : LE H35 Hy := l_H35_Hx.trans leHy
       have l_H39_Hy : LE H39 Hy := l_H39_Hx.trans leHy
       have l_Hx_Hy : LE Hx Hy := leHy
       have h := h.pull 2 rfl rfl
       have h := h.pull 2 rfl rfl
       have h := h.pull 2 rfl rfl
       have h := h.del 3
       exact ⟨_, g6, _, _, _, l_H29_Hy, CS.up hx1 l_Hx_Hy, hx3, KS.up hk39 l_H39_Hy, h.to 0 _⟩
    ·refine al zr28 h fun g6 a w h => ?_
     refine br0 ?_
     refine brl1 3 true (by kernel_rfl) (by kernel_rfl) (fun _ => h.st.sees' (by first | exact LE.rfl | assumption) (by simp)) ?_
     refine cl bod17 (fun_ok [120] exX _ E H29 _ (⟨none, 0, rfl, RS.nil _ _ _⟩)) h (fun r35 H35 L35 a w le35 R h => ?_) (hS := fun _ _ _ _ _ le R hw => by obtain ⟨_, rfl, _, rfl⟩ := R; exact hw.sees' (by first | exact le | exact LE.trans (by assumption) le) (by simp))
     obtain ⟨A35, rfl, hk35, rfl⟩ := R
     have l_H_H35 : LE H H35 := l_H_H29.trans le35
     have l_HA_H35 : LE HA H35 := l_HA_H29.trans le35
     have l_H21_H35 : LE H21 H35 := l_H21_H29.trans le35
     have l_H22_H35 : LE H22 H35 := l_H22_H29.trans le35
     have l_H27_H35 : LE H27 H35 := l_H27_H29.trans le35
     have l_H28_H35 : LE H28 H35 := l_H28_H29.trans le35
     have l_H29_H35 : LE H29 H35 := le35
     refine au [2,7,8,4,7,5,2,6] h ?_; intro a w h
     refine brl2 5 7 true false (by kernel_rfl) (by kernel_rfl) (by kernel_rfl) (fun _ => h.st.sees' (by first | exact LE.rfl | assumption) (by simp)) ?_ ?_
     ·refine bsl bs26 h fun g37 a w h => ?_
      refine br0 ?_
      refine brl1 7 false (by kernel_rfl) (by kernel_rfl) (fun _ => h.st.sees' (by first | exact LE.rfl | assumption) (by simp)) ?_
      refine cl bod17 (fun_ok [120] exA _ E H35 _ (⟨_, _, rfl, KS.up hsA l_HA_H35⟩)) h (fun r39 H39 L39 a w le39 R h => ?_) (hS := fun _ _ _ _ _ le R hw => by obtain ⟨_, rfl, _, rfl⟩ := R; exact hw.sees' (by first | exact le | exact LE.trans (by assumption) le) (by simp))
      obtain ⟨A39, rfl, hk39, rfl⟩ := R
      have l_H_H39 : LE H H39 := l_H_H35.trans le39
      have l_HA_H39 : LE HA H39 := l_HA_H35.trans le39
      have l_H21_H39 : LE H21 H39 := l_H21_H35.trans le39
      have l_H22_H39 : LE H22 H39 := l_H22_H35.trans le39
      have l_H27_H39 : LE H27 H39 := l_H27_H35.trans le39
      have l_H28_H39 : LE H28 H39 := l_H28_H35.trans le39
      have l_H29_H39 : LE H29 H39 := l_H29_H35.trans le39
      have l_H35_H39 : LE H35 H39 := le39
      refine au [2,7,8,8,7,5,2,6] h ?_; intro a w h
      refine brl1 10 false (by kernel_rfl) (by kernel_rfl) (fun _ => h.st.sees' (by first | exact LE.rfl | assumption) (by simp)) ?_
      refine au [5,6,2,7] h ?_; intro a w h
      refine en (by kernel_rfl) ?_
      refine thN ?_
      obtain ⟨Hx, leHx, h, hx1⟩ := h.fsl (α := Dc) (R := RDc) 2 (ys := [exD]) (RowR.one rfl rfl) (fun _ _ _ _ _ hr => hr)
      have l_H_Hx : LE H Hx := l_H_H39.trans leHx
      have l_HA_Hx : LE HA Hx := l_HA_H39.trans leHx
      have l_H21_Hx : LE H21 Hx := l_H21_H39.trans leHx
      have l_H22_Hx : LE H22 Hx := l_H22_H39.trans leHx
      have l_H27_Hx : LE H27 Hx := l_H27_H39.trans leHx
      have l_H28_Hx : LE H28 Hx := l_H28_H39.trans leHx
      have l_H29_Hx : LE H29 Hx := l_H29_H39.trans leHx
      have l_H35_Hx : LE H35 Hx := l_H35_H39.trans leHx
      have l_H39_Hx : LE H39 Hx := leHx
      obtain ⟨Hy, leHy, h, hx3⟩ := h.fsl (α := Df) (R := RDf) 0 (ys := [⟨[102], exF exX⟩]) (RowR.one rfl ⟨_, rfl, rt_of_ks (KS.up hk35 l_H35_Hx)⟩) (fun _ l _ _ _ hr => RDf.mono l hr)
      have l_H_Hy : LE H Hy := l_H_Hx.trans leHy
      have l_HA_Hy : LE HA Hy := l_HA_Hx.trans leHy
      have l_H21_Hy : LE H21 Hy := l_H21_Hx.trans leHy
      have l_H22_Hy : LE H22 Hy := l_H22_Hx.trans leHy
      have l_H27_Hy : LE H27 Hy := l_H27_Hx.trans leHy
      have l_H28_Hy : LE H28 Hy := l_H28_Hx.trans leHy
      have l_H29_Hy : LE H29 Hy := l_H29_Hx.trans leHy
      have l_H35_Hy : LE H35 Hy := l_H35_Hx.trans leHy
      have l_H39_Hy : LE H39 Hy := l_H39_Hx.trans leHy
      have l_Hx_Hy : LE Hx Hy := leHy
      have h := h.pull 2 rfl rfl
      have h := h.pull 2 rfl rfl
      have h := h.pull 2 rfl rfl
      have h := h.del 3
      exact ⟨_, g6, _, _, _, l_H29_Hy, CS.up hx1 l_Hx_Hy, hx3, KS.up hk39 l_H39_Hy, h.to 0 _⟩
     ·refine cl bod17 (fun_ok [120] exA _ E H35 _ (⟨_, _, rfl, KS.up hsA l_HA_H35⟩)) h (fun r39 H39 L39 a w le39 R h => ?_) (hS := fun _ _ _ _ _ le R hw => by obtain ⟨_, rfl, _, rfl⟩ := R; exact hw.sees' (by first | exact le | exact LE.trans (by assumption) le) (by simp))
      obtain ⟨A39, rfl, hk39, rfl⟩ := R
      have l_H_H39 : LE H H39 := l_H_H35.trans le39
      have l_HA_H39 : LE HA H39 := l_HA_H35.trans le39
      have l_H21_H39 : LE H21 H39 := l_H21_H35.trans le39
      have l_H22_H39 : LE H22 H39 := l_H22_H35.trans le39
      have l_H27_H39 : LE H27 H39 := l_H27_H35.trans le39
      have l_H28_H39 : LE H28 H39 := l_H28_H35.trans le39
      have l_H29_H39 : LE H29 H39 := l_H29_H35.trans le39
      have l_H35_H39 : LE H35 H39 := le39
      refine br0 ?_
      refine brl1 5 true (by kernel_rfl) (by kernel_rfl) (fun _ => h.st.sees' (by first | exact LE.rfl | assumption) (by simp)) ?_
      refine bsl bs26 h fun g37 a w h => ?_
      refine au [2,7,8,8,7,5,2,6] h ?_; intro a w h
      refine brl1 10 false (by kernel_rfl) (by kernel_rfl) (fun _ => h.st.sees' (by first | exact LE.rfl | assumption) (by simp)) ?_
      refine au [5,6,2,7] h ?_; intro a w h
      refine en (by kernel_rfl) ?_
      refine thN ?_
      obtain ⟨Hx, leHx, h, hx1⟩ := h.fsl (α := Dc) (R := RDc) 2 (ys := [exD]) (RowR.one rfl rfl) (fun _ _ _ _ _ hr => hr)
      have l_H_Hx : LE H Hx := l_H_H39.trans leHx
      have l_HA_Hx : LE HA Hx := l_HA_H39.trans leHx
      have l_H21_Hx : LE H21 Hx := l_H21_H39.trans leHx
      have l_H22_Hx : LE H22 Hx := l_H22_H39.trans leHx
      have l_H27_Hx : LE H27 Hx := l_H27_H39.trans leHx
      have l_H28_Hx : LE H28 Hx := l_H28_H39.trans leHx
      have l_H29_Hx : LE H29 Hx := l_H29_H39.trans leHx
      have l_H35_Hx : LE H35 Hx := l_H35_H39.trans leHx
      have l_H39_Hx : LE H39 Hx := leHx
      obtain ⟨Hy, leHy, h, hx3⟩ := h.fsl (α := Df) (R := RDf) 0 (ys := [⟨[102], exF exX⟩]) (RowR.one rfl ⟨_, rfl, rt_of_ks (KS.up hk35 l_H35_Hx)⟩) (fun _ l _ _ _ hr => RDf.mono l hr)
      have l_H_Hy : LE H Hy := l_H_Hx.trans leHy
      have l_HA_Hy : LE HA Hy := l_HA_Hx.trans leHy
      have l_H21_Hy : LE H21 Hy := l_H21_Hx.trans leHy
      have l_H22_Hy : LE H22 Hy := l_H22_Hx.trans leHy
      have l_H27_Hy : LE H27 Hy := l_H27_Hx.trans leHy
      have l_H28_Hy : LE H28 Hy := l_H28_Hx.trans leHy
      have l_H29_Hy : LE H29 Hy := l_H29_Hx.trans leHy
      have l_H35_Hy : LE H35 Hy := l_H35_Hx.trans leHy
      have l_H39_Hy : LE H39 Hy := l_H39_Hx.trans leHy
      have l_Hx_Hy : LE Hx Hy := leHy
      have h := h.pull 2 rfl rfl
      have h := h.pull 2 rfl rfl
      have h := h.pull 2 rfl rfl
      have h := h.del 3
      exact ⟨_, g6, _, _, _, l_H29_Hy, CS.up hx1 l_Hx_Hy, hx3, KS.up hk39 l_H39_Hy, h.to 0 _⟩
   ·refine cl bod17 (fun_ok [120] exX _ E H29 _ (⟨none, 0, rfl, RS.nil _ _ _⟩)) h (fun r35 H35 L35 a w le35 R h => ?_) (hS := fun _ _ _ _ _ le R hw => by obtain ⟨_, rfl, _, rfl⟩ := R; exact hw.sees' (by first | exact le | exact LE.trans (by assumption) le) (by simp))
    obtain ⟨A35, rfl, hk35, rfl⟩ := R
    have l_H_H35 : LE H H35 := l_H_H29.trans le35
    have l_HA_H35 : LE HA H35 := l_HA_H29.trans le35
    have l_H21_H35 : LE H21 H35 := l_H21_H29.trans le35
    have l_H22_H35 : LE H22 H35 := l_H22_H29.trans le35
    have l_H27_H35 : LE H27 H35 := l_H27_H29.trans le35
    have l_H28_H35 : LE H28 H35 := l_H28_H29.trans le35
    have l_H29_H35 : LE H29 H35 := le35
    refine au [2,7,8,4,7,5,2,6] h ?_; intro a w h
    refine brl4 1 5 7 9 true true false true (by kernel_rfl) (by kernel_rfl) (by kernel_rfl) (by kernel_rfl) (by kernel_rfl) (fun _ => h.st.sees' (by first | exact LE.rfl | assumption) (by simp)) ?_ ?_ ?_ ?_
    ·refine bsl bs25 h fun g33 a w h => ?_
     refine br0 ?_
     refine brl3 5 7 9 true false true (by kernel_rfl) (by kernel_rfl) (by kernel_rfl) (by kernel_rfl) (fun _ => h.st.sees' (by first | exact LE.rfl | assumption) (by simp)) ?_ ?_ ?_
     ·refine bsl bs26 h fun g37 a w h => ?_
      refine br0 ?_
      refine brl2 7 9 false true (by kernel_rfl) (by kernel_rfl) (by kernel_rfl) (fun _ => h.st.sees' (by first | exact LE.rfl | assumption) (by simp)) ?_ ?_
      ·refine cl bod17 (fun_ok [120] exA _ E H35 _ (⟨_, _, rfl, KS.up hsA l_HA_H35⟩)) h (fun r39 H39 L39 a w le39 R h => ?_) (hS := fun _ _ _ _ _ le R hw => by obtain ⟨_, rfl, _, rfl⟩ := R; exact hw.sees' (by first | exact le | exact LE.trans (by assumption) le) (by simp))
       obtain ⟨A39, rfl, hk39, rfl⟩ := R
       have l_H_H39 : LE H H39 := l_H_H35.trans le39
       have l_HA_H39 : LE HA H39 := l_HA_H35.trans le39
       have l_H21_H39 : LE H21 H39 := l_H21_H35.trans le39
       have l_H22_H39 : LE H22 H39 := l_H22_H35.trans le39
       have l_H27_H39 : LE H27 H39 := l_H27_H35.trans le39
       have l_H28_H39 : LE H28 H39 := l_H28_H35.trans le39
       have l_H29_H39 : LE H29 H39 := l_H29_H35.trans le39
       have l_H35_H39 : LE H35 H39 := le39
       refine au [2,7,8,8,7,5,2,6] h ?_; intro a w h
       refine brl1 9 true (by kernel_rfl) (by kernel_rfl) (fun _ => h.st.sees' (by first | exact LE.rfl | assumption) (by simp)) ?_
       refine al zr28 h fun g6 a w h => ?_
       refine br0 ?_
       refine brl1 10 false (by kernel_rfl) (by kernel_rfl) (fun _ => h.st.sees' (by first | exact LE.rfl | assumption) (by simp)) ?_
       refine au [5,5,2,7] h ?_; intro a w h
       refine en (by kernel_rfl) ?_
       refine thN ?_
       obtain ⟨Hx, leHx, h, hx1⟩ := h.fsl (α := Dc) (R := RDc) 2 (ys := [exD]) (RowR.one rfl rfl) (fun _ _ _ _ _ hr => hr)
       have l_H_Hx : LE H Hx := l_H_H39.trans leHx
       have l_HA_Hx : LE HA Hx := l_HA_H39.trans leHx
       have l_H21_Hx : LE H21 Hx := l_H21_H39.trans leHx
       have l_H22_Hx : LE H22 Hx := l_H22_H39.trans leHx
       have l_H27_Hx : LE H27 Hx := l_H27_H39.trans leHx
       have l_H28_Hx : LE H28 Hx := l_H28_H39.trans leHx
       have l_H29_Hx : LE H29 Hx := l_H29_H39.trans leHx
       have l_H35_Hx : LE H35 Hx := l_H35_H39.trans leHx
       have l_H39_Hx : LE H39 Hx := leHx
       obtain ⟨Hy, leHy, h, hx3⟩ := h.fsl (α := Df) (R := RDf) 1 (ys := [⟨[102], exF exX⟩]) (RowR.one rfl ⟨_, rfl, rt_of_ks (KS.up hk35 l_H35_Hx)⟩) (fun _ l _ _ _ hr => RDf.mono l hr)
       have l_H_Hy : LE H Hy := l_H_Hx.trans leHy
       have l_HA_Hy : LE HA Hy := l_HA_Hx.trans leHy
       have l_H21_Hy : LE H21 Hy := l_H21_Hx.trans leHy
       have l_H22_Hy : LE H22 Hy := l_H22_Hx.trans leHy
       have l_H27_Hy : LE H27 Hy := l_H27_Hx.trans leHy
       have l_H28_Hy : LE H28 Hy := l_H28_Hx.trans leHy
       have l_H29_Hy : LE H29 Hy := l_H29_Hx.trans leHy
       have l_H35_Hy : LE H35 Hy := l_H35_Hx.trans leHy
       have l_H39_Hy : LE H39 Hy := l_H39_Hx.trans leHy
       have l_Hx_Hy : LE Hx Hy := leHy
       have h := h.pull 2 rfl rfl
       have h := h.pull 2 rfl rfl
       have h := h.pull 2 rfl rfl
       have h := h.del 3
       exact ⟨_, g6, _, _, _, l_H29_Hy, CS.up hx1 l_Hx_Hy, hx3, KS.up hk39 l_H39_Hy, h.to 0 _⟩
      ·refine al zr28 h fun g6 a w h => ?_
       refine br0 ?_
       refine brl1 7 false (by kernel_rfl) (by kernel_rfl) (fun _ => h.st.sees' (by first | exact LE.rfl | assumption) (by simp)) ?_
       refine cl bod17 (fun_ok [120] exA _ E H35 _ (⟨_, _, rfl, KS.up hsA l_HA_H35⟩)) h (fun r39 H39 L39 a w le39 R h => ?_) (hS := fun _ _ _ _ _ le R hw => by obtain ⟨_, rfl, _, rfl⟩ := R; exact hw.sees' (by first | exact le | exact LE.trans (by assumption) le) (by simp))
       obtain ⟨A39, rfl, hk39, rfl⟩ := R
       have l_H_H39 : LE H H39 := l_H_H35.trans le39
       have l_HA_H39 : LE HA H39 := l_HA_H35.trans le39
       have l_H21_H39 : LE H21 H39 := l_H21_H35.trans le39
       have l_H22_H39 : LE H22 H39 := l_H22_H35.trans le39
       have l_H27_H39 : LE H27 H39 := l_H27_H35.trans le39
       have l_H28_H39 : LE H28 H39 := l_H28_H35.trans le39
       have l_H29_H39 : LE H29 H39 := l_H29_H35.trans le39
       have l_H35_H39 : LE H35 H39 := le39
       refine au [2,7,8,8,7,5,2,6] h ?_; intro a w h
       refine brl1 10 false (by kernel_rfl) (by kernel_rfl) (fun _ => h.st.sees' (by first | exact LE.rfl | assumption) (by simp)) ?_
       refine au [5,5,2,7] h ?_; intro a w h
       refine en (by kernel_rfl) ?_
       refine thN ?_
       obtain ⟨Hx, leHx, h, hx1⟩ := h.fsl (α := Dc) (R := RDc) 2 (ys := [exD]) (RowR.one rfl rfl) (fun _ _ _ _ _ hr => hr)
       have l_H_Hx : LE H Hx := l_H_H39.trans leHx
       have l_HA_Hx : LE HA Hx := l_HA_H39.trans leHx
       have l_H21_Hx : LE H21 Hx := l_H21_H39.trans leHx
       have l_H22_Hx : LE H22 Hx := l_H22_H39.trans leHx
       have l_H27_Hx : LE H27 Hx := l_H27_H39.trans leHx
       have l_H28_Hx : LE H28 Hx := l_H28_H39.trans leHx
       have l_H29_Hx : LE H29 Hx := l_H29_H39.trans leHx
       have l_H35_Hx : LE H35 Hx := l_H35_H39.trans leHx
       have l_H39_Hx : LE H39 Hx := leHx
       obtain ⟨Hy, leHy, h, hx3⟩ := h.fsl (α := Df) (R := RDf) 1 (ys := [⟨[102], exF exX⟩]) (RowR.one rfl ⟨_, rfl, rt_of_ks (KS.up hk35 l_H35_Hx)⟩) (fun _ l _ _ _ hr => RDf.mono l hr)
       have l_H_Hy : LE H Hy := l_H_Hx.trans leHy
       have l_HA_Hy : LE HA Hy := l_HA_Hx.trans leHy
       have l_H21_Hy : LE H21 Hy := l_H21_Hx.trans leHy
       have l_H22_Hy : LE H22 Hy := l_H22_Hx.trans leHy
       have l_H27_Hy : LE H27 Hy := l_H27_Hx.trans leHy
       have l_H28_Hy : LE H28 Hy := l_H28_Hx.trans leHy
       have l_H29_Hy : LE H29 Hy := l_H29_Hx.trans leHy
       have l_H35_Hy : LE H35 Hy := l_H35_Hx.trans leHy
       have l_H39_Hy : LE H39 Hy := l_H39_Hx.trans leHy
       have l_Hx_Hy : LE Hx Hy := leHy
       have h := h.pull 2 rfl rfl
       have h := h.pull 2 rfl rfl
       have h := h.pull 2 rfl rfl
       have h := h.del 3
       exact ⟨_, g6, _, _, _, l_H29_Hy, CS.up hx1 l_Hx_Hy, hx3, KS.up hk39 l_H39_Hy, h.to 0 _⟩
     ·refine cl bod17 (fun_ok [120] exA _ E H35 _ (⟨_, _, rfl, KS.up hsA l_HA_H35⟩)) h (fun r39 H39 L39 a w le39 R h => ?_) (hS := fun _ _ _ _ _ le R hw => by obtain ⟨_, rfl, _, rfl⟩ := R; exact hw.sees' (by first | exact le | exact LE.trans (by assumption) le) (by simp))
      obtain ⟨A39, rfl, hk39, rfl⟩ := R
      have l_H_H39 : LE H H39 := l_H_H35.trans le39
      have l_HA_H39 : LE HA H39 := l_HA_H35.trans le39
      have l_H21_H39 : LE H21 H39 := l_H21_H35.trans le39
      have l_H22_H39 : LE H22 H39 := l_H22_H35.trans le39
      have l_H27_H39 : LE H27 H39 := l_H27_H35.trans le39
      have l_H28_H39 : LE H28 H39 := l_H28_H35.trans le39
      have l_H29_H39 : LE H29 H39 := l_H29_H35.trans le39
      have l_H35_H39 : LE H35 H39 := le39
      refine br0 ?_
      refine brl2 5 9 true true (by kernel_rfl) (by kernel_rfl) (by kernel_rfl) (fun _ => h.st.sees' (by first | exact LE.rfl | assumption) (by simp)) ?_ ?_
      ·refine bsl bs26 h fun g37 a w h => ?_
       refine au [2,7,8,8,7,5,2,6] h ?_; intro a w h
       refine brl1 9 true (by kernel_rfl) (by kernel_rfl) (fun _ => h.st.sees' (by first | exact LE.rfl | assumption) (by simp)) ?_
       refine al zr28 h fun g6 a w h => ?_
       refine br0 ?_
       refine brl1 10 false (by kernel_rfl) (by kernel_rfl) (fun _ => h.st.sees' (by first | exact LE.rfl | assumption) (by simp)) ?_
       refine au [5,5,2,7] h ?_; intro a w h
       refine en (by kernel_rfl) ?_
       refine thN ?_
       obtain ⟨Hx, leHx, h, hx1⟩ := h.fsl (α := Dc) (R := RDc) 2 (ys := [exD]) (RowR.one rfl rfl) (fun _ _ _ _ _ hr => hr)
       have l_H_Hx : LE H Hx := l_H_H39.trans leHx
       have l_HA_Hx : LE HA Hx := l_HA_H39.trans leHx
       have l_H21_Hx : LE H21 Hx := l_H21_H39.trans leHx
       have l_H22_Hx : LE H22 Hx := l_H22_H39.trans leHx
       have l_H27_Hx : LE H27 Hx := l_H27_H39.trans leHx
       have l_H28_Hx : LE H28 Hx := l_H28_H39.trans leHx
       have l_H29_Hx : LE H29 Hx := l_H29_H39.trans leHx
       have l_H35_Hx : LE H35 Hx := l_H35_H39.trans leHx
       have l_H39_Hx : LE H39 Hx := leHx
       obtain ⟨Hy, leHy, h, hx3⟩ := h.fsl (α := Df) (R := RDf) 1 (ys := [⟨[102], exF exX⟩]) (RowR.one rfl ⟨_, rfl, rt_of_ks (KS.up hk35 l_H35_Hx)⟩) (fun _ l _ _ _ hr => RDf.mono l hr)
       have l_H_Hy : LE H Hy := l_H_Hx.trans leHy
       have l_HA_Hy : LE HA Hy := l_HA_Hx.trans leHy
       have l_H21_Hy : LE H21 Hy := l_H21_Hx.trans leHy
       have l_H22_Hy : LE H22 Hy := l_H22_Hx.trans leHy
       have l_H27_Hy : LE H27 Hy := l_H27_Hx.trans leHy
       have l_H28_Hy : LE H28 Hy := l_H28_Hx.trans leHy
       have l_H29_Hy : LE H29 Hy := l_H29_Hx.trans leHy
       have l_H35_Hy : LE H35 Hy := l_H35_Hx.trans leHy
       have l_H39_Hy : LE H39 Hy := l_H39_Hx.trans leHy
       have l_Hx_Hy : LE Hx Hy := leHy
       have h := h.pull 2 rfl rfl
       have h := h.pull 2 rfl rfl
       have h := h.pull 2 rfl rfl
       have h := h.del 3
       exact ⟨_, g6, _, _, _, l_H29_Hy, CS.up hx1 l_Hx_Hy, hx3, KS.up hk39 l_H39_Hy, h.to 0 _⟩
      ·refine al zr28 h fun g6 a w h => ?_
       refine br0 ?_
       refine brl1 5 true (by kernel_rfl) (by kernel_rfl) (fun _ => h.st.sees' (by first | exact LE.rfl | assumption) (by simp)) ?_
       refine bsl bs26 h fun g37 a w h => ?_
       refine au [2,7,8,8,7,5,2,6] h ?_; intro a w h
       refine brl1 10 false (by kernel_rfl) (by kernel_rfl) (fun _ => h.st.sees' (by first | exact LE.rfl | assumption) (by simp)) ?_
       refine au [5,6,2,7] h ?_; intro a w h
       refine en (by kernel_rfl) ?_
       refine thN ?_
       obtain ⟨Hx, leHx, h, hx1⟩ := h.fsl (α := Dc) (R := RDc) 2 (ys := [exD]) (RowR.one rfl rfl) (fun _ _ _ _ _ hr => hr)
       have l_H_Hx : LE H Hx := l_H_H39.trans leHx
       have l_HA_Hx : LE HA Hx := l_HA_H39.trans leHx
       have l_H21_Hx : LE H21 Hx := l_H21_H39.trans leHx
       have l_H22_Hx : LE H22 Hx := l_H22_H39.trans leHx
       have l_H27_Hx : LE H27 Hx := l_H27_H39.trans leHx
       have l_H28_Hx : LE H28 Hx := l_H28_H39.trans leHx
       have l_H29_Hx : LE H29 Hx := l_H29_H39.trans leHx
       have l_H35_Hx : LE H35 Hx := l_H35_H39.trans leHx
       have l_H39_Hx : LE H39 Hx := leHx
       obtain ⟨Hy, leHy, h, hx3⟩ := h.fsl (α := Df) (R := RDf) 0 (ys := [⟨[102], exF exX⟩]) (RowR.one rfl ⟨_, rfl, rt_of_ks (KS.up hk35 l_H35_Hx)⟩) (fun _ l _ _ _ hr => RDf.mono l hr)
       have l_H_Hy : LE H Hy := l_H_Hx.trans leHy
       have l_HA_Hy : LE HA Hy := l_HA_Hx.trans leHy
       have l_H21_Hy : LE H21 Hy := l_H21_Hx.trans leHy
       have l_H22_Hy : LE H22 Hy := l_H22_Hx.trans leHy
       have l_H27_Hy : LE H27 Hy := l_H27_Hx.trans leHy
       have l_H28_Hy : LE H28 Hy := l_H28_Hx.trans leHy
       have l_H29_Hy : LE H29 Hy := l_H29_Hx.trans leHy
       have l_H35_Hy : LE H35 Hy := l_H35_Hx.trans leHy
       have l_H39_Hy : LE H39 Hy := l_H39_Hx.trans leHy
       have l_Hx_Hy : LE Hx Hy := leHy
       have h := h.pull 2 rfl rfl
       have h := h.pull 2 rfl rfl
       have h := h.pull 2 rfl rfl
       have h := h.del 3
       exact ⟨_, g6, _, _, _, l_H29_Hy, CS.up hx1 l_Hx_Hy, hx3, KS.up hk39 l_H39_Hy, h.to 0 _⟩
     ·refine al zr28 h fun g6 a w h => ?_
      refine br0 ?_
      refine brl2 5 7 true false (by kernel_rfl) (by kernel_rfl) (by kernel_rfl) (fun _ => h.st.sees' (by first | exact LE.rfl | assumption) (by simp)) ?_ ?_
      ·refine bsl bs26 h fun g37 a w h => ?_
       refine br0 ?_
       refine brl1 7 false (by kernel_rfl) (by kernel_rfl) (fun _ => h.st.sees' (by first | exact LE.rfl | assumption) (by simp)) ?_
       refine cl bod17 (fun_ok [120] exA _ E H35 _ (⟨_, _, rfl, KS.up hsA l_HA_H35⟩)) h (fun r39 H39 L39 a w le39 R h => ?_) (hS := fun _ _ _ _ _ le R hw => by obtain ⟨_, rfl, _, rfl⟩ := R; exact hw.sees' (by first | exact le | exact LE.trans (by assumption) le) (by simp))
       obtain ⟨A39, rfl, hk39, rfl⟩ := R
       have l_H_H39 : LE H H39 := l_H_H35.trans le39
       have l_HA_H39 : LE HA H39 := l_HA_H35.trans le39
       have l_H21_H39 : LE H21 H39 := l_H21_H35.trans le39
       have l_H22_H39 : LE H22 H39 := l_H22_H35.trans le39
       have l_H27_H39 : LE H27 H39 := l_H27_H35.trans le39
       have l_H28_H39 : LE H28 H39 := l_H28_H35.trans le39
       have l_H29_H39 : LE H29 H39 := l_H29_H35.trans le39
       have l_H35_H39 : LE H35 H39 := le39
       refine au [2,7,8,8,7,5,2,6] h ?_; intro a w h
       refine brl1 10 false (by kernel_rfl) (by kernel_rfl) (fun _ => h.st.sees' (by first | exact LE.rfl | assumption) (by simp)) ?_
       refine au [5,6,2,7] h ?_; intro a w h
       refine en (by kernel_rfl) ?_
       refine thN ?_
       obtain ⟨Hx, leHx, h, hx1⟩ := h.fsl (α := Dc) (R := RDc) 2 (ys := [exD]) (RowR.one rfl rfl) (fun _ _ _ _ _ hr => hr)
       have l_H_Hx : LE H Hx := l_H_H39.trans leHx
       have l_HA_Hx : LE HA Hx := l_HA_H39.trans leHx
       have l_H21_Hx : LE H21 Hx := l_H21_H39.trans leHx
       have l_H22_Hx : LE H22 Hx := l_H22_H39.trans leHx
       have l_H27_Hx : LE H27 Hx := l_H27_H39.trans leHx
       have l_H28_Hx : LE H28 Hx := l_H28_H39.trans leHx
       have l_H29_Hx : LE H29 Hx := l_H29_H39.trans leHx
       have l_H35_Hx : LE H35 Hx := l_H35_H39.trans leHx
       have l_H39_Hx : LE H39 Hx := leHx
       obtain ⟨Hy, leHy, h, hx3⟩ := h.fsl (α := Df) (R := RDf) 0 (ys := [⟨[102], exF exX⟩]) (RowR.one rfl ⟨_, rfl, rt_of_ks (KS.up hk35 l_H35_Hx)⟩) (fun _ l _ _ _ hr => RDf.mono l hr)
       have l_H_Hy : LE H Hy := l_H_Hx.trans leHy
       have l_HA_Hy : LE HA Hy := l_HA_Hx.trans leHy
       have l_H21_Hy : LE H21 Hy := l_H21_Hx.trans leHy
       have l_H22_Hy : LE H22 Hy := l_H22_Hx.trans leHy
       have l_H27_Hy : LE H27 Hy := l_H27_Hx.trans leHy
       have l_H28_Hy : LE H28 Hy := l_H28_Hx.trans leHy
       have l_H29_Hy : LE H29 Hy := l_H29_Hx.trans leHy
       have l_H35_Hy : LE H35 Hy := l_H35_Hx.trans leHy
       have l_H39_Hy : LE H39 Hy := l_H39_Hx.trans leHy
       have l_Hx_Hy : LE Hx Hy := leHy
       have h := h.pull 2 rfl rfl
       have h := h.pull 2 rfl rfl
       have h := h.pull 2 rfl rfl
       have h := h.del 3
       exact ⟨_, g6, _, _, _, l_H29_Hy, CS.up hx1 l_Hx_Hy, hx3, KS.up hk39 l_H39_Hy, h.to 0 _⟩
      ·refine cl bod17 (fun_ok [120] exA _ E H35 _ (⟨_, _, rfl, KS.up hsA l_HA_H35⟩)) h (fun r39 H39 L39 a w le39 R h => ?_) (hS := fun _ _ _ _ _ le R hw => by obtain ⟨_, rfl, _, rfl⟩ := R; exact hw.sees' (by first | exact le | exact LE.trans (by assumption) le) (by simp))
       obtain ⟨A39, rfl, hk39, rfl⟩ := R
       have l_H_H39 : LE H H39 := l_H_H35.trans le39
       have l_HA_H39 : LE HA H39 := l_HA_H35.trans le39
       have l_H21_H39 : LE H21 H39 := l_H21_H35.trans le39
       have l_H22_H39 : LE H22 H39 := l_H22_H35.trans le39
       have l_H27_H39 : LE H27 H39 := l_H27_H35.trans le39
       have l_H28_H39 : LE H28 H39 := l_H28_H35.trans le39
       have l_H29_H39 : LE H29 H39 := l_H29_H35.trans le39
       have l_H35_H39 : LE H35 H39 := le39
       refine br0 ?_
       refine brl1 5 true (by kernel_rfl) (by kernel_rfl) (fun _ => h.st.sees' (by first | exact LE.rfl | assumption) (by simp)) ?_
       refine bsl bs26 h fun g37 a w h => ?_
       refine au [2,7,8,8,7,5,2,6] h ?_; intro a w h
       refine brl1 10 false (by kernel_rfl) (by kernel_rfl) (fun _ => h.st.sees' (by first | exact LE.rfl | assumption) (by simp)) ?_
       refine au [5,6,2,7] h ?_; intro a w h
       refine en (by kernel_rfl) ?_
       refine thN ?_
       obtain ⟨Hx, leHx, h, hx1⟩ := h.fsl (α := Dc) (R := RDc) 2 (ys := [exD]) (RowR.one rfl rfl) (fun _ _ _ _ _ hr => hr)
       have l_H_Hx : LE H Hx := l_H_H39.trans leHx
       have l_HA_Hx : LE HA Hx := l_HA_H39.trans leHx
       have l_H21_Hx : LE H21 Hx := l_H21_H39.trans leHx
       have l_H22_Hx : LE H22 Hx := l_H22_H39.trans leHx
       have l_H27_Hx : LE H27 Hx := l_H27_H39.trans leHx
       have l_H28_Hx : LE H28 Hx := l_H28_H39.trans leHx
       have l_H29_Hx : LE H29 Hx := l_H29_H39.trans leHx
       have l_H35_Hx : LE H35 Hx := l_H35_H39.trans leHx
       have l_H39_Hx : LE H39 Hx := leHx
       obtain ⟨Hy, leHy, h, hx3⟩ := h.fsl (α := Df) (R := RDf) 0 (ys := [⟨[102], exF exX⟩]) (RowR.one rfl ⟨_, rfl, rt_of_ks (KS.up hk35 l_H35_Hx)⟩) (fun _ l _ _ _ hr => RDf.mono l hr)
       have l_H_Hy : LE H Hy := l_H_Hx.trans leHy
       have l_HA_Hy : LE HA Hy := l_HA_Hx.trans leHy
       have l_H21_Hy : LE H21 Hy := l_H21_Hx.trans leHy
       have l_H22_Hy : LE H22 Hy := l_H22_Hx.trans leHy
       have l_H27_Hy : LE H27 Hy := l_H27_Hx.trans leHy
       have l_H28_Hy : LE H28 Hy := l_H28_Hx.trans leHy
       have l_H29_Hy : LE H29 Hy := l_H29_Hx.trans leHy
       have l_H35_Hy : LE H35 Hy := l_H35_Hx.trans leHy
       have l_H39_Hy : LE H39 Hy := l_H39_Hx.trans leHy
       have l_Hx_Hy : LE Hx Hy := leHy
       have h := h.pull 2 rfl rfl
       have h := h.pull 2 rfl rfl
       have h := h.pull 2 rfl rfl
       have h := h.del 3
       exact ⟨_, g6, _, _, _, l_H29_Hy, CS.up hx1 l_Hx_Hy, hx3, KS.up hk39 l_H39_Hy, h.to 0 _⟩
    ·refine bsl bs26 h fun g37 a w h => ?_
     refine br0 ?_
     refine brl3 1 7 9 true false true (by kernel_rfl) (by kernel_rfl) (by kernel_rfl) (by kernel_rfl) (fun _ => h.st.sees' (by first | exact LE.rfl | assumption) (by simp)) ?_ ?_ ?_
     ·refine bsl bs25 h fun g33 a w h => ?_
      refine br0 ?_
      refine brl2 7 9 false true (by kernel_rfl) (by kernel_rfl) (by kernel_rfl) (fun _ => h.st.sees' (by first | exact LE.rfl | assumption) (by simp)) ?_ ?_
      ·refine cl bod17 (fun_ok [120] exA _ E H35 _ (⟨_, _, rfl, KS.up hsA l_HA_H35⟩)) h (fun r39 H39 L39 a w le39 R h => ?_) (hS := fun _ _ _ _ _ le R hw => by obtain ⟨_, rfl, _, rfl⟩ := R; exact hw.sees' (by first | exact le | exact LE.trans (by assumption) le) (by simp))
       obtain ⟨A39, rfl, hk39, rfl⟩ := R
       have l_H_H39 : LE H H39 := l_H_H35.trans le39
       have l_HA_H39 : LE HA H39 := l_HA_H35.trans le39
       have l_H21_H39 : LE H21 H39 := l_H21_H35.trans le39
       have l_H22_H39 : LE H22 H39 := l_H22_H35.trans le39
       have l_H27_H39 : LE H27 H39 := l_H27_H35.trans le39
       have l_H28_H39 : LE H28 H39 := l_H28_H35.trans le39
       have l_H29_H39 : LE H29 H39 := l_H29_H35.trans le39
       have l_H35_H39 : LE H35 H39 := le39
       refine au [2,7,8,8,7,5,2,6] h ?_; intro a w h
       refine brl1 9 true (by kernel_rfl) (by kernel_rfl) (fun _ => h.st.sees' (by first | exact LE.rfl | assumption) (by simp)) ?_
       refine al zr28 h fun g6 a w h => ?_
       refine br0 ?_
       refine brl1 10 false (by kernel_rfl) (by kernel_rfl) (fun _ => h.st.sees' (by first | exact LE.rfl | assumption) (by simp)) ?_
       refine au [5,5,2,7] h ?_; intro a w h
       refine en (by kernel_rfl) ?_
       refine thN ?_
       obtain ⟨Hx, leHx, h, hx1⟩ := h.fsl (α := Dc) (R := RDc) 1 (ys := [exD]) (RowR.one rfl rfl) (fun _ _ _ _ _ hr => hr)
       have l_H_Hx : LE H Hx := l_H_H39.trans leHx
       have l_HA_Hx : LE HA Hx := l_HA_H39.trans leHx
       have l_H21_Hx : LE H21 Hx := l_H21_H39.trans leHx
       have l_H22_Hx : LE H22 Hx := l_H22_H39.trans leHx
       have l_H27_Hx : LE H27 Hx := l_H27_H39.trans leHx
       have l_H28_Hx : LE H28 Hx := l_H28_H39.trans leHx
       have l_H29_Hx : LE H29 Hx := l_H29_H39.trans leHx
       have l_H35_Hx : LE H35 Hx := l_H35_H39.trans leHx
       have l_H39_Hx : LE H39 Hx := leHx
       obtain ⟨Hy, leHy, h, hx3⟩ := h.fsl (α := Df) (R := RDf) 1 (ys := [⟨[102], exF exX⟩]) (RowR.one rfl ⟨_, rfl, rt_of_ks (KS.up hk35 l_H35_Hx)⟩) (fun _ l _ _ _ hr => RDf.mono l hr)
       have l_H_Hy : LE H Hy := l_H_Hx.trans leHy
       have l_HA_Hy : LE HA Hy := l_HA_Hx.trans leHy
       have l_H21_Hy : LE H21 Hy := l_H21_Hx.trans leHy
       have l_H22_Hy : LE H22 Hy := l_H22_Hx.trans leHy
       have l_H27_Hy : LE H27 Hy := l_H27_Hx.trans leHy
       have l_H28_Hy : LE H28 Hy := l_H28_Hx.trans leHy
       have l_H29_Hy : LE H29 Hy := l_H29_Hx.trans leHy
       have l_H35_Hy : LE H35 Hy := l_H35_Hx.trans leHy
       have l_H39_Hy : LE H39 Hy := l_H39_Hx.trans leHy
       have l_Hx_Hy : LE Hx Hy := leHy
       have h := h.pull 2 rfl rfl
       have h := h.pull 2 rfl rfl
       have h := h.pull 2 rfl rfl
       have h := h.del 3
       exact ⟨_, g6, _, _, _, l_H29_Hy, CS.up hx1 l_Hx_Hy, hx3, KS.up hk39 l_H39_Hy, h.to 0 _⟩
      ·refine al zr28 h fun g6 a w h => ?_
       refine br0 ?_
       refine brl1 7 false (by kernel_rfl) (by kernel_rfl) (fun _ => h.st.sees' (by first | exact LE.rfl | assumption) (by simp)) ?_
       refine cl bod17 (fun_ok [120] exA _ E H35 _ (⟨_, _, rfl, KS.up hsA l_HA_H35⟩)) h (fun r39 H39 L39 a w le39 R h => ?_) (hS := fun _ _ _ _ _ le R hw => by obtain ⟨_, rfl, _, rfl⟩ := R; exact hw.sees' (by first | exact le | exact LE.trans (by assumption) le) (by simp))
       obtain ⟨A39, rfl, hk39, rfl⟩ := R
       have l_H_H39 : LE H H39 := l_H_H35.trans le39
       have l_HA_H39 : LE HA H39 := l_HA_H35.trans le39
       have l_H21_H39 : LE H21 H39 := l_H21_H35.trans le39
       have l_H22_H39 : LE H22 H39 := l_H22_H35.trans le39
       have l_H27_H39 : LE H27 H39 := l_H27_H35.trans le39
       have l_H28_H39 : LE H28 H39 := l_H28_H35.trans le39
       have l_H29_H39 : LE H29 H39 := l_H29_H35.trans le39
       have l_H35_H39 : LE H35 H39 := le39
       refine au [2,7,8,8,7,5,2,6] h ?_; intro a w h
       refine brl1 10 false (by kernel_rfl) (by kernel_rfl) (fun _ => h.st.sees' (by first | exact LE.rfl | assumption) (by simp)) ?_
       refine au [5,5,2,7] h ?_; intro a w h
       refine en (by kernel_rfl) ?_
       refine thN ?_
       obtain ⟨Hx, leHx, h, hx1⟩ := h.fsl (α := Dc) (R := RDc) 1 (ys := [exD]) (RowR.one rfl rfl) (fun _ _ _ _ _ hr => hr)
       have l_H_Hx : LE H Hx := l_H_H39.trans leHx
       have l_HA_Hx : LE HA Hx := l_HA_H39.trans leHx
       have l_H21_Hx : LE H21 Hx := l_H21_H39.trans leHx
       have l_H22_Hx : LE H22 Hx := l_H22_H39.trans leHx
       have l_H27_Hx : LE H27 Hx := l_H27_H39.trans leHx
       have l_H28_Hx : LE H28 Hx := l_H28_H39.trans leHx
       have l_H29_Hx : LE H29 Hx := l_H29_H39.trans leHx
       have l_H35_Hx : LE H35 Hx := l_H35_H39.trans leHx
       have l_H39_Hx : LE H39 Hx := leHx
       obtain ⟨Hy, leHy, h, hx3⟩ := h.fsl (α := Df) (R := RDf) 1 (ys := [⟨[102], exF exX⟩]) (RowR.one rfl ⟨_, rfl, rt_of_ks (KS.up hk35 l_H35_Hx)⟩) (fun _ l _ _ _ hr => RDf.mono l hr)
       have l_H_Hy : LE H Hy := l_H_Hx.trans leHy
       have l_HA_Hy : LE HA Hy := l_HA_Hx.trans leHy
       have l_H21_Hy : LE H21 Hy := l_H21_Hx.trans leHy
       have l_H22_Hy : LE H22 Hy := l_H22_Hx.trans leHy
       have l_H27_Hy : LE H27 Hy := l_H27_Hx.trans leHy
       have l_H28_Hy : LE H28 Hy := l_H28_Hx.trans leHy
       have l_H29_Hy : LE H29 Hy := l_H29_Hx.trans leHy
       have l_H35_Hy : LE H35 Hy := l_H35_Hx.trans leHy
       have l_H39_Hy : LE H39 Hy := l_H39_Hx.trans leHy
       have l_Hx_Hy : LE Hx Hy := leHy
       have h := h.pull 2 rfl rfl
       have h := h.pull 2 rfl rfl
       have h := h.pull 2 rfl rfl
       have h := h.del 3
       exact ⟨_, g6, _, _, _, l_H29_Hy, CS.up hx1 l_Hx_Hy, hx3, KS.up hk39 l_H39_Hy, h.to 0 _⟩
     ·refine cl bod17 (fun_ok [120] exA _ E H35 _ (⟨_, _, rfl, KS.up hsA l_HA_H35⟩)) h (fun r39 H39 L39 a w le39 R h => ?_) (hS := fun _ _ _ _ _ le R hw => by obtain ⟨_, rfl, _, rfl⟩ := R; exact hw.sees' (by first | exact le | exact LE.trans (by assumption) le) (by simp))
      obtain ⟨A39, rfl, hk39, rfl⟩ := R
      have l_H_H39 : LE H H39 := l_H_H35.trans le39
      have l_HA_H39 : LE HA H39 := l_HA_H35.trans le39
      have l_H21_H39 : LE H21 H39 := l_H21_H35.trans le39
      have l_H22_H39 : LE H22 H39 := l_H22_H35.trans le39
      have l_H27_H39 : LE H27 H39 := l_H27_H35.trans le39
      have l_H28_H39 : LE H28 H39 := l_H28_H35.trans le39
      have l_H29_H39 : LE H29 H39 := l_H29_H35.trans le39
      have l_H35_H39 : LE H35 H39 := le39
      refine br0 ?_
      refine brl2 1 9 true true (by kernel_rfl) (by kernel_rfl) (by kernel_rfl) (fun _ => h.st.sees' (by first | exact LE.rfl | assumption) (by simp)) ?_ ?_
      ·refine bsl bs25 h fun g33 a w h => ?_
       refine au [2,7,8,8,7,5,2,6] h ?_; intro a w h
       refine brl1 9 true (by kernel_rfl) (by kernel_rfl) (fun _ => h.st.sees' (by first | exact LE.rfl | assumption) (by simp)) ?_
       refine al zr28 h fun g6 a w h => ?_
       refine br0 ?_
       refine brl1 10 false (by kernel_rfl) (by kernel_rfl) (fun _ => h.st.sees' (by first | exact LE.rfl | assumption) (by simp)) ?_
       refine au [5,5,2,7] h ?_; intro a w h
       refine en (by kernel_rfl) ?_
       refine thN ?_
       obtain ⟨Hx, leHx, h, hx1⟩ := h.fsl (α := Dc) (R := RDc) 1 (ys := [exD]) (RowR.one rfl rfl) (fun _ _ _ _ _ hr => hr)
       have l_H_Hx : LE H Hx := l_H_H39.trans leHx
       have l_HA_Hx : LE HA Hx := l_HA_H39.trans leHx
       have l_H21_Hx : LE H21 Hx := l_H21_H39.trans leHx
       have l_H22_Hx : LE H22 Hx := l_H22_H39.trans leHx
       have l_H27_Hx : LE H27 Hx := l_H27_H39.trans leHx
       have l_H28_Hx : LE H28 Hx := l_H28_H39.trans leHx
       have l_H29_Hx : LE H29 Hx := l_H29_H39.trans leHx
       have l_H35_Hx : LE H35 Hx := l_H35_H39.trans leHx
       have l_H39_Hx : LE H39 Hx := leHx
       obtain ⟨Hy, leHy, h, hx3⟩ := h.fsl (α := Df) (R := RDf) 1 (ys := [⟨[102], exF exX⟩]) (RowR.one rfl ⟨_, rfl, rt_of_ks (KS.up hk35 l_H35_Hx)⟩) (fun _ l _ _ _ hr => RDf.mono l hr)
       have l_H_Hy : LE H Hy := l_H_Hx.trans leHy
       have l_HA_Hy : LE HA Hy := l_HA_Hx.trans leHy
       have l_H21_Hy : LE H21 Hy := l_H21_Hx.trans leHy
       have l_H22_Hy : LE H22 Hy := l_H22_Hx.trans leHy
       have l_H27_Hy : LE H27 Hy := l_H27_Hx.trans leHy
       have l_H28_Hy : LE H28 Hy := l_H28_Hx.trans leHy
       have l_H29_Hy : LE H29 Hy := l_H29_Hx.trans leHy
       have l_H35_Hy : LE H35 Hy := l_H35_Hx.trans leHy
       have l_H39_Hy : LE H39 Hy := l_H39_Hx.trans leHy
       have l_Hx_Hy : LE Hx Hy := leHy
       have h := h.pull 2 rfl rfl
       have h := h.pull 2 rfl rfl
       have h := h.pull 2 rfl rfl
       have h := h.del 3
       exact ⟨_, g6, _, _, _, l_H29_Hy, CS.up hx1 l_Hx_Hy, hx3, KS.up hk39 l_H39_Hy, h.to 0 _⟩
      ·refine al zr28 h fun g6 a w h => ?_
       refine br0 ?_
       refine brl1 1 true (by kernel_rfl) (by kernel_rfl) (fun _ => h.st.sees' (by first | exact LE.rfl | assumption) (by simp)) ?_
       refine bsl bs25 h fun g33 a w h => ?_
       refine au [2,7,8,8,7,5,2,6] h ?_; intro a w h
       refine brl1 10 false (by kernel_rfl) (by kernel_rfl) (fun _ => h.st.sees' (by first | exact LE.rfl | assumption) (by simp)) ?_
       refine au [5,6,2,7] h ?_; intro a w h
       refine en (by kernel_rfl) ?_
       refine thN ?_
       obtain ⟨Hx, leHx, h, hx1⟩ := h.fsl (α := Dc) (R := RDc) 0 (ys := [exD]) (RowR.one rfl rfl) (fun _ _ _ _ _ hr => hr)
       have l_H_Hx : LE H Hx := l_H_H39.trans leHx
       have l_HA_Hx : LE HA Hx := l_HA_H39.trans leHx
       have l_H21_Hx : LE H21 Hx := l_H21_H39.trans leHx
       have l_H22_Hx : LE H22 Hx := l_H22_H39.trans leHx
       have l_H27_Hx : LE H27 Hx := l_H27_H39.trans leHx
       have l_H28_Hx : LE H28 Hx := l_H28_H39.trans leHx
       have l_H29_Hx : LE H29 Hx := l_H29_H39.trans leHx
       have l_H35_Hx : LE H35 Hx := l_H35_H39.trans leHx
       have l_H39_Hx : LE H39 Hx := leHx
       obtain ⟨Hy, leHy, h, hx3⟩ := h.fsl (α := Df) (R := RDf) 1 (ys := [⟨[102], exF exX⟩]) (RowR.one rfl ⟨_, rfl, rt_of_ks (KS.up hk35 l_H35_Hx)⟩) (fun _ l _ _ _ hr => RDf.mono l hr)
       have l_H_Hy : LE H Hy := l_H_Hx.trans leHy
       have l_HA_Hy : LE HA Hy := l_HA_Hx.trans leHy
       have l_H21_Hy : LE H21 Hy := l_H21_Hx.trans leHy
       have l_H22_Hy : LE H22 Hy := l_H22_Hx.trans leHy
       have l_H27_Hy : LE H27 Hy := l_H27_Hx.trans leHy
       have l_H28_Hy : LE H28 Hy := l_H28_Hx.trans leHy
       have l_H29_Hy : LE H29 Hy := l_H29_Hx.trans leHy
       have l_H35_Hy : LE H35 Hy := l_H35_Hx.trans leHy
       have l_H39_Hy : LE H39 Hy := l_H39_Hx.trans leHy
       have l_Hx_Hy : LE Hx Hy := leHy
       have h := h.pull 2 rfl rfl
       have h := h.pull 2 rfl rfl
       have h := h.pull 2 rfl rfl
       have h := h.del 3
       exact ⟨_, g6, _, _, _, l_H29_Hy, CS.up hx1 l_Hx_Hy, hx3, KS.up hk39 l_H39_Hy, h.to 0 _⟩
     ·refine al zr28 h fun g6 a w h => ?_
      refine br0 ?_
      refine brl2 1 7 true false (by kernel_rfl) (by kernel_rfl) (by kernel_rfl) (fun _ => h.st.sees' (by first | exact LE.rfl | assumption) (by simp)) ?_ ?_
      ·refine bsl bs25 h fun g33 a w h => ?_
       refine br0 ?_
       refine brl1 7 false (by kernel_rfl) (by kernel_rfl) (fun _ => h.st.sees' (by first | exact LE.rfl | assumption) (by simp)) ?_
       refine cl bod17 (fun_ok [120] exA _ E H35 _ (⟨_, _, rfl, KS.up hsA l_HA_H35⟩)) h (fun r39 H39 L39 a w le39 R h => ?_) (hS := fun _ _ _ _ _ le R hw => by obtain ⟨_, rfl, _, rfl⟩ := R; exact hw.sees' (by first | exact le | exact LE.trans (by assumption) le) (by simp))
       obtain ⟨A39, rfl, hk39, rfl⟩ := R
       have l_H_H39 : LE H H39 := l_H_H35.trans le39
       have l_HA_H39 : LE HA H39 := l_HA_H35.trans le39
       have l_H21_H39 : LE H21 H39 := l_H21_H35.trans le39
       have l_H22_H39 : LE H22 H39 := l_H22_H35.trans le39
       have l_H27_H39 : LE H27 H39 := l_H27_H35.trans le39
       have l_H28_H39 : LE H28 H39 := l_H28_H35.trans le39
       have l_H29_H39 : LE H29 H39 := l_H29_H35.trans le39
       have l_H35_H39 : LE H35 H39 := le39
       refine au [2,7,8,8,7,5,2,6] h ?_; intro a w h
       refine brl1 10 false (by kernel_rfl) (by kernel_rfl) (fun _ => h.st.sees' (by first | exact LE.rfl | assumption) (by simp)) ?_
       refine au [5,6,2,7] h ?_; intro a w h
       refine en (by kernel_rfl) ?_
       refine thN ?_
       obtain ⟨Hx, leHx, h, hx1⟩ := h.fsl (α := Dc) (R := RDc) 0 (ys := [exD]) (RowR.one rfl rfl) (fun _ _ _ _ _ hr => hr)
       have l_H_Hx : LE H Hx := l_H_H39.trans leHx
       have l_HA_Hx : LE HA Hx := l_HA_H39.trans leHx
       have l_H21_Hx : LE H21 Hx := l_H21_H39.trans leHx
       have l_H22_Hx : LE H22 Hx := l_H22_H39.trans leHx
       have l_H27_Hx : LE H27 Hx := l_H27_H39.trans leHx
       have l_H28_Hx : LE H28 Hx := l_H28_H39.trans leHx
       have l_H29_Hx : LE H29 Hx := l_H29_H39.trans leHx
       have l_H35_Hx : LE H35 Hx := l_H35_H39.trans leHx
       have l_H39_Hx : LE H39 Hx := leHx
       obtain ⟨Hy, leHy, h, hx3⟩ := h.fsl (α := Df) (R := RDf) 1 (ys := [⟨[102], exF exX⟩]) (RowR.one rfl ⟨_, rfl, rt_of_ks (KS.up hk35 l_H35_Hx)⟩) (fun _ l _ _ _ hr => RDf.mono l hr)
       have l_H_Hy : LE H Hy := l_H_Hx.trans leHy
       have l_HA_Hy : LE HA Hy := l_HA_Hx.trans leHy
       have l_H21_Hy : LE H21 Hy := l_H21_Hx.trans leHy
       have l_H22_Hy : LE H22 Hy := l_H22_Hx.trans leHy
       have l_H27_Hy : LE H27 Hy := l_H27_Hx.trans leHy
       have l_H28_Hy : LE H28 Hy := l_H28_Hx.trans leHy
       have l_H29_Hy : LE H29 Hy := l_H29_Hx.trans leHy
       have l_H35_Hy : LE H35 Hy := l_H35_Hx.trans leHy
       have l_H39_Hy : LE H39 Hy := l_H39_Hx.trans leHy
       have l_Hx_Hy : LE Hx Hy := leHy
       have h := h.pull 2 rfl rfl
       have h := h.pull 2 rfl rfl
       have h := h.pull 2 rfl rfl
       have h := h.del 3
       exact ⟨_, g6, _, _, _, l_H29_Hy, CS.up hx1 l_Hx_Hy, hx3, KS.up hk39 l_H39_Hy, h.to 0 _⟩
      ·refine cl bod17 (fun_ok [120] exA _ E H35 _ (⟨_, _, rfl, KS.up hsA l_HA_H35⟩)) h (fun r39 H39 L39 a w le39 R h => ?_) (hS := fun _ _ _ _ _ le R hw => by obtain ⟨_, rfl, _, rfl⟩ := R; exact hw.sees' (by first | exact le | exact LE.trans (by assumption) le) (by simp))
       obtain ⟨A39, rfl, hk39, rfl⟩ := R
       have l_H_H39 : LE H H39 := l_H_H35.trans le39
       have l_HA_H39 : LE HA H39 := l_HA_H35.trans le39
       have l_H21_H39 : LE H21 H39 := l_H21_H35.trans le39
       have l_H22_H39 : LE H22 H39 := l_H22_H35.trans le39
       have l_H27_H39 : LE H27 H39 := l_H27_H35.trans le39
       have l_H28_H39 : LE H28 H39 := l_H28_H35.trans le39
       have l_H29_H39 : LE H29 H39 := l_H29_H35.trans le39
       have l_H35_H39 : LE H35 H39 := le39
       refine br0 ?_
       refine brl1 1 true (by kernel_rfl) (by kernel_rfl) (fun _ => h.st.sees' (by first | exact LE.rfl | assumption) (by simp)) ?_
       refine bsl bs25 h fun g33 a w h => ?_
       refine au [2,7,8,8,7,5,2,6] h ?_; intro a w h
       refine brl1 10 false (by kernel_rfl) (by kernel_rfl) (fun _ => h.st.sees' (by first | exact LE.rfl | assumption) (by simp)) ?_
       refine au [5,6,2,7] h ?_; intro a w h
       refine en (by kernel_rfl) ?_
       refine thN ?_
       obtain ⟨Hx, leHx, h, hx1⟩ := h.fsl (α := Dc) (R := RDc) 0 (ys := [exD]) (RowR.one rfl rfl) (fun _ _ _ _ _ hr => hr)
       have l_H_Hx : LE H Hx := l_H_H39.trans leHx
       have l_HA_Hx : LE HA Hx := l_HA_H39.trans leHx
       have l_H21_Hx : LE H21 Hx := l_H21_H39.trans leHx
       have l_H22_Hx : LE H22 Hx := l_H22_H39.trans leHx
       have l_H27_Hx : LE H27 Hx := l_H27_H39.trans leHx
       have l_H28_Hx : LE H28 Hx := l_H28_H39.trans leHx
       have l_H29_Hx : LE H29 Hx := l_H29_H39.trans leHx
       have l_H35_Hx : LE H35 Hx := l_H35_H39.trans leHx
       have l_H39_Hx : LE H39 Hx := leHx
       obtain ⟨Hy, leHy, h, hx3⟩ := h.fsl (α := Df) (R := RDf) 1 (ys := [⟨[102], exF exX⟩]) (RowR.one rfl ⟨_, rfl, rt_of_ks (KS.up hk35 l_H35_Hx)⟩) (fun _ l _ _ _ hr => RDf.mono l hr)
       have l_H_Hy : LE H Hy := l_H_Hx.trans leHy
       have l_HA_Hy : LE HA Hy := l_HA_Hx.trans leHy
       have l_H21_Hy : LE H21 Hy := l_H21_Hx.trans leHy
       have l_H22_Hy : LE H22 Hy := l_H22_Hx.trans leHy
       have l_H27_Hy : LE H27 Hy := l_H27_Hx.trans leHy
       have l_H28_Hy : LE H28 Hy := l_H28_Hx.trans leHy
       have l_H29_Hy : LE H29 Hy := l_H29_Hx.trans leHy
       have l_H35_Hy : LE H35 Hy := l_H35_Hx.trans leHy
       have l_H39_Hy : LE H39 Hy := l_H39_Hx.trans leHy
       have l_Hx_Hy : LE Hx Hy := leHy
       have h := h.pull 2 rfl rfl
       have h := h.pull 2 rfl rfl
       have h := h.pull 2 rfl rfl
       have h := h.del 3
       exact ⟨_, g6, _, _, _, l_H29_Hy, CS.up hx1 l_Hx_Hy, hx3, KS.up hk39 l_H39_Hy, h.to 0 _⟩
    ·refine cl bod17 (fun_ok [120] exA _ E H35 _ (⟨_, _, rfl, KS.up hsA l_HA_H35⟩)) h (fun r39 H39 L39 a w le39 R h => ?_) (hS := fun _ _ _ _ _ le R hw => by obtain ⟨_, rfl, _, rfl⟩ := R; exact hw.sees' (by first | exact le | exact LE.trans (by assumption) le) (by simp))
     obtain ⟨A39, rfl, hk39, rfl⟩ := R
     have l_H_H39 : LE H H39 := l_H_H35.trans le39
     have l_HA_H39 : LE HA H39 := l_HA_H35.trans le39
     have l_H21_H39 : LE H21 H39 := l_H21_H35.trans le39
     have l_H22_H39 : LE H22 H39 := l_H22_H35.trans le39
     have l_H27_H39 : LE H27 H39 := l_H27_H35.trans le39
     have l_H28_H39 : LE H28 H39 := l_H28_H35.trans le39
     have l_H29_H39 : LE H29 H39 := l_H29_H35.trans le39
     have l_H35_H39 : LE H35 H39 := le39
     refine br0 ?_
     refine brl3 1 5 9 true true true (by kernel_rfl) (by kernel_rfl) (by kernel_rfl) (by kernel_rfl) (fun _ => h.st.sees' (by first | exact LE.rfl | assumption) (by simp)) ?_ ?_ ?_
     ·refine bsl bs25 h fun g33 a w h => ?_
      refine br0 ?_
      refine brl2 5 9 true true (by kernel_rfl) (by kernel_rfl) (by kernel_rfl) (fun _ => h.st.sees' (by first | exact LE.rfl | assumption) (by simp)) ?_ ?_
      ·refine bsl bs26 h fun g37 a w h => ?_
       refine au [2,7,8,8,7,5,2,6] h ?_; intro a w h
       refine brl1 9 true (by kernel_rfl) (by kernel_rfl) (fun _ => h.st.sees' (by first | exact LE.rfl | assumption) (by simp)) ?_
       refine al zr28 h fun g6 a w h => ?_
       refine br0 ?_
       refine brl1 10 false (by kernel_rfl) (by kernel_rfl) (fun _ => h.st.sees' (by first | exact LE.rfl | assumption) (by simp)) ?_
       refine au [5,5,2,7] h ?_; intro a w h
       refine en (by kernel_rfl) ?_
       refine thN ?_
       obtain ⟨Hx, leHx, h, hx1⟩ := h.fsl (α := Dc) (R := RDc) 2 (ys := [exD]) (RowR.one rfl rfl) (fun _ _ _ _ _ hr => hr)
       have l_H_Hx : LE H Hx := l_H_H39.trans leHx
       have l_HA_Hx : LE HA Hx := l_HA_H39.trans leHx
       have l_H21_Hx : LE H21 Hx := l_H21_H39.trans leHx
       have l_H22_Hx : LE H22 Hx := l_H22_H39.trans leHx
       have l_H27_Hx : LE H27 Hx := l_H27_H39.trans leHx
       have l_H28_Hx : LE H28 Hx := l_H28_H39.trans leHx
       have l_H29_Hx : LE H29 Hx := l_H29_H39.trans leHx
       have l_H35_Hx : LE H35 Hx := l_H35_H39.trans leHx
       have l_H39_Hx : LE H39 Hx := leHx
       obtain ⟨Hy, leHy, h, hx3⟩ := h.fsl (α := Df) (R := RDf) 1 (ys := [⟨[102], exF exX⟩]) (RowR.one rfl ⟨_, rfl, rt_of_ks (KS.up hk35 l_H35_Hx)⟩) (fun _ l _ _ _ hr => RDf.mono l hr)
       have l_H_Hy : LE H Hy := l_H_Hx.trans leHy
       have l_HA_Hy : LE HA Hy := l_HA_Hx.trans leHy
       have l_H21_Hy : LE H21 Hy := l_H21_Hx.trans leHy
       have l_H22_Hy : LE H22 Hy := l_H22_Hx.trans leHy
       have l_H27_Hy : LE H27 Hy := l_H27_Hx.trans leHy
       have l_H28_Hy : LE H28 Hy := l_H28_Hx.trans leHy
       have l_H29_Hy : LE H29 Hy := l_H29_Hx.trans leHy
       have l_H35_Hy : LE H35 Hy := l_H35_Hx.trans leHy
       have l_H39_Hy : LE H39 Hy := l_H39_Hx.trans leHy
       have l_Hx_Hy : LE Hx Hy := leHy
       have h := h.pull 2 rfl rfl
       have h := h.pull 2 rfl rfl
       have h := h.pull 2 rfl rfl
       have h := h.del 3
       exact ⟨_, g6, _, _, _, l_H29_Hy, CS.up hx1 l_Hx_Hy, hx3, KS.up hk39 l_H39_Hy, h.to 0 _⟩
      ·refine al zr28 h fun g6 a w h => ?_
       refine br0 ?_
       refine brl1 5 true (by kernel_rfl) (by kernel_rfl) (fun _ => h.st.sees' (by first | exact LE.rfl | assumption) (by simp)) ?_
       refine bsl bs26 h fun g37 a w h => ?_
       refine au [2,7,8,8,7,5,2,6] h ?_; intro a w h
       refine brl1 10 false (by kernel_rfl) (by kernel_rfl) (fun _ => h.st.sees' (by first | exact LE.rfl | assumption) (by simp)) ?_
       refine au [5,6,2,7] h ?_; intro a w h
       refine en (by kernel_rfl) ?_
       refine thN ?_
       obtain ⟨Hx, leHx, h, hx1⟩ := h.fsl (α := Dc) (R := RDc) 2 (ys := [exD]) (RowR.one rfl rfl) (fun _ _ _ _ _ hr => hr)
       have l_H_Hx : LE H Hx := l_H_H39.trans leHx
       have l_HA_Hx : LE HA Hx := l_HA_H39.trans leHx
       have l_H21_Hx : LE H21 Hx := l_H21_H39.trans leHx
       have l_H22_Hx : LE H22 Hx := l_H22_H39.trans leHx
       have l_H27_Hx : LE H27 Hx := l_H27_H39.trans leHx
       have l_H28_Hx : LE H28 Hx := l_H28_H39.trans leHx
       have l_H29_Hx : LE H29 Hx := l_H29_H39.trans leHx
       have l_H35_Hx : LE H35 Hx := l_H35_H39.trans leHx
       have l_H39_Hx : LE H39 Hx := leHx
       obtain ⟨Hy, leHy, h, hx3⟩ := h.fsl (α := Df) (R := RDf) 0 (ys := [⟨[102], exF exX⟩]) (RowR.one rfl ⟨_, rfl, rt_of_ks (KS.up hk35 l_H35_Hx)⟩) (fun _ l _ _ _ hr => RDf.mono l hr)
       have l_H_Hy : LE H Hy := l_H_Hx.trans leHy
       have l_HA_Hy : LE HA Hy := l_HA_Hx.trans leHy
       have l_H21_Hy : LE H21 Hy := l_H21_Hx.trans leHy
       have l_H22_Hy : LE H22 Hy := l_H22_Hx.trans leHy
       have l_H27_Hy : LE H27 Hy := l_H27_Hx.trans leHy
       have l_H28_Hy : LE H28 Hy := l_H28_Hx.trans leHy
       have l_H29_Hy : LE H29 Hy := l_H29_Hx.trans leHy
       have l_H35_Hy : LE H35 Hy := l_H35_Hx.trans leHy
       have l_H39_Hy : LE H39 Hy := l_H39_Hx.trans leHy
       have l_Hx_Hy : LE Hx Hy := leHy
       have h := h.pull 2 rfl rfl
       have h := h.pull 2 rfl rfl
       have h := h.pull 2 rfl rfl
       have h := h.del 3
       exact ⟨_, g6, _, _, _, l_H29_Hy, CS.up hx1 l_Hx_Hy, hx3, KS.up hk39 l_H39_Hy, h.to 0 _⟩
     ·refine bsl bs26 h fun g37 a w h => ?_
      refine br0 ?_
      refine brl2 1 9 true true (by kernel_rfl) (by kernel_rfl) (by kernel_rfl) (fun _ => h.st.sees' (by first | exact LE.rfl | assumption) (by simp)) ?_ ?_
      ·refine bsl bs25 h fun g33 a w h => ?_
       refine au [2,7,8,8,7,5,2,6] h ?_; intro a w h
       refine brl1 9 true (by kernel_rfl) (by kernel_rfl) (fun _ => h.st.sees' (by first | exact LE.rfl | assumption) (by simp)) ?_
       refine al zr28 h fun g6 a w h => ?_
       refine br0 ?_
       refine brl1 10 false (by kernel_rfl) (by kernel_rfl) (fun _ => h.st.sees' (by first | exact LE.rfl | assumption) (by simp)) ?_
       refine au [5,5,2,7] h ?_; intro a w h
       refine en (by kernel_rfl) ?_
       refine thN ?_
       obtain ⟨Hx, leHx, h, hx1⟩ := h.fsl (α := Dc) (R := RDc) 1 (ys := [exD]) (RowR.one rfl rfl) (fun _ _ _ _ _ hr => hr)
       have l_H_Hx : LE H Hx := l_H_H39.trans leHx
       have l_HA_Hx : LE HA Hx := l_HA_H39.trans leHx
       have l_H21_Hx : LE H21 Hx := l_H21_H39.trans leHx
       have l_H22_Hx : LE H22 Hx := l_H22_H39.trans leHx
       have l_H27_Hx : LE H27 Hx := l_H27_H39.trans leHx
       have l_H28_Hx : LE H28 Hx := l_H28_H39.trans leHx
       have l_H29_Hx : LE H29 Hx := l_H29_H39.trans leHx
       have l_H35_Hx : LE H35 Hx := l_H35_H39.trans leHx
       have l_H39_Hx : LE H39 Hx := leHx
       obtain ⟨Hy, leHy, h, hx3⟩ := h.fsl (α := Df) (R := RDf) 1 (ys := [⟨[102], exF exX⟩]) (RowR.one rfl ⟨_, rfl, rt_of_ks (KS.up hk35 l_H35_Hx)⟩) (fun _ l _ _ _ hr => RDf.mono l hr)
       have l_H_Hy : LE H Hy := l_H_Hx.trans leHy
       have l_HA_Hy : LE HA Hy := l_HA_Hx.trans leHy
       have l_H21_Hy : LE H21 Hy := l_H21_Hx.trans leHy
       have l_H22_Hy : LE H22 Hy := l_H22_Hx.trans leHy
       have l_H27_Hy : LE H27 Hy := l_H27_Hx.trans leHy
       have l_H28_Hy : LE H28 Hy := l_H28_Hx.trans leHy
       have l_H29_Hy : LE H29 Hy := l_H29_Hx.trans leHy
       have l_H35_Hy : LE H35 Hy := l_H35_Hx.trans leHy
       have l_H39_Hy : LE H39 Hy := l_H39_Hx.trans leHy
       have l_Hx_Hy : LE Hx Hy := leHy
       have h := h.pull 2 rfl rfl
       have h := h.pull 2 rfl rfl
       have h := h.pull 2 rfl rfl
       have h := h.del 3
       exact ⟨_, g6, _, _, _, l_H29_Hy, CS.up hx1 l_Hx_Hy, hx3, KS.up hk39 l_H39_Hy, h.to 0 _⟩
      ·refine al zr28 h fun g6 a w h => ?_
       refine br0 ?_
       refine brl1 1 true (by kernel_rfl) (by kernel_rfl) (fun _ => h.st.sees' (by first | exact LE.rfl | assumption) (by simp)) ?_
       refine bsl bs25 h fun g33 a w h => ?_
       refine au [2,7,8,8,7,5,2,6] h ?_; intro a w h
       refine brl1 10 false (by kernel_rfl) (by kernel_rfl) (fun _ => h.st.sees' (by first | exact LE.rfl | assumption) (by simp)) ?_
       refine au [5,6,2,7] h ?_; intro a w h
       refine en (by kernel_rfl) ?_
       refine thN ?_
       obtain ⟨Hx, leHx, h, hx1⟩ := h.fsl (α := Dc) (R := RDc) 0 (ys := [exD]) (RowR.one rfl rfl) (fun _ _ _ _ _ hr => hr)
       have l_H_Hx : LE H Hx := l_H_H39.trans leHx
       have l_HA_Hx : LE HA Hx := l_HA_H39.trans leHx
       have l_H21_Hx : LE H21 Hx := l_H21_H39.trans leHx
       have l_H22_Hx : LE H22 Hx := l_H22_H39.trans leHx
       have l_H27_Hx : LE H27 Hx := l_H27_H39.trans leHx
       have l_H28_Hx : LE H28 Hx := l_H28_H39.trans leHx
       have l_H29_Hx : LE H29 Hx := l_H29_H39.trans leHx
       have l_H35_Hx : LE H35 Hx := l_H35_H39.trans leHx
       have l_H39_Hx : LE H39 Hx := leHx
       obtain ⟨Hy, leHy, h, hx3⟩ := h.fsl (α := Df) (R := RDf) 1 (ys := [⟨[102], exF exX⟩]) (RowR.one rfl ⟨_, rfl, rt_of_ks (KS.up hk35 l_H35_Hx)⟩) (fun _ l _ _ _ hr => RDf.mono l hr)
       have l_H_Hy : LE H Hy := l_H_Hx.trans leHy
       have l_HA_Hy : LE HA Hy := l_HA_Hx.trans leHy
       have l_H21_Hy : LE H21 Hy := l_H21_Hx.trans leHy
       have l_H22_Hy : LE H22 Hy := l_H22_Hx.trans leHy
       have l_H27_Hy : LE H27 Hy := l_H27_Hx.trans leHy
       have l_H28_Hy : LE H28 Hy := l_H28_Hx.trans leHy
       have l_H29_Hy : LE H29 Hy := l_H29_Hx.trans leHy
       have l_H35_Hy : LE H35 Hy := l_H35_Hx.trans leHy
       have l_H39_Hy : LE H39 Hy := l_H39_Hx.trans leHy
       have l_Hx_Hy : LE Hx Hy := leHy
       have h := h.pull 2 rfl rfl
       have h := h.pull 2 rfl rfl
       have h := h.pull 2 rfl rfl
       have h := h.del 3
       exact ⟨_, g6, _, _, _, l_H29_Hy, CS.up hx1 l_Hx_Hy, hx3, KS.up hk39 l_H39_Hy, h.to 0 _⟩
     ·refine al zr28 h fun g6 a w h => ?_
      refine br0 ?_
      refine brl2 1 5 true true (by kernel_rfl) (by kernel_rfl) (by kernel_rfl) (fun _ => h.st.sees' (by first | exact LE.rfl | assumption) (by simp)) ?_ ?_
      ·refine bsl bs25 h fun g33 a w h => ?_
       refine br0 ?_
       refine brl1 5 true (by kernel_rfl) (by kernel_rfl) (fun _ => h.st.sees' (by first | exact LE.rfl | assumption) (by simp)) ?_
       refine bsl bs26 h fun g37 a w h => ?_
       refine au [2,7,8,8,7,5,2,6] h ?_; intro a w h
       refine brl1 10 false (by kernel_rfl) (by kernel_rfl) (fun _ => h.st.sees' (by first | exact LE.rfl | assumption) (by simp)) ?_
       refine au [5,7,2,7] h ?_; intro a w h
       refine en (by kernel_rfl) ?_
       refine thN ?_
       obtain ⟨Hx, leHx, h, hx1⟩ := h.fsl (α := Dc) (R := RDc) 1 (ys := [exD]) (RowR.one rfl rfl) (fun _ _ _ _ _ hr => hr)
       have l_H_Hx : LE H Hx := l_H_H39.trans leHx
       have l_HA_Hx : LE HA Hx := l_HA_H39.trans leHx
       have l_H21_Hx : LE H21 Hx := l_H21_H39.trans leHx
       have l_H22_Hx : LE H22 Hx := l_H22_H39.trans leHx
       have l_H27_Hx : LE H27 Hx := l_H27_H39.trans leHx
       have l_H28_Hx : LE H28 Hx := l_H28_H39.trans leHx
       have l_H29_Hx : LE H29 Hx := l_H29_H39.trans leHx
       have l_H35_Hx : LE H35 Hx := l_H35_H39.trans leHx
       have l_H39_Hx : LE H39 Hx := leHx
       obtain ⟨Hy, leHy, h, hx3⟩ := h.fsl (α := Df) (R := RDf) 0 (ys := [⟨[102], exF exX⟩]) (RowR.one rfl ⟨_, rfl, rt_of_ks (KS.up hk35 l_H35_Hx)⟩) (fun _ l _ _ _ hr => RDf.mono l hr)
       have l_H_Hy : LE H Hy := l_H_Hx.trans leHy
       have l_HA_Hy : LE HA Hy := l_HA_Hx.trans leHy
       have l_H21_Hy : LE H21 Hy := l_H21_Hx.trans leHy
       have l_H22_Hy : LE H22 Hy := l_H22_Hx.trans leHy
       have l_H27_Hy : LE H27 Hy := l_H27_Hx.trans leHy
       have l_H28_Hy : LE H28 Hy := l_H28_Hx.trans leHy
       have l_H29_Hy : LE H29 Hy := l_H29_Hx.trans leHy
       have l_H35_Hy : LE H35 Hy := l_H35_Hx.trans leHy
       have l_H39_Hy : LE H39 Hy := l_H39_Hx.trans leHy
       have l_Hx_Hy : LE Hx Hy := leHy
       have h := h.pull 2 rfl rfl
       have h := h.pull 2 rfl rfl
       have h := h.pull 2 rfl rfl
       have h := h.del 3
       exact ⟨_, g6, _, _, _, l_H29_Hy, CS.up hx1 l_Hx_Hy, hx3, KS.up hk39 l_H39_Hy, h.to 0 _⟩
      ·refine bsl bs26 h fun g37 a w h => ?_
       refine br0 ?_
       refine brl1 1 true (by kernel_rfl) (by kernel_rfl) (fun _ => h.st.sees' (by first | exact LE.rfl | assumption) (by simp)) ?_
       refine bsl bs25 h fun g33 a w h => ?_
       refine au [2,7,8,8,7,5,2,6] h ?_; intro a w h
       refine brl1 10 false (by kernel_rfl) (by kernel_rfl) (fun _ => h.st.sees' (by first | exact LE.rfl | assumption) (by simp)) ?_
       refine au [5,7,2,7] h ?_; intro a w h
       refine en (by kernel_rfl) ?_
       refine thN ?_
       obtain ⟨Hx, leHx, h, hx1⟩ := h.fsl (α := Dc) (R := RDc) 0 (ys := [exD]) (RowR.one rfl rfl) (fun _ _ _ _ _ hr => hr)
       have l_H_Hx : LE H Hx := l_H_H39.trans leHx
       have l_HA_Hx : LE HA Hx := l_HA_H39.trans leHx
       have l_H21_Hx : LE H21 Hx := l_H21_H39.trans leHx
       have l_H22_Hx : LE H22 Hx := l_H22_H39.trans leHx
       have l_H27_Hx : LE H27 Hx := l_H27_H39.trans leHx
       have l_H28_Hx : LE H28 Hx := l_H28_H39.trans leHx
       have l_H29_Hx : LE H29 Hx := l_H29_H39.trans leHx
       have l_H35_Hx : LE H35 Hx := l_H35_H39.trans leHx
       have l_H39_Hx : LE H39 Hx := leHx
       obtain ⟨Hy, leHy, h, hx3⟩ := h.fsl (α := Df) (R := RDf) 0 (ys := [⟨[102], exF exX⟩]) (RowR.one rfl ⟨_, rfl, rt_of_ks (KS.up hk35 l_H35_Hx)⟩) (fun _ l _ _ _ hr => RDf.mono l hr)
       have l_H_Hy : LE H Hy := l_H_Hx.trans leHy
       have l_HA_Hy : LE HA Hy := l_HA_Hx.trans leHy
       have l_H21_Hy : LE H21 Hy := l_H21_Hx.trans leHy
       have l_H22_Hy : LE H22 Hy := l_H22_Hx.trans leHy
       have l_H27_Hy : LE H27 Hy := l_H27_Hx.trans leHy
       have l_H28_Hy : LE H28 Hy := l_H28_Hx.trans leHy
       have l_H29_Hy : LE H29 Hy := l_H29_Hx.trans leHy
       have l_H35_Hy : LE H35 Hy := l_H35_Hx.trans leHy
       have l_H39_Hy : LE H39 Hy := l_H39_Hx.trans leHy
       have l_Hx_Hy : LE Hx Hy := leHy
       have h := h.pull 2 rfl rfl
       have h := h.pull 2 rfl rfl
       have h := h.pull 2 rfl rfl
       have h := h.del 3
       exact ⟨_, g6, _, _, _, l_H29_Hy, CS.up hx1 l_Hx_Hy, hx3, KS.up hk39 l_H39_Hy, h.to 0 _⟩
    ·refine al zr28 h fun g6 a w h => ?_
     refine br0 ?_
     refine brl3 1 5 7 true true false (by kernel_rfl) (by kernel_rfl) (by kernel_rfl) (by kernel_rfl) (fun _ => h.st.sees' (by first | exact LE.rfl | assumption) (by simp)) ?_ ?_ ?_
     ·refine bsl bs25 h fun g33 a w h => ?_
      refine br0 ?_
      refine brl2 5 7 true false (by kernel_rfl) (by kernel_rfl) (by kernel_rfl) (fun _ => h.st.sees' (by first | exact LE.rfl | assumption) (by simp)) ?_ ?_
      ·refine bsl bs26 h fun g37 a w h => ?_
       refine br0 ?_
       refine brl1 7 false (by kernel_rfl) (by kernel_rfl) (fun _ => h.st.sees' (by first | exact LE.rfl | assumption) (by simp)) ?_
       refine cl bod17 (fun_ok [120] exA _ E H35 _ (⟨_, _, rfl, KS.up hsA l_HA_H35⟩)) h (fun r39 H39 L39 a w le39 R h => ?_) (hS := fun _ _ _ _ _ le R hw => by obtain ⟨_, rfl, _, rfl⟩ := R; exact hw.sees' (by first | exact le | exact LE.trans (by assumption) le) (by simp))
       obtain ⟨A39, rfl, hk39, rfl⟩ := R
       have l_H_H39 : LE H H39 := l_H_H35.trans le39
       have l_HA_H39 : LE HA H39 := l_HA_H35.trans le39
       have l_H21_H39 : LE H21 H39 := l_H21_H35.trans le39
       have l_H22_H39 : LE H22 H39 := l_H22_H35.trans le39
       have l_H27_H39 : LE H27 H39 := l_H27_H35.trans le39
       have l_H28_H39 : LE H28 H39 := l_H28_H35.trans le39
       have l_H29_H39 : LE H29 H39 := l_H29_H35.trans le39
       have l_H35_H39 : LE H35 H39 := le39
       refine au [2,7,8,8,7,5,2,6] h ?_; intro a w h
       refine brl1 10 false (by kernel_rfl) (by kernel_rfl) (fun _ => h.st.sees' (by first | exact LE.rfl | assumption) (by simp)) ?_
       refine au [5,7,2,7] h ?_; intro a w h
       refine en (by kernel_rfl) ?_
       refine thN ?_
       obtain ⟨Hx, leHx, h, hx1⟩ := h.fsl (α := Dc) (R := RDc) 1 (ys := [exD]) (RowR.one rfl rfl) (fun _ _ _ _ _ hr => hr)
       have l_H_Hx : LE H Hx := l_H_H39.trans leHx
       have l_HA_Hx : LE HA Hx := l_HA_H39.trans leHx
       have l_H21_Hx : LE H21 Hx := l_H21_H39.trans leHx
       have l_H22_Hx : LE H22 Hx := l_H22_H39.trans leHx
       have l_H27_Hx : LE H27 Hx := l_H27_H39.trans leHx
       have l_H28_Hx : LE H28 Hx := l_H28_H39.trans leHx
       have l_H29_Hx : LE H29 Hx := l_H29_H39.trans leHx
       have l_H35_Hx : LE H35 Hx := l_H35_H39.trans leHx
       have l_H39_Hx : LE H39 Hx := leHx
       obtain ⟨Hy, leHy, h, hx3⟩ := h.fsl (α := Df) (R := RDf) 0 (ys := [⟨[102], exF exX⟩]) (RowR.one rfl ⟨_, rfl, rt_of_ks (KS.up hk35 l_H35_Hx)⟩) (fun _ l _ _ _ hr => RDf.mono l hr)
       have l_H_Hy : LE H Hy := l_H_Hx.trans leHy
       have l_HA_Hy : LE HA Hy := l_HA_Hx.trans leHy
       have l_H21_Hy : LE H21 Hy := l_H21_Hx.trans leHy
       have l_H22_Hy : LE H22 Hy := l_H22_Hx.trans leHy
       have l_H27_Hy : LE H27 Hy := l_H27_Hx.trans leHy
       have l_H28_Hy : LE H28 Hy := l_H28_Hx.trans leHy
       have l_H29_Hy : LE H29 Hy := l_H29_Hx.trans leHy
       have l_H35_Hy : LE H35 Hy := l_H35_Hx.trans leHy
       have l_H39_Hy : LE H39 Hy := l_H39_Hx.trans leHy
       have l_Hx_Hy : LE Hx Hy := leHy
       have h := h.pull 2 rfl rfl
       have h := h.pull 2 rfl rfl
       have h := h.pull 2 rfl rfl
       have h := h.del 3
       exact ⟨_, g6, _, _, _, l_H29_Hy, CS.up hx1 l_Hx_Hy, hx3, KS.up hk39 l_H39_Hy, h.to 0 _⟩
      ·refine cl bod17 (fun_ok [120] exA _ E H35 _ (⟨_, _, rfl, KS.up hsA l_HA_H35⟩)) h (fun r39 H39 L39 a w le39 R h => ?_) (hS := fun _ _ _ _ _ le R hw => by obtain ⟨_, rfl, _, rfl⟩ := R; exact hw.sees' (by first | exact le | exact LE.trans (by assumption) le) (by simp))
       obtain ⟨A39, rfl, hk39, rfl⟩ := R
       have l_H_H39 : LE H H39 := l_H_H35.trans le39
       have l_HA_H39 : LE HA H39 := l_HA_H35.trans le39
       have l_H21_H39 : LE H21 H39 := l_H21_H35.trans le39
       have l_H22_H39 : LE H22 H39 := l_H22_H35.trans le39
       have l_H27_H39 : LE H27 H39 := l_H27_H35.trans le39
       have l_H28_H39 : LE H28 H39 := l_H28_H35.trans le39
       have l_H29_H39 : LE H29 H39 := l_H29_H35.trans le39
       have l_H35_H39 : LE H35 H39 := le39
       refine br0 ?_
       refine brl1 5 true (by kernel_rfl) (by kernel_rfl) (fun _ => h.st.sees' (by first | exact LE.rfl | assumption) (by simp)) ?_
       refine bsl bs26 h fun g37 a w h => ?_
       refine au [2,7,8,8,7,5,2,6] h ?_; intro a w h
       refine brl1 10 false (by kernel_rfl) (by kernel_rfl) (fun _ => h.st.sees' (by first | exact LE.rfl | assumption) (by simp)) ?_
       refine au [5,7,2,7] h ?_; intro a w h
       refine en (by kernel_rfl) ?_
       refine thN ?_
       obtain ⟨Hx, leHx, h, hx1⟩ := h.fsl (α := Dc) (R := RDc) 1 (ys := [exD]) (RowR.one rfl rfl) (fun _ _ _ _ _ hr => hr)
       have l_H_Hx : LE H Hx := l_H_H39.trans leHx
       have l_HA_Hx : LE HA Hx := l_HA_H39.trans leHx
       have l_H21_Hx : LE H21 Hx := l_H21_H39.trans leHx
       have l_H22_Hx : LE H22 Hx := l_H22_H39.trans leHx
       have l_H27_Hx : LE H27 Hx := l_H27_H39.trans leHx
       have l_H28_Hx : LE H28 Hx := l_H28_H39.trans leHx
       have l_H29_Hx : LE H29 Hx := l_H29_H39.trans leHx
       have l_H35_Hx : LE H35 Hx := l_H35_H39.trans leHx
       have l_H39_Hx : LE H39 Hx := leHx
       obtain ⟨Hy, leHy, h, hx3⟩ := h.fsl (α := Df) (R := RDf) 0 (ys := [⟨[102], exF exX⟩]) (RowR.one rfl ⟨_, rfl, rt_of_ks (KS.up hk35 l_H35_Hx)⟩) (fun _ l _ _ _ hr => RDf.mono l hr)
       have l_H_Hy : LE H Hy := l_H_Hx.trans leHy
       have l_HA_Hy : LE HA Hy := l_HA_Hx.trans leHy
       have l_H21_Hy : LE H21 Hy := l_H21_Hx.trans leHy
       have l_H22_Hy : LE H22 Hy := l_H22_Hx.trans leHy
       have l_H27_Hy : LE H27 Hy := l_H27_Hx.trans leHy
       have l_H28_Hy : LE H28 Hy := l_H28_Hx.trans leHy
       have l_H29_Hy : LE H29 Hy := l_H29_Hx.trans leHy
       have l_H35_Hy : LE H35 Hy := l_H35_Hx.trans leHy
       have l_H39_Hy : LE H39 Hy := l_H39_Hx.trans leHy
       have l_Hx_Hy : LE Hx Hy := leHy
       have h := h.pull 2 rfl rfl
       have h := h.pull 2 rfl rfl
       have h := h.pull 2 rfl rfl
       have h := h.del 3
       exact ⟨_, g6, _, _, _, l_H29_Hy, CS.up hx1 l_Hx_Hy, hx3, KS.up hk39 l_H39_Hy, h.to 0 _⟩
     ·refine bsl bs26 h fun g37 a w h => ?_
      refine br0 ?_
      refine brl2 1 7 true false (by kernel_rfl) (by kernel_rfl) (by kernel_rfl) (fun _ => h.st.sees' (by first | exact LE.rfl | assumption) (by simp)) ?_ ?_
      ·refine bsl bs25 h fun g33 a w h => ?_
       refine br0 ?_
       refine brl1 7 false (by kernel_rfl) (by kernel_rfl) (fun _ => h.st.sees' (by first | exact LE.rfl | assumption) (by simp)) ?_
       refine cl bod17 (fun_ok [120] exA _ E H35 _ (⟨_, _, rfl, KS.up hsA l_HA_H35⟩)) h (fun r39 H39 L39 a w le39 R h => ?_) (hS := fun _ _ _ _ _ le R hw => by obtain ⟨_, rfl, _, rfl⟩ := R; exact hw.sees' (by first | exact le | exact LE.trans (by assumption) le) (by simp))
       obtain ⟨A39, rfl, hk39, rfl⟩ := R
       have l_H_H39 : LE H H39 := l_H_H35.trans le39
       have l_HA_H39 : LE HA H39 := l_HA_H35.trans le39
       have l_H21_H39 : LE H21 H39 := l_H21_H35.trans le39
       have l_H22_H39 : LE H22 H39 := l_H22_H35.trans le39
       have l_H27_H39 : LE H27 H39 := l_H27_H35.trans le39
       have l_H28_H39 : LE H28 H39 := l_H28_H35.trans le39
       have l_H29_H39 : LE H29 H39 := l_H29_H35.trans le39
       have l_H35_H39 : LE H35 H39 := le39
       refine au [2,7,8,8,7,5,2,6] h ?_; intro a w h
       refine brl1 10 false (by kernel_rfl) (by kernel_rfl) (fun _ => h.st.sees' (by first | exact LE.rfl | assumption) (by simp)) ?_
       refine au [5,7,2,7] h ?_; intro a w h
       refine en (by kernel_rfl) ?_
       refine thN ?_
       obtain ⟨Hx, leHx, h, hx1⟩ := h.fsl (α := Dc) (R := RDc) 0 (ys := [exD]) (RowR.one rfl rfl) (fun _ _ _ _ _ hr => hr)
       have l_H_Hx : LE H Hx := l_H_H39.trans leHx
       have l_HA_Hx : LE HA Hx := l_HA_H39.trans leHx
       have l_H21_Hx : LE H21 Hx := l_H21_H39.trans leHx
       have l_H22_Hx : LE H22 Hx := l_H22_H39.trans leHx
       have l_H27_Hx : LE H27 Hx := l_H27_H39.trans leHx
       have l_H28_Hx : LE H28 Hx := l_H28_H39.trans leHx
       have l_H29_Hx : LE H29 Hx := l_H29_H39.trans leHx
       have l_H35_Hx : LE H35 Hx := l_H35_H39.trans leHx
       have l_H39_Hx : LE H39 Hx := leHx
       obtain ⟨Hy, leHy, h, hx3⟩ := h.fsl (α := Df) (R := RDf) 0 (ys := [⟨[102], exF exX⟩]) (RowR.one rfl ⟨_, rfl, rt_of_ks (KS.up hk35 l_H35_Hx)⟩) (fun _ l _ _ _ hr => RDf.mono l hr)
       have l_H_Hy : LE H Hy := l_H_Hx.trans leHy
       have l_HA_Hy : LE HA Hy := l_HA_Hx.trans leHy
       have l_H21_Hy : LE H21 Hy := l_H21_Hx.trans leHy
       have l_H22_Hy : LE H22 Hy := l_H22_Hx.trans leHy
       have l_H27_Hy : LE H27 Hy := l_H27_Hx.trans leHy
       have l_H28_Hy : LE H28 Hy := l_H28_Hx.trans leHy
       have l_H29_Hy : LE H29 Hy := l_H29_Hx.trans leHy
       have l_H35_Hy : LE H35 Hy := l_H35_Hx.trans leHy
       have l_H39_Hy : LE H39 Hy := l_H39_Hx.trans leHy
       have l_Hx_Hy : LE Hx Hy := leHy
       have h := h.pull 2 rfl rfl
       have h := h.pull 2 rfl rfl
       have h := h.pull 2 rfl rfl
       have h := h.del 3
       exact ⟨_, g6, _, _, _, l_H29_Hy, CS.up hx1 l_Hx_Hy, hx3, KS.up hk39 l_H39_Hy, h.to 0 _⟩
      ·refine cl bod17 (fun_ok [120] exA _ E H35 _ (⟨_, _, rfl, KS.up hsA l_HA_H35⟩)) h (fun r39 H39 L39 a w le39 R h => ?_) (hS := fun _ _ _ _ _ le R hw => by obtain ⟨_, rfl, _, rfl⟩ := R; exact hw.sees' (by first | exact le | exact LE.trans (by assumption) le) (by simp))
       obtain ⟨A39, rfl, hk39, rfl⟩ := R
       have l_H_H39 : LE H H39 := l_H_H35.trans le39
       have l_HA_H39 : LE HA H39 := l_HA_H35.trans le39
       have l_H21_H39 : LE H21 H39 := l_H21_H35.trans le39
       have l_H22_H39 : LE H22 H39 := l_H22_H35.trans le39
       have l_H27_H39 : LE H27 H39 := l_H27_H35.trans le39
       have l_H28_H39 : LE H28 H39 := l_H28_H35.trans le39
       have l_H29_H39 : LE H29 H39 := l_H29_H35.trans le39
       have l_H35_H39 : LE H35 H39 := le39
       refine br0 ?_
       refine brl1 1 true (by kernel_rfl) (by kernel_rfl) (fun _ => h.st.sees' (by first | exact LE.rfl | assumption) (by simp)) ?_
       refine bsl bs25 h fun g33 a w h => ?_
       refine au [2,7,8,8,7,5,2,6] h ?_; intro a w h
       refine brl1 10 false (by kernel_rfl) (by kernel_rfl) (fun _ => h.st.sees' (by first | exact LE.rfl | assumption) (by simp)) ?_
       refine au [5,7,2,7] h ?_; intro a w h
       refine en (by kernel_rfl) ?_
       refine thN ?_
       obtain ⟨Hx, leHx, h, hx1⟩ := h.fsl (α := Dc) (R := RDc) 0 (ys := [exD]) (RowR.one rfl rfl) (fun _ _ _ _ _ hr => hr)
       have l_H_Hx : LE H Hx := l_H_H39.trans leHx
       have l_HA_Hx : LE HA Hx := l_HA_H39.trans leHx
       have l_H21_Hx : LE H21 Hx := l_H21_H39.trans leHx
       have l_H22_Hx : LE H22 Hx := l_H22_H39.trans leHx
       have l_H27_Hx : LE H27 Hx := l_H27_H39.trans leHx
       have l_H28_Hx : LE H28 Hx := l_H28_H39.trans leHx
       have l_H29_Hx : LE H29 Hx := l_H29_H39.trans leHx
       have l_H35_Hx : LE H35 Hx := l_H35_H39.trans leHx
       have l_H39_Hx : LE H39 Hx := leHx
       obtain ⟨Hy, leHy, h, hx3⟩ := h.fsl (α := Df) (R := RDf) 0 (ys := [⟨[102], exF exX⟩]) (RowR.one rfl ⟨_, rfl, rt_of_ks (KS.up hk35 l_H35_Hx)⟩) (fun _ l _ _ _ hr => RDf.mono l hr)
       have l_H_Hy : LE H Hy := l_H_Hx.trans leHy
       have l_HA_Hy : LE HA Hy := l_HA_Hx.trans leHy
       have l_H21_Hy : LE H21 Hy := l_H21_Hx.trans leHy
       have l_H22_Hy : LE H22 Hy := l_H22_Hx.trans leHy
       have l_H27_Hy : LE H27 Hy := l_H27_Hx.trans leHy
       have l_H28_Hy : LE H28 Hy := l_H28_Hx.trans leHy
       have l_H29_Hy : LE H29 Hy := l_H29_Hx.trans leHy
       have l_H35_Hy : LE H35 Hy := l_H35_Hx.trans leHy
       have l_H39_Hy : LE H39 Hy := l_H39_Hx.trans leHy
       have l_Hx_Hy : LE Hx Hy := leHy
       have h := h.pull 2 rfl rfl
       have h := h.pull 2 rfl rfl
       have h := h.pull 2 rfl rfl
       have h := h.del 3
       exact ⟨_, g6, _, _, _, l_H29_Hy, CS.up hx1 l_Hx_Hy, hx3, KS.up hk39 l_H39_Hy, h.to 0 _⟩
     ·refine cl bod17 (fun_ok [120] exA _ E H35 _ (⟨_, _, rfl, KS.up hsA l_HA_H35⟩)) h (fun r39 H39 L39 a w le39 R h => ?_) (hS := fun _ _ _ _ _ le R hw => by obtain ⟨_, rfl, _, rfl⟩ := R; exact hw.sees' (by first | exact le | exact LE.trans (by assumption) le) (by simp))
      obtain ⟨A39, rfl, hk39, rfl⟩ := R
      have l_H_H39 : LE H H39 := l_H_H35.trans le39
      have l_HA_H39 : LE HA H39 := l_HA_H35.trans le39
      have l_H21_H39 : LE H21 H39 := l_H21_H35.trans le39
      have l_H22_H39 : LE H22 H39 := l_H22_H35.trans le39
      have l_H27_H39 : LE H27 H39 := l_H27_H35.trans le39
      have l_H28_H39 : LE H28 H39 := l_H28_H35.trans le39
      have l_H29_H39 : LE H29 H39 := l_H29_H35.trans le39
      have l_H35_H39 : LE H35 H39 := le39
      refine br0 ?_
      refine brl2 1 5 true true (by kernel_rfl) (by kernel_rfl) (by kernel_rfl) (fun _ => h.st.sees' (by first | exact LE.rfl | assumption) (by simp)) ?_ ?_
      ·refine bsl bs25 h fun g33 a w h => ?_
       refine br0 ?_
       refine brl1 5 true (by kernel_rfl) (by kernel_rfl) (fun _ => h.st.sees' (by first | exact LE.rfl | assumption) (by simp)) ?_
       refine bsl bs26 h fun g37 a w h => ?_
       refine au [2,7,8,8,7,5,2,6] h ?_; intro a w h
       refine brl1 10 false (by kernel_rfl) (by kernel_rfl) (fun _ => h.st.sees' (by first | exact LE.rfl | assumption) (by simp)) ?_
       refine au [5,7,2,7] h ?_; intro a w h
       refine en (by kernel_rfl) ?_
       refine thN ?_
       obtain ⟨Hx, leHx, h, hx1⟩ := h.fsl (α := Dc) (R := RDc) 1 (ys := [exD]) (RowR.one rfl rfl) (fun _ _ _ _ _ hr => hr)
       have l_H_Hx : LE H Hx := l_H_H39.trans leHx
       have l_HA_Hx : LE HA Hx := l_HA_H39.trans leHx
       have l_H21_Hx : LE H21 Hx := l_H21_H39.trans leHx
       have l_H22_Hx : LE H22 Hx := l_H22_H39.trans leHx
       have l_H27_Hx : LE H27 Hx := l_H27_H39.trans leHx
       have l_H28_Hx : LE H28 Hx := l_H28_H39.trans leHx
       have l_H29_Hx : LE H29 Hx := l_H29_H39.trans leHx
       have l_H35_Hx : LE H35 Hx := l_H35_H39.trans leHx
       have l_H39_Hx : LE H39 Hx := leHx
       obtain ⟨Hy, leHy, h, hx3⟩ := h.fsl (α := Df) (R := RDf) 0 (ys := [⟨[102], exF exX⟩]) (RowR.one rfl ⟨_, rfl, rt_of_ks (KS.up hk35 l_H35_Hx)⟩) (fun _ l _ _ _ hr => RDf.mono l hr)
       have l_H_Hy : LE H Hy := l_H_Hx.trans leHy
       have l_HA_Hy : LE HA Hy := l_HA_Hx.trans leHy
       have l_H21_Hy : LE H21 Hy := l_H21_Hx.trans leHy
       have l_H22_Hy : LE H22 Hy := l_H22_Hx.trans leHy
       have l_H27_Hy : LE H27 Hy := l_H27_Hx.trans leHy
       have l_H28_Hy : LE H28 Hy := l_H28_Hx.trans leHy
       have l_H29_Hy : LE H29 Hy := l_H29_Hx.trans leHy
       have l_H35_Hy : LE H35 Hy := l_H35_Hx.trans leHy
       have l_H39_Hy : LE H39 Hy := l_H39_Hx.trans leHy
       have l_Hx_Hy : LE Hx Hy := leHy
       have h := h.pull 2 rfl rfl
       have h := h.pull 2 rfl rfl
       have h := h.pull 2 rfl rfl
       have h := h.del 3
       exact ⟨_, g6, _, _, _, l_H29_Hy, CS.up hx1 l_Hx_Hy, hx3, KS.up hk39 l_H39_Hy, h.to 0 _⟩
      ·refine bsl bs26 h fun g37 a w h => ?_
       refine br0 ?_
       refine brl1 1 true (by kernel_rfl) (by kernel_rfl) (fun _ => h.st.sees' (by first | exact LE.rfl | assumption) (by simp)) ?_
       refine bsl bs25 h fun g33 a w h => ?_
       refine au [2,7,8,8,7,5,2,6] h ?_; intro a w h
       refine brl1 10 false (by kernel_rfl) (by kernel_rfl) (fun _ => h.st.sees' (by first | exact LE.rfl | assumption) (by simp)) ?_
       refine au [5,7,2,7] h ?_; intro a w h
       refine en (by kernel_rfl) ?_
       refine thN ?_
       obtain ⟨Hx, leHx, h, hx1⟩ := h.fsl (α := Dc) (R := RDc) 0 (ys := [exD]) (RowR.one rfl rfl) (fun _ _ _ _ _ hr => hr)
       have l_H_Hx : LE H Hx := l_H_H39.trans leHx
       have l_HA_Hx : LE HA Hx := l_HA_H39.trans leHx
       have l_H21_Hx : LE H21 Hx := l_H21_H39.trans leHx
       have l_H22_Hx : LE H22 Hx := l_H22_H39.trans leHx
       have l_H27_Hx : LE H27 Hx := l_H27_H39.trans leHx
       have l_H28_Hx : LE H28 Hx := l_H28_H39.trans leHx
       have l_H29_Hx : LE H29 Hx := l_H29_H39.trans leHx
       have l_H35_Hx : LE H35 Hx := l_H35_H39.trans leHx
       have l_H39_Hx : LE H39 Hx := leHx
       obtain ⟨Hy, leHy, h, hx3⟩ := h.fsl (α := Df) (R := RDf) 0 (ys := [⟨[102], exF exX⟩]) (RowR.one rfl ⟨_, rfl, rt_of_ks (KS.up hk35 l_H35_Hx)⟩) (fun _ l _ _ _ hr => RDf.mono l hr)
       have l_H_Hy : LE H Hy := l_H_Hx.trans leHy
       have l_HA_Hy : LE HA Hy := l_HA_Hx.trans leHy
       have l_H21_Hy : LE H21 Hy := l_H21_Hx.trans leHy
       have l_H22_Hy : LE H22 Hy := l_H22_Hx.trans leHy
       have l_H27_Hy : LE H27 Hy := l_H27_Hx.trans leHy
       have l_H28_Hy : LE H28 Hy := l_H28_Hx.trans leHy
       have l_H29_Hy : LE H29 Hy := l_H29_Hx.trans leHy
       have l_H35_Hy : LE H35 Hy := l_H35_Hx.trans leHy
       have l_H39_Hy : LE H39 Hy := l_H39_Hx.trans leHy
       have l_Hx_Hy : LE Hx Hy := leHy
       have h := h.pull 2 rfl rfl
       have h := h.pull 2 rfl rfl
       have h := h.pull 2 rfl rfl
       have h := h.del 3
       exact ⟨_, g6, _, _, _, l_H29_Hy, CS.up hx1 l_Hx_Hy, hx3, KS.up hk39 l_H39_Hy, h.to 0 _⟩
   ·refine al zr28 h fun g6 a w h => ?_
    refine br0 ?_
    refine brl2 1 3 true true (by kernel_rfl) (by kernel_rfl) (by kernel_rfl) (fun _ => h.st.sees' (by first | exact LE.rfl | assumption) (by simp)) ?_ ?_
    ·refine bsl bs25 h fun g33 a w h => ?_
     refine br0 ?_
     refine brl1 3 true (by kernel_rfl) (by kernel_rfl) (fun _ => h.st.sees' (by first | exact LE.rfl | assumption) (by simp)) ?_
     refine cl bod17 (fun_ok [120] exX _ E H29 _ (⟨none, 0, rfl, RS.nil _ _ _⟩)) h (fun r35 H35 L35 a w le35 R h => ?_) (hS := fun _ _ _ _ _ le R hw => by obtain ⟨_, rfl, _, rfl⟩ := R; exact hw.sees' (by first | exact le | exact LE.trans (by assumption) le) (by simp))
     obtain ⟨A35, rfl, hk35, rfl⟩ := R
     have l_H_H35 : LE H H35 := l_H_H29.trans le35
     have l_HA_H35 : LE HA H35 := l_HA_H29.trans le35
     have l_H21_H35 : LE H21 H35 := l_H21_H29.trans le35
     have l_H22_H35 : LE H22 H35 := l_H22_H29.trans le35
     have l_H27_H35 : LE H27 H35 := l_H27_H29.trans le35
     have l_H28_H35 : LE H28 H35 := l_H28_H29.trans le35
     have l_H29_H35 : LE H29 H35 := le35
     refine au [2,7,8,4,7,5,2,6] h ?_; intro a w h
     refine brl2 5 7 true false (by kernel_rfl) (by kernel_rfl) (by kernel_rfl) (fun _ => h.st.sees' (by first | exact LE.rfl | assumption) (by simp)) ?_ ?_
     ·refine bsl bs26 h fun g37 a w h => ?_
      refine br0 ?_
      refine brl1 7 false (by kernel_rfl) (by kernel_rfl) (fun _ => h.st.sees' (by first | exact LE.rfl | assumption) (by simp)) ?_
      refine cl bod17 (fun_ok [120] exA _ E H35 _ (⟨_, _, rfl, KS.up hsA l_HA_H35⟩)) h (fun r39 H39 L39 a w le39 R h => ?_) (hS := fun _ _ _ _ _ le R hw => by obtain ⟨_, rfl, _, rfl⟩ := R; exact hw.sees' (by first | exact le | exact LE.trans (by assumption) le) (by simp))
      obtain ⟨A39, rfl, hk39, rfl⟩ := R
      have l_H_H39 : LE H H39 := l_H_H35.trans le39
      have l_HA_H39 : LE HA H39 := l_HA_H35.trans le39
      have l_H21_H39 : LE H21 H39 := l_H21_H35.trans le39
      have l_H22_H39 : LE H22 H39 := l_H22_H35.trans le39
      have l_H27_H39 : LE H27 H39 := l_H27_H35.trans le39
      have l_H28_H39 : LE H28 H39 := l_H28_H35.trans le39
      have l_H29_H39 : LE H29 H39 := l_H29_H35.trans le39
      have l_H35_H39 : LE H35 H39 := le39
      refine au [2,7,8,8,7,5,2,6] h ?_; intro a w h
      refine brl1 10 false (by kernel_rfl) (by kernel_rfl) (fun _ => h.st.sees' (by first | exact LE.rfl | assumption) (by simp)) ?_
      refine au [5,7,2,7] h ?_; intro a w h
      refine en (by kernel_rfl) ?_
      refine thN ?_
      obtain ⟨Hx, leHx, h, hx1⟩ := h.fsl (α := Dc) (R := RDc) 1 (ys := [exD]) (RowR.one rfl rfl) (fun _ _ _ _ _ hr => hr)
      have l_H_Hx : LE H Hx := l_H_H39.trans leHx
      have l_HA_Hx : LE HA Hx := l_HA_H39.trans leHx
      have l_H21_Hx : LE H21 Hx := l_H21_H39.trans leHx
      have l_H22_Hx : LE H22 Hx := l_H22_H39.trans leHx
      have l_H27_Hx : LE H27 Hx := l_H27_H39.trans leHx
      have l_H28_Hx : LE H28 Hx := l_H28_H39.trans leHx
      have l_H29_Hx : LE H29 Hx := l_H29_H39.trans leHx
      have l_H35_Hx : LE H35 Hx := l_H35_H39.trans leHx
      have l_H39_Hx : LE H39 Hx := leHx
      obtain ⟨Hy, leHy, h, hx3⟩ := h.fsl (α := Df) (R := RDf) 0 (ys := [⟨[102], exF exX⟩]) (RowR.one rfl ⟨_, rfl, rt_of_ks (KS.up hk35 l_H35_Hx)⟩) (fun _ l _ _ _ hr => RDf.mono l hr)
      have l_H_Hy : LE H Hy := l_H_Hx.trans leHy
      have l_HA_Hy : LE HA Hy := l_HA_Hx.trans leHy
      have l_H21_Hy : LE H21 Hy := l_H21_Hx.trans leHy
      have l_H22_Hy : LE H22 Hy := l_H22_Hx.trans leHy
      have l_H27_Hy : LE H27 Hy := l_H27_Hx.trans leHy
      have l_H28_Hy : LE H28 Hy := l_H28_Hx.trans leHy
      have l_H29_Hy : LE H29 Hy := l_H29_Hx.trans leHy
      have l_H35_Hy : LE H35 Hy := l_H35_Hx.trans leHy
      have l_H39_Hy : LE H39 Hy := l_H39_Hx.trans leHy
      have l_Hx_Hy : LE Hx Hy := leHy
      have h := h.pull 2 rfl rfl
      have h := h.pull 2 rfl rfl
      have h := h.pull 2 rfl rfl
      have h := h.del 3
      exact ⟨_, g6, _, _, _, l_H29_Hy, CS.up hx1 l_Hx_Hy, hx3, KS.up hk39 l_H39_Hy, h.to 0 _⟩
     ·refine cl bod17 (fun_ok [120] exA _ E H35 _ (⟨_, _, rfl, KS.up hsA l_HA_H35⟩)) h (fun r39 H39 L39 a w le39 R h => ?_) (hS := fun _ _ _ _ _ le R hw => by obtain ⟨_, rfl, _, rfl⟩ := R; exact hw.sees' (by first | exact le | exact LE.trans (by assumption) le) (by simp))
      obtain ⟨A39, rfl, hk39, rfl⟩ := R
      have l_H_H39 : LE H H39 := l_H_H35.trans le39
      have l_HA_H39 : LE HA H39 := l_HA_H35.trans le39
      have l_H21_H39 : LE H21 H39 := l_H21_H35.trans le39
      have l_H22_H39 : LE H22 H39 := l_H22_H35.trans le39
      have l_H27_H39 : LE H27 H39 := l_H27_H35.trans le39
      have l_H28_H39 : LE H28 H39 := l_H28_H35.trans le39
      have l_H29_H39 : LE H29 H39 := l_H29_H35.trans le39
      have l_H35_H39 : LE H35 H39 := le39
      refine br0 ?_
      refine brl1 5 true (by kernel_rfl) (by kernel_rfl) (fun _ => h.st.sees' (by first | exact LE.rfl | assumption) (by simp)) ?_
      refine bsl bs26 h fun g37 a w h => ?_
      refine au [2,7,8,8,7,5,2,6] h ?_; intro a w h
      refine brl1 10 false (by kernel_rfl) (by kernel_rfl) (fun _ => h.st.sees' (by first | exact LE.rfl | assumption) (by simp)) ?_
      refine au [5,7,2,7] h ?_; intro a w h
      refine en (by kernel_rfl) ?_
      refine thN ?_
      obtain ⟨Hx, leHx, h, hx1⟩ := h.fsl (α := Dc) (R := RDc) 1 (ys := [exD]) (RowR.one rfl rfl) (fun _ _ _ _ _ hr => hr)
      have l_H_Hx : LE H Hx := l_H_H39.trans leHx
      have l_HA_Hx : LE HA Hx := l_HA_H39.trans leHx
      have l_H21_Hx : LE H21 Hx := l_H21_H39.trans leHx
      have l_H22_Hx : LE H22 Hx := l_H22_H39.trans leHx
      have l_H27_Hx : LE H27 Hx := l_H27_H39.trans leHx
      have l_H28_Hx : LE H28 Hx := l_H28_H39.trans leHx
      have l_H29_Hx : LE H29 Hx := l_H29_H39.trans leHx
      have l_H35_Hx : LE H35 Hx := l_H35_H39.trans leHx
      have l_H39_Hx : LE H39 Hx := leHx
      obtain ⟨Hy, leHy, h, hx3⟩ := h.fsl (α := Df) (R := RDf) 0 (ys := [⟨[102], exF exX⟩]) (RowR.one rfl ⟨_, rfl, rt_of_ks (KS.up hk35 l_H35_Hx)⟩) (fun _ l _ _ _ hr => RDf.mono l hr)
      have l_H_Hy : LE H Hy := l_H_Hx.trans leHy
      have l_HA_Hy : LE HA Hy := l_HA_Hx.trans leHy
      have l_H21_Hy : LE H21 Hy := l_H21_Hx.trans leHy
      have l_H22_Hy : LE H22 Hy := l_H22_Hx.trans leHy
      have l_H27_Hy : LE H27 Hy := l_H27_Hx.trans leHy
      have l_H28_Hy : LE H28 Hy := l_H28_Hx.trans leHy
      have l_H29_Hy : LE H29 Hy := l_H29_Hx.trans leHy
      have l_H35_Hy : LE H35 Hy := l_H35_Hx.trans leHy
      have l_H39_Hy : LE H39 Hy := l_H39_Hx.trans leHy
      have l_Hx_Hy : LE Hx Hy := leHy
      have h := h.pull 2 rfl rfl
      have h := h.pull 2 rfl rfl
      have h := h.pull 2 rfl rfl
      have h := h.del 3
      exact ⟨_, g6, _, _, _, l_H29_Hy, CS.up hx1 l_Hx_Hy, hx3, KS.up hk39 l_H39_Hy, h.to 0 _⟩
    ·refine cl bod17 (fun_ok [120] exX _ E H29 _ (⟨none, 0, rfl, RS.nil _ _ _⟩)) h (fun r35 H35 L35 a w le35 R h => ?_) (hS := fun _ _ _ _ _ le R hw => by obtain ⟨_, rfl, _, rfl⟩ := R; exact hw.sees' (by first | exact le | exact LE.trans (by assumption) le) (by simp))
     obtain ⟨A35, rfl, hk35, rfl⟩ := R
     have l_H_H35 : LE H H35 := l_H_H29.trans le35
     have l_HA_H35 : LE HA H35 := l_HA_H29.trans le35
     have l_H21_H35 : LE H21 H35 := l_H21_H29.trans le35
     have l_H22_H35 : LE H22 H35 := l_H22_H29.trans le35
     have l_H27_H35 : LE H27 H35 := l_H27_H29.trans le35
     have l_H28_H35 : LE H28 H35 := l_H28_H29.trans le35
     have l_H29_H35 : LE H29 H35 := le35
     refine au [2,7,8,4,7,5,2,6] h ?_; intro a w h
     refine brl3 1 5 7 true true false (by kernel_rfl) (by kernel_rfl) (by kernel_rfl) (by kernel_rfl) (fun _ => h.st.sees' (by first | exact LE.rfl | assumption) (by simp)) ?_ ?_ ?_
     ·refine bsl bs25 h fun g33 a w h => ?_
      refine br0 ?_
      refine brl2 5 7 true false (by kernel_rfl) (by kernel_rfl) (by kernel_rfl) (fun _ => h.st.sees' (by first | exact LE.rfl | assumption) (by simp)) ?_ ?_
      ·refine bsl bs26 h fun g37 a w h => ?_
       refine br0 ?_
       refine brl1 7 false (by kernel_rfl) (by kernel_rfl) (fun _ => h.st.sees' (by first | exact LE.rfl | assumption) (by simp)) ?_
       refine cl bod17 (fun_ok [120] exA _ E H35 _ (⟨_, _, rfl, KS.up hsA l_HA_H35⟩)) h (fun r39 H39 L39 a w le39 R h => ?_) (hS := fun _ _ _ _ _ le R hw => by obtain ⟨_, rfl, _, rfl⟩ := R; exact hw.sees' (by first | exact le | exact LE.trans (by assumption) le) (by simp))
       obtain ⟨A39, rfl, hk39, rfl⟩ := R
       have l_H_H39 : LE H H39 := l_H_H35.trans le39
       have l_HA_H39 : LE HA H39 := l_HA_H35.trans le39
       have l_H21_H39 : LE H21 H39 := l_H21_H35.trans le39
       have l_H22_H39 : LE H22 H39 := l_H22_H35.trans le39
       have l_H27_H39 : LE H27 H39 := l_H27_H35.trans le39
       have l_H28_H39 : LE H28 H39 := l_H28_H35.trans le39
       have l_H29_H39 : LE H29 H39 := l_H29_H35.trans le39
       have l_H35_H39 : LE H35 H39 := le39
       refine au [2,7,8,8,7,5,2,6] h ?_; intro a w h
       refine brl1 10 false (by kernel_rfl) (by kernel_rfl) (fun _ => h.st.sees' (by first | exact LE.rfl | assumption) (by simp)) ?_
       refine au [5,7,2,7] h ?_; intro a w h
       refine en (by kernel_rfl) ?_
       refine thN ?_
       obtain ⟨Hx, leHx, h, hx1⟩ := h.fsl (α := Dc) (R := RDc) 1 (ys := [exD]) (RowR.one rfl rfl) (fun _ _ _ _ _ hr => hr)
       have l_H_Hx : LE H Hx := l_H_H39.trans leHx
       have l_HA_Hx : LE HA Hx := l_HA_H39.trans leHx
       have l_H21_Hx : LE H21 Hx := l_H21_H39.trans leHx
       have l_H22_Hx : LE H22 Hx := l_H22_H39.trans leHx
       have l_H27_Hx : LE H27 Hx := l_H27_H39.trans leHx
       have l_H28_Hx : LE H28 Hx := l_H28_H39.trans leHx
       have l_H29_Hx : LE H29 Hx := l_H29_H39.trans leHx
       have l_H35_Hx : LE H35 Hx := l_H35_H39.trans leHx
       have l_H39_Hx : LE H39 Hx := leHx
       obtain ⟨Hy, leHy, h, hx3⟩ := h.fsl (α := Df) (R := RDf) 0 (ys := [⟨[102], exF exX⟩]) (RowR.one rfl ⟨_, rfl, rt_of_ks (KS.up hk35 l_H35_Hx)⟩) (fun _ l _ _ _ hr => RDf.mono l hr)
       have l_H_Hy : LE H Hy := l_H_Hx.trans leHy
       have l_HA_Hy : LE HA Hy := l_HA_Hx.trans leHy
       have l_H21_Hy : LE H21 Hy := l_H21_Hx.trans leHy
       have l_H22_Hy : LE H22 Hy := l_H22_Hx.trans leHy
       have l_H27_Hy : LE H27 Hy := l_H27_Hx.trans leHy
       have l_H28_Hy : LE H28 Hy := l_H28_Hx.trans leHy
       have l_H29_Hy : LE H29 Hy := l_H29_Hx.trans leHy
       have l_H35_Hy : LE H35 Hy := l_H35_Hx.trans leHy
       have l_H39_Hy : LE H39 Hy := l_H39_Hx.trans leHy
       have l_Hx_Hy : LE Hx Hy := leHy
       have h := h.pull 2 rfl rfl
       have h := h.pull 2 rfl rfl
       have h := h.pull 2 rfl rfl
       have h := h.del 3
       exact ⟨_, g6, _, _, _, l_H29_Hy, CS.up hx1 l_Hx_Hy, hx3, KS.up hk39 l_H39_Hy, h.to 0 _⟩
      ·refine cl bod17 (fun_ok [120] exA _ E H35 _ (⟨_, _, rfl, KS.up hsA l_HA_H35⟩)) h (fun r39 H39 L39 a w le39 R h => ?_) (hS := fun _ _ _ _ _ le R hw => by obtain ⟨_, rfl, _, rfl⟩ := R; exact hw.sees' (by first | exact le | exact LE.trans (by assumption) le) (by simp))
       obtain ⟨A39, rfl, hk39, rfl⟩ := R
       have l_H_H39 : LE H H39 := l_H_H35.trans le39
       have l_HA_H39 : LE HA H39 := l_HA_H35.trans le39
       have l_H21_H39 : LE H21 H39 := l_H21_H35.trans le39
       have l_H22_H39 : LE H22 H39 := l_H22_H35.trans le39
       have l_H27_H39 : LE H27 H39 := l_H27_H35.trans le39
       have l_H28_H39 : LE H28 H39 := l_H28_H35.trans le39
       have l_H29_H39 : LE H29 H39 := l_H29_H35.trans le39
       have l_H35_H39 : LE H35 H39 := le39
       refine br0 ?_
       refine brl1 5 true (by kernel_rfl) (by kernel_rfl) (fun _ => h.st.sees' (by first | exact LE.rfl | assumption) (by simp)) ?_
       refine bsl bs26 h fun g37 a w h => ?_
       refine au [2,7,8,8,7,5,2,6] h ?_; intro a w h
       refine brl1 10 false (by kernel_rfl) (by kernel_rfl) (fun _ => h.st.sees' (by first | exact LE.rfl | assumption) (by simp)) ?_
       refine au [5,7,2,7] h ?_; intro a w h
       refine en (by kernel_rfl) ?_
       refine thN ?_
       obtain ⟨Hx, leHx, h, hx1⟩ := h.fsl (α := Dc) (R := RDc) 1 (ys := [exD]) (RowR.one rfl rfl) (fun _ _ _ _ _ hr => hr)
       have l_H_Hx : LE H Hx := l_H_H39.trans leHx
       have l_HA_Hx : LE HA Hx := l_HA_H39.trans leHx
       have l_H21_Hx : LE H21 Hx := l_H21_H39.trans leHx
       have l_H22_Hx : LE H22 Hx := l_H22_H39.trans leHx
       have l_H27_Hx : LE H27 Hx := l_H27_H39.trans leHx
       have l_H28_Hx : LE H28 Hx := l_H28_H39.trans leHx
       have l_H29_Hx : LE H29 Hx := l_H29_H39.trans leHx
       have l_H35_Hx : LE H35 Hx := l_H35_H39.trans leHx
       have l_H39_Hx : LE H39 Hx := leHx
       obtain ⟨Hy, leHy, h, hx3⟩ := h.fsl (α := Df) (R := RDf) 0 (ys := [⟨[102], exF exX⟩]) (RowR.one rfl ⟨_, rfl, rt_of_ks (KS.up hk35 l_H35_Hx)⟩) (fun _ l _ _ _ hr => RDf.mono l hr)
       have l_H_Hy : LE H Hy := l_H_Hx.trans leHy
       have l_HA_Hy : LE HA Hy := l_HA_Hx.trans leHy
       have l_H21_Hy : LE H21 Hy := l_H21_Hx.trans leHy
       have l_H22_Hy : LE H22 Hy := l_H22_Hx.trans leHy
       have l_H27_Hy : LE H27 Hy := l_H27_Hx.trans leHy
       have l_H28_Hy : LE H28 Hy := l_H28_Hx.trans leHy
       have l_H29_Hy : LE H29 Hy := l_H29_Hx.trans leHy
       have l_H35_Hy : LE H35 Hy := l_H35_Hx.trans leHy
       have l_H39_Hy : LE H39 Hy := l_H39_Hx.trans leHy
       have l_Hx_Hy : LE Hx Hy := leHy
       have h := h.pull 2 rfl rfl
       have h := h.pull 2 rfl rfl
       have h := h.pull 2 rfl rfl
       have h := h.del 3
       exact ⟨_, g6, _, _, _, l_H29_Hy, CS.up hx1 l_Hx_Hy, hx3, KS.up hk39 l_H39_Hy, h.to 0 _⟩
     ·refine bsl bs26 h fun g37 a w h => ?_
      refine br0 ?_
      refine brl2 1 7 true false (by kernel_rfl) (by kernel_rfl) (by kernel_rfl) (fun _ => h.st.sees' (by first | exact LE.rfl | assumption) (by simp)) ?_ ?_
      ·refine bsl bs25 h fun g33 a w h => ?_
       refine br0 ?_
       refine brl1 7 false (by kernel_rfl) (by kernel_rfl) (fun _ => h.st.sees' (by first | exact LE.rfl | assumption) (by simp)) ?_
       refine cl bod17 (fun_ok [120] exA _ E H35 _ (⟨_, _, rfl, KS.up hsA l_HA_H35⟩)) h (fun r39 H39 L39 a w le39 R h => ?_) (hS := fun _ _ _ _ _ le R hw => by obtain ⟨_, rfl, _, rfl⟩ := R; exact hw.sees' (by first | exact le | exact LE.trans (by assumption) le) (by simp))
       obtain ⟨A39, rfl, hk39, rfl⟩ := R
       have l_H_H39 : LE H H39 := l_H_H35.trans le39
       have l_HA_H39 : LE HA H39 := l_HA_H35.trans le39
       have l_H21_H39 : LE H21 H39 := l_H21_H35.trans le39
       have l_H22_H39 : LE H22 H39 := l_H22_H35.trans le39
       have l_H27_H39 : LE H27 H39 := l_H27_H35.trans le39
       have l_H28_H39 : LE H28 H39 := l_H28_H35.trans le39
       have l_H29_H39 : LE H29 H39 := l_H29_H35.trans le39
       have l_H35_H39 : LE H35 H39 := le39
       refine au [2,7,8,8,7,5,2,6] h ?_; intro a w h
       refine brl1 10 false (by kernel_rfl) (by kernel_rfl) (fun _ => h.st.sees' (by first | exact LE.rfl | assumption) (by simp)) ?_
       refine au [5,7,2,7] h ?_; intro a w h
       refine en (by kernel_rfl) ?_
       refine thN ?_
       obtain ⟨Hx, leHx, h, hx1⟩ := h.fsl (α := Dc) (R := RDc) 0 (ys := [exD]) (RowR.one rfl rfl) (fun _ _ _ _ _ hr => hr)
       have l_H_Hx : LE H Hx := l_H_H39.trans leHx
       have l_HA_Hx : LE HA Hx := l_HA_H39.trans leHx
       have l_H21_Hx : LE H21 Hx := l_H21_H39.trans leHx
       have l_H22_Hx : LE H22 Hx := l_H22_H39.trans leHx
       have l_H27_Hx : LE H27 Hx := l_H27_H39.trans leHx
       have l_H28_Hx : LE H28 Hx := l_H28_H39.trans leHx
       have l_H29_Hx : LE H29 Hx := l_H29_H39.trans leHx
       have l_H35_Hx : LE H35 Hx := l_H35_H39.trans leHx
       have l_H39_Hx : LE H39 Hx := leHx
       obtain ⟨Hy, leHy, h, hx3⟩ := h.fsl (α := Df) (R := RDf) 0 (ys := [⟨[102], exF exX⟩]) (RowR.one rfl ⟨_, rfl, rt_of_ks (KS.up hk35 l_H35_Hx)⟩) (fun _ l _ _ _ hr => RDf.mono l hr)
       have l_H_Hy : LE H Hy := l_H_Hx.trans leHy
       have l_HA_Hy : LE HA Hy := l_HA_Hx.trans leHy
       have l_H21_Hy : LE H21 Hy := l_H21_Hx.trans leHy
       have l_H22_Hy : LE H22 Hy := l_H22_Hx.trans leHy
       have l_H27_Hy : LE H27 Hy := l_H27_Hx.trans leHy
       have l_H28_Hy : LE H28 Hy := l_H28_Hx.trans leHy
       have l_H29_Hy : LE H29 Hy := l_H29_Hx.trans leHy
       have l_H35_Hy : LE H35 Hy := l_H35_Hx.trans leHy
       have l_H39_Hy : LE H39 Hy := l_H39_Hx.trans leHy
       have l_Hx_Hy : LE Hx Hy := leHy
       have h := h.pull 2 rfl rfl
       have h := h.pull 2 rfl rfl
       have h := h.pull 2 rfl rfl
       have h := h.del 3
       exact ⟨_, g6, _, _, _, l_H29_Hy, CS.up hx1 l_Hx_Hy, hx3, KS.up hk39 l_H39_Hy, h.to 0 _⟩
      ·refine cl bod17 (fun_ok [120] exA _ E H35 _ (⟨_, _, rfl, KS.up hsA l_HA_H35⟩)) h (fun r39 H39 L39 a w le39 R h => ?_) (hS := fun _ _ _ _ _ le R hw => by obtain ⟨_, rfl, _, rfl⟩ := R; exact hw.sees' (by first | exact le | exact LE.trans (by assumption) le) (by simp))
       obtain ⟨A39, rfl, hk39, rfl⟩ := R
       have l_H_H39 : LE H H39 := l_H_H35.trans le39
       have l_HA_H39 : LE HA H39 := l_HA_H35.trans le39
       have l_H21_H39 : LE H21 H39 := l_H21_H35.trans le39
       have l_H22_H39 : LE H22 H39 := l_H22_H35.trans le39
       have l_H27_H39 : LE H27 H39 := l_H27_H35.trans le39
       have l_H28_H39 : LE H28 H39 := l_H28_H35.trans le39
       have l_H29_H39 : LE H29 H39 := l_H29_H35.trans le39
       have l_H35_H39 : LE H35 H39 := le39
       refine br0 ?_
       refine brl1 1 true (by kernel_rfl) (by kernel_rfl) (fun _ => h.st.sees' (by first | exact LE.rfl | assumption) (by simp)) ?_
       refine bsl bs25 h fun g33 a w h => ?_
       refine au [2,7,8,8,7,5,2,6] h ?_; intro a w h
       refine brl1 10 false (by kernel_rfl) (by kernel_rfl) (fun _ => h.st.sees' (by first | exact LE.rfl | assumption) (by simp)) ?_
       refine au [5,7,2,7] h ?_; intro a w h
       refine en (by kernel_rfl) ?_
       refine thN ?_
       obtain ⟨Hx, leHx, h, hx1⟩ := h.fsl (α := Dc) (R := RDc) 0 (ys := [exD]) (RowR.one rfl rfl) (fun _ _ _ _ _ hr => hr)
       have l_H_Hx : LE H Hx := l_H_H39.trans leHx
       have l_HA_Hx : LE HA Hx := l_HA_H39.trans leHx
       have l_H21_Hx : LE H21 Hx := l_H21_H39.trans leHx
       have l_H22_Hx : LE H22 Hx := l_H22_H39.trans leHx
       have l_H27_Hx : LE H27 Hx := l_H27_H39.trans leHx
       have l_H28_Hx : LE H28 Hx := l_H28_H39.trans leHx
       have l_H29_Hx : LE H29 Hx := l_H29_H39.trans leHx
       have l_H35_Hx : LE H35 Hx := l_H35_H39.trans leHx
       have l_H39_Hx : LE H39 Hx := leHx
       obtain ⟨Hy, leHy, h, hx3⟩ := h.fsl (α := Df) (R := RDf) 0 (ys := [⟨[102], exF exX⟩]) (RowR.one rfl ⟨_, rfl, rt_of_ks (KS.up hk35 l_H35_Hx)⟩) (fun _ l _ _ _ hr => RDf.mono l hr)
       have l_H_Hy : LE H Hy := l_H_Hx.trans leHy
       have l_HA_Hy : LE HA Hy := l_HA_Hx.trans leHy
       have l_H21_Hy : LE H21 Hy := l_H21_Hx.trans leHy
       have l_H22_Hy : LE H22 Hy := l_H22_Hx.trans leHy
       have l_H27_Hy : LE H27 Hy := l_H27_Hx.trans leHy
       have l_H28_Hy : LE H28 Hy := l_H28_Hx.trans leHy
       have l_H29_Hy : LE H29 Hy := l_H29_Hx.trans leHy
       have l_H35_Hy : LE H35 Hy := l_H35_Hx.trans leHy
       have l_H39_Hy : LE H39 Hy := l_H39_Hx.trans leHy
       have l_Hx_Hy : LE Hx Hy := leHy
       have h := h.pull 2 rfl rfl
       have h := h.pull 2 rfl rfl
       have h := h.pull 2 rfl rfl
       have h := h.del 3
       exact ⟨_, g6, _, _, _, l_H29_Hy, CS.up hx1 l_Hx_Hy, hx3, KS.up hk39 l_H39_Hy, h.to 0 _⟩
     ·refine cl bod17 (fun_ok [120] exA _ E H35 _ (⟨_, _, rfl, KS.up hsA l_HA_H35⟩)) h (fun r39 H39 L39 a w le39 R h => ?_) (hS := fun _ _ _ _ _ le R hw => by obtain ⟨_, rfl, _, rfl⟩ := R; exact hw.sees' (by first | exact le | exact LE.trans (by assumption) le) (by simp))
      obtain ⟨A39, rfl, hk39, rfl⟩ := R
      have l_H_H39 : LE H H39 := l_H_H35.trans le39
      have l_HA_H39 : LE HA H39 := l_HA_H35.trans le39
      have l_H21_H39 : LE H21 H39 := l_H21_H35.trans le39
      have l_H22_H39 : LE H22 H39 := l_H22_H35.trans le39
      have l_H27_H39 : LE H27 H39 := l_H27_H35.trans le39
      have l_H28_H39 : LE H28 H39 := l_H28_H35.trans le39
      have l_H29_H39 : LE H29 H39 := l_H29_H35.trans le39
      have l_H35_H39 : LE H35 H39 := le39
      refine br0 ?_
      refine brl2 1 5 true true (by kernel_rfl) (by kernel_rfl) (by kernel_rfl) (fun _ => h.st.sees' (by first | exact LE.rfl | assumption) (by simp)) ?_ ?_
      ·refine bsl bs25 h fun g33 a w h => ?_
       refine br0 ?_
       refine brl1 5 true (by kernel_rfl) (by kernel_rfl) (fun _ => h.st.sees' (by first | exact LE.rfl | assumption) (by simp)) ?_
       refine bsl bs26 h fun g37 a w h => ?_
       refine au [2,7,8,8,7,5,2,6] h ?_; intro a w h
       refine brl1 10 false (by kernel_rfl) (by kernel_rfl) (fun _ => h.st.sees' (by first | exact LE.rfl | assumption) (by simp)) ?_
       refine au [5,7,2,7] h ?_; intro a w h
       refine en (by kernel_rfl) ?_
       refine thN ?_
       obtain ⟨Hx, leHx, h, hx1⟩ := h.fsl (α := Dc) (R := RDc) 1 (ys := [exD]) (RowR.one rfl rfl) (fun _ _ _ _ _ hr => hr)
       have l_H_Hx : LE H Hx := l_H_H39.trans leHx
       have l_HA_Hx : LE HA Hx := l_HA_H39.trans leHx
       have l_H21_Hx : LE H21 Hx := l_H21_H39.trans leHx
       have l_H22_Hx : LE H22 Hx := l_H22_H39.trans leHx
       have l_H27_Hx : LE H27 Hx := l_H27_H39.trans leHx
       have l_H28_Hx : LE H28 Hx := l_H28_H39.trans leHx
       have l_H29_Hx : LE H29 Hx := l_H29_H39.trans leHx
       have l_H35_Hx : LE H35 Hx := l_H35_H39.trans leHx
       have l_H39_Hx : LE H39 Hx := leHx
       obtain ⟨Hy, leHy, h, hx3⟩ := h.fsl (α := Df) (R := RDf) 0 (ys := [⟨[102], exF exX⟩]) (RowR.one rfl ⟨_, rfl, rt_of_ks (KS.up hk35 l_H35_Hx)⟩) (fun _ l _ _ _ hr => RDf.mono l hr)
       have l_H_Hy : LE H Hy := l_H_Hx.trans leHy
       have l_HA_Hy : LE HA Hy := l_HA_Hx.trans leHy
       have l_H21_Hy : LE H21 Hy := l_H21_Hx.trans leHy
       have l_H22_Hy : LE H22 Hy := l_H22_Hx.trans leHy
       have l_H27_Hy : LE H27 Hy := l_H27_Hx.trans leHy
       have l_H28_Hy : LE H28 Hy := l_H28_Hx.trans leHy
       have l_H29_Hy : LE H29 Hy := l_H29_Hx.trans leHy
       have l_H35_Hy : LE H35 Hy := l_H35_Hx.trans leHy
       have l_H39_Hy : LE H39 Hy := l_H39_Hx.trans leHy
       have l_Hx_Hy : LE Hx Hy := leHy
       have h := h.pull 2 rfl rfl
       have h := h.pull 2 rfl rfl
       have h := h.pull 2 rfl rfl
       have h := h.del 3
       exact ⟨_, g6, _, _, _, l_H29_Hy, CS.up hx1 l_Hx_Hy, hx3, KS.up hk39 l_H39_Hy, h.to 0 _⟩
      ·refine bsl bs26 h fun g37 a w h => ?_
       refine br0 ?_
       refine brl1 1 true (by kernel_rfl) (by kernel_rfl) (fun _ => h.st.sees' (by first | exact LE.rfl | assumption) (by simp)) ?_
       refine bsl bs25 h fun g33 a w h => ?_
       refine au [2,7,8,8,7,5,2,6] h ?_; intro a w h
       refine brl1 10 false (by kernel_rfl) (by kernel_rfl) (fun _ => h.st.sees' (by first | exact LE.rfl | assumption) (by simp)) ?_
       refine au [5,7,2,7] h ?_; intro a w h
       refine en (by kernel_rfl) ?_
       refine thN ?_
       obtain ⟨Hx, leHx, h, hx1⟩ := h.fsl (α := Dc) (R := RDc) 0 (ys := [exD]) (RowR.one rfl rfl) (fun _ _ _ _ _ hr => hr)
       have l_H_Hx : LE H Hx := l_H_H39.trans leHx
       have l_HA_Hx : LE HA Hx := l_HA_H39.trans leHx
       have l_H21_Hx : LE H21 Hx := l_H21_H39.trans leHx
       have l_H22_Hx : LE H22 Hx := l_H22_H39.trans leHx
       have l_H27_Hx : LE H27 Hx := l_H27_H39.trans leHx
       have l_H28_Hx : LE H28 Hx := l_H28_H39.trans leHx
       have l_H29_Hx : LE H29 Hx := l_H29_H39.trans leHx
       have l_H35_Hx : LE H35 Hx := l_H35_H39.trans leHx
       have l_H39_Hx : LE H39 Hx := leHx
       obtain ⟨Hy, leHy, h, hx3⟩ := h.fsl (α := Df) (R := RDf) 0 (ys := [⟨[102], exF exX⟩]) (RowR.one rfl ⟨_, rfl, rt_of_ks (KS.up hk35 l_H35_Hx)⟩) (fun _ l _ _ _ hr => RDf.mono l hr)
       have l_H_Hy : LE H Hy := l_H_Hx.trans leHy
       have l_HA_Hy : LE HA Hy := l_HA_Hx.trans leHy
       have l_H21_Hy : LE H21 Hy := l_H21_Hx.trans leHy
       have l_H22_Hy : LE H22 Hy := l_H22_Hx.trans leHy
       have l_H27_Hy : LE H27 Hy := l_H27_Hx.trans leHy
       have l_H28_Hy : LE H28 Hy := l_H28_Hx.trans leHy
       have l_H29_Hy : LE H29 Hy := l_H29_Hx.trans leHy
       have l_H35_Hy : LE H35 Hy := l_H35_Hx.trans leHy
       have l_H39_Hy : LE H39 Hy := l_H39_Hx.trans leHy
       have l_Hx_Hy : LE Hx Hy := leHy
       have h := h.pull 2 rfl rfl
       have h := h.pull 2 rfl rfl
       have h := h.pull 2 rfl rfl
       have h := h.del 3
       exact ⟨_, g6, _, _, _, l_H29_Hy, CS.up hx1 l_Hx_Hy, hx3, KS.up hk39 l_H39_Hy, h.to 0 _⟩
  ·refine al zr28 h fun g6 a w h => ?_
   refine br0 ?_
   refine brl2 1 2 true true (by kernel_rfl) (by kernel_rfl) (by kernel_rfl) (fun _ => h.st.sees' (by first | exact LE.rfl | assumption) (by simp)) ?_ ?_
   ·refine bsl bs25 h fun g33 a w h => ?_
    refine br0 ?_
    refine brl1 2 true (by kernel_rfl) (by kernel_rfl) (fun _ => h.st.sees' (by first | exact LE.rfl | assumption) (by simp)) ?_
    refine cl bod16 (of_ok [120] E H29 _) h (fun r34 H34 L34 a w le34 R h => ?_) (hS := fun _ _ _ _ _ le R hw => by obtain ⟨rfl, rfl, rfl⟩ := R; exact hw.sees' (by first | exact le | exact LE.trans (by assumption) le) (by simp))
    obtain ⟨rfl, rfl, rfl⟩ := R
    refine br0 ?_
    refine brl1 3 true (by kernel_rfl) (by kernel_rfl) (fun _ => h.st.sees' (by first | exact LE.rfl | assumption) (by simp)) ?_
    refine cl bod17 (fun_ok [120] exX _ E H29 _ (⟨none, 0, rfl, RS.nil _ _ _⟩)) h (fun r35 H35 L35 a w le35 R h => ?_) (hS := fun _ _ _ _ _ le R hw => by obtain ⟨_, rfl, _, rfl⟩ := R; exact hw.sees' (by first | exact le | exact LE.trans (by assumption) le) (by simp))
    obtain ⟨A35, rfl, hk35, rfl⟩ := R
    have l_H_H35 : LE H H35 := l_H_H29.trans le35
    have l_HA_H35 : LE HA H35 := l_HA_H29.trans le35
    have l_H21_H35 : LE H21 H35 := l_H21_H29.trans le35
    have l_H22_H35 : LE H22 H35 := l_H22_H29.trans le35
    have l_H27_H35 : LE H27 H35 := l_H27_H29.trans le35
    have l_H28_H35 : LE H28 H35 := l_H28_H29.trans le35
    have l_H29_H35 : LE H29 H35 := le35
    refine au [2,7,8,4,7,5,2,6] h ?_; intro a w h
    refine brl2 5 7 true false (by kernel_rfl) (by kernel_rfl) (by kernel_rfl) (fun _ => h.st.sees' (by first | exact LE.rfl | assumption) (by simp)) ?_ ?_
    ·refine bsl bs26 h fun g37 a w h => ?_
     refine br0 ?_
     refine brl1 7 false (by kernel_rfl) (by kernel_rfl) (fun _ => h.st.sees' (by first | exact LE.rfl | assumption) (by simp)) ?_
     refine cl bod17 (fun_ok [120] exA _ E H35 _ (⟨_, _, rfl, KS.up hsA l_HA_H35⟩)) h (fun r39 H39 L39 a w le39 R h => ?_) (hS := fun _ _ _ _ _ le R hw => by obtain ⟨_, rfl, _, rfl⟩ := R; exact hw.sees' (by first | exact le | exact LE.trans (by assumption) le) (by simp))
     obtain ⟨A39, rfl, hk39, rfl⟩ := R
     have l_H_H39 : LE H H39 := l_H_H35.trans le39
     have l_HA_H39 : LE HA H39 := l_HA_H35.trans le39
     have l_H21_H39 : LE H21 H39 := l_H21_H35.trans le39
     have l_H22_H39 : LE H22 H39 := l_H22_H35.trans le39
     have l_H27_H39 : LE H27 H39 := l_H27_H35.trans le39
     have l_H28_H39 : LE H28 H39 := l_H28_H35.trans le39
     have l_H29_H39 : LE H29 H39 := l_H29_H35.trans le39
     have l_H35_H39 : LE H35 H39 := le39
     refine au [2,7,8,8,7,5,2,6] h ?_; intro a w h
     refine brl1 10 false (by kernel_rfl) (by kernel_rfl) (fun _ => h.st.sees' (by first | exact LE.rfl | assumption) (by simp)) ?_
     refine au [5,7,2,7] h ?_; intro a w h
     refine en (by kernel_rfl) ?_
     refine thN ?_
     obtain ⟨Hx, leHx, h, hx1⟩ := h.fsl (α := Dc) (R := RDc) 1 (ys := [exD]) (RowR.one rfl rfl) (fun _ _ _ _ _ hr => hr)
     have l_H_Hx : LE H Hx := l_H_H39.trans leHx
     have l_HA_Hx : LE HA Hx := l_HA_H39.trans leHx
     have l_H21_Hx : LE H21 Hx := l_H21_H39.trans leHx
     have l_H22_Hx : LE H22 Hx := l_H22_H39.trans leHx
     have l_H27_Hx : LE H27 Hx := l_H27_H39.trans leHx
     have l_H28_Hx : LE H28 Hx := l_H28_H39.trans leHx
     have l_H29_Hx : LE H29 Hx := l_H29_H39.trans leHx
     have l_H35_Hx : LE H35 Hx := l_H35_H39.trans leHx
     have l_H39_Hx : LE H39 Hx := leHx
     obtain ⟨Hy, leHy, h, hx3⟩ := h.fsl (α := Df) (R := RDf) 0 (ys := [⟨[102], exF exX⟩]) (RowR.one rfl ⟨_, rfl, rt_of_ks (KS.up hk35 l_H35_Hx)⟩) (fun _ l _ _ _ hr => RDf.mono l hr)
     have l_H_Hy : LE H Hy := l_H_Hx.trans leHy
     have l_HA_Hy : LE HA Hy := l_HA_Hx.trans leHy
     have l_H21_Hy : LE H21 Hy := l_H21_Hx.trans leHy
     have l_H22_Hy : LE H22 Hy := l_H22_Hx.trans leHy
     have l_H27_Hy : LE H27 Hy := l_H27_Hx.trans leHy
     have l_H28_Hy : LE H28 Hy := l_H28_Hx.trans leHy
     have l_H29_Hy : LE H29 Hy := l_H29_Hx.trans leHy
     have l_H35_Hy : LE H35 Hy := l_H35_Hx.trans leHy
     have l_H39_Hy : LE H39 Hy := l_H39_Hx.trans leHy
     have l_Hx_Hy : LE Hx Hy := leHy
     have h := h.pull 2 rfl rfl
     have h := h.pull 2 rfl rfl
     have h := h.pull 2 rfl rfl
     have h := h.del 3
     exact ⟨_, g6, _, _, _, l_H29_Hy, CS.up hx1 l_Hx_Hy, hx3, KS.up hk39 l_H39_Hy, h.to 0 _⟩
    ·refine cl bod17 (fun_ok [120] exA _ E H35 _ (⟨_, _, rfl, KS.up hsA l_HA_H35⟩)) h (fun r39 H39 L39 a w le39 R h => ?_) (hS := fun _ _ _ _ _ le R hw => by obtain ⟨_, rfl, _, rfl⟩ := R; exact hw.sees' (by first | exact le | exact LE.trans (by assumption) le) (by simp))
     obtain ⟨A39, rfl, hk39, rfl⟩ := R
     have l_H_H39 : LE H H39 := l_H_H35.trans le39
     have l_HA_H39 : LE HA H39 := l_HA_H35.trans le39
     have l_H21_H39 : LE H21 H39 := l_H21_H35.trans le39
     have l_H22_H39 : LE H22 H39 := l_H22_H35.trans le39
     have l_H27_H39 : LE H27 H39 := l_H27_H35.trans le39
     have l_H28_H39 : LE H28 H39 := l_H28_H35.trans le39
     have l_H29_H39 : LE H29 H39 := l_H29_H35.trans le39
     have l_H35_H39 : LE H35 H39 := le39
     refine br0 ?_
     refine brl1 5 true (by kernel_rfl) (by kernel_rfl) (fun _ => h.st.sees' (by first | exact LE.rfl | assumption) (by simp)) ?_
     refine bsl bs26 h fun g37 a w h => ?_
     refine au [2,7,8,8,7,5,2,6] h ?_; intro a w h
     refine brl1 10 false (by kernel_rfl) (by kernel_rfl) (fun _ => h.st.sees' (by first | exact LE.rfl | assumption) (by simp)) ?_
     refine au [5,7,2,7] h ?_; intro a w h
     refine en (by kernel_rfl) ?_
     refine thN ?_
     obtain ⟨Hx, leHx, h, hx1⟩ := h.fsl (α := Dc) (R := RDc) 1 (ys := [exD]) (RowR.one rfl rfl) (fun _ _ _ _ _ hr => hr)
     have l_H_Hx : LE H Hx := l_H_H39.trans leHx
     have l_HA_Hx : LE HA Hx := l_HA_H39.trans leHx
     have l_H21_Hx : LE H21 Hx := l_H21_H39.trans leHx
     have l_H22_Hx : LE H22 Hx := l_H22_H39.trans leHx
     have l_H27_Hx : LE H27 Hx := l_H27_H39.trans leHx
     have l_H28_Hx : LE H28 Hx := l_H28_H39.trans leHx
     have l_H29_Hx : LE H29 Hx := l_H29_H39.trans leHx
     have l_H35_Hx : LE H35 Hx := l_H35_H39.trans leHx
     have l_H39_Hx : LE H39 Hx := leHx
     obtain ⟨Hy, leHy, h, hx3⟩ := h.fsl (α := Df) (R := RDf) 0 (ys := [⟨[102], exF exX⟩]) (RowR.one rfl ⟨_, rfl, rt_of_ks (KS.up hk35 l_H35_Hx)⟩) (fun _ l _ _ _ hr => RDf.mono l hr)
     have l_H_Hy : LE H Hy := l_H_Hx.trans leHy
     have l_HA_Hy : LE HA Hy := l_HA_Hx.trans leHy
     have l_H21_Hy : LE H21 Hy := l_H21_Hx.trans leHy
     have l_H22_Hy : LE H22 Hy := l_H22_Hx.trans leHy
     have l_H27_Hy : LE H27 Hy := l_H27_Hx.trans leHy
     have l_H28_Hy : LE H28 Hy := l_H28_Hx.trans leHy
     have l_H29_Hy : LE H29 Hy := l_H29_Hx.trans leHy
     have l_H35_Hy : LE H35 Hy := l_H35_Hx.trans leHy
     have l_H39_Hy : LE H39 Hy := l_H39_Hx.trans leHy
     have l_Hx_Hy : LE Hx Hy := leHy
     have h := h.pull 2 rfl rfl
     have h := h.pull 2 rfl rfl
     have h := h.pull 2 rfl rfl
     have h := h.del 3
     exact ⟨_, g6, _, _, _, l_H29_Hy, CS.up hx1 l_Hx_Hy, hx3, KS.up hk39 l_H39_Hy, h.to 0 _⟩
   ·refine cl bod16 (of_ok [120] E H29 _) h (fun r34 H34 L34 a w le34 R h => ?_) (hS := fun _ _ _ _ _ le R hw => by obtain ⟨rfl, rfl, rfl⟩ := R; exact hw.sees' (by first | exact le | exact LE.trans (by assumption) le) (by simp))
    obtain ⟨rfl, rfl, rfl⟩ := R
    refine br0 ?_
    refine brl2 1 3 true true (by kernel_rfl) (by kernel_rfl) (by kernel_rfl) (fun _ => h.st.sees' (by first | exact LE.rfl | assumption) (by simp)) ?_ ?_
    ·refine bsl bs25 h fun g33 a w h => ?_
     refine br0 ?_
     refine brl1 3 true (by kernel_rfl) (by kernel_rfl) (fun _ => h.st.sees' (by first | exact LE.rfl | assumption) (by simp)) ?_
     refine cl bod17 (fun_ok [120] exX _ E H29 _ (⟨none, 0, rfl, RS.nil _ _ _⟩)) h (fun r35 H35 L35 a w le35 R h => ?_) (hS := fun _ _ _ _ _ le R hw => by obtain ⟨_, rfl, _, rfl⟩ := R; exact hw.sees' (by first | exact le | exact LE.trans (by assumption) le) (by simp))
     obtain ⟨A35, rfl, hk35, rfl⟩ := R
     have l_H_H35 : LE H H35 := l_H_H29.trans le35
     have l_HA_H35 : LE HA H35 := l_HA_H29.trans le35
     have l_H21_H35 : LE H21 H35 := l_H21_H29.trans le35
     have l_H22_H35 : LE H22 H35 := l_H22_H29.trans le35
     have l_H27_H35 : LE H27 H35 := l_H27_H29.trans le35
     have l_H28_H35 : LE H28 H35 := l_H28_H29.trans le35
     have l_H29_H35 : LE H29 H35 := le35
     refine au [2,7,8,4,7,5,2,6] h ?_; intro a w h
     refine brl2 5 7 true false (by kernel_rfl) (by kernel_rfl) (by kernel_rfl) (fun _ => h.st.sees' (by first | exact LE.rfl | assumption) (by simp)) ?_ ?_
     ·refine bsl bs26 h fun g37 a w h => ?_
      refine br0 ?_
      refine brl1 7 false (by kernel_rfl) (by kernel_rfl) (fun _ => h.st.sees' (by first | exact LE.rfl | assumption) (by simp)) ?_
      refine cl bod17 (fun_ok [120] exA _ E H35 _ (⟨_, _, rfl, KS.up hsA l_HA_H35⟩)) h (fun r39 H39 L39 a w le39 R h => ?_) (hS := fun _ _ _ _ _ le R hw => by obtain ⟨_, rfl, _, rfl⟩ := R; exact hw.sees' (by first | exact le | exact LE.trans (by assumption) le) (by simp))
      obtain ⟨A39, rfl, hk39, rfl⟩ := R
      have l_H_H39 : LE H H39 := l_H_H35.trans le39
      have l_HA_H39 : LE HA H39 := l_HA_H35.trans le39
      have l_H21_H39 : LE H21 H39 := l_H21_H35.trans le39
      have l_H22_H39 : LE H22 H39 := l_H22_H35.trans le39
      have l_H27_H39 : LE H27 H39 := l_H27_H35.trans le39
      have l_H28_H39 : LE H28 H39 := l_H28_H35.trans le39
      have l_H29_H39 : LE H29 H39 := l_H29_H35.trans le39
      have l_H35_H39 : LE H35 H39 := le39
      refine au [2,7,8,8,7,5,2,6] h ?_; intro a w h
      refine brl1 10 false (by kernel_rfl) (by kernel_rfl) (fun _ => h.st.sees' (by first | exact LE.rfl | assumption) (by simp)) ?_
      refine au [5,7,2,7] h ?_; intro a w h
      refine en (by kernel_rfl) ?_
      refine thN ?_
      obtain ⟨Hx, leHx, h, hx1⟩ := h.fsl (α := Dc) (R := RDc) 1 (ys := [exD]) (RowR.one rfl rfl) (fun _ _ _ _ _ hr => hr)
      have l_H_Hx : LE H Hx := l_H_H39.trans leHx
      have l_HA_Hx : LE HA Hx := l_HA_H39.trans leHx
      have l_H21_Hx : LE H21 Hx := l_H21_H39.trans leHx
      have l_H22_Hx : LE H22 Hx := l_H22_H39.trans leHx
      have l_H27_Hx : LE H27 Hx := l_H27_H39.trans leHx
      have l_H28_Hx : LE H28 Hx := l_H28_H39.trans leHx
      have l_H29_Hx : LE H29 Hx := l_H29_H39.trans leHx
      have l_H35_Hx : LE H35 Hx := l_H35_H39.trans leHx
      have l_H39_Hx : LE H39 Hx := leHx
      obtain ⟨Hy, leHy, h, hx3⟩ := h.fsl (α := Df) (R := RDf) 0 (ys := [⟨[102], exF exX⟩]) (RowR.one rfl ⟨_, rfl, rt_of_ks (KS.up hk35 l_H35_Hx)⟩) (fun _ l _ _ _ hr => RDf.mono l hr)
      have l_H_Hy : LE H Hy := l_H_Hx.trans leHy
      have l_HA_Hy : LE HA Hy := l_HA_Hx.trans leHy
      have l_H21_Hy : LE H21 Hy := l_H21_Hx.trans leHy
      have l_H22_Hy : LE H22 Hy := l_H22_Hx.trans leHy
      have l_H27_Hy : LE H27 Hy := l_H27_Hx.trans leHy
      have l_H28_Hy : LE H28 Hy := l_H28_Hx.trans leHy
      have l_H29_Hy : LE H29 Hy := l_H29_Hx.trans leHy
      have l_H35_Hy : LE H35 Hy := l_H35_Hx.trans leHy
      have l_H39_Hy : LE H39 Hy := l_H39_Hx.trans leHy
      have l_Hx_Hy : LE Hx Hy := leHy
      have h := h.pull 2 rfl rfl
      have h := h.pull 2 rfl rfl
      have h := h.pull 2 rfl rfl
      have h := h.del 3
      exact ⟨_, g6, _, _, _, l_H29_Hy, CS.up hx1 l_Hx_Hy, hx3, KS.up hk39 l_H39_Hy, h.to 0 _⟩
     ·refine cl bod17 (fun_ok [120] exA _ E H35 _ (⟨_, _, rfl, KS.up hsA l_HA_H35⟩)) h (fun r39 H39 L39 a w le39 R h => ?_) (hS := fun _ _ _ _ _ le R hw => by obtain ⟨_, rfl, _, rfl⟩ := R; exact hw.sees' (by first | exact le | exact LE.trans (by assumption) le) (by simp))
      obtain ⟨A39, rfl, hk39, rfl⟩ := R
      have l_H_H39 : LE H H39 := l_H_H35.trans le39
      have l_HA_H39 : LE HA H39 := l_HA_H35.trans le39
      have l_H21_H39 : LE H21 H39 := l_H21_H35.trans le39
      have l_H22_H39 : LE H22 H39 := l_H22_H35.trans le39
      have l_H27_H39 : LE H27 H39 := l_H27_H35.trans le39
      have l_H28_H39 : LE H28 H39 := l_H28_H35.trans le39
      have l_H29_H39 : LE H29 H39 := l_H29_H35.trans le39
      have l_H35_H39 : LE H35 H39 := le39
      refine br0 ?_
      refine brl1 5 true (by kernel_rfl) (by kernel_rfl) (fun _ => h.st.sees' (by first | exact LE.rfl | assumption) (by simp)) ?_
      refine bsl bs26 h fun g37 a w h => ?_
      refine au [2,7,8,8,7,5,2,6] h ?_; intro a w h
      refine brl1 10 false (by kernel_rfl) (by kernel_rfl) (fun _ => h.st.sees' (by first | exact LE.rfl | assumption) (by simp)) ?_
      refine au [5,7,2,7] h ?_; intro a w h
      refine en (by kernel_rfl) ?_
      refine thN ?_
      obtain ⟨Hx, leHx, h, hx1⟩ := h.fsl (α := Dc) (R := RDc) 1 (ys := [exD]) (RowR.one rfl rfl) (fun _ _ _ _ _ hr => hr)
      have l_H_Hx : LE H Hx := l_H_H39.trans leHx
      have l_HA_Hx : LE HA Hx := l_HA_H39.trans leHx
      have l_H21_Hx : LE H21 Hx := l_H21_H39.trans leHx
      have l_H22_Hx : LE H22 Hx := l_H22_H39.trans leHx
      have l_H27_Hx : LE H27 Hx := l_H27_H39.trans leHx
      have l_H28_Hx : LE H28 Hx := l_H28_H39.trans leHx
      have l_H29_Hx : LE H29 Hx := l_H29_H39.trans leHx
      have l_H35_Hx : LE H35 Hx := l_H35_H39.trans leHx
      have l_H39_Hx : LE H39 Hx := leHx
      obtain ⟨Hy, leHy, h, hx3⟩ := h.fsl (α := Df) (R := RDf) 0 (ys := [⟨[102], exF exX⟩]) (RowR.one rfl ⟨_, rfl, rt_of_ks (KS.up hk35 l_H35_Hx)⟩) (fun _ l _ _ _ hr => RDf.mono l hr)
      have l_H_Hy : LE H Hy := l_H_Hx.trans leHy
      have l_HA_Hy : LE HA Hy := l_HA_Hx.trans leHy
      have l_H21_Hy : LE H21 Hy := l_H21_Hx.trans leHy
      have l_H22_Hy : LE H22 Hy := l_H22_Hx.trans leHy
      have l_H27_Hy : LE H27 Hy := l_H27_Hx.trans leHy
      have l_H28_Hy : LE H28 Hy := l_H28_Hx.trans leHy
      have l_H29_Hy : LE H29 Hy := l_H29_Hx.trans leHy
      have l_H35_Hy : LE H35 Hy := l_H35_Hx.trans leHy
      have l_H39_Hy : LE H39 Hy := l_H39_Hx.trans leHy
      have l_Hx_Hy : LE Hx Hy := leHy
      have h := h.pull 2 rfl rfl
      have h := h.pull 2 rfl rfl
      have h := h.pull 2 rfl rfl
      have h := h.del 3
      exact ⟨_, g6, _, _, _, l_H29_Hy, CS.up hx1 l_Hx_Hy, hx3, KS.up hk39 l_H39_Hy, h.to 0 _⟩
    ·refine cl bod17 (fun_ok [120] exX _ E H29 _ (⟨none, 0, rfl, RS.nil _ _ _⟩)) h (fun r35 H35 L35 a w le35 R h => ?_) (hS := fun _ _ _ _ _ le R hw => by obtain ⟨_, rfl, _, rfl⟩ := R; exact hw.sees' (by first | exact le | exact LE.trans (by assumption) le) (by simp))
     obtain ⟨A35, rfl, hk35, rfl⟩ := R
     have l_H_H35 : LE H H35 := l_H_H29.trans le35
     have l_HA_H35 : LE HA H35 := l_HA_H29.trans le35
     have l_H21_H35 : LE H21 H35 := l_H21_H29.trans le35
     have l_H22_H35 : LE H22 H35 := l_H22_H29.trans le35
     have l_H27_H35 : LE H27 H35 := l_H27_H29.trans le35
     have l_H28_H35 : LE H28 H35 := l_H28_H29.trans le35
     have l_H29_H35 : LE H29 H35 := le35
     refine au [2,7,8,4,7,5,2,6] h ?_; intro a w h
     refine brl3 1 5 7 true true false (by kernel_rfl) (by kernel_rfl) (by kernel_rfl) (by kernel_rfl) (fun _ => h.st.sees' (by first | exact LE.rfl | assumption) (by simp)) ?_ ?_ ?_
     ·refine bsl bs25 h fun g33 a w h => ?_
      refine br0 ?_
      refine brl2 5 7 true false (by kernel_rfl) (by kernel_rfl) (by kernel_rfl) (fun _ => h.st.sees' (by first | exact LE.rfl | assumption) (by simp)) ?_ ?_
      ·refine bsl bs26 h fun g37 a w h => ?_
       refine br0 ?_
       refine brl1 7 false (by kernel_rfl) (by kernel_rfl) (fun _ => h.st.sees' (by first | exact LE.rfl | assumption) (by simp)) ?_
       refine cl bod17 (fun_ok [120] exA _ E H35 _ (⟨_, _, rfl, KS.up hsA l_HA_H35⟩)) h (fun r39 H39 L39 a w le39 R h => ?_) (hS := fun _ _ _ _ _ le R hw => by obtain ⟨_, rfl, _, rfl⟩ := R; exact hw.sees' (by first | exact le | exact LE.trans (by assumption) le) (by simp))
       obtain ⟨A39, rfl, hk39, rfl⟩ := R
       have l_H_H39 : LE H H39 := l_H_H35.trans le39
       have l_HA_H39 : LE HA H39 := l_HA_H35.trans le39
       have l_H21_H39 : LE H21 H39 := l_H21_H35.trans le39
       have l_H22_H39 : LE H22 H39 := l_H22_H35.trans le39
       have l_H27_H39 : LE H27 H39 := l_H27_H35.trans le39
       have l_H28_H39 : LE H28 H39 := l_H28_H35.trans le39
       have l_H29_H39 : LE H29 H39 := l_H29_H35.trans le39
       have l_H35_H39 : LE H35 H39 := le39
       refine au [2,7,8,8,7,5,2,6] h ?_; intro a w h
       refine brl1 10 false (by kernel_rfl) (by kernel_rfl) (fun _ => h.st.sees' (by first | exact LE.rfl | assumption) (by simp)) ?_
       refine au [5,7,2,7] h ?_; intro a w h
       refine en (by kernel_rfl) ?_
       refine thN ?_
       obtain ⟨Hx, leHx, h, hx1⟩ := h.fsl (α := Dc) (R := RDc) 1 (ys := [exD]) (RowR.one rfl rfl) (fun _ _ _ _ _ hr => hr)
       have l_H_Hx : LE H Hx := l_H_H39.trans leHx
       have l_HA_Hx : LE HA Hx := l_HA_H39.trans leHx
       have l_H21_Hx : LE H21 Hx := l_H21_H39.trans leHx
       have l_H22_Hx : LE H22 Hx := l_H22_H39.trans leHx
       have l_H27_Hx : LE H27 Hx := l_H27_H39.trans leHx
       have l_H28_Hx : LE H28 Hx := l_H28_H39.trans leHx
       have l_H29_Hx : LE H29 Hx := l_H29_H39.trans leHx
       have l_H35_Hx : LE H35 Hx := l_H35_H39.trans leHx
       have l_H39_Hx : LE H39 Hx := leHx
       obtain ⟨Hy, leHy, h, hx3⟩ := h.fsl (α := Df) (R := RDf) 0 (ys := [⟨[102], exF exX⟩]) (RowR.one rfl ⟨_, rfl, rt_of_ks (KS.up hk35 l_H35_Hx)⟩) (fun _ l _ _ _ hr => RDf.mono l hr)
       have l_H_Hy : LE H Hy := l_H_Hx.trans leHy
       have l_HA_Hy : LE HA Hy := l_HA_Hx.trans leHy
       have l_H21_Hy : LE H21 Hy := l_H21_Hx.trans leHy
       have l_H22_Hy : LE H22 Hy := l_H22_Hx.trans leHy
       have l_H27_Hy : LE H27 Hy := l_H27_Hx.trans leHy
       have l_H28_Hy : LE H28 Hy := l_H28_Hx.trans leHy
       have l_H29_Hy : LE H29 Hy := l_H29_Hx.trans leHy
       have l_H35_Hy : LE H35 Hy := l_H35_Hx.trans leHy
       have l_H39_Hy : LE H39 Hy := l_H39_Hx.trans leHy
       have l_Hx_Hy : LE Hx Hy := leHy
       have h := h.pull 2 rfl rfl
       have h := h.pull 2 rfl rfl
       have h := h.pull 2 rfl rfl
       have h := h.del 3
       exact ⟨_, g6, _, _, _, l_H29_Hy, CS.up hx1 l_Hx_Hy, hx3, KS.up hk39 l_H39_Hy, h.to 0 _⟩
      ·refine cl bod17 (fun_ok [120] exA _ E H35 _ (⟨_, _, rfl, KS.up hsA l_HA_H35⟩)) h (fun r39 H39 L39 a w le39 R h => ?_) (hS := fun _ _ _ _ _ le R hw => by obtain ⟨_, rfl, _, rfl⟩ := R; exact hw.sees' (by first | exact le | exact LE.trans (by assumption) le) (by simp))
       obtain ⟨A39, rfl, hk39, rfl⟩ := R
       have l_H_H39 : LE H H39 := l_H_H35.trans le39
       have l_HA_H39 : LE HA H39 := l_HA_H35.trans le39
       have l_H21_H39 : LE H21 H39 := l_H21_H35.trans le39
       have l_H22_H39 : LE H22 H39 := l_H22_H35.trans le39
       have l_H27_H39 : LE H27 H39 := l_H27_H35.trans le39
       have l_H28_H39 : LE H28 H39 := l_H28_H35.trans le39
       have l_H29_H39 : LE H29 H39 := l_H29_H35.trans le39
       have l_H35_H39 : LE H35 H39 := le39
       refine br0 ?_
       refine brl1 5 true (by kernel_rfl) (by kernel_rfl) (fun _ => h.st.sees' (by first | exact LE.rfl | assumption) (by simp)) ?_
       refine bsl bs26 h fun g37 a w h => ?_
       refine au [2,7,8,8,7,5,2,6] h ?_; intro a w h
       refine brl1 10 false (by kernel_rfl) (by kernel_rfl) (fun _ => h.st.sees' (by first | exact LE.rfl | assumption) (by simp)) ?_
       refine au [5,7,2,7] h ?_; intro a w h
       refine en (by kernel_rfl) ?_
       refine thN ?_
       obtain ⟨Hx, leHx, h, hx1⟩ := h.fsl (α := Dc) (R := RDc) 1 (ys := [exD]) (RowR.one rfl rfl) (fun _ _ _ _ _ hr => hr)
       have l_H_Hx : LE H Hx := l_H_H39.trans leHx
       have l_HA_Hx : LE HA Hx := l_HA_H39.trans leHx
       have l_H21_Hx : LE H21 Hx := l_H21_H39.trans leHx
       have l_H22_Hx : LE H22 Hx := l_H22_H39.trans leHx
       have l_H27_Hx : LE H27 Hx := l_H27_H39.trans leHx
       have l_H28_Hx : LE H28 Hx := l_H28_H39.trans leHx
       have l_H29_Hx : LE H29 Hx := l_H29_H39.trans leHx
       have l_H35_Hx : LE H35 Hx := l_H35_H39.trans leHx
       have l_H39_Hx : LE H39 Hx := leHx
       obtain ⟨Hy, leHy, h, hx3⟩ := h.fsl (α := Df) (R := RDf) 0 (ys := [⟨[102], exF exX⟩]) (RowR.one rfl ⟨_, rfl, rt_of_ks (KS.up hk35 l_H35_Hx)⟩) (fun _ l _ _ _ hr => RDf.mono l hr)
       have l_H_Hy : LE H Hy := l_H_Hx.trans leHy
       have l_HA_Hy : LE HA Hy := l_HA_Hx.trans leHy
       have l_H21_Hy : LE H21 Hy := l_H21_Hx.trans leHy
       have l_H22_Hy : LE H22 Hy := l_H22_Hx.trans leHy
       have l_H27_Hy : LE H27 Hy := l_H27_Hx.trans leHy
       have l_H28_Hy : LE H28 Hy := l_H28_Hx.trans leHy
       have l_H29_Hy : LE H29 Hy := l_H29_Hx.trans leHy
       have l_H35_Hy : LE H35 Hy := l_H35_Hx.trans leHy
       have l_H39_Hy : LE H39 Hy := l_H39_Hx.trans leHy
       have l_Hx_Hy : LE Hx Hy := leHy
       have h := h.pull 2 rfl rfl
       have h := h.pull 2 rfl rfl
       have h := h.pull 2 rfl rfl
       have h := h.del 3
       exact ⟨_, g6, _, _, _, l_H29_Hy, CS.up hx1 l_Hx_Hy, hx3, KS.up hk39 l_H39_Hy, h.to 0 _⟩
     ·refine bsl bs26 h fun g37 a w h => ?_
      refine br0 ?_
      refine brl2 1 7 true false (by kernel_rfl) (by kernel_rfl) (by kernel_rfl) (fun _ => h.st.sees' (by first | exact LE.rfl | assumption) (by simp)) ?_ ?_
      ·refine bsl bs25 h fun g33 a w h => ?_
       refine br0 ?_
       refine brl1 7 false (by kernel_rfl) (by kernel_rfl) (fun _ => h.st.sees' (by first | exact LE.rfl | assumption) (by simp)) ?_
       refine cl bod17 (fun_ok [120] exA _ E H35 _ (⟨_, _, rfl, KS.up hsA l_HA_H35⟩)) h (fun r39 H39 L39 a w le39 R h => ?_) (hS := fun _ _ _ _ _ le R hw => by obtain ⟨_, rfl, _, rfl⟩ := R; exact hw.sees' (by first | exact le | exact LE.trans (by assumption) le) (by simp))
       obtain ⟨A39, rfl, hk39, rfl⟩ := R
       have l_H_H39 : LE H H39 := l_H_H35.trans le39
       have l_HA_H39 : LE HA H39 := l_HA_H35.trans le39
       have l_H21_H39 : LE H21 H39 := l_H21_H35.trans le39
       have l_H22_H39 : LE H22 H39 := l_H22_H35.trans le39
       have l_H27_H39 : LE H27 H39 := l_H27_H35.trans le39
       have l_H28_H39 : LE H28 H39 := l_H28_H35.trans le39
       have l_H29_H39 : LE H29 H39 := l_H29_H35.trans le39
       have l_H35_H39 : LE H35 H39 := le39
       refine au [2,7,8,8,7,5,2,6] h ?_; intro a w h
       refine brl1 10 false (by kernel_rfl) (by kernel_rfl) (fun _ => h.st.sees' (by first | exact LE.rfl | assumption) (by simp)) ?_
       refine au [5,7,2,7] h ?_; intro a w h
       refine en (by kernel_rfl) ?_
       refine thN ?_
       obtain ⟨Hx, leHx, h, hx1⟩ := h.fsl (α := Dc) (R := RDc) 0 (ys := [exD]) (RowR.one rfl rfl) (fun _ _ _ _ _ hr => hr)
       have l_H_Hx : LE H Hx := l_H_H39.trans leHx
       have l_HA_Hx : LE HA Hx := l_HA_H39.trans leHx
       have l_H21_Hx : LE H21 Hx := l_H21_H39.trans leHx
       have l_H22_Hx : LE H22 Hx := l_H22_H39.trans leHx
       have l_H27_Hx : LE H27 Hx := l_H27_H39.trans leHx
       have l_H28_Hx : LE H28 Hx := l_H28_H39.trans leHx
       have l_H29_Hx : LE H29 Hx := l_H29_H39.trans leHx
       have l_H35_Hx : LE H35 Hx := l_H35_H39.trans leHx
       have l_H39_Hx : LE H39 Hx := leHx
       obtain ⟨Hy, leHy, h, hx3⟩ := h.fsl (α := Df) (R := RDf) 0 (ys := [⟨[102], exF exX⟩]) (RowR.one rfl ⟨_, rfl, rt_of_ks (KS.up hk35 l_H35_Hx)⟩) (fun _ l _ _ _ hr => RDf.mono l hr)
       have l_H_Hy : LE H Hy := l_H_Hx.trans leHy
       have l_HA_Hy : LE HA Hy := l_HA_Hx.trans leHy
       have l_H21_Hy : LE H21 Hy := l_H21_Hx.trans leHy
       have l_H22_Hy : LE H22 Hy := l_H22_Hx.trans leHy
       have l_H27_Hy : LE H27 Hy := l_H27_Hx.trans leHy
       have l_H28_Hy : LE H28 Hy := l_H28_Hx.trans leHy
       have l_H29_Hy : LE H29 Hy := l_H29_Hx.trans leHy
       have l_H35_Hy : LE H35 Hy := l_H35_Hx.trans leHy
       have l_H39_Hy : LE H39 Hy := l_H39_Hx.trans leHy
       have l_Hx_Hy : LE Hx Hy := leHy
       have h := h.pull 2 rfl rfl
       have h := h.pull 2 rfl rfl
       have h := h.pull 2 rfl rfl
       have h := h.del 3
       exact ⟨_, g6, _, _, _, l_H29_Hy, CS.up hx1 l_Hx_Hy, hx3, KS.up hk39 l_H39_Hy, h.to 0 _⟩
      ·refine cl bod17 (fun_ok [120] exA _ E H35 _ (⟨_, _, rfl, KS.up hsA l_HA_H35⟩)) h (fun r39 H39 L39 a w le39 R h => ?_) (hS := fun _ _ _ _ _ le R hw => by obtain ⟨_, rfl, _, rfl⟩ := R; exact hw.sees' (by first | exact le | exact LE.trans (by assumption) le) (by simp))
       obtain ⟨A39, rfl, hk39, rfl⟩ := R
       have l_H_H39 : LE H H39 := l_H_H35.trans le39
       have l_HA_H39 : LE HA H39 := l_HA_H35.trans le39
       have l_H21_H39 : LE H21 H39 := l_H21_H35.trans le39
       have l_H22_H39 : LE H22 H39 := l_H22_H35.trans le39
       have l_H27_H39 : LE H27 H39 := l_H27_H35.trans le39
       have l_H28_H39 : LE H28 H39 := l_H28_H35.trans le39
       have l_H29_H39 : LE H29 H39 := l_H29_H35.trans le39
       have l_H35_H39 : LE H35 H39 := le39
       refine br0 ?_
       refine brl1 1 true (by kernel_rfl) (by kernel_rfl) (fun _ => h.st.sees' (by first | exact LE.rfl | assumption) (by simp)) ?_
       refine bsl bs25 h fun g33 a w h => ?_
       refine au [2,7,8,8,7,5,2,6] h ?_; intro a w h
       refine brl1 10 false (by kernel_rfl) (by kernel_rfl) (fun _ => h.st.sees' (by first | exact LE.rfl | assumption) (by simp)) ?_
       refine au [5,7,2,7] h ?_; intro a w h
       refine en (by kernel_rfl) ?_
       refine thN ?_
       obtain ⟨Hx, leHx, h, hx1⟩ := h.fsl (α := Dc) (R := RDc) 0 (ys := [exD]) (RowR.one rfl rfl) (fun _ _ _ _ _ hr => hr)
       have l_H_Hx : LE H Hx := l_H_H39.trans leHx
       have l_HA_Hx : LE HA Hx := l_HA_H39.trans leHx
       have l_H21_Hx : LE H21 Hx := l_H21_H39.trans leHx
       have l_H22_Hx : LE H22 Hx := l_H22_H39.trans leHx
       have l_H27_Hx : LE H27 Hx := l_H27_H39.trans leHx
       have l_H28_Hx : LE H28 Hx := l_H28_H39.trans leHx
       have l_H29_Hx : LE H29 Hx := l_H29_H39.trans leHx
       have l_H35_Hx : LE H35 Hx := l_H35_H39.trans leHx
       have l_H39_Hx : LE H39 Hx := leHx
       obtain ⟨Hy, leHy, h, hx3⟩ := h.fsl (α := Df) (R := RDf) 0 (ys := [⟨[102], exF exX⟩]) (RowR.one rfl ⟨_, rfl, rt_of_ks (KS.up hk35 l_H35_Hx)⟩) (fun _ l _ _ _ hr => RDf.mono l hr)
       have l_H_Hy : LE H Hy := l_H_Hx.trans leHy
       have l_HA_Hy : LE HA Hy := l_HA_Hx.trans leHy
       have l_H21_Hy : LE H21 Hy := l_H21_Hx.trans leHy
       have l_H22_Hy : LE H22 Hy := l_H22_Hx.trans leHy
       have l_H27_Hy : LE H27 Hy := l_H27_Hx.trans leHy
       have l_H28_Hy : LE H28 Hy := l_H28_Hx.trans leHy
       have l_H29_Hy : LE H29 Hy := l_H29_Hx.trans leHy
       have l_H35_Hy : LE H35 Hy := l_H35_Hx.trans leHy
       have l_H39_Hy : LE H39 Hy := l_H39_Hx.trans leHy
       have l_Hx_Hy : LE Hx Hy := leHy
       have h := h.pull 2 rfl rfl
       have h := h.pull 2 rfl rfl
       have h := h.pull 2 rfl rfl
       have h := h.del 3
       exact ⟨_, g6, _, _, _, l_H29_Hy, CS.up hx1 l_Hx_Hy, hx3, KS.up hk39 l_H39_Hy, h.to 0 _⟩
     ·refine cl bod17 (fun_ok [120] exA _ E H35 _ (⟨_, _, rfl, KS.up hsA l_HA_H35⟩)) h (fun r39 H39 L39 a w le39 R h => ?_) (hS := fun _ _ _ _ _ le R hw => by obtain ⟨_, rfl, _, rfl⟩ := R; exact hw.sees' (by first | exact le | exact LE.trans (by assumption) le) (by simp))
      obtain ⟨A39, rfl, hk39, rfl⟩ := R
      have l_H_H39 : LE H H39 := l_H_H35.trans le39
      have l_HA_H39 : LE HA H39 := l_HA_H35.trans le39
      have l_H21_H39 : LE H21 H39 := l_H21_H35.trans le39
      have l_H22_H39 : LE H22 H39 := l_H22_H35.trans le39
      have l_H27_H39 : LE H27 H39 := l_H27_H35.trans le39
      have l_H28_H39 : LE H28 H39 := l_H28_H35.trans le39
      have l_H29_H39 : LE H29 H39 := l_H29_H35.trans le39
      have l_H35_H39 : LE H35 H39 := le39
      refine br0 ?_
      refine brl2 1 5 true true (by kernel_rfl) (by kernel_rfl) (by kernel_rfl) (fun _ => h.st.sees' (by first | exact LE.rfl | assumption) (by simp)) ?_ ?_
      ·refine bsl bs25 h fun g33 a w h => ?_
       refine br0 ?_
       refine brl1 5 true (by kernel_rfl) (by kernel_rfl) (fun _ => h.st.sees' (by first | exact LE.rfl | assumption) (by simp)) ?_
       refine bsl bs26 h fun g37 a w h => ?_
       refine au [2,7,8,8,7,5,2,6] h ?_; intro a w h
       refine brl1 10 false (by kernel_rfl) (by kernel_rfl) (fun _ => h.st.sees' (by first | exact LE.rfl | assumption) (by simp)) ?_
       refine au [5,7,2,7] h ?_; intro a w h
       refine en (by kernel_rfl) ?_
       refine thN ?_
       obtain ⟨Hx, leHx, h, hx1⟩ := h.fsl (α := Dc) (R := RDc) 1 (ys := [exD]) (RowR.one rfl rfl) (fun _ _ _ _ _ hr => hr)
       have l_H_Hx : LE H Hx := l_H_H39.trans leHx
       have l_HA_Hx : LE HA Hx := l_HA_H39.trans leHx
       have l_H21_Hx : LE H21 Hx := l_H21_H39.trans leHx
       have l_H22_Hx : LE H22 Hx := l_H22_H39.trans leHx
       have l_H27_Hx : LE H27 Hx := l_H27_H39.trans leHx
       have l_H28_Hx : LE H28 Hx := l_H28_H39.trans leHx
       have l_H29_Hx : LE H29 Hx := l_H29_H39.trans leHx
       have l_H35_Hx : LE H35 Hx := l_H35_H39.trans leHx
       have l_H39_Hx : LE H39 Hx := leHx
       obtain ⟨Hy, leHy, h, hx3⟩ := h.fsl (α := Df) (R := RDf) 0 (ys := [⟨[102], exF exX⟩]) (RowR.one rfl ⟨_, rfl, rt_of_ks (KS.up hk35 l_H35_Hx)⟩) (fun _ l _ _ _ hr => RDf.mono l hr)
       have l_H_Hy : LE H Hy := l_H_Hx.trans leHy
       have l_HA_Hy : LE HA Hy := l_HA_Hx.trans leHy
       have l_H21_Hy : LE H21 Hy := l_H21_Hx.trans leHy
       have l_H22_Hy : LE H22 Hy := l_H22_Hx.trans leHy
       have l_H27_Hy : LE H27 Hy := l_H27_Hx.trans leHy
       have l_H28_Hy : LE H28 Hy := l_H28_Hx.trans leHy
       have l_H29_Hy : LE H29 Hy := l_H29_Hx.trans leHy
       have l_H35_Hy : LE H35 Hy := l_H35_Hx.trans leHy
       have l_H39_Hy : LE H39 Hy := l_H39_Hx.trans leHy
       have l_Hx_Hy : LE Hx Hy := leHy
       have h := h.pull 2 rfl rfl
       have h := h.pull 2 rfl rfl
       have h := h.pull 2 rfl rfl
       have h := h.del 3
       exact ⟨_, g6, _, _, _, l_H29_Hy, CS.up hx1 l_Hx_Hy, hx3, KS.up hk39 l_H39_Hy, h.to 0 _⟩
      ·refine bsl bs26 h fun g37 a w h => ?_
       refine br0 ?_
       refine brl1 1 true (by kernel_rfl) (by kernel_rfl) (fun _ => h.st.sees' (by first | exact LE.rfl | assumption) (by simp)) ?_
       refine bsl bs25 h fun g33 a w h => ?_
       refine au [2,7,8,8,7,5,2,6] h ?_; intro a w h
       refine brl1 10 false (by kernel_rfl) (by kernel_rfl) (fun _ => h.st.sees' (by first | exact LE.rfl | assumption) (by simp)) ?_
       refine au [5,7,2,7] h ?_; intro a w h
       refine en (by kernel_rfl) ?_
       refine thN ?_
       obtain ⟨Hx, leHx, h, hx1⟩ := h.fsl (α := Dc) (R := RDc) 0 (ys := [exD]) (RowR.one rfl rfl) (fun _ _ _ _ _ hr => hr)
       have l_H_Hx : LE H Hx := l_H_H39.trans leHx
       have l_HA_Hx : LE HA Hx := l_HA_H39.trans leHx
       have l_H21_Hx : LE H21 Hx := l_H21_H39.trans leHx
       have l_H22_Hx : LE H22 Hx := l_H22_H39.trans leHx
       have l_H27_Hx : LE H27 Hx := l_H27_H39.trans leHx
       have l_H28_Hx : LE H28 Hx := l_H28_H39.trans leHx
       have l_H29_Hx : LE H29 Hx := l_H29_H39.trans leHx
       have l_H35_Hx : LE H35 Hx := l_H35_H39.trans leHx
       have l_H39_Hx : LE H39 Hx := leHx
       obtain ⟨Hy, leHy, h, hx3⟩ := h.fsl (α := Df) (R := RDf) 0 (ys := [⟨[102], exF exX⟩]) (RowR.one rfl ⟨_, rfl, rt_of_ks (KS.up hk35 l_H35_Hx)⟩) (fun _ l _ _ _ hr => RDf.mono l hr)
       have l_H_Hy : LE H Hy := l_H_Hx.trans leHy
       have l_HA_Hy : LE HA Hy := l_HA_Hx.trans leHy
       have l_H21_Hy : LE H21 Hy := l_H21_Hx.trans leHy
       have l_H22_Hy : LE H22 Hy := l_H22_Hx.trans leHy
       have l_H27_Hy : LE H27 Hy := l_H27_Hx.trans leHy
       have l_H28_Hy : LE H28 Hy := l_H28_Hx.trans leHy
       have l_H29_Hy : LE H29 Hy := l_H29_Hx.trans leHy
       have l_H35_Hy : LE H35 Hy := l_H35_Hx.trans leHy
       have l_H39_Hy : LE H39 Hy := l_H39_Hx.trans leHy
       have l_Hx_Hy : LE Hx Hy := leHy
       have h := h.pull 2 rfl rfl
       have h := h.pull 2 rfl rfl
       have h := h.pull 2 rfl rfl
       have h := h.del 3
       exact ⟨_, g6, _, _, _, l_H29_Hy, CS.up hx1 l_Hx_Hy, hx3, KS.up hk39 l_H39_Hy, h.to 0 _⟩
 ·rintro a w ⟨Hc, g6, B1, B3, B4, leHc, hB1, hB3, hB4, h⟩
  have hLc := hL.up (l_H_H29.trans leHc)
  refine au [1,2,3,3] h ?_; intro a w h
  refine cl bod12 (Resolve_ok exP _ E Hc _ (⟨B1, 1, none, 0, B3, 1, B4, 1, rfl, hB1, RS.nil _ _ _, hB3, hB4⟩) (hLc.up LE.rfl) (by constructor <;> decide)) h fun r43 H43 L43 a w le43 R h => ?_
  obtain ⟨v43, rfl, hv43, rfl⟩ := R
  rw [ex3] at hv43 h
  obtain ⟨D43_1, d43_1, D43_2, d43_2, D43_3, d43_3, D43_4, d43_4, rfl, hq431, hq432, hq433, hq434⟩ := hv43
  have l_Hc_H43 : LE Hc H43 := le43
  refine au [0,0,4,7,4,7] h ?_; intro a w h
  refine al zr28 h fun g7 a w h => ?_
  refine au [5,5,0,6,0,3,0,4] h ?_; intro a w h
  refine rgd [1] [_] [3, 2, 0] [1, 3, 5] 2 mix (by kernel_rfl) h (fun a w h => ?_)
  refine au [0,7,4,2,0,7,4,2] h ?_; intro a w h
  obtain ⟨gi, oi, eB, hvt, hcell⟩ := CS.get hB1 (j := 0) (by decide)
  subst eB
  refine ia sli25 sz59 (j := 0) rfl ?_ h fun a w h => ?_
  ·decide
  refine ldHND tN59 rfl (fun i u hu => (hcell i u hu).mono l_Hc_H43) h fun a w h => ?_
  refine bsl bs25 h fun g52 a w h => ?_
  have hB1x : RS RDc 3 H43 (.slice (some ⟨gi, oi, none⟩) [exD].length [exD].length) [exD] := hB1.mono (l_Hc_H43) (fun _ _ _ hr => hr)
  refine apc (R := RDc) (ys := [exD]) 0 [_, _, _] row25 hB1x h ?_ ?_ fun A53 c53 olds a w hol h => ?_
  ·decide
  ·decide
  obtain ⟨H53, le53, h, hB5⟩ := h.frw 0 (ys := [exD, exD]) (hol.snoc (y := exD) rfl rfl) rfl (fun _ _ _ _ _ hr => hr)
  have l_Hc_H53 : LE Hc H53 := l_Hc_H43.trans le53
  have l_H43_H53 : LE H43 H53 := le53
  refine au [0,7,5,3,0,2,3,5] h ?_; intro a w h
  refine cl bod12 (Resolve_ok exP2 _ E H53 _ (⟨A53, c53, none, 0, B3, 1, B4, 1, rfl, CS.up hB5 LE.rfl, RS.nil _ _ _, FS.up hB3 l_Hc_H53, KS.up hB4 l_Hc_H53⟩) (hLc.up l_Hc_H53) (by constructor <;> decide)) h fun r57 H57 L57 a w le57 R h => ?_
  obtain ⟨v57, rfl, hv57, rfl⟩ := R
  rw [ex4] at h
  obtain ⟨D57_1, d57_1, D57_2, d57_2, D57_3, d57_3, D57_4, d57_4, rfl, hq571, hq572, hq573, hq574⟩ := hv57
  have l_Hc_H57 : LE Hc H57 := l_Hc_H53.trans le57
  have l_H43_H57 : LE H43 H57 := l_H43_H53.trans le57
  have l_H53_H57 : LE H53 H57 := le57
  refine au [0,0,4,7,4,7] h ?_; intro a w h
  refine al zr28 h fun g9 a w h => ?_
  refine au [5,5,0,6,0,2] h ?_; intro a w h
  refine cl bod16 (of_ok [120] E H57 _) h (fun r61 H61 L61 a w le61 R h => ?_)
  obtain ⟨rfl, rfl, rfl⟩ := R
  refine bdl lay28 zr28 h fun a w h => ?_
  refine cl bod12 (Resolve_ok exP3 _ E H57 _ (⟨none, 0, none, 0, none, 0, none, 0, rfl, RS.nil _ _ _, RS.nil _ _ _, RS.nil _ _ _, RS.nil _ _ _⟩) (hLc.up l_Hc_H57) (by constructor <;> decide)) h fun r63 H63 L63 a w le63 R h => ?_
  obtain ⟨v63, rfl, hv63, rfl⟩ := R
  rw [ex5] at h
  obtain ⟨D63_1, d63_1, D63_2, d63_2, D63_3, d63_3, D63_4, d63_4, rfl, hq631, hq632, hq633, hq634⟩ := hv63
  have l_Hc_H63 : LE Hc H63 := l_Hc_H57.trans le63
  have l_H43_H63 : LE H43 H63 := l_H43_H57.trans le63
  have l_H53_H63 : LE H53 H63 := l_H53_H57.trans le63
  have l_H57_H63 : LE H57 H63 := le63
  refine au [0,0,4,7,4,7] h ?_; intro a w h
  refine al zr28 h fun g11 a w h => ?_
  refine au [5,5,0,6,0,2,7,5] h ?_; intro a w h
  refine cl bod12 (Resolve_ok Pg.zero _ E H63 _ (vp_zero _) (hLc.up l_Hc_H63) (by constructor <;> decide)) h fun r68 H68 L68 a w le68 R h => ?_
  obtain ⟨v68, rfl, hv68, rfl⟩ := R
  rw [ex6] at h
  obtain ⟨D68_1, d68_1, D68_2, d68_2, D68_3, d68_3, D68_4, d68_4, rfl, hq681, hq682, hq683, hq684⟩ := hv68
  have l_Hc_H68 : LE Hc H68 := l_Hc_H63.trans le68
  have l_H43_H68 : LE H43 H68 := l_H43_H63.trans le68
  have l_H53_H68 : LE H53 H68 := l_H53_H63.trans le68
  have l_H57_H68 : LE H57 H68 := l_H57_H63.trans le68
  have l_H63_H68 : LE H63 H68 := le68
  refine au [0,0,4,7,4,7] h ?_; intro a w h
  refine al zr28 h fun g13 a w h => ?_
  refine au [5,5,0,6,0,3,0,4,0,4] h ?_; intro a w h
  obtain ⟨ga, oa, Aa, ca, ea, hva, hca⟩ := KS.get (KS.up hk22 ((l_H22_H29.trans leHc).trans l_Hc_H68)) (j := 0) (by decide)
  subst ea
  obtain ⟨_, _, ea2, hka⟩ := hva
  cases ea2
  obtain ⟨gb, ob, _, _, eb, _, hcb⟩ := KS.get hka (j := 0) (by decide)
  obtain ⟨gb2, ob2, _, _, eb2, _, hcb2⟩ := KS.get hka (j := 1) (by decide)
  subst eb
  cases eb2
  obtain ⟨gc, oc, Ac, cc, ec, hvc, hcc⟩ := KS.get (KS.up hk29 (leHc.trans l_Hc_H68)) (j := 0) (by decide)
  subst ec
  obtain ⟨_, _, ec2, hkc⟩ := hvc
  cases ec2
  obtain ⟨gd, od, _, _, ed, _, hcd⟩ := KS.get hkc (j := 0) (by decide)
  subst ed
  obtain ⟨ge, oe, _, _, ee, _, hce⟩ := FS.get (FS.up hq433 l_H43_H68) (j := 0) (by decide)
  subst ee
  refine au [0,5,0,7] h ?_; intro a w h
  refine ld 7 t1_22 h fun a w h => ?_
  refine au [6,0,6,3] h ?_; intro a w h
  refine h.spl (fun c74 h => ?_) (fun c74 h => ?_)
  ·exact absurd c74 (by decide)
  ·refine au [0,0,0,7] h ?_; intro a w h
   refine ld 7 t1_22 h fun a w h => ?_
   refine ia sli22 sz24 (j := 0) rfl ?_ h fun a w h => ?_
   ·decide
   refine fa fl24_3 (r := oa + 0 * 4 + 3) h fun a w h => ?_
   refine ldH t1_22 (hca 3 _ rfl) h fun a w h => ?_
   refine au [6,0,6,3,5,0] h ?_; intro a w h
   refine h.spl (fun c83 h => ?_) (fun c83 h => ?_)
   ·exact absurd c83 (by decide)
   ·refine au [0,0,0,7] h ?_; intro a w h
    refine ld 6 t1_22 h fun a w h => ?_
    refine au [6,0,6,3,5,0] h ?_; intro a w h
    refine h.spl (fun c89 h => ?_) (fun c89 h => ?_)
    ·exact absurd c89 (by decide)
    ·refine au [0,0,0,7] h ?_; intro a w h
     refine ld 6 t1_22 h fun a w h => ?_
     refine ia sli22 sz24 (j := 0) rfl ?_ h fun a w h => ?_
     ·decide
     refine fa fl24_3 (r := oc + 0 * 4 + 3) h fun a w h => ?_
     refine ldH t1_22 (hcc 3 _ rfl) h fun a w h => ?_
     refine au [6,0,6,3,5,0] h ?_; intro a w h
     refine h.spl (fun c98 h => ?_) (fun c98 h => ?_)
     ·exact absurd c98 (by decide)
     ·refine au [0,0,0,7,3,2,6,0,6,3,5,0,0,3] h ?_; intro a w h
      refine cdB h (fun c104 => ?_) (fun c104 => ?_)
      ·exact absurd c104 (by decide)
      ·refine au [1,8,1,0,1,2,0,7] h ?_; intro a w h
       refine ld 7 t1_9 h fun a w h => ?_
       refine eqb h fun a w h => ?_
       refine h.spl (fun c107 h => ?_) (fun c107 h => ?_)
       ·refine au [0,0,0,0,6,2,4,8] h ?_; intro a w h
        refine h.spl (fun c111 h => ?_) (fun c111 h => ?_)
        ·refine au [0,0,0,7] h ?_; intro a w h
         refine ld 7 t1_22 h fun a w h => ?_
         refine ia sli22 sz24 (j := 0) rfl ?_ h fun a w h => ?_
         ·decide
         refine fa fl24_3 (r := oa + 0 * 4 + 3) h fun a w h => ?_
         refine ldH t1_22 (hca 3 _ rfl) h fun a w h => ?_
         refine ia sli22 sz24 (j := 0) rfl ?_ h fun a w h => ?_
         ·decide
         refine fa fl24_1 (r := ob + 0 * 4 + 1) h fun a w h => ?_
         refine ldH t1_9 (hcb 1 _ rfl) h fun a w h => ?_
         refine au [6,8,4,8] h ?_; intro a w h
         refine h.spl (fun c122 h => ?_) (fun c122 h => ?_)
         ·refine au [0,0,0,7] h ?_; intro a w h
          refine ld 7 t1_22 h fun a w h => ?_
          refine ia sli22 sz24 (j := 0) rfl ?_ h fun a w h => ?_
          ·decide
          refine fa fl24_3 (r := oa + 0 * 4 + 3) h fun a w h => ?_
          refine ldH t1_22 (hca 3 _ rfl) h fun a w h => ?_
          refine ia sli22 sz24 (j := 1) rfl ?_ h fun a w h => ?_
          ·decide
          refine fa fl24_1 (r := ob + 1 * 4 + 1) h fun a w h => ?_
          refine ldH t1_9 (hcb2 1 _ rfl) h fun a w h => ?_
          refine au [6,8,4,8] h ?_; intro a w h
          refine h.spl (fun c133 h => ?_) (fun c133 h => ?_)
          ·refine au [0,0,0,7] h ?_; intro a w h
           refine ld 6 t1_9 h fun a w h => ?_
           refine au [6,8,4,8] h ?_; intro a w h
           refine h.spl (fun c138 h => ?_) (fun c138 h => ?_)
           ·refine au [0,0,0,0,6,2,4,8] h ?_; intro a w h
            refine h.spl (fun c142 h => ?_) (fun c142 h => ?_)
            ·refine au [0,0,0,7] h ?_; intro a w h
             refine ld 6 t1_22 h fun a w h => ?_
             refine ia sli22 sz24 (j := 0) rfl ?_ h fun a w h => ?_
             ·decide
             refine fa fl24_3 (r := oc + 0 * 4 + 3) h fun a w h => ?_
             refine ldH t1_22 (hcc 3 _ rfl) h fun a w h => ?_
             refine ia sli22 sz24 (j := 0) rfl ?_ h fun a w h => ?_
             ·decide
             refine fa fl24_1 (r := od + 0 * 4 + 1) h fun a w h => ?_
             refine ldH t1_9 (hcd 1 _ rfl) h fun a w h => ?_
             refine au [6,8,4,8] h ?_; intro a w h
             refine h.spl (fun c153 h => ?_) (fun c153 h => ?_)
             ·refine mv h fun a w h => ?_
              refine ldW 6 tN24 h fun a w h => ?_
              refine cl bod9 (Count_ok (.mk 3 [45, 49] 0 [.mk 3 [48] 0 [.mk 2 [48] 0 []]]) _ E H68 _ ⟨_, _, rfl, KS.up hk29 (leHc.trans l_Hc_H68)⟩ (by decide)) h fun r156 H156 L156 a w le156 R h => ?_
              obtain ⟨rfl, rfl, rfl⟩ := R
              refine au [6,2,4,8] h ?_; intro a w h
              refine h.spl (fun c158 h => ?_) (fun c158 h => ?_)
              ·refine au [0,0,0,0,6,2,4,8] h ?_; intro a w h
               refine h.spl (fun c162 h => ?_) (fun c162 h => ?_)
               ·refine au [0,0,0,7,3,2] h ?_; intro a w h
                refine ia sli26 sz61 (j := 0) rfl ?_ h fun a w h => ?_
                ·decide
                refine fa fl61_1 (r := oe + 0 * 5 + 1) h fun a w h => ?_
                refine fa fl24_1 (r := oe + 0 * 5 + 2) h fun a w h => ?_
                refine ldH t1_9 (hce 2 _ rfl) h fun a w h => ?_
                refine au [6,8,4,8] h ?_; intro a w h
                refine h.spl (fun c171 h => ?_) (fun c171 h => ?_)
                ·refine au [0,0,0,7,0,7,3,2,6,8,4,8] h ?_; intro a w h
                 refine h.spl (fun c177 h => ?_) (fun c177 h => ?_)
                 ·refine au [0,0,0,0,6,2,4,8] h ?_; intro a w h
                  refine h.spl (fun c181 h => ?_) (fun c181 h => ?_)
                  ·refine au [0,0,0,0,6,2,4,8] h ?_; intro a w h
                   refine h.spl (fun c185 h => ?_) (fun c185 h => ?_)
                   ·refine au [0,0,0,0,6,2,4,8,0,6,0,3,1,3] h ?_; intro a w h
                    have h := h.del 7
                    have h := h.del 6
                    have h := h.del 5
                    have h := h.del 4
                    have h := h.del 3
                    have h := h.del 2
                    have h := h.del 1
                    have h := h.del 0
                    refine fin1 0 0 h ((l_H_H29.trans leHc).trans l_Hc_H68) ?_
                    exact ⟨rfl, rfl⟩
                   ·exact absurd c185 (by decide)
                  ·exact absurd c181 (by decide)
                 ·exact absurd c177 (by decide)
                ·exact absurd c171 (by decide)
               ·exact absurd c162 (by decide)
              ·exact absurd c158 (by decide)
             ·exact absurd c153 (by decide)
            ·exact absurd c142 (by decide)
           ·exact absurd c138 (by decide)
          ·exact absurd c133 (by decide)
         ·exact absurd c122 (by decide)
        ·exact absurd c111 (by decide)
       ·exact absurd c107 (by decide)
def RP (H : GH) (cs : List Value) (p : Pg) : Prop := ∃ A1 c1 A2 c2 A3 c3 A4 c4,
 cs = [.slice A1 p.inputs.length c1, .slice A2 p.cells.length c2, .slice A3 p.defs.length c3, .int .i64 p.body.kind, str p.body.name, .int .i64 p.body.n, .slice A4 p.body.kids.length c4] ∧
 CS H A1 c1 p.inputs ∧ CS H A2 c2 p.cells ∧ FS H A3 c3 p.defs ∧ KS H A4 c4 p.body.kids
theorem RP.mono {H H' : GH} (hl : LE H H') {cs : List Value} {p : Pg} (h : RP H cs p) : RP H' cs p :=
 let ⟨A1, c1, A2, c2, A3, c3, A4, c4, h0, h1, h2, h3, h4⟩ := h; ⟨A1, c1, A2, c2, A3, c3, A4, c4, h0, h1.up hl, h2.up hl, h3.up hl, h4.up hl⟩
theorem rp_of {H : GH} {cs : List Value} {p : Pg} (h : VP H (.agg cs.toArray) p) : RP H cs p := by
 obtain ⟨A1, c1, A2, c2, A3, c3, A4, c4, e, h1, h2, h3, h4⟩ := h
 refine ⟨A1, c1, A2, c2, A3, c3, A4, c4, ?_, h1, h2, h3, h4⟩
 have t3 := congrArg (fun v => match v with | .agg a => a.toList | _ => []) e
 simp at t3
 exact t3
abbrev PS (H : GH) (A : Option Addr) (c : Nat) (xs : List Pg) : Prop := RS RP 7 H (.slice A xs.length c) xs
theorem PS.up {H H' : GH} {A : Option Addr} {c : Nat} {xs : List Pg} (h : PS H A c xs) (hl : LE H H') : PS H' A c xs := RS.mono h hl fun _ x _ h => RP.mono hl h
theorem PS.get {H : GH} {A : Option Addr} {c : Nat} {xs : List Pg} (h : PS H A c xs) {j : Nat} (hj : j < xs.length) :
   ∃ g off A1 c1 A2 c2 A3 c3 A4 c4, A = some ⟨g, off, none⟩ ∧ VP H (.agg #[.slice A1 xs[j].inputs.length c1, .slice A2 xs[j].cells.length c2, .slice A3 xs[j].defs.length c3, .int .i64 xs[j].body.kind, str xs[j].body.name, .int .i64 xs[j].body.n, .slice A4 xs[j].body.kids.length c4]) xs[j] ∧
     ∀ i u, [.slice A1 xs[j].inputs.length c1, .slice A2 xs[j].cells.length c2, .slice A3 xs[j].defs.length c3, .int .i64 xs[j].body.kind, str xs[j].body.name, .int .i64 xs[j].body.n, .slice A4 xs[j].body.kids.length c4][i]? = some u → Hc H g (off + j * 7 + i) u := by
 obtain ⟨g, off, cs, hA, hl, hr, hc⟩ := RS.at_ h (List.getElem?_eq_getElem hj)
 obtain ⟨A1, c1, A2, c2, A3, c3, A4, c4, rfl, h1, h2, h3, h4⟩ := hr
 exact ⟨g, off, A1, c1, A2, c2, A3, c3, A4, c4, hA, ⟨A1, c1, A2, c2, A3, c3, A4, c4, rfl, h1, h2, h3, h4⟩, hc⟩
theorem go_sizes {p : Pg} : ∀ {m : Nat} {ds : List Df} {n : Int}, p.go m = some (ds, n) → m ≤ p.defs.length → ds.map (·.t.size) = (p.defs.take m).map (·.t.size)
 | 0, ds, n, h, _ => by simp [Pg.go] at h; simp [← h.1]
 | m + 1, ds, n, h, hm => by
   have hlt : m < p.defs.length := by omega
   simp only [Pg.go, List.getElem?_eq_getElem hlt] at h
   cases h1 : p.go m with
   | none => rw [h1] at h; cases h
   | some q =>
     obtain ⟨ds', n'⟩ := q
     rw [h1] at h
     simp only at h
     split at h
     · cases h
     · simp only [Option.some.injEq, Prod.mk.injEq] at h
       rw [← h.1, List.map_append, go_sizes h1 (by omega), map_take_succ hlt]
       simp [ren_size]
theorem tight_zero : Tight Pg.zero := ⟨by simp [Pg.zero], by simp [Pg.zero], by simp [Pg.zero], fun d hd => by simp [Pg.zero] at hd, by simp [Pg.zero, Tm.size, sizeL]⟩
theorem tight_resolve {p : Pg} (h : Tight p) : Tight p.resolve.1 := by
 unfold Pg.resolve
 split
 · exact tight_zero
 split
 · exact tight_zero
 split
 · exact tight_zero
 · rename_i ds n hg
   split
   · exact tight_zero
   · have e := go_sizes hg (Nat.le_refl _)
     rw [List.take_length] at e
     refine ⟨h.li, h.lc, ?_, fun d hd => ?_, ?_⟩
     · have := congrArg List.length e; simp at this; show ds.length ≤ _; rw [this]; exact h.lf
     · have hm : d.t.size ∈ ds.map (·.t.size) := List.mem_map.2 ⟨d, hd, rfl⟩
       rw [e] at hm
       obtain ⟨d', hd', e'⟩ := List.mem_map.1 hm
       rw [← e']; exact h.f d' hd'
     · show (p.body.ren _ n).1.size ≤ _; rw [ren_size]; exact h.b
theorem Made.tight {p : Pg} (h : Made p) : Tight p := ⟨by have := h.li; omega, by have := h.lc; omega, by have := h.lf; omega, fun d hd => by have := (h.f d hd).2.1; omega, by have := h.b.1; omega⟩
theorem ne_f {a b : Int} (h : a = b) : (a != b) = false := by subst h; simp
theorem tells_ok (t : Tm) (next : Int) (p : Pg) (l : List UInt8) (n : Nat) (v v2 : Value) (A : Option Addr) (c : Nat) (E : World) (H : GH) (L : List It) (hv : VT H v t) (hv2 : VP H v2 p) (hl : US H A c l) (hn : In64 next) (hsz : t.size ≤ 1048576) (hM : Mild p) (hT : Tight p) (hb : l.length < 1000000000000) (hn2 : n < 256) (hL : Laid H) :
   Ok Tryz.prog 3 #[v, .int .i64 next, v2, .slice A l.length c, .int .u8 (n : Int)] E H L fun r H' L' => r = .bool true ∧ L = L' := by
 obtain ⟨At0, ct0, rfl, ht0⟩ := hv
 obtain ⟨Ap0, cp0, Ap1, cp1, Ap2, cp2, Ap3, cp3, rfl, hp0, hp1, hp2, hp3⟩ := hv2
 refine enter (N := 89) [(0, _), (1, _), (2, _), (3, _), (4, _)] Tryz.func3 rfl rfl rfl rfl fun a w h => ?_
 refine au [1,2] h ?_
 refine bxA h fun g5 a w h => ?_
 refine bxA h fun g7 a w h => ?_
 refine au [0,6,0,2] h ?_; intro a w h
 refine cl bod4 (examples_ok E H _ (hL.up LE.rfl)) h (fun r22 H22 L22 a w le22 R h => ?_)
 obtain ⟨rfl, hl22⟩ := R
 subst L22
 refine au [0,6,0,3,0,4,1,2,0,0,7,1,0,3,2,1,1,8,1,0,1,2,3,4,0,0] h ?_; intro a w h
 refine cl bod5 (Rename_ok t _ next E H22 _ ⟨At0, ct0, rfl, (KS.up ht0 le22)⟩ (hL.up le22) (by first | assumption | omega) (by first | assumption | omega)) h (fun r28 H28 L28 a w le28 R h => ?_)
 obtain ⟨_, rfl, ⟨A28_0_0, c28_0_0, rfl, hk28_0_0⟩, hl28⟩ := R
 subst L28
 refine au [0,0,4,7,4,7] h ?_; intro a w h
 refine al zr24 h fun g12 a w h => ?_
 refine au [5,5,0,6,0,2,3,5] h ?_; intro a w h
 have l_H_H28 : LE H H28 := le22.trans le28
 refine cl bod7 (refTerm_ok t _ E H28 _ ⟨At0, ct0, rfl, (KS.up ht0 l_H_H28)⟩ (by omega)) h (fun r33 H33 L33 a w le33 R h => ?_)
 obtain ⟨⟨A33_0, c33_0, rfl, hk33_0⟩, rfl⟩ := R
 refine mv h fun a w h => ?_
 refine cl bod6 (Rename7_ok t next _ E H33 _ ⟨A33_0, c33_0, rfl, hk33_0⟩ hn (by omega)) h (fun r35 H35 L35 a w le35 R h => ?_)
 obtain ⟨_, rfl, ⟨A35_0_0, c35_0_0, rfl, hk35_0_0⟩, rfl⟩ := R
 refine au [0,0,4,7,4,7] h ?_; intro a w h
 refine al zr35 h fun g14 a w h => ?_
 refine au [5,5,0,6,0,3,0,4,0,4] h ?_; intro a w h
 refine rgx [1, 0, 3] [_, _, _] [0, 2, 11, 13] 18 mix h (fun a w h => ?_)
 refine au [8,0,4,5,2,6,8,2,4,6,2,6] h ?_; intro a w h
 refine bg1 1 true h ?_
 have l_H28_H35 : LE H28 H35 := le33.trans le35
 refine clG bod7 (refTerm_ok ((t.ren noS next).1) _ E H35 _ ⟨A28_0_0, c28_0_0, rfl, (KS.up hk28_0_0 l_H28_H35)⟩ (by rw [ren_size]; omega)) h (fun r39 H39 L39 a w le39 R h => ?_)
 obtain ⟨⟨A39_0, c39_0, rfl, hk39_0⟩, rfl⟩ := R
 refine br0 ?_
 refine bg1 3 true h ?_
 refine clG bod8 (SameR_ok ((t.ren noS next).1) ((t.ren (lookR []) next).1) _ _ E H39 _ ⟨A39_0, c39_0, rfl, hk39_0⟩ ⟨A35_0_0, c35_0_0, rfl, (KS.up hk35_0_0 le39)⟩ (by rw [ren_size]; omega)) h (fun r41 H41 L41 a w le41 R h => ?_)
 obtain ⟨rfl, rfl, rfl⟩ := R
 rw [show ((((t.ren noS next).1).same ((t.ren (lookR []) next).1))) = true from (same_iff _ _).2 rfl] at h
 refine au [2,7,8,4,7,1,2,6,8,5,0,0,2,6,8,6,0,0,2,6,8,7,0,0,2,6,8,8,6,3] h ?_; intro a w h
 rw [show (((t.ren noS next).2 : Int) != (t.ren (lookR []) next).2) = false from ne_f rfl] at h
 refine au [2,6,8,9,5,0,2,6,8,10,0,0,2,6,8,11] h ?_; intro a w h
 refine ldWT 2 tN24 h fun a w h => ?_
 refine au [2,6,8,13] h ?_
 refine ldWT 2 tN24 h fun a w h => ?_
 refine tk0 ?_
 refine bg1 12 true h ?_
 have l_H_H39 : LE H H39 := (((le22.trans le28).trans le33).trans le35).trans le39
 refine clG bod9 (Count_ok t _ E H39 _ ⟨At0, ct0, rfl, (KS.up ht0 l_H_H39)⟩ (by omega)) h (fun r50 H50 L50 a w le50 R h => ?_)
 obtain ⟨rfl, rfl, rfl⟩ := R
 refine br0 ?_
 refine bg1 14 true h ?_
 refine clG bod7 (refTerm_ok t _ E H39 _ ⟨At0, ct0, rfl, (KS.up ht0 l_H_H39)⟩ (by omega)) h (fun r52 H52 L52 a w le52 R h => ?_)
 obtain ⟨⟨A52_0, c52_0, rfl, hk52_0⟩, rfl⟩ := R
 refine br0 ?_
 refine bg1 15 true h ?_
 refine clG bod10 (CountR_ok t _ E H52 _ ⟨A52_0, c52_0, rfl, hk52_0⟩ (by omega)) h (fun r53 H53 L53 a w le53 R h => ?_)
 obtain ⟨rfl, rfl, rfl⟩ := R
 refine au [2,7,8,16,6,3] h ?_; intro a w h
 rw [show (((t.count : Int) : Int) != (t.count : Int)) = false from ne_f rfl] at h
 refine au [2,6,8,17,5,0,2,6] h ?_; intro a w h
 refine en (by kernel_rfl) ?_
 refine au [1,0,2,1,1,8,1,0,0,4,0,4] h ?_
 refine rgx [2] [_] [0] 7 mix h (fun a w h => ?_)
 refine au [8,0,4,5,2,6,8,1,0,0,2,6,8,2,0,0,2,6,8,6,0,0,2,6] h ?_; intro a w h
 refine bg1 3 true h ?_
 have l_H_H52 : LE H H52 := ((((le22.trans le28).trans le33).trans le35).trans le39).trans le52
 refine clG bod11 (program_ok l n _ _ E H52 _ (US.up hl l_H_H52) hb hn2) h (fun r59 H59 L59 a w le59 R h => ?_)
 obtain ⟨p59, hw59, ⟨A59_0, c59_0, A59_1, c59_1, A59_2, c59_2, A59_3, c59_3, rfl, hk59_0, hk59_1, hk59_2, hk59_3⟩, rfl⟩ := R
 refine br0 ?_
 refine bf1 4 ?_
 refine bsl bs43 h fun g60 a w h => ?_
 have l_H_H59 : LE H H59 := (((((le22.trans le28).trans le33).trans le35).trans le39).trans le52).trans le59
 obtain ⟨Hq60, leHq60, h, hsHq60⟩ := h.fsl (R := RP) (sz := 7) (ys := [p, p59]) 0 (RowR.cons rfl (rp_of (cs := [_, _, _, _, _, _, _]) ⟨_, _, _, _, _, _, _, _, rfl, (CS.up hp0 l_H_H59), (CS.up hp1 l_H_H59), (FS.up hp2 l_H_H59), (KS.up hp3 l_H_H59)⟩) (RowR.one rfl (rp_of (cs := [_, _, _, _, _, _, _]) ⟨_, _, _, _, _, _, _, _, rfl, hk59_0, hk59_1, hk59_2, hk59_3⟩))) (fun _ l cs y _ hr => RP.mono l hr)
 have hpm : ∀ x ∈ [p, p59], Mild x ∧ Tight x := by intro x hx; simp only [List.mem_cons, List.not_mem_nil, or_false] at hx; rcases hx with rfl | rfl; exact ⟨hM, hT⟩; exact ⟨hw59.mild, hw59.tight⟩
 refine au [2,7,8,5,6,0,2,6] h ?_; intro a w h
 refine en (by kernel_rfl) ?_
 refine au [1,0,1,5] h ?_
 have h := h.del 0
 have h := h.del 0
 have h := h.del 0
 have h := h.del 0
 refine lp (β := Nat × GH) (fun x a w => match x with | (k, HL0) => ((k ≤ [p, p59].length) ∧ (LE Hq60 HL0)) ∧ S E HL0 89 [] [(11, .bool true), (60, .slice (some ⟨g60, 0, none⟩) ([p, p59]).length 2), (61, .int .i64 (([p, p59]).length : Int)), (62, .int .i64 (k : Int))] (L) a w)
  (fun x => match x with | (k, HL0) => [p, p59].length - k) (0, Hq60) ⟨⟨Nat.zero_le _, LE.rfl⟩, h.to 0 _⟩ ?_
 rintro ⟨k, HL0⟩ a w ⟨⟨hk, leHL0⟩, h⟩
 have hk2 : ([p, p59]).length = 2 := rfl
 refine au [1,2,6,4,0,3,0,4] h ?_; intro a w h
 refine cdB h (fun c63 => ?_) (fun c63 => ?_)
 ·have d63 : k < ([p, p59]).length := cd_ c63
  refine au [1,8,1,0,0,4,1,5,1,2] h ?_
  have hj64 : k < ([p, p59]).length := d63
  obtain ⟨g64, o64, A64_0, c64_0, A64_1, c64_1, A64_2, c64_2, A64_3, c64_3, e64, hv64, hc64⟩ := PS.get (PS.up hsHq60 leHL0) hj64
  obtain ⟨_, _, _, _, _, _, _, _, q64, hk64_0, hk64_1, hk64_2, hk64_3⟩ := hv64; cases q64
  refine iaE sli43 sz28 rfl hj64 e64 h fun a w h => ?_
  refine ldHN tN28 rfl hc64 h fun a w h => ?_
  obtain ⟨pk, hxpk⟩ : ∃ z, z = ([p, p59])[k] := ⟨_, rfl⟩
  rw [← hxpk] at h hk64_0 hk64_1 hk64_2 hk64_3
  have hmx : Mild pk ∧ Tight pk := by rw [hxpk]; exact hpm _ (List.getElem_mem hj64)
  have htr := tight_resolve hmx.2
  refine al zr28 h fun g17 a w h => ?_
  refine au [5,5,0,2,3,3] h ?_; intro a w h
  refine cl bod12 (Resolve_ok (pk) _ E HL0 _ ⟨A64_0, c64_0, A64_1, c64_1, A64_2, c64_2, A64_3, c64_3, rfl, hk64_0, hk64_1, hk64_2, hk64_3⟩ (hL.up le_) hmx.1) h (fun r68 H68 L68 a w le68 R h => ?_)
  obtain ⟨_, rfl, ⟨A68_0_0, c68_0_0, A68_0_1, c68_0_1, A68_0_2, c68_0_2, A68_0_3, c68_0_3, rfl, hk68_0_0, hk68_0_1, hk68_0_2, hk68_0_3⟩, hl68⟩ := R
  subst L68
  refine au [0,0,4,7,4,7] h ?_; intro a w h
  refine al zr28 h fun g18 a w h => ?_
  refine au [5,5,0,6,0,2,3,4] h ?_; intro a w h
  refine cl bod14 (refProg_ok (pk) _ E H68 _ ⟨A64_0, c64_0, A64_1, c64_1, A64_2, c64_2, A64_3, c64_3, rfl, (CS.up hk64_0 le68), (CS.up hk64_1 le68), (FS.up hk64_2 le68), (KS.up hk64_3 le68)⟩ (by have := hmx.2.li; omega) (by have := hmx.2.lc; omega) (by have := hmx.2.lf; omega) (fun d hd => by have := hmx.2.f d hd; omega) (by have := hmx.2.b; omega)) h (fun r73 H73 L73 a w le73 R h => ?_)
  obtain ⟨⟨A73_0, c73_0, A73_1, c73_1, A73_2, c73_2, A73_3, c73_3, rfl, hk73_0, hk73_1, hk73_2, hk73_3⟩, rfl⟩ := R
  refine cl bod13 (Resolve7_ok (pk) _ E H73 _ ⟨A73_0, c73_0, A73_1, c73_1, A73_2, c73_2, A73_3, c73_3, rfl, hk73_0, hk73_1, hk73_2, hk73_3⟩ hmx.1 (by have := hmx.2.li; omega) (by have := hmx.2.lc; omega) (by have := hmx.2.lf; omega) (fun d hd => by have := hmx.2.f d hd; omega) (by have := hmx.2.b; omega)) h (fun r74 H74 L74 a w le74 R h => ?_)
  obtain ⟨_, rfl, ⟨A74_0_0, c74_0_0, A74_0_1, c74_0_1, A74_0_2, c74_0_2, A74_0_3, c74_0_3, rfl, hk74_0_0, hk74_0_1, hk74_0_2, hk74_0_3⟩, rfl⟩ := R
  refine au [0,0,4,7,4,7] h ?_; intro a w h
  refine al zr50 h fun g20 a w h => ?_
  refine au [5,5,0,6,0,3,0,4] h ?_; intro a w h
  refine rgx [1, 0] [_, _] [0, 2] 10 mix h (fun a w h => ?_)
  refine au [8,0,4,5,2,6,8,2,4,6,2,6] h ?_; intro a w h
  refine bg1 1 true h ?_
  have l_H68_H74 : LE H68 H74 := le73.trans le74
  refine clG bod14 (refProg_ok ((pk).resolve.1) _ E H74 _ ⟨A68_0_0, c68_0_0, A68_0_1, c68_0_1, A68_0_2, c68_0_2, A68_0_3, c68_0_3, rfl, (CS.up hk68_0_0 l_H68_H74), (CS.up hk68_0_1 l_H68_H74), (FS.up hk68_0_2 l_H68_H74), (KS.up hk68_0_3 l_H68_H74)⟩ (by have := htr.li; omega) (by have := htr.lc; omega) (by have := htr.lf; omega) (fun d hd => by have := htr.f d hd; omega) (by have := htr.b; omega)) h (fun r78 H78 L78 a w le78 R h => ?_)
  obtain ⟨⟨A78_0, c78_0, A78_1, c78_1, A78_2, c78_2, A78_3, c78_3, rfl, hk78_0, hk78_1, hk78_2, hk78_3⟩, rfl⟩ := R
  refine br0 ?_
  refine bg1 3 true h ?_
  refine clG bod15 (Same6_ok ((pk).resolve.1) ((pk).resolve.1) _ _ E H78 _ ⟨A78_0, c78_0, A78_1, c78_1, A78_2, c78_2, A78_3, c78_3, rfl, hk78_0, hk78_1, hk78_2, hk78_3⟩ ⟨A74_0_0, c74_0_0, A74_0_1, c74_0_1, A74_0_2, c74_0_2, A74_0_3, c74_0_3, rfl, (CS.up hk74_0_0 le78), (CS.up hk74_0_1 le78), (FS.up hk74_0_2 le78), (KS.up hk74_0_3 le78)⟩ (by have := htr.li; omega) (by have := htr.lc; omega) (by have := htr.lf; omega) (fun d hd => by have := htr.f d hd; omega) (by have := htr.b; omega)) h (fun r80 H80 L80 a w le80 R h => ?_)
  obtain ⟨⟨b80, rfl, hb80⟩, rfl, rfl⟩ := R
  obtain rfl := hb80 rfl
  refine au [2,7,8,4,7,1,2,6,8,5,0,0,2,6,8,6,0,0,2,6,8,7,0,0,2,6,8,8,6,3] h ?_; intro a w h
  rw [show (((pk).resolve.2 : Int) != (pk).resolve.2) = false from ne_f rfl] at h
  refine au [2,6,8,9,5,0,2,6] h ?_; intro a w h
  refine en (by kernel_rfl) ?_
  refine au [1,0,2,1,1,8,1,7,1,0,0,5] h ?_
  refine inc ?_ h fun a w h => ?_
  ·omega
  refine au [0,0,0,3] h ?_; intro a w h
  have h := h.del 0
  have h := h.del 0
  have h := h.del 0
  have l_Hq60_H78 : LE Hq60 H78 := (((leHL0.trans le68).trans le73).trans le74).trans le78
  exact ⟨((k + 1), H78), ⟨⟨by omega, l_Hq60_H78⟩, h.to 0 _⟩, by show _ - (k + 1) < _ - k; omega⟩
 ·have d63 : ([p, p59]).length ≤ k := cd_ c63
  refine au [2,5,2,2,2,2,2,3,1,0,1,2,0,0,0,6,0,3,1,3] h ?_; intro a w h
  have l_H_HL0 : LE H HL0 := (((((((le22.trans le28).trans le33).trans le35).trans le39).trans le52).trans le59).trans leHq60).trans leHL0
  refine fin1 10 0 h l_H_HL0 ?_
  exact ⟨rfl, rfl⟩
end Go.Proofs.YtdabamobjciidaaGreatDoor
namespace Go.Proofs.YtdabamobjciidaaGreatDoor.tells
open Go X Go.ChangeShapes Go.WideShapes Go.ChangeAt Go.RowKit
theorem own : ownKnob Tryz.prog.godebug = none := by kernel_rfl
theorem contract (H : Type) (enc : TypeId × Value → H) (W : World) (base : Nat) (args : Array Value) (ds gs : List (DataW H)) (before : List MemPlace)
   (hval : ∀ (j : Nat) t v, Tryz.f3.params[j]? = some t → args[j]? = some v → Value.okWide Tryz.prog W .any base t v)
   (hW : DataW.Whole enc Tryz.prog Tryz.f3.params.toList Rows.scopeTellsSpec.vars false W args.toList ds gs before) (hk : Rows.uptoSmall H (ds ++ gs) = true) (hL : laidMetH Tryz.prog Rows.scopeTellsUptoRow.laid W) :
   Calls Tryz.prog 3 args W fun e W' => ∃ v, e = .returned v ∧ Rows.scopeTellsSpec.post enc Tryz.prog Tryz.f3 false true false false W args v W' := by
 have hW' := hW
 obtain ⟨p, q, hA, hV, rfl, hfz, hnd⟩ := hW
 rw [show Tryz.f3.params = #[24, 3, 28, 29, 5] from rfl] at hA hval
 obtain ⟨v0, vs0, d0, ds0, p0, q0, ha0, rfl, rfl, h0, r0⟩ := trodAll_cons hA
 obtain ⟨v1, vs1, d1, ds1, p1, q1, ha1, rfl, rfl, h1, r1⟩ := trodAll_cons r0
 obtain ⟨v2, vs2, d2, ds2, p2, q2, ha2, rfl, rfl, h2, r2⟩ := trodAll_cons r1
 obtain ⟨v3, vs3, d3, ds3, p3, q3, ha3, rfl, rfl, h3, r3⟩ := trodAll_cons r2
 obtain ⟨v4, vs4, d4, ds4, p4, q4, ha4, rfl, rfl, h4, r4⟩ := trodAll_cons r3
 obtain ⟨rfl, rfl, rfl⟩ := trodAll_nil r4
 obtain rfl : args = #[v0, v1, v2, v3, v4] := by cases args; simp_all
 have hgs : gs = [] := by
   cases gs with
   | nil => rfl
   | cons g gs => exact (show False from hV).elim
 subst hgs
 have hbulk : Rows.uptoBulkAll [d0, d1, d2, d3, d4] ≤ 1048576 := by simpa [Rows.uptoSmall] using hk
 simp only [Rows.uptoBulkAll] at hbulk
 obtain ⟨fuel0, htr0⟩ := h0
 obtain ⟨fuel1, htr1⟩ := h1
 obtain ⟨fuel2, htr2⟩ := h2
 obtain ⟨fuel3, htr3⟩ := h3
 obtain ⟨fuel4, htr4⟩ := h4
 have hagg0 : ∃ cs, v0 = .agg cs := by
   have hok := (hval 0 24 v0 rfl rfl)
   unfold Value.okWide at hok
   rw [Tryz.underlying24] at hok
   obtain ⟨cs, h, _⟩ := hok
   exact ⟨cs, h⟩
 obtain ⟨cs0, rfl⟩ := hagg0
 obtain ⟨tm0, hRT0, hwt0⟩ := open_tm fuel0 _ (d0, p0) htr0
 have hVT0 : VT (HW W) (.agg cs0) tm0 := by rw [show (Value.agg cs0).cells = cs0 from rfl] at hRT0; have := vt_of_rt hRT0; simpa using this
 replace hwt0 : tm0.wt ≤ Rows.uptoBulk d0 := hwt0
 obtain ⟨n1, rfl, lo1, hi1⟩ := open_int Tryz.underlying3 (cells_int Tryz.underlying3 (hval 1 3 v1 rfl rfl)) htr1
 simp [IntKind.min, IntKind.max, IntKind.signed, IntKind.bits] at lo1 hi1
 have hagg2 : ∃ cs, v2 = .agg cs := by
   have hok := (hval 2 28 v2 rfl rfl)
   unfold Value.okWide at hok
   rw [Tryz.underlying28] at hok
   obtain ⟨cs, h, _⟩ := hok
   exact ⟨cs, h⟩
 obtain ⟨pg2, hVP2, hM2⟩ := open_pgT fuel2 v2 hagg2 (d2, p2) htr2 (by show Rows.uptoBulk d2 ≤ _; omega)
 obtain ⟨A3, c3, l3, rfl, hl3, hb3⟩ := open_u8s (e := 5) Tryz.underlying29 Tryz.underlying5 (by kernel_rfl) (cells_slice Tryz.underlying29 (hval 3 29 v3 rfl rfl)) htr3 (by show Rows.uptoBulk d3 ≤ _; omega)
 obtain ⟨n4, rfl, lo4, hi4⟩ := open_int Tryz.underlying5 (cells_int Tryz.underlying5 (hval 4 5 v4 rfl rfl)) htr4
 obtain ⟨n4, rfl⟩ : ∃ n : Nat, n4 = (n : Int) := ⟨n4.toNat, by simp [IntKind.min, IntKind.max, IntKind.signed, IntKind.bits] at lo4; omega⟩
 simp [IntKind.min, IntKind.max, IntKind.signed, IntKind.bits] at lo4 hi4
 have hlaid : Laid (HW W) := by
   obtain ⟨ps, hv, _⟩ := (hL : laidMet Tryz.prog Rows.scopeTellsUptoRow.laid W)
   exact laid_of hv (by simp [Rows.scopeTellsUptoRow]) (by simp [Rows.scopeTellsUptoRow]) (by simp [Rows.scopeTellsUptoRow]) (by simp [Rows.scopeTellsUptoRow])
 refine (tells_ok tm0 n1 pg2 l3 n4 _ v2 A3 c3 W (HW W) [] hVT0 hVP2 hl3 ⟨lo1, hi1⟩ (by have := size_wt tm0; omega) hM2.1 hM2.2 (by omega) (by omega) hlaid W (st_world W)).mono fun e W' ⟨r, H', L', he, hle, hst, hr, hl⟩ => ?_
 subst hr
 refine ⟨_, he, post_true (by simpa using hW') rfl rfl rfl rfl (below_of hle hst) (by kernel_rfl) (fun t ht => ?_) rfl Tryz.underlying4⟩
 rw [show Tryz.f3.params = #[24, 3, 28, 29, 5] from rfl] at ht
 have ht' : t = 24 ∨ t = 3 ∨ t = 28 ∨ t = 29 ∨ t = 5 := by simpa using ht
 rcases ht' with rfl | rfl | rfl | rfl | rfl <;> exact ⟨by kernel_rfl, of_decide_eq_true (by kernel_rfl)⟩
def valOf : DataW Unit → Value
 | .lit (.int k n) => .int k n
 | .lit (.string s) => str s
 | _ => .bool false
def cellsOf : DataW Unit → Array Value
 | .agg ds => (ds.map valOf).toArray
 | _ => #[]
def lay (i : Nat) (o : Obj) : Obj := match i, o with
 | 1, .cells _ t z => .cells (cellsOf Rows.laid_chancel_term_kids) t z
 | 2, .cells _ t z => .cells (cellsOf Rows.laid_chancel_term_ops) t z
 | 0, .cells _ t z => .cells (cellsOf Rows.laid_internal_strconv_uint64pow10) t z
 | 3, .cells _ t z => .cells (cellsOf Rows.laid_chancel_lex_keys) t z
 | 4, .cells _ t z => .cells (cellsOf Rows.laid_math_bits_deBruijn32tab) t z
 | 5, .cells _ t z => .cells (cellsOf Rows.laid_math_bits_deBruijn64tab) t z
 | _, o => o
noncomputable def laidWorld (os : Os) : World :=
 { World.holding Tryz.prog os ⟨#[], #[], []⟩ with heap := (World.holding Tryz.prog os ⟨#[], #[], []⟩).heap.mapIdx lay }
def arg : Array Value := #[.agg #[.int .i64 0, .string ⟨#[]⟩, .int .i64 0, .slice none 0 0], .int .i64 0, .agg #[.slice none 0 0, .slice none 0 0, .slice none 0 0, .int .i64 0, .string ⟨#[]⟩, .int .i64 0, .slice none 0 0], .slice none 0 0, .int .u8 0]
theorem laid_met (os : Os) : laidMet Tryz.prog Rows.scopeTellsUptoRow.laid ((laidWorld os).forCall (fun _ _ => 0) ⟨#[], arg, []⟩).memory :=
 laidMet_of_run' 8 (by kernel_rfl) (by kernel_rfl)
theorem reads (os : Os) {H : Type} (enc : TypeId × Value → H) : ∃ places, DataW.whole enc Tryz.prog ((laidWorld os).forCall (fun _ _ => 0) ⟨#[], arg, []⟩).memory Tryz.f3.params.toList Rows.scopeTellsSpec.vars false arg.toList 8 = some ([.agg [.lit (.int .i64 0), .lit (.string []), .lit (.int .i64 0), .nil], .lit (.int .i64 0), .agg [.nil, .nil, .nil, .agg [.lit (.int .i64 0), .lit (.string []), .lit (.int .i64 0), .nil]], .nil, .lit (.int .u8 0)], [], places) :=
 ⟨[], by kernel_rfl⟩
theorem liftedUpto (os : Os) (started : os.Started) (H : Type) (enc : TypeId × Value → H) (F : Stop.Interp) :
   ReturnsInHanded {} Tryz.checked os 3 .any ((Rows.OpenSpec.upto Rows.scopeTellsSpec).preRow enc Tryz.prog Tryz.f3 Rows.scopeTellsUptoRow.domain false Rows.scopeTellsUptoRow.laid) (((Rows.OpenSpec.upto Rows.scopeTellsSpec).at F).post enc Tryz.prog Tryz.f3 false true false false) := by
 obtain ⟨places, hx⟩ := reads os enc
 refine returnsInHanded_of_row (C := Tryz.checked) (s := Rows.OpenSpec.upto Rows.scopeTellsSpec) own started (by kernel_rfl) Tryz.func3
   (witness_row_at (enc := enc) (C := Tryz.checked) false (laidWorld os) arg rfl (by kernel_rfl) (by kernel_rfl) (by kernel_rfl)
     (OpenSpec.preRow_of_cond 8 hx (by kernel_rfl) (fun k hk => by cases hk; kernel_rfl) (by kernel_rfl) (laid_met os))) ?_
 intro W base args ds gs before hval hW _ hcond _ hL _ _
 exact contract H enc W base args ds gs before hval hW (hcond _ rfl) hL
theorem andI {a b : Bool} (h : a = true) (k : b = true) : (a && b) = true := by rw [h, k]; rfl
theorem closed : joinedFacts Tryz.prog 3 Tryz.f3 (Rows.OpenSpec.upto Rows.scopeTellsSpec).bare Rows.scopeTellsUptoRow = true := by
 unfold joinedFacts
 repeat (refine andI ?_ ?_)
 all_goals (as_aux_lemma => kernel_rfl)
theorem saidUpto : Rows.ScopeTellsUptoSaid :=
 OpenClaim.holds_of_cond 3 Tryz.f3 rfl rfl rfl rfl rfl rfl rfl ⟨rfl, rfl, rfl, rfl, rfl⟩ rfl rfl rfl rfl rfl (by kernel_rfl) Tryz.func3 closed
   (of_decide_eq_true (by kernel_rfl)) (by unfold Func.isWrapper; first | (rw [if_pos (by decide +kernel)]; kernel_rfl) | (rw [if_neg (by decide +kernel)]; exact ⟨rfl, rfl⟩))
   (fun os started H enc _ F => by rw [OpenClaim.pre_eq_preRow]; exact liftedUpto os started H enc F)
theorem plain (f : FuncId) (fn : Func) (hf : Tryz.pinned.checked.prog.funcNamed "chancel/chancellaw07.ScopeTells" = some f) (hfn : Tryz.pinned.checked.prog.funcs[f]? = some fn) :
   true = Tryz.pinned.checked.prog.looks [] ∧ ∀ (j : Nat) t, fn.params[j]? = some t → Tryz.pinned.checked.prog.wantsStandIn t = false := by
 obtain rfl : f = 3 := Option.some.inj ((show Tryz.prog.funcNamed "chancel/chancellaw07.ScopeTells" = some 3 by kernel_rfl).symm.trans hf) |>.symm
 obtain rfl : fn = Tryz.f3 := (Option.some.inj (Tryz.func3.symm.trans hfn)).symm
 refine ⟨by kernel_rfl, fun j t ht => ?_⟩
 rw [show Tryz.f3.params = #[24, 3, 28, 29, 5] from rfl] at ht
 have ht' : t = 24 ∨ t = 3 ∨ t = 28 ∨ t = 29 ∨ t = 5 := by simpa using Array.mem_of_getElem? ht
 rcases ht' with rfl | rfl | rfl | rfl | rfl <;> exact (show Tryz.prog.wantsStandIn _ = false by kernel_rfl)
theorem cardUpto : Rows.ScopeTellsUptoCardSaid :=
 Claim7.holds_tied_plain_at .later [] _ _ _ _ saidUpto (fun _ h => by cases h) (by kernel_rfl) (fun _ h => by cases h) scopeTellsUpto_row_tie rfl ⟨rfl, rfl⟩ (by kernel_rfl) rfl plain (by kernel_rfl)
end Go.Proofs.YtdabamobjciidaaGreatDoor.tells
