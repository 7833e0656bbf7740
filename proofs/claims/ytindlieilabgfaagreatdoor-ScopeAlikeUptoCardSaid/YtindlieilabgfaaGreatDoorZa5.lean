/- Parts of the proof: W24, W2, W31, W32. -/
import Derived.Test.YtindlieilabgfaaGreatDoorZa4
/- Walk: the law's examples. -/
set_option linter.unusedVariables false
set_option linter.unusedSimpArgs false
set_option linter.unusedSectionVars false
set_option autoImplicit false
set_option relaxedAutoImplicit false
set_option maxRecDepth 10000
set_option maxHeartbeats 8000000
namespace Go.Proofs.YtindlieilabgfaaGreatDoor
open Go X
theorem examples_ok (E : World) (H : GH) (L : List It) (hL : Laid H) : Ok Tryz.prog 9 #[] E H L fun r H' L' => r = .bool true ∧ L' = L := by
  refine enter (N := 190) [] Tryz.func9 rfl rfl rfl rfl fun a w h => ?_
  refine sqr ?_
  refine as_ h fun a w h => ?_
  refine nsr ?_
  refine cl bod30 (of_ok [120] E H _) h (fun r15 H15 L15 a w le15 R h => ?_)
  obtain ⟨rfl, rfl, rfl⟩ := R
  refine cl bod30 (of_ok [121] E H _) h (fun r16 H16 L16 a w le16 R h => ?_)
  obtain ⟨rfl, rfl, rfl⟩ := R
  refine bsl bs22 h fun g17 a w h => ?_
  obtain ⟨HA, leHA, h, hsA⟩ := h.fsl (α := Tm) (R := RT) 0 (ys := [exX, exY]) (RowR.cons (cs := [.int .i64 2, str [120], .int .i64 0, .slice none 0 0]) rfl (rt_leaf 2 [120] 0) (RowR.one (cs := [.int .i64 2, str [121], .int .i64 0, .slice none 0 0]) rfl (rt_leaf 2 [121] 0))) (fun _ l _ y _ hr => RT.mono l y hr)
  have l_H_HA : LE H HA := leHA
  refine bdl lay24 zr24 h fun a w h => ?_
  refine al zr24 h fun g1 a w h => ?_
  refine sw0 tN24 h fun a w h => ?_
  refine nsr ?_
  refine ldW 0 tN24 h fun a w h => ?_
  refine cl bod28 (fun_ok [120] exA _ E HA _ (⟨_, _, rfl, KS.up hsA LE.rfl⟩)) h (fun r21 H21 L21 a w le21 R h => ?_)
  obtain ⟨A21, rfl, hk21, rfl⟩ := R
  have l_H_H21 : LE H H21 := l_H_HA.trans le21
  have l_HA_H21 : LE HA H21 := le21
  refine cl bod10 (Rename_ok (exF exA) _ 3 E H21 _ (⟨_, _, rfl, KS.up hk21 LE.rfl⟩) (hL.up l_H_H21) ⟨by decide, by decide⟩ (by decide)) h fun r22 H22 L22 a w le22 R h => ?_
  obtain ⟨v22, rfl, hv22, rfl⟩ := R
  have e22 : (exF exA).ren noS 3 = (.mk 3 [51] 0 [.mk 4 [] 0 [.mk 2 [51] 0 [], .mk 2 [121] 0 []]], 4) := ex1
  rw [e22] at hv22 h
  obtain ⟨A22, c22, rfl, hk22⟩ := hv22
  have l_H_H22 : LE H H22 := l_H_H21.trans le22
  have l_HA_H22 : LE HA H22 := l_HA_H21.trans le22
  have l_H21_H22 : LE H21 H22 := le22
  refine mv h fun a w h => ?_
  refine ex h fun a w h => ?_
  refine ex h fun a w h => ?_
  refine al zr24 h fun g2 a w h => ?_
  refine sw0 tN24 h fun a w h => ?_
  refine as_ h fun a w h => ?_
  refine nsr ?_
  refine cl bod30 (of_ok [120] E H22 _) h (fun r26 H26 L26 a w le26 R h => ?_)
  obtain ⟨rfl, rfl, rfl⟩ := R
  refine cl bod28 (fun_ok [120] exX _ E H22 _ (⟨none, 0, rfl, RS.nil _ _ _⟩)) h (fun r27 H27 L27 a w le27 R h => ?_)
  obtain ⟨A27, rfl, hk27, rfl⟩ := R
  have l_H_H27 : LE H H27 := l_H_H22.trans le27
  have l_HA_H27 : LE HA H27 := l_HA_H22.trans le27
  have l_H21_H27 : LE H21 H27 := l_H21_H22.trans le27
  have l_H22_H27 : LE H22 H27 := le27
  refine cl bod28 (fun_ok [120] (exF exX) _ E H27 _ (⟨_, _, rfl, KS.up hk27 LE.rfl⟩)) h (fun r28 H28 L28 a w le28 R h => ?_)
  obtain ⟨A28, rfl, hk28, rfl⟩ := R
  have l_H_H28 : LE H H28 := l_H_H27.trans le28
  have l_HA_H28 : LE HA H28 := l_HA_H27.trans le28
  have l_H21_H28 : LE H21 H28 := l_H21_H27.trans le28
  have l_H22_H28 : LE H22 H28 := l_H22_H27.trans le28
  have l_H27_H28 : LE H27 H28 := le28
  refine cl bod10 (Rename_ok (exF (exF exX)) _ (-1) E H28 _ (⟨_, _, rfl, KS.up hk28 LE.rfl⟩) (hL.up l_H_H28) ⟨by decide, by decide⟩ (by decide)) h fun r29 H29 L29 a w le29 R h => ?_
  obtain ⟨v29, rfl, hv29, rfl⟩ := R
  have e29 : (exF (exF exX)).ren noS (-1) = (.mk 3 [45, 49] 0 [.mk 3 [48] 0 [.mk 2 [48] 0 []]], 1) := ex2
  rw [e29] at hv29 h
  obtain ⟨A29, c29, rfl, hk29⟩ := hv29
  have l_H_H29 : LE H H29 := l_H_H28.trans le29
  have l_HA_H29 : LE HA H29 := l_HA_H28.trans le29
  have l_H21_H29 : LE H21 H29 := l_H21_H28.trans le29
  have l_H22_H29 : LE H22 H29 := l_H22_H28.trans le29
  have l_H27_H29 : LE H27 H29 := l_H27_H28.trans le29
  have l_H28_H29 : LE H28 H29 := le29
  refine mv h fun a w h => ?_
  refine ex h fun a w h => ?_
  refine ex h fun a w h => ?_
  refine al zr24 h fun g4 a w h => ?_
  refine sw0 tN24 h fun a w h => ?_
  refine as_ h fun a w h => ?_
  refine nlt ?_
  refine sqc (fun a w => ∃ (Hc : GH) (g6 : Nat) (B1 B3 B4 : Option Addr), LE H29 Hc ∧ CS Hc B1 1 [exD] ∧ FS Hc B3 1 [⟨[102], exF exX⟩] ∧ KS Hc B4 1 [exA] ∧ S E Hc 190 [] [(2, .pointer (some ⟨g2, 0, none⟩)), (3, .int .i64 4), (4, .pointer (some ⟨g4, 0, none⟩)), (5, .int .i64 1), (6, .pointer (some ⟨g6, 0, none⟩))] (.obj g6 (.cells #[.slice B1 1 1, .slice none 0 0, .slice B3 1 1, .int .i64 3, str [120], .int .i64 0, .slice B4 1 1] 28 (0, 0)) :: .obj g4 (.cells #[.int .i64 3, str [45, 49], .int .i64 0, .slice A29 1 c29] 24 (0, 0)) :: .obj g2 (.cells #[.int .i64 3, str [51], .int .i64 0, .slice A22 1 c22] 24 (0, 0)) :: L) a w) ?_ ?_
  ·refine rgx [2] [_] [6] 11 mix h (fun a w h => ?_)
   refine tkl 0 false (by kernel_rfl) ?_
   refine bdl lay72 zr72 h fun a w h => ?_
   refine tk0 ?_
   refine tkl 6 true (by kernel_rfl) ?_
   refine ldWT 0 tN24 h fun a w h => ?_
   refine tk0 ?_
   refine brl3 1 2 9 true true true (by kernel_rfl) (by kernel_rfl) (by kernel_rfl) (by kernel_rfl) (fun _ => h.st.sees' (by first | exact LE.rfl | assumption) (by simp)) ?_ ?_ ?_
   ·refine bsl bs25 h fun g33 a w h => ?_
    refine br0 ?_
    refine brl2 2 9 true true (by kernel_rfl) (by kernel_rfl) (by kernel_rfl) (fun _ => h.st.sees' (by first | exact LE.rfl | assumption) (by simp)) ?_ ?_
    ·refine cl bod30 (of_ok [120] E H29 _) h (fun r34 H34 L34 a w le34 R h => ?_) (hS := fun _ _ _ _ _ le R hw => by obtain ⟨rfl, rfl, rfl⟩ := R; exact hw.sees' (by first | exact le | exact LE.trans (by assumption) le) (by simp))
     obtain ⟨rfl, rfl, rfl⟩ := R
     refine br0 ?_
     refine brl2 3 9 true true (by kernel_rfl) (by kernel_rfl) (by kernel_rfl) (fun _ => h.st.sees' (by first | exact LE.rfl | assumption) (by simp)) ?_ ?_
     ·refine cl bod28 (fun_ok [120] exX _ E H29 _ (⟨none, 0, rfl, RS.nil _ _ _⟩)) h (fun r35 H35 L35 a w le35 R h => ?_) (hS := fun _ _ _ _ _ le R hw => by obtain ⟨_, rfl, _, rfl⟩ := R; exact hw.sees' (by first | exact le | exact LE.trans (by assumption) le) (by simp))
      obtain ⟨A35, rfl, hk35, rfl⟩ := R
      have l_H_H35 : LE H H35 := l_H_H29.trans le35
      have l_HA_H35 : LE HA H35 := l_HA_H29.trans le35
      have l_H21_H35 : LE H21 H35 := l_H21_H29.trans le35
      have l_H22_H35 : LE H22 H35 := l_H22_H29.trans le35
      have l_H27_H35 : LE H27 H35 := l_H27_H29.trans le35
      have l_H28_H35 : LE H28 H35 := l_H28_H29.trans le35
      have l_H29_H35 : LE H29 H35 := le35
      refine br0 ?_
      refine tkl 4 false (by kernel_rfl) ?_
      refine bdl lay68 zr68 h fun a w h => ?_
      refine tk0 ?_
      refine brl3 5 7 9 true false true (by kernel_rfl) (by kernel_rfl) (by kernel_rfl) (by kernel_rfl) (fun _ => h.st.sees' (by first | exact LE.rfl | assumption) (by simp)) ?_ ?_ ?_
      ·refine bsl bs26 h fun g37 a w h => ?_
       refine br0 ?_
       refine brl2 7 9 false true (by kernel_rfl) (by kernel_rfl) (by kernel_rfl) (fun _ => h.st.sees' (by first | exact LE.rfl | assumption) (by simp)) ?_ ?_
       ·refine cl bod28 (fun_ok [120] exA _ E H35 _ (⟨_, _, rfl, KS.up hsA l_HA_H35⟩)) h (fun r39 H39 L39 a w le39 R h => ?_) (hS := fun _ _ _ _ _ le R hw => by obtain ⟨_, rfl, _, rfl⟩ := R; exact hw.sees' (by first | exact le | exact LE.trans (by assumption) le) (by simp))
        obtain ⟨A39, rfl, hk39, rfl⟩ := R
        have l_H_H39 : LE H H39 := l_H_H35.trans le39
        have l_HA_H39 : LE HA H39 := l_HA_H35.trans le39
        have l_H21_H39 : LE H21 H39 := l_H21_H35.trans le39
        have l_H22_H39 : LE H22 H39 := l_H22_H35.trans le39
        have l_H27_H39 : LE H27 H39 := l_H27_H35.trans le39
        have l_H28_H39 : LE H28 H39 := l_H28_H35.trans le39
        have l_H29_H39 : LE H29 H39 := l_H29_H35.trans le39
        have l_H35_H39 : LE H35 H39 := le39
        refine br0 ?_
        refine tkl 8 false (by kernel_rfl) ?_
        refine bdl lay28 zr28 h fun a w h => ?_
        refine tk0 ?_
        refine brl1 9 true (by kernel_rfl) (by kernel_rfl) (fun _ => h.st.sees' (by first | exact LE.rfl | assumption) (by simp)) ?_
        refine al zr28 h fun g6 a w h => ?_
        refine br0 ?_
        refine brl1 10 false (by kernel_rfl) (by kernel_rfl) (fun _ => h.st.sees' (by first | exact LE.rfl | assumption) (by simp)) ?_
        refine sw0 tN28 h fun a w h => ?_
        refine br0 ?_
        refine en (by kernel_rfl) ?_
        refine thN ?_
        obtain ⟨Hx, leHx, h, hx1⟩ := h.fsl (α := Dc) (R := RDc) 2 (ys := [exD]) (RowR.one rfl rfl) (fun _ _ _ _ _ hr => hr)
        have l_H_Hx : LE H Hx := l_H_H39.trans leHx
        have l_HA_Hx : LE HA Hx := l_HA_H39.trans leHx
        have l_H21_Hx : LE H21 Hx := l_H21_H39.trans leHx
        have l_H22_Hx : LE H22 Hx := l_H22_H39.trans leHx
        have l_H27_Hx : LE H27 Hx := l_H27_H39.trans leHx
        have l_H28_Hx : LE H28 Hx := l_H28_H39.trans leHx
        have l_H29_Hx : LE H29 Hx := l_H29_H39.trans leHx
        have l_H35_Hx : LE H35 Hx := l_H35_H39.trans leHx
        have l_H39_Hx : LE H39 Hx := leHx
        obtain ⟨Hy, leHy, h, hx3⟩ := h.fsl (α := Df) (R := RDf) 1 (ys := [⟨[102], exF exX⟩]) (RowR.one rfl ⟨_, rfl, rt_of_ks (KS.up hk35 l_H35_Hx)⟩) (fun _ l _ _ _ hr => RDf.mono l hr)
        have l_H_Hy : LE H Hy := l_H_Hx.trans leHy
        have l_HA_Hy : LE HA Hy := l_HA_Hx.trans leHy
        have l_H21_Hy : LE H21 Hy := l_H21_Hx.trans leHy
        have l_H22_Hy : LE H22 Hy := l_H22_Hx.trans leHy
        have l_H27_Hy : LE H27 Hy := l_H27_Hx.trans leHy
        have l_H28_Hy : LE H28 Hy := l_H28_Hx.trans leHy
        have l_H29_Hy : LE H29 Hy := l_H29_Hx.trans leHy
        have l_H35_Hy : LE H35 Hy := l_H35_Hx.trans leHy
        have l_H39_Hy : LE H39 Hy := l_H39_Hx.trans leHy
        have l_Hx_Hy : LE Hx Hy := leHy
        have h := h.pull 2 rfl rfl
        have h := h.pull 2 rfl rfl
        have h := h.pull 2 rfl rfl
        have h := h.del 3
        exact ⟨_, g6, _, _, _, l_H29_Hy, CS.up hx1 l_Hx_Hy, hx3, KS.up hk39 l_H39_Hy, h.to 0 _⟩
       ·refine al zr28 h fun g6 a w h => ?_
        refine br0 ?_
        refine brl1 7 false (by kernel_rfl) (by kernel_rfl) (fun _ => h.st.sees' (by first | exact LE.rfl | assumption) (by simp)) ?_
        refine cl bod28 (fun_ok [120] exA _ E H35 _ (⟨_, _, rfl, KS.up hsA l_HA_H35⟩)) h (fun r39 H39 L39 a w le39 R h => ?_) (hS := fun _ _ _ _ _ le R hw => by obtain ⟨_, rfl, _, rfl⟩ := R; exact hw.sees' (by first | exact le | exact LE.trans (by assumption) le) (by simp))
        obtain ⟨A39, rfl, hk39, rfl⟩ := R
        have l_H_H39 : LE H H39 := l_H_H35.trans le39
        have l_HA_H39 : LE HA H39 := l_HA_H35.trans le39
        have l_H21_H39 : LE H21 H39 := l_H21_H35.trans le39
        have l_H22_H39 : LE H22 H39 := l_H22_H35.trans le39
        have l_H27_H39 : LE H27 H39 := l_H27_H35.trans le39
        have l_H28_H39 : LE H28 H39 := l_H28_H35.trans le39
        have l_H29_H39 : LE H29 H39 := l_H29_H35.trans le39
        have l_H35_H39 : LE H35 H39 := le39
        refine br0 ?_
        refine tkl 8 false (by kernel_rfl) ?_
        refine bdl lay28 zr28 h fun a w h => ?_
        refine tk0 ?_
        refine brl1 10 false (by kernel_rfl) (by kernel_rfl) (fun _ => h.st.sees' (by first | exact LE.rfl | assumption) (by simp)) ?_
        refine sw0 tN28 h fun a w h => ?_
        refine br0 ?_
        refine en (by kernel_rfl) ?_
        refine thN ?_
        obtain ⟨Hx, leHx, h, hx1⟩ := h.fsl (α := Dc) (R := RDc) 2 (ys := [exD]) (RowR.one rfl rfl) (fun _ _ _ _ _ hr => hr)
        have l_H_Hx : LE H Hx := l_H_H39.trans leHx
        have l_HA_Hx : LE HA Hx := l_HA_H39.trans leHx
        have l_H21_Hx : LE H21 Hx := l_H21_H39.trans leHx
        have l_H22_Hx : LE H22 Hx := l_H22_H39.trans leHx
        have l_H27_Hx : LE H27 Hx := l_H27_H39.trans leHx
        have l_H28_Hx : LE H28 Hx := l_H28_H39.trans leHx
        have l_H29_Hx : LE H29 Hx := l_H29_H39.trans leHx
        have l_H35_Hx : LE H35 Hx := l_H35_H39.trans leHx
        have l_H39_Hx : LE H39 Hx := leHx
        obtain ⟨Hy, leHy, h, hx3⟩ := h.fsl (α := Df) (R := RDf) 1 (ys := [⟨[102], exF exX⟩]) (RowR.one rfl ⟨_, rfl, rt_of_ks (KS.up hk35 l_H35_Hx)⟩) (fun _ l _ _ _ hr => RDf.mono l hr)
        have l_H_Hy : LE H Hy := l_H_Hx.trans leHy
        have l_HA_Hy : LE HA Hy := l_HA_Hx.trans leHy
        have l_H21_Hy : LE H21 Hy := l_H21_Hx.trans leHy
        have l_H22_Hy : LE H22 Hy := l_H22_Hx.trans leHy
        have l_H27_Hy : LE H27 Hy := l_H27_Hx.trans leHy
        have l_H28_Hy : LE H28 Hy := l_H28_Hx.trans leHy
        have l_H29_Hy : LE H29 Hy := l_H29_Hx.trans leHy
        have l_H35_Hy : LE H35 Hy := l_H35_Hx.trans leHy
        have l_H39_Hy : LE H39 Hy := l_H39_Hx.trans leHy
        have l_Hx_Hy : LE Hx Hy := leHy
        have h := h.pull 2 rfl rfl
        have h := h.pull 2 rfl rfl
        have h := h.pull 2 rfl rfl
        have h := h.del 3
        exact ⟨_, g6, _, _, _, l_H29_Hy, CS.up hx1 l_Hx_Hy, hx3, KS.up hk39 l_H39_Hy, h.to 0 _⟩
      ·refine cl bod28 (fun_ok [120] exA _ E H35 _ (⟨_, _, rfl, KS.up hsA l_HA_H35⟩)) h (fun r39 H39 L39 a w le39 R h => ?_) (hS := fun _ _ _ _ _ le R hw => by obtain ⟨_, rfl, _, rfl⟩ := R; exact hw.sees' (by first | exact le | exact LE.trans (by assumption) le) (by simp))
       obtain ⟨A39, rfl, hk39, rfl⟩ := R
       have l_H_H39 : LE H H39 := l_H_H35.trans le39
       have l_HA_H39 : LE HA H39 := l_HA_H35.trans le39
       have l_H21_H39 : LE H21 H39 := l_H21_H35.trans le39
       have l_H22_H39 : LE H22 H39 := l_H22_H35.trans le39
       have l_H27_H39 : LE H27 H39 := l_H27_H35.trans le39
       have l_H28_H39 : LE H28 H39 := l_H28_H35.trans le39
       have l_H29_H39 : LE H29 H39 := l_H29_H35.trans le39
       have l_H35_H39 : LE H35 H39 := le39
       refine br0 ?_
       refine brl2 5 9 true true (by kernel_rfl) (by kernel_rfl) (by kernel_rfl) (fun _ => h.st.sees' (by first | exact LE.rfl | assumption) (by simp)) ?_ ?_
       ·refine bsl bs26 h fun g37 a w h => ?_
        refine br0 ?_
        refine tkl 8 false (by kernel_rfl) ?_
        refine bdl lay28 zr28 h fun a w h => ?_
        refine tk0 ?_
        refine brl1 9 true (by kernel_rfl) (by kernel_rfl) (fun _ => h.st.sees' (by first | exact LE.rfl | assumption) (by simp)) ?_
        refine al zr28 h fun g6 a w h => ?_
        refine br0 ?_
        refine brl1 10 false (by kernel_rfl) (by kernel_rfl) (fun _ => h.st.sees' (by first | exact LE.rfl | assumption) (by simp)) ?_
        refine sw0 tN28 h fun a w h => ?_
        refine br0 ?_
        refine en (by kernel_rfl) ?_
        refine thN ?_
        obtain ⟨Hx, leHx, h, hx1⟩ := h.fsl (α := Dc) (R := RDc) 2 (ys := [exD]) (RowR.one rfl rfl) (fun _ _ _ _ _ hr => hr)
        have l_H_Hx : LE H Hx := l_H_H39.trans leHx
        have l_HA_Hx : LE HA Hx := l_HA_H39.trans leHx
        have l_H21_Hx : LE H21 Hx := l_H21_H39.trans leHx
        have l_H22_Hx : LE H22 Hx := l_H22_H39.trans leHx
        have l_H27_Hx : LE H27 Hx := l_H27_H39.trans leHx
        have l_H28_Hx : LE H28 Hx := l_H28_H39.trans leHx
        have l_H29_Hx : LE H29 Hx := l_H29_H39.trans leHx
        have l_H35_Hx : LE H35 Hx := l_H35_H39.trans leHx
        have l_H39_Hx : LE H39 Hx := leHx
        obtain ⟨Hy, leHy, h, hx3⟩ := h.fsl (α := Df) (R := RDf) 1 (ys := [⟨[102], exF exX⟩]) (RowR.one rfl ⟨_, rfl, rt_of_ks (KS.up hk35 l_H35_Hx)⟩) (fun _ l _ _ _ hr => RDf.mono l hr)
        have l_H_Hy : LE H Hy := l_H_Hx.trans leHy
        have l_HA_Hy : LE HA Hy := l_HA_Hx.trans leHy
        have l_H21_Hy : LE H21 Hy := l_H21_Hx.trans leHy
        have l_H22_Hy : LE H22 Hy := l_H22_Hx.trans leHy
        have l_H27_Hy : LE H27 Hy := l_H27_Hx.trans leHy
        have l_H28_Hy : LE H28 Hy := l_H28_Hx.trans leHy
        have l_H29_Hy : LE H29 Hy := l_H29_Hx.trans leHy
        have l_H35_Hy : LE H35 Hy := l_H35_Hx.trans leHy
        have l_H39_Hy : LE H39 Hy := l_H39_Hx.trans leHy
        have l_Hx_Hy : LE Hx Hy := leHy
        have h := h.pull 2 rfl rfl
        have h := h.pull 2 rfl rfl
        have h := h.pull 2 rfl rfl
        have h := h.del 3
        exact ⟨_, g6, _, _, _, l_H29_Hy, CS.up hx1 l_Hx_Hy, hx3, KS.up hk39 l_H39_Hy, h.to 0 _⟩
       ·refine al zr28 h fun g6 a w h => ?_
        refine br0 ?_
        refine brl1 5 true (by kernel_rfl) (by kernel_rfl) (fun _ => h.st.sees' (by first | exact LE.rfl | assumption) (by simp)) ?_
        refine bsl bs26 h fun g37 a w h => ?_
        refine br0 ?_
        refine tkl 8 false (by kernel_rfl) ?_
        refine bdl lay28 zr28 h fun a w h => ?_
        refine tk0 ?_
        refine brl1 10 false (by kernel_rfl) (by kernel_rfl) (fun _ => h.st.sees' (by first | exact LE.rfl | assumption) (by simp)) ?_
        refine sw1 tN28 h fun a w h => ?_
        refine br0 ?_
        refine en (by kernel_rfl) ?_
        refine thN ?_
        obtain ⟨Hx, leHx, h, hx1⟩ := h.fsl (α := Dc) (R := RDc) 2 (ys := [exD]) (RowR.one rfl rfl) (fun _ _ _ _ _ hr => hr)
        have l_H_Hx : LE H Hx := l_H_H39.trans leHx
        have l_HA_Hx : LE HA Hx := l_HA_H39.trans leHx
        have l_H21_Hx : LE H21 Hx := l_H21_H39.trans leHx
        have l_H22_Hx : LE H22 Hx := l_H22_H39.trans leHx
        have l_H27_Hx : LE H27 Hx := l_H27_H39.trans leHx
        have l_H28_Hx : LE H28 Hx := l_H28_H39.trans leHx
        have l_H29_Hx : LE H29 Hx := l_H29_H39.trans leHx
        have l_H35_Hx : LE H35 Hx := l_H35_H39.trans leHx
        have l_H39_Hx : LE H39 Hx := leHx
        obtain ⟨Hy, leHy, h, hx3⟩ := h.fsl (α := Df) (R := RDf) 0 (ys := [⟨[102], exF exX⟩]) (RowR.one rfl ⟨_, rfl, rt_of_ks (KS.up hk35 l_H35_Hx)⟩) (fun _ l _ _ _ hr => RDf.mono l hr)
        have l_H_Hy : LE H Hy := l_H_Hx.trans leHy
        have l_HA_Hy : LE HA Hy := l_HA_Hx.trans leHy
        have l_H21_Hy : LE H21 Hy := l_H21_Hx.trans leHy
        have l_H22_Hy : LE H22 Hy := l_H22_Hx.trans leHy
        have l_H27_Hy : LE H27 Hy := l_H27_Hx.trans leHy
        have l_H28_Hy : LE H28 Hy := l_H28_Hx.trans leHy
        have l_H29_Hy : LE H29 Hy := l_H29_Hx.trans leHy
        have l_H35_Hy : LE H35 Hy := l_H35_Hx.trans leHy
        have l_H39_Hy : LE H39 Hy := l_H39_Hx.trans leHy
        have l_Hx_Hy : LE Hx Hy := leHy
        have h := h.pull 2 rfl rfl
        have h := h.pull 2 rfl rfl
        have h := h.pull 2 rfl rfl
        have h := h.del 3
        exact ⟨_, g6, _, _, _, l_H29_Hy, CS.up hx1 l_Hx_Hy, hx3, KS.up hk39 l_H39_Hy, h.to 0 _⟩
      ·refine al zr28 h fun g6 a w h => ?_
       refine br0 ?_
       refine brl2 5 7 true false (by kernel_rfl) (by kernel_rfl) (by kernel_rfl) (fun _ => h.st.sees' (by first | exact LE.rfl | assumption) (by simp)) ?_ ?_
       ·refine bsl bs26 h fun g37 a w h => ?_
        refine br0 ?_
        refine brl1 7 false (by kernel_rfl) (by kernel_rfl) (fun _ => h.st.sees' (by first | exact LE.rfl | assumption) (by simp)) ?_
        refine cl bod28 (fun_ok [120] exA _ E H35 _ (⟨_, _, rfl, KS.up hsA l_HA_H35⟩)) h (fun r39 H39 L39 a w le39 R h => ?_) (hS := fun _ _ _ _ _ le R hw => by obtain ⟨_, rfl, _, rfl⟩ := R; exact hw.sees' (by first | exact le | exact LE.trans (by assumption) le) (by simp))
        obtain ⟨A39, rfl, hk39, rfl⟩ := R
        have l_H_H39 : LE H H39 := l_H_H35.trans le39
        have l_HA_H39 : LE HA H39 := l_HA_H35.trans le39
        have l_H21_H39 : LE H21 H39 := l_H21_H35.trans le39
        have l_H22_H39 : LE H22 H39 := l_H22_H35.trans le39
        have l_H27_H39 : LE H27 H39 := l_H27_H35.trans le39
        have l_H28_H39 : LE H28 H39 := l_H28_H35.trans le39
        have l_H29_H39 : LE H29 H39 := l_H29_H35.trans le39
        have l_H35_H39 : LE H35 H39 := le39
        refine br0 ?_
        refine tkl 8 false (by kernel_rfl) ?_
        refine bdl lay28 zr28 h fun a w h => ?_
        refine tk0 ?_
        refine brl1 10 false (by kernel_rfl) (by kernel_rfl) (fun _ => h.st.sees' (by first | exact LE.rfl | assumption) (by simp)) ?_
        refine sw1 tN28 h fun a w h => ?_
        refine br0 ?_
        refine en (by kernel_rfl) ?_
        refine thN ?_
        obtain ⟨Hx, leHx, h, hx1⟩ := h.fsl (α := Dc) (R := RDc) 2 (ys := [exD]) (RowR.one rfl rfl) (fun _ _ _ _ _ hr => hr)
        have l_H_Hx : LE H Hx := l_H_H39.trans leHx
        have l_HA_Hx : LE HA Hx := l_HA_H39.trans leHx
        have l_H21_Hx : LE H21 Hx := l_H21_H39.trans leHx
        have l_H22_Hx : LE H22 Hx := l_H22_H39.trans leHx
        have l_H27_Hx : LE H27 Hx := l_H27_H39.trans leHx
        have l_H28_Hx : LE H28 Hx := l_H28_H39.trans leHx
        have l_H29_Hx : LE H29 Hx := l_H29_H39.trans leHx
        have l_H35_Hx : LE H35 Hx := l_H35_H39.trans leHx
        have l_H39_Hx : LE H39 Hx := leHx
        obtain ⟨Hy, leHy, h, hx3⟩ := h.fsl (α := Df) (R := RDf) 0 (ys := [⟨[102], exF exX⟩]) (RowR.one rfl ⟨_, rfl, rt_of_ks (KS.up hk35 l_H35_Hx)⟩) (fun _ l _ _ _ hr => RDf.mono l hr)
        have l_H_Hy : LE H Hy := l_H_Hx.trans leHy
        have l_HA_Hy : LE HA Hy := l_HA_Hx.trans leHy
        have l_H21_Hy : LE H21 Hy := l_H21_Hx.trans leHy
        have l_H22_Hy : LE H22 Hy := l_H22_Hx.trans leHy
        have l_H27_Hy : LE H27 Hy := l_H27_Hx.trans leHy
        have l_H28_Hy : LE H28 Hy := l_H28_Hx.trans leHy
        have l_H29_Hy : LE H29 Hy := l_H29_Hx.trans leHy
        have l_H35_Hy : LE H35 Hy := l_H35_Hx.trans leHy
        have l_H39_Hy : LE H39 Hy := l_H39_Hx.trans leHy
        have l_Hx_Hy : LE Hx Hy := leHy
        have h := h.pull 2 rfl rfl
        have h := h.pull 2 rfl rfl
        have h := h.pull 2 rfl rfl
        have h := h.del 3
        exact ⟨_, g6, _, _, _, l_H29_Hy, CS.up hx1 l_Hx_Hy, hx3, KS.up hk39 l_H39_Hy, h.to 0 _⟩
       ·refine cl bod28 (fun_ok [120] exA _ E H35 _ (⟨_, _, rfl, KS.up hsA l_HA_H35⟩)) h (fun r39 H39 L39 a w le39 R h => ?_) (hS := fun _ _ _ _ _ le R hw => by obtain ⟨_, rfl, _, rfl⟩ := R; exact hw.sees' (by first | exact le | exact LE.trans (by assumption) le) (by simp))
        obtain ⟨A39, rfl, hk39, rfl⟩ := R
        have l_H_H39 : LE H H39 := l_H_H35.trans le39
        have l_HA_H39 : LE HA H39 := l_HA_H35.trans le39
        have l_H21_H39 : LE H21 H39 := l_H21_H35.trans le39
        have l_H22_H39 : LE H22 H39 := l_H22_H35.trans le39
        have l_H27_H39 : LE H27 H39 := l_H27_H35.trans le39
        have l_H28_H39 : LE H28 H39 := l_H28_H35.trans le39
        have l_H29_H39 : LE H29 H39 := l_H29_H35.trans le39
        have l_H35_H39 : LE H35 H39 := le39
        refine br0 ?_
        refine brl1 5 true (by kernel_rfl) (by kernel_rfl) (fun _ => h.st.sees' (by first | exact LE.rfl | assumption) (by simp)) ?_
        refine bsl bs26 h fun g37 a w h => ?_
        refine br0 ?_
        refine tkl 8 false (by kernel_rfl) ?_
        refine bdl lay28 zr28 h fun a w h => ?_
        refine tk0 ?_
        refine brl1 10 false (by kernel_rfl) (by kernel_rfl) (fun _ => h.st.sees' (by first | exact LE.rfl | assumption) (by simp)) ?_
        refine sw1 tN28 h fun a w h => ?_
        refine br0 ?_
        refine en (by kernel_rfl) ?_
        refine thN ?_
        obtain ⟨Hx, leHx, h, hx1⟩ := h.fsl (α := Dc) (R := RDc) 2 (ys := [exD]) (RowR.one rfl rfl) (fun _ _ _ _ _ hr => hr)
        have l_H_Hx : LE H Hx := l_H_H39.trans leHx
        have l_HA_Hx : LE HA Hx := l_HA_H39.trans leHx
        have l_H21_Hx : LE H21 Hx := l_H21_H39.trans leHx
        have l_H22_Hx : LE H22 Hx := l_H22_H39.trans leHx
        have l_H27_Hx : LE H27 Hx := l_H27_H39.trans leHx
        have l_H28_Hx : LE H28 Hx := l_H28_H39.trans leHx
        have l_H29_Hx : LE H29 Hx := l_H29_H39.trans leHx
        have l_H35_Hx : LE H35 Hx := l_H35_H39.trans leHx
        have l_H39_Hx : LE H39 Hx := leHx
        obtain ⟨Hy, leHy, h, hx3⟩ := h.fsl (α := Df) (R := RDf) 0 (ys := [⟨[102], exF exX⟩]) (RowR.one rfl ⟨_, rfl, rt_of_ks (KS.up hk35 l_H35_Hx)⟩) (fun _ l _ _ _ hr => RDf.mono l hr)
        have l_H_Hy : LE H Hy := l_H_Hx.trans leHy
        have l_HA_Hy : LE HA Hy := l_HA_Hx.trans leHy
        have l_H21_Hy : LE H21 Hy := l_H21_Hx.trans leHy
        have l_H22_Hy : LE H22 Hy := l_H22_Hx.trans leHy
        have l_H27_Hy : LE H27 Hy := l_H27_Hx.trans leHy
        have l_H28_Hy : LE H28 Hy := l_H28_Hx.trans leHy
        have l_H29_Hy : LE H29 Hy := l_H29_Hx.trans leHy
        have l_H35_Hy : LE H35 Hy := l_H35_Hx.trans leHy
        have l_H39_Hy : LE H39 Hy := l_H39_Hx.trans leHy
        have l_Hx_Hy : LE Hx Hy := leHy
        have h := h.pull 2 rfl rfl
        have h := h.pull 2 rfl rfl
        have h := h.pull 2 rfl rfl
        have h := h.del 3
        exact ⟨_, g6, _, _, _, l_H29_Hy, CS.up hx1 l_Hx_Hy, hx3, KS.up hk39 l_H39_Hy, h.to 0 _⟩
     ·refine al zr28 h fun g6 a w h => ?_
      refine br0 ?_
      refine brl1 3 true (by kernel_rfl) (by kernel_rfl) (fun _ => h.st.sees' (by first | exact LE.rfl | assumption) (by simp)) ?_
      refine cl bod28 (fun_ok [120] exX _ E H29 _ (⟨none, 0, rfl, RS.nil _ _ _⟩)) h (fun r35 H35 L35 a w le35 R h => ?_) (hS := fun _ _ _ _ _ le R hw => by obtain ⟨_, rfl, _, rfl⟩ := R; exact hw.sees' (by first | exact le | exact LE.trans (by assumption) le) (by simp))
      obtain ⟨A35, rfl, hk35, rfl⟩ := R
      have l_H_H35 : LE H H35 := l_H_H29.trans le35
      have l_HA_H35 : LE HA H35 := l_HA_H29.trans le35
      have l_H21_H35 : LE H21 H35 := l_H21_H29.trans le35
      have l_H22_H35 : LE H22 H35 := l_H22_H29.trans le35
      have l_H27_H35 : LE H27 H35 := l_H27_H29.trans le35
      have l_H28_H35 : LE H28 H35 := l_H28_H29.trans le35
      have l_H29_H35 : LE H29 H35 := le35
      refine br0 ?_
      refine tkl 4 false (by kernel_rfl) ?_
      refine bdl lay68 zr68 h fun a w h => ?_
      refine tk0 ?_
      refine brl2 5 7 true false (by kernel_rfl) (by kernel_rfl) (by kernel_rfl) (fun _ => h.st.sees' (by first | exact LE.rfl | assumption) (by simp)) ?_ ?_
      ·refine bsl bs26 h fun g37 a w h => ?_
       refine br0 ?_
       refine brl1 7 false (by kernel_rfl) (by kernel_rfl) (fun _ => h.st.sees' (by first | exact LE.rfl | assumption) (by simp)) ?_
       refine cl bod28 (fun_ok [120] exA _ E H35 _ (⟨_, _, rfl, KS.up hsA l_HA_H35⟩)) h (fun r39 H39 L39 a w le39 R h => ?_) (hS := fun _ _ _ _ _ le R hw => by obtain ⟨_, rfl, _, rfl⟩ := R; exact hw.sees' (by first | exact le | exact LE.trans (by assumption) le) (by simp))
       obtain ⟨A39, rfl, hk39, rfl⟩ := R
       have l_H_H39 : LE H H39 := l_H_H35.trans le39
       have l_HA_H39 : LE HA H39 := l_HA_H35.trans le39
       have l_H21_H39 : LE H21 H39 := l_H21_H35.trans le39
       have l_H22_H39 : LE H22 H39 := l_H22_H35.trans le39
       have l_H27_H39 : LE H27 H39 := l_H27_H35.trans le39
       have l_H28_H39 : LE H28 H39 := l_H28_H35.trans le39
       have l_H29_H39 : LE H29 H39 := l_H29_H35.trans le39
       have l_H35_H39 : LE H35 H39 := le39
       refine br0 ?_
       refine tkl 8 false (by kernel_rfl) ?_
       refine bdl lay28 zr28 h fun a w h => ?_
       refine tk0 ?_
       refine brl1 10 false (by kernel_rfl) (by kernel_rfl) (fun _ => h.st.sees' (by first | exact LE.rfl | assumption) (by simp)) ?_
       refine sw1 tN28 h fun a w h => ?_
       refine br0 ?_
       refine en (by kernel_rfl) ?_
       refine thN ?_
       obtain ⟨Hx, leHx, h, hx1⟩ := h.fsl (α := Dc) (R := RDc) 2 (ys := [exD]) (RowR.one rfl rfl) (fun _ _ _ _ _ hr => hr)
       have l_H_Hx : LE H Hx := l_H_H39.trans leHx
       have l_HA_Hx : LE HA Hx := l_HA_H39.trans leHx
       have l_H21_Hx : LE H21 Hx := l_H21_H39.trans leHx
       have l_H22_Hx : LE H22 Hx := l_H22_H39.trans leHx
       have l_H27_Hx : LE H27 Hx := l_H27_H39.trans leHx
       have l_H28_Hx : LE H28 Hx := l_H28_H39.trans leHx
       have l_H29_Hx : LE H29 Hx := l_H29_H39.trans leHx
       have l_H35_Hx : LE H35 Hx := l_H35_H39.trans leHx
       have l_H39_Hx : LE H39 Hx := leHx
       obtain ⟨Hy, leHy, h, hx3⟩ := h.fsl (α := Df) (R := RDf) 0 (ys := [⟨[102], exF exX⟩]) (RowR.one rfl ⟨_, rfl, rt_of_ks (KS.up hk35 l_H35_Hx)⟩) (fun _ l _ _ _ hr => RDf.mono l hr)
       have l_H_Hy : LE H Hy := l_H_Hx.trans leHy
       have l_HA_Hy : LE HA Hy := l_HA_Hx.trans leHy
       have l_H21_Hy : LE H21 Hy := l_H21_Hx.trans leHy
       have l_H22_Hy : LE H22 Hy := l_H22_Hx.trans leHy
       have l_H27_Hy : LE H27 Hy := l_H27_Hx.trans leHy
       have l_H28_Hy : LE H28 Hy := l_H28_Hx.trans leHy
       have l_H29_Hy : LE H29 Hy := l_H29_Hx.trans leHy
       have l_H35_Hy : LE H35 Hy := l_H35_Hx.trans leHy
       have l_H39_Hy : LE H39 Hy := l_H39_Hx.trans leHy
       have l_Hx_Hy : LE Hx Hy := leHy
       have h := h.pull 2 rfl rfl
       have h := h.pull 2 rfl rfl
       have h := h.pull 2 rfl rfl
       have h := h.del 3
       exact ⟨_, g6, _, _, _, l_H29_Hy, CS.up hx1 l_Hx_Hy, hx3, KS.up hk39 l_H39_Hy, h.to 0 _⟩
      ·refine cl bod28 (fun_ok [120] exA _ E H35 _ (⟨_, _, rfl, KS.up hsA l_HA_H35⟩)) h (fun r39 H39 L39 a w le39 R h => ?_) (hS := fun _ _ _ _ _ le R hw => by obtain ⟨_, rfl, _, rfl⟩ := R; exact hw.sees' (by first | exact le | exact LE.trans (by assumption) le) (by simp))
       obtain ⟨A39, rfl, hk39, rfl⟩ := R
       have l_H_H39 : LE H H39 := l_H_H35.trans le39
       have l_HA_H39 : LE HA H39 := l_HA_H35.trans le39
       have l_H21_H39 : LE H21 H39 := l_H21_H35.trans le39
       have l_H22_H39 : LE H22 H39 := l_H22_H35.trans le39
       have l_H27_H39 : LE H27 H39 := l_H27_H35.trans le39
       have l_H28_H39 : LE H28 H39 := l_H28_H35.trans le39
       have l_H29_H39 : LE H29 H39 := l_H29_H35.trans le39
       have l_H35_H39 : LE H35 H39 := le39
       refine br0 ?_
       refine brl1 5 true (by kernel_rfl) (by kernel_rfl) (fun _ => h.st.sees' (by first | exact LE.rfl | assumption) (by simp)) ?_
       refine bsl bs26 h fun g37 a w h => ?_
       refine br0 ?_
       refine tkl 8 false (by kernel_rfl) ?_
       refine bdl lay28 zr28 h fun a w h => ?_
       refine tk0 ?_
       refine brl1 10 false (by kernel_rfl) (by kernel_rfl) (fun _ => h.st.sees' (by first | exact LE.rfl | assumption) (by simp)) ?_
       refine sw1 tN28 h fun a w h => ?_
       refine br0 ?_
       refine en (by kernel_rfl) ?_
       refine thN ?_
       obtain ⟨Hx, leHx, h, hx1⟩ := h.fsl (α := Dc) (R := RDc) 2 (ys := [exD]) (RowR.one rfl rfl) (fun _ _ _ _ _ hr => hr)
       have l_H_Hx : LE H Hx := l_H_H39.trans leHx
       have l_HA_Hx : LE HA Hx := l_HA_H39.trans leHx
       have l_H21_Hx : LE H21 Hx := l_H21_H39.trans leHx
       have l_H22_Hx : LE H22 Hx := l_H22_H39.trans leHx
       have l_H27_Hx : LE H27 Hx := l_H27_H39.trans leHx
       have l_H28_Hx : LE H28 Hx := l_H28_H39.trans leHx
       have l_H29_Hx : LE H29 Hx := l_H29_H39.trans leHx
       have l_H35_Hx : LE H35 Hx := l_H35_H39.trans leHx
       have l_H39_Hx : LE H39 Hx := leHx
       obtain ⟨Hy, leHy, h, hx3⟩ := h.fsl (α := Df) (R := RDf) 0 (ys := [⟨[102], exF exX⟩]) (RowR.one rfl ⟨_, rfl, rt_of_ks (KS.up hk35 l_H35_Hx)⟩) (fun _ l _ _ _ hr => RDf.mono l hr)
       have l_H_Hy : LE H Hy := l_H_Hx.trans leHy
       have l_HA_Hy : LE HA Hy := l_HA_Hx.trans leHy
       have l_H21_Hy : LE H21 Hy := l_H21_Hx.trans leHy
       have l_H22_Hy : LE H22 Hy := l_H22_Hx.trans leHy
       have l_H27_Hy : LE H27 Hy := l_H27_Hx.trans leHy
       have l_H28_Hy : LE H28 Hy := l_H28_Hx.trans leHy
       have l_H29_Hy : LE H29 Hy := l_H29_Hx.trans leHy
       have l_H35_Hy : LE H35 Hy := l_H35_Hx.trans leHy
       have l_H39_Hy : LE H39 Hy := l_H39_Hx.trans leHy
       have l_Hx_Hy : LE Hx Hy := leHy
       have h := h.pull 2 rfl rfl
       have h := h.pull 2 rfl rfl
       have h := h.pull 2 rfl rfl
       have h := h.del 3
       exact ⟨_, g6, _, _, _, l_H29_Hy, CS.up hx1 l_Hx_Hy, hx3, KS.up hk39 l_H39_Hy, h.to 0 _⟩
    ·refine al zr28 h fun g6 a w h => ?_
     refine br0 ?_
     refine brl1 2 true (by kernel_rfl) (by kernel_rfl) (fun _ => h.st.sees' (by first | exact LE.rfl | assumption) (by simp)) ?_
     refine cl bod30 (of_ok [120] E H29 _) h (fun r34 H34 L34 a w le34 R h => ?_) (hS := fun _ _ _ _ _ le R hw => by obtain ⟨rfl, rfl, rfl⟩ := R; exact hw.sees' (by first | exact le | exact LE.trans (by assumption) le) (by simp))
     obtain ⟨rfl, rfl, rfl⟩ := R
     refine br0 ?_
     refine brl1 3 true (by kernel_rfl) (by kernel_rfl) (fun _ => h.st.sees' (by first | exact LE.rfl | assumption) (by simp)) ?_
     refine cl bod28 (fun_ok [120] exX _ E H29 _ (⟨none, 0, rfl, RS.nil _ _ _⟩)) h (fun r35 H35 L35 a w le35 R h => ?_) (hS := fun _ _ _ _ _ le R hw => by obtain ⟨_, rfl, _, rfl⟩ := R; exact hw.sees' (by first | exact le | exact LE.trans (by assumption) le) (by simp))
     obtain ⟨A35, rfl, hk35, rfl⟩ := R
     have l_H_H35 : LE H H35 := l_H_H29.trans le35
     have l_HA_H35 : LE HA H35 := l_HA_H29.trans le35
     have l_H21_H35 : LE H21 H35 := l_H21_H29.trans le35
     have l_H22_H35 : LE H22 H35 := l_H22_H29.trans le35
     have l_H27_H35 : LE H27 H35 := l_H27_H29.trans le35
     have l_H28_H35 : LE H28 H35 := l_H28_H29.trans le35
     have l_H29_H35 : LE H29 H35 := le35
     refine br0 ?_
     refine tkl 4 false (by kernel_rfl) ?_
     refine bdl lay68 zr68 h fun a w h => ?_
     refine tk0 ?_
     refine brl2 5 7 true false (by kernel_rfl) (by kernel_rfl) (by kernel_rfl) (fun _ => h.st.sees' (by first | exact LE.rfl | assumption) (by simp)) ?_ ?_
     ·refine bsl bs26 h fun g37 a w h => ?_
      refine br0 ?_
      refine brl1 7 false (by kernel_rfl) (by kernel_rfl) (fun _ => h.st.sees' (by first | exact LE.rfl | assumption) (by simp)) ?_
      refine cl bod28 (fun_ok [120] exA _ E H35 _ (⟨_, _, rfl, KS.up hsA l_HA_H35⟩)) h (fun r39 H39 L39 a w le39 R h => ?_) (hS := fun _ _ _ _ _ le R hw => by obtain ⟨_, rfl, _, rfl⟩ := R; exact hw.sees' (by first | exact le | exact LE.trans (by assumption) le) (by simp))
      obtain ⟨A39, rfl, hk39, rfl⟩ := R
      have l_H_H39 : LE H H39 := l_H_H35.trans le39
      have l_HA_H39 : LE HA H39 := l_HA_H35.trans le39
      have l_H21_H39 : LE H21 H39 := l_H21_H35.trans le39
      have l_H22_H39 : LE H22 H39 := l_H22_H35.trans le39
      have l_H27_H39 : LE H27 H39 := l_H27_H35.trans le39
      have l_H28_H39 : LE H28 H39 := l_H28_H35.trans le39
      have l_H29_H39 : LE H29 H39 := l_H29_H35.trans le39
      have l_H35_H39 : LE H35 H39 := le39
      refine br0 ?_
      refine tkl 8 false (by kernel_rfl) ?_
      refine bdl lay28 zr28 h fun a w h => ?_
      refine tk0 ?_
      refine brl1 10 false (by kernel_rfl) (by kernel_rfl) (fun _ => h.st.sees' (by first | exact LE.rfl | assumption) (by simp)) ?_
      refine sw1 tN28 h fun a w h => ?_
      refine br0 ?_
      refine en (by kernel_rfl) ?_
      refine thN ?_
      obtain ⟨Hx, leHx, h, hx1⟩ := h.fsl (α := Dc) (R := RDc) 2 (ys := [exD]) (RowR.one rfl rfl) (fun _ _ _ _ _ hr => hr)
      have l_H_Hx : LE H Hx := l_H_H39.trans leHx
      have l_HA_Hx : LE HA Hx := l_HA_H39.trans leHx
      have l_H21_Hx : LE H21 Hx := l_H21_H39.trans leHx
      have l_H22_Hx : LE H22 Hx := l_H22_H39.trans leHx
      have l_H27_Hx : LE H27 Hx := l_H27_H39.trans leHx
      have l_H28_Hx : LE H28 Hx := l_H28_H39.trans leHx
      have l_H29_Hx : LE H29 Hx := l_H29_H39.trans leHx
      have l_H35_Hx : LE H35 Hx := l_H35_H39.trans leHx
      have l_H39_Hx : LE H39 Hx := leHx
      obtain ⟨Hy, leHy, h, hx3⟩ := h.fsl (α := Df) (R := RDf) 0 (ys := [⟨[102], exF exX⟩]) (RowR.one rfl ⟨_, rfl, rt_of_ks (KS.up hk35 l_H35_Hx)⟩) (fun _ l _ _ _ hr => RDf.mono l hr)
      have l_H_Hy : LE H Hy := l_H_Hx.trans leHy
      have l_HA_Hy : LE HA Hy := l_HA_Hx.trans leHy
      have l_H21_Hy : LE H21 Hy := l_H21_Hx.trans leHy
      have l_H22_Hy : LE H22 Hy := l_H22_Hx.trans leHy
      have l_H27_Hy : LE H27 Hy := l_H27_Hx.trans leHy
      have l_H28_Hy : LE H28 Hy := l_H28_Hx.trans leHy
      have l_H29_Hy : LE H29 Hy := l_H29_Hx.trans leHy
      have l_H35_Hy : LE H35 Hy := l_H35_Hx.trans leHy
      have l_H39_Hy : LE H39 Hy := l_H39_Hx.trans leHy
      have l_Hx_Hy : LE Hx Hy := leHy
      have h := h.pull 2 rfl rfl
      have h := h.pull 2 rfl rfl
      have h := h.pull 2 rfl rfl
      have h := h.del 3
      exact ⟨_, g6, _, _, _, l_H29_Hy, CS.up hx1 l_Hx_Hy, hx3, KS.up hk39 l_H39_Hy, h.to 0 _⟩
     ·refine cl bod28 (fun_ok [120] exA _ E H35 _ (⟨_, _, rfl, KS.up hsA l_HA_H35⟩)) h (fun r39 H39 L39 a w le39 R h => ?_) (hS := fun _ _ _ _ _ le R hw => by obtain ⟨_, rfl, _, rfl⟩ := R; exact hw.sees' (by first | exact le | exact LE.trans (by assumption) le) (by simp))
      obtain ⟨A39, rfl, hk39, rfl⟩ := R
      have l_H_H39 : LE H H39 := l_H_H35.trans le39
      have l_HA_H39 : LE HA H39 := l_HA_H35.trans le39
      have l_H21_H39 : LE H21 H39 := l_H21_H35.trans le39
      have l_H22_H39 : LE H22 H39 := l_H22_H35.trans le39
      have l_H27_H39 : LE H27 H39 := l_H27_H35.trans le39
      have l_H28_H39 : LE H28 H39 := l_H28_H35.trans le39
      have l_H29_H39 : LE H29 H39 := l_H29_H35.trans le39
      have l_H35_H39 : LE H35 H39 := le39
      refine br0 ?_
      refine brl1 5 true (by kernel_rfl) (by kernel_rfl) (fun _ => h.st.sees' (by first | exact LE.rfl | assumption) (by simp)) ?_
      refine bsl bs26 h fun g37 a w h => ?_
      refine br0 ?_
      refine tkl 8 false (by kernel_rfl) ?_
      refine bdl lay28 zr28 h fun a w h => ?_
      refine tk0 ?_
      refine brl1 10 false (by kernel_rfl) (by kernel_rfl) (fun _ => h.st.sees' (by first | exact LE.rfl | assumption) (by simp)) ?_
      refine sw1 tN28 h fun a w h => ?_
      refine br0 ?_
      refine en (by kernel_rfl) ?_
      refine thN ?_
      obtain ⟨Hx, leHx, h, hx1⟩ := h.fsl (α := Dc) (R := RDc) 2 (ys := [exD]) (RowR.one rfl rfl) (fun _ _ _ _ _ hr => hr)
      have l_H_Hx : LE H Hx := l_H_H39.trans leHx
      have l_HA_Hx : LE HA Hx := l_HA_H39.trans leHx
      have l_H21_Hx : LE H21 Hx := l_H21_H39.trans leHx
      have l_H22_Hx : LE H22 Hx := l_H22_H39.trans leHx
      have l_H27_Hx : LE H27 Hx := l_H27_H39.trans leHx
      have l_H28_Hx : LE H28 Hx := l_H28_H39.trans leHx
      have l_H29_Hx : LE H29 Hx := l_H29_H39.trans leHx
      have l_H35_Hx : LE H35 Hx := l_H35_H39.trans leHx
      have l_H39_Hx : LE H39 Hx := leHx
      obtain ⟨Hy, leHy, h, hx3⟩ := h.fsl (α := Df) (R := RDf) 0 (ys := [⟨[102], exF exX⟩]) (RowR.one rfl ⟨_, rfl, rt_of_ks (KS.up hk35 l_H35_Hx)⟩) (fun _ l _ _ _ hr => RDf.mono l hr)
      have l_H_Hy : LE H Hy := l_H_Hx.trans leHy
      have l_HA_Hy : LE HA Hy := l_HA_Hx.trans leHy
      have l_H21_Hy : LE H21 Hy := l_H21_Hx.trans leHy
      have l_H22_Hy : LE H22 Hy := l_H22_Hx.trans leHy
      have l_H27_Hy : LE H27 Hy := l_H27_Hx.trans leHy
      have l_H28_Hy : LE H28 Hy := l_H28_Hx.trans leHy
      have l_H29_Hy : LE H29 Hy := l_H29_Hx.trans leHy
      have l_H35_Hy : LE H35 Hy := l_H35_Hx.trans leHy
      have l_H39_Hy : LE H39 Hy := l_H39_Hx.trans leHy
      have l_Hx_Hy : LE Hx Hy := leHy
      have h := h.pull 2 rfl rfl
      have h := h.pull 2 rfl rfl
      have h := h.pull 2 rfl rfl
      have h := h.del 3
      exact ⟨_, g6, _, _, _, l_H29_Hy, CS.up hx1 l_Hx_Hy, hx3, KS.up hk39 l_H39_Hy, h.to 0 _⟩
   ·refine cl bod30 (of_ok [120] E H29 _) h (fun r34 H34 L34 a w le34 R h => ?_) (hS := fun _ _ _ _ _ le R hw => by obtain ⟨rfl, rfl, rfl⟩ := R; exact hw.sees' (by first | exact le | exact LE.trans (by assumption) le) (by simp))
    obtain ⟨rfl, rfl, rfl⟩ := R
    refine br0 ?_
    refine brl3 1 3 9 true true true (by kernel_rfl) (by kernel_rfl) (by kernel_rfl) (by kernel_rfl) (fun _ => h.st.sees' (by first | exact LE.rfl | assumption) (by simp)) ?_ ?_ ?_
    ·refine bsl bs25 h fun g33 a w h => ?_
     refine br0 ?_
     refine brl2 3 9 true true (by kernel_rfl) (by kernel_rfl) (by kernel_rfl) (fun _ => h.st.sees' (by first | exact LE.rfl | assumption) (by simp)) ?_ ?_
     ·refine cl bod28 (fun_ok [120] exX _ E H29 _ (⟨none, 0, rfl, RS.nil _ _ _⟩)) h (fun r35 H35 L35 a w le35 R h => ?_) (hS := fun _ _ _ _ _ le R hw => by obtain ⟨_, rfl, _, rfl⟩ := R; exact hw.sees' (by first | exact le | exact LE.trans (by assumption) le) (by simp))
      obtain ⟨A35, rfl, hk35, rfl⟩ := R
      have l_H_H35 : LE H H35 := l_H_H29.trans le35
      have l_HA_H35 : LE HA H35 := l_HA_H29.trans le35
      have l_H21_H35 : LE H21 H35 := l_H21_H29.trans le35
      have l_H22_H35 : LE H22 H35 := l_H22_H29.trans le35
      have l_H27_H35 : LE H27 H35 := l_H27_H29.trans le35
      have l_H28_H35 : LE H28 H35 := l_H28_H29.trans le35
      have l_H29_H35 : LE H29 H35 := le35
      refine br0 ?_
      refine tkl 4 false (by kernel_rfl) ?_
      refine bdl lay68 zr68 h fun a w h => ?_
      refine tk0 ?_
      refine brl3 5 7 9 true false true (by kernel_rfl) (by kernel_rfl) (by kernel_rfl) (by kernel_rfl) (fun _ => h.st.sees' (by first | exact LE.rfl | assumption) (by simp)) ?_ ?_ ?_
      ·refine bsl bs26 h fun g37 a w h => ?_
       refine br0 ?_
       refine brl2 7 9 false true (by kernel_rfl) (by kernel_rfl) (by kernel_rfl) (fun _ => h.st.sees' (by first | exact LE.rfl | assumption) (by simp)) ?_ ?_
       ·refine cl bod28 (fun_ok [120] exA _ E H35 _ (⟨_, _, rfl, KS.up hsA l_HA_H35⟩)) h (fun r39 H39 L39 a w le39 R h => ?_) (hS := fun _ _ _ _ _ le R hw => by obtain ⟨_, rfl, _, rfl⟩ := R; exact hw.sees' (by first | exact le | exact LE.trans (by assumption) le) (by simp))
        obtain ⟨A39, rfl, hk39, rfl⟩ := R
        have l_H_H39 : LE H H39 := l_H_H35.trans le39
        have l_HA_H39 : LE HA H39 := l_HA_H35.trans le39
        have l_H21_H39 : LE H21 H39 := l_H21_H35.trans le39
        have l_H22_H39 : LE H22 H39 := l_H22_H35.trans le39
        have l_H27_H39 : LE H27 H39 := l_H27_H35.trans le39
        have l_H28_H39 : LE H28 H39 := l_H28_H35.trans le39
        have l_H29_H39 : LE H29 H39 := l_H29_H35.trans le39
        have l_H35_H39 : LE H35 H39 := le39
        refine br0 ?_
        refine tkl 8 false (by kernel_rfl) ?_
        refine bdl lay28 zr28 h fun a w h => ?_
        refine tk0 ?_
        refine brl1 9 true (by kernel_rfl) (by kernel_rfl) (fun _ => h.st.sees' (by first | exact LE.rfl | assumption) (by simp)) ?_
        refine al zr28 h fun g6 a w h => ?_
        refine br0 ?_
        refine brl1 10 false (by kernel_rfl) (by kernel_rfl) (fun _ => h.st.sees' (by first | exact LE.rfl | assumption) (by simp)) ?_
        refine sw0 tN28 h fun a w h => ?_
        refine br0 ?_
        refine en (by kernel_rfl) ?_
        refine thN ?_
        obtain ⟨Hx, leHx, h, hx1⟩ := h.fsl (α := Dc) (R := RDc) 2 (ys := [exD]) (RowR.one rfl rfl) (fun _ _ _ _ _ hr => hr)
        have l_H_Hx : LE H Hx := l_H_H39.trans leHx
        have l_HA_Hx : LE HA Hx := l_HA_H39.trans leHx
        have l_H21_Hx : LE H21 Hx := l_H21_H39.trans leHx
        have l_H22_Hx : LE H22 Hx := l_H22_H39.trans leHx
        have l_H27_Hx : LE H27 Hx := l_H27_H39.trans leHx
        have l_H28_Hx : LE H28 Hx := l_H28_H39.trans leHx
        have l_H29_Hx : LE H29 Hx := l_H29_H39.trans leHx
        have l_H35_Hx : LE H35 Hx := l_H35_H39.trans leHx
        have l_H39_Hx : LE H39 Hx := leHx
        obtain ⟨Hy, leHy, h, hx3⟩ := h.fsl (α := Df) (R := RDf) 1 (ys := [⟨[102], exF exX⟩]) (RowR.one rfl ⟨_, rfl, rt_of_ks (KS.up hk35 l_H35_Hx)⟩) (fun _ l _ _ _ hr => RDf.mono l hr)
        have l_H_Hy : LE H Hy := l_H_Hx.trans leHy
        have l_HA_Hy : LE HA Hy := l_HA_Hx.trans leHy
        have l_H21_Hy : LE H21 Hy := l_H21_Hx.trans leHy
        have l_H22_Hy : LE H22 Hy := l_H22_Hx.trans leHy
        have l_H27_Hy : LE H27 Hy := l_H27_Hx.trans leHy
        have l_H28_Hy : LE H28 Hy := l_H28_Hx.trans leHy
        have l_H29_Hy : LE H29 Hy := l_H29_Hx.trans leHy
        have l_H35_Hy : LE H35 Hy := l_H35_Hx.trans leHy
        have l_H39_Hy : LE H39 Hy := l_H39_Hx.trans leHy
        have l_Hx_Hy : LE Hx Hy := leHy
        have h := h.pull 2 rfl rfl
        have h := h.pull 2 rfl rfl
        have h := h.pull 2 rfl rfl
        have h := h.del 3
        exact ⟨_, g6, _, _, _, l_H29_Hy, CS.up hx1 l_Hx_Hy, hx3, KS.up hk39 l_H39_Hy, h.to 0 _⟩
       ·refine al zr28 h fun g6 a w h => ?_
        refine br0 ?_
        refine brl1 7 false (by kernel_rfl) (by kernel_rfl) (fun _ => h.st.sees' (by first | exact LE.rfl | assumption) (by simp)) ?_
        refine cl bod28 (fun_ok [120] exA _ E H35 _ (⟨_, _, rfl, KS.up hsA l_HA_H35⟩)) h (fun r39 H39 L39 a w le39 R h => ?_) (hS := fun _ _ _ _ _ le R hw => by obtain ⟨_, rfl, _, rfl⟩ := R; exact hw.sees' (by first | exact le | exact LE.trans (by assumption) le) (by simp))
        obtain ⟨A39, rfl, hk39, rfl⟩ := R
        have l_H_H39 : LE H H39 := l_H_H35.trans le39
        have l_HA_H39 : LE HA H39 := l_HA_H35.trans le39
        have l_H21_H39 : LE H21 H39 := l_H21_H35.trans le39
        have l_H22_H39 : LE H22 H39 := l_H22_H35.trans le39
        have l_H27_H39 : LE H27 H39 := l_H27_H35.trans le39
        have l_H28_H39 : LE H28 H39 := l_H28_H35.trans le39
        have l_H29_H39 : LE H29 H39 := l_H29_H35.trans le39
        have l_H35_H39 : LE H35 H39 := le39
        refine br0 ?_
        refine tkl 8 false (by kernel_rfl) ?_
        refine bdl lay28 zr28 h fun a w h => ?_
        refine tk0 ?_
        refine brl1 10 false (by kernel_rfl) (by kernel_rfl) (fun _ => h.st.sees' (by first | exact LE.rfl | assumption) (by simp)) ?_
        refine sw0 tN28 h fun a w h => ?_
        refine br0 ?_
        refine en (by kernel_rfl) ?_
        refine thN ?_
        obtain ⟨Hx, leHx, h, hx1⟩ := h.fsl (α := Dc) (R := RDc) 2 (ys := [exD]) (RowR.one rfl rfl) (fun _ _ _ _ _ hr => hr)
        have l_H_Hx : LE H Hx := l_H_H39.trans leHx
        have l_HA_Hx : LE HA Hx := l_HA_H39.trans leHx
        have l_H21_Hx : LE H21 Hx := l_H21_H39.trans leHx
        have l_H22_Hx : LE H22 Hx := l_H22_H39.trans leHx
        have l_H27_Hx : LE H27 Hx := l_H27_H39.trans leHx
        have l_H28_Hx : LE H28 Hx := l_H28_H39.trans leHx
        have l_H29_Hx : LE H29 Hx := l_H29_H39.trans leHx
        have l_H35_Hx : LE H35 Hx := l_H35_H39.trans leHx
        have l_H39_Hx : LE H39 Hx := leHx
        obtain ⟨Hy, leHy, h, hx3⟩ := h.fsl (α := Df) (R := RDf) 1 (ys := [⟨[102], exF exX⟩]) (RowR.one rfl ⟨_, rfl, rt_of_ks (KS.up hk35 l_H35_Hx)⟩) (fun _ l _ _ _ hr => RDf.mono l hr)
        have l_H_Hy : LE H Hy := l_H_Hx.trans leHy
        have l_HA_Hy : LE HA Hy := l_HA_Hx.trans leHy
        have l_H21_Hy : LE H21 Hy := l_H21_Hx.trans leHy
        have l_H22_Hy : LE H22 Hy := l_H22_Hx.trans leHy
        have l_H27_Hy : LE H27 Hy := l_H27_Hx.trans leHy
        have l_H28_Hy : LE H28 Hy := l_H28_Hx.trans leHy
        have l_H29_Hy : LE H29 Hy := l_H29_Hx.trans leHy
        have l_H35_Hy : LE H35 Hy := l_H35_Hx.trans leHy
        have l_H39_Hy : LE H39 Hy := l_H39_Hx.trans leHy
        have l_Hx_Hy : LE Hx Hy := leHy
        have h := h.pull 2 rfl rfl
        have h := h.pull 2 rfl rfl
        have h := h.pull 2 rfl rfl
        have h := h.del 3
        exact ⟨_, g6, _, _, _, l_H29_Hy, CS.up hx1 l_Hx_Hy, hx3, KS.up hk39 l_H39_Hy, h.to 0 _⟩
      ·refine cl bod28 (fun_ok [120] exA _ E H35 _ (⟨_, _, rfl, KS.up hsA l_HA_H35⟩)) h (fun r39 H39 L39 a w le39 R h => ?_) (hS := fun _ _ _ _ _ le R hw => by obtain ⟨_, rfl, _, rfl⟩ := R; exact hw.sees' (by first | exact le | exact LE.trans (by assumption) le) (by simp))
       obtain ⟨A39, rfl, hk39, rfl⟩ := R
       have l_H_H39 : LE H H39 := l_H_H35.trans le39
       have l_HA_H39 : LE HA H39 := l_HA_H35.trans le39
       have l_H21_H39 : LE H21 H39 := l_H21_H35.trans le39
       have l_H22_H39 : LE H22 H39 := l_H22_H35.trans le39
       have l_H27_H39 : LE H27 H39 := l_H27_H35.trans le39
       have l_H28_H39 : LE H28 H39 := l_H28_H35.trans le39
       have l_H29_H39 : LE H29 H39 := l_H29_H35.trans le39
       have l_H35_H39 : LE H35 H39 := le39
       refine br0 ?_
       refine brl2 5 9 true true (by kernel_rfl) (by kernel_rfl) (by kernel_rfl) (fun _ => h.st.sees' (by first | exact LE.rfl | assumption) (by simp)) ?_ ?_
       ·refine bsl bs26 h fun g37 a w h => ?_
        refine br0 ?_
        refine tkl 8 false (by kernel_rfl) ?_
        refine bdl lay28 zr28 h fun a w h => ?_
        refine tk0 ?_
        refine brl1 9 true (by kernel_rfl) (by kernel_rfl) (fun _ => h.st.sees' (by first | exact LE.rfl | assumption) (by simp)) ?_
        refine al zr28 h fun g6 a w h => ?_
        refine br0 ?_
        refine brl1 10 false (by kernel_rfl) (by kernel_rfl) (fun _ => h.st.sees' (by first | exact LE.rfl | assumption) (by simp)) ?_
        refine sw0 tN28 h fun a w h => ?_
        refine br0 ?_
        refine en (by kernel_rfl) ?_
        refine thN ?_
        obtain ⟨Hx, leHx, h, hx1⟩ := h.fsl (α := Dc) (R := RDc) 2 (ys := [exD]) (RowR.one rfl rfl) (fun _ _ _ _ _ hr => hr)
        have l_H_Hx : LE H Hx := l_H_H39.trans leHx
        have l_HA_Hx : LE HA Hx := l_HA_H39.trans leHx
        have l_H21_Hx : LE H21 Hx := l_H21_H39.trans leHx
        have l_H22_Hx : LE H22 Hx := l_H22_H39.trans leHx
        have l_H27_Hx : LE H27 Hx := l_H27_H39.trans leHx
        have l_H28_Hx : LE H28 Hx := l_H28_H39.trans leHx
        have l_H29_Hx : LE H29 Hx := l_H29_H39.trans leHx
        have l_H35_Hx : LE H35 Hx := l_H35_H39.trans leHx
        have l_H39_Hx : LE H39 Hx := leHx
        obtain ⟨Hy, leHy, h, hx3⟩ := h.fsl (α := Df) (R := RDf) 1 (ys := [⟨[102], exF exX⟩]) (RowR.one rfl ⟨_, rfl, rt_of_ks (KS.up hk35 l_H35_Hx)⟩) (fun _ l _ _ _ hr => RDf.mono l hr)
        have l_H_Hy : LE H Hy := l_H_Hx.trans leHy
        have l_HA_Hy : LE HA Hy := l_HA_Hx.trans leHy
        have l_H21_Hy : LE H21 Hy := l_H21_Hx.trans leHy
        have l_H22_Hy : LE H22 Hy := l_H22_Hx.trans leHy
        have l_H27_Hy : LE H27 Hy := l_H27_Hx.trans leHy
        have l_H28_Hy : LE H28 Hy := l_H28_Hx.trans leHy
        have l_H29_Hy : LE H29 Hy := l_H29_Hx.trans leHy
        have l_H35_Hy : LE H35 Hy := l_H35_Hx.trans leHy
        have l_H39_Hy : LE H39 Hy := l_H39_Hx.trans leHy
        have l_Hx_Hy : LE Hx Hy := leHy
        have h := h.pull 2 rfl rfl
        have h := h.pull 2 rfl rfl
        have h := h.pull 2 rfl rfl
        have h := h.del 3
        exact ⟨_, g6, _, _, _, l_H29_Hy, CS.up hx1 l_Hx_Hy, hx3, KS.up hk39 l_H39_Hy, h.to 0 _⟩
       ·refine al zr28 h fun g6 a w h => ?_
        refine br0 ?_
        refine brl1 5 true (by kernel_rfl) (by kernel_rfl) (fun _ => h.st.sees' (by first | exact LE.rfl | assumption) (by simp)) ?_
        refine bsl bs26 h fun g37 a w h => ?_
        refine br0 ?_
        refine tkl 8 false (by kernel_rfl) ?_
        refine bdl lay28 zr28 h fun a w h => ?_
        refine tk0 ?_
        refine brl1 10 false (by kernel_rfl) (by kernel_rfl) (fun _ => h.st.sees' (by first | exact LE.rfl | assumption) (by simp)) ?_
        refine sw1 tN28 h fun a w h => ?_
        refine br0 ?_
        refine en (by kernel_rfl) ?_
        refine thN ?_
        obtain ⟨Hx, leHx, h, hx1⟩ := h.fsl (α := Dc) (R := RDc) 2 (ys := [exD]) (RowR.one rfl rfl) (fun _ _ _ _ _ hr => hr)
        have l_H_Hx : LE H Hx := l_H_H39.trans leHx
        have l_HA_Hx : LE HA Hx := l_HA_H39.trans leHx
        have l_H21_Hx : LE H21 Hx := l_H21_H39.trans leHx
        have l_H22_Hx : LE H22 Hx := l_H22_H39.trans leHx
        have l_H27_Hx : LE H27 Hx := l_H27_H39.trans leHx
        have l_H28_Hx : LE H28 Hx := l_H28_H39.trans leHx
        have l_H29_Hx : LE H29 Hx := l_H29_H39.trans leHx
        have l_H35_Hx : LE H35 Hx := l_H35_H39.trans leHx
        have l_H39_Hx : LE H39 Hx := leHx
        obtain ⟨Hy, leHy, h, hx3⟩ := h.fsl (α := Df) (R := RDf) 0 (ys := [⟨[102], exF exX⟩]) (RowR.one rfl ⟨_, rfl, rt_of_ks (KS.up hk35 l_H35_Hx)⟩) (fun _ l _ _ _ hr => RDf.mono l hr)
        have l_H_Hy : LE H Hy := l_H_Hx.trans leHy
        have l_HA_Hy : LE HA Hy := l_HA_Hx.trans leHy
        have l_H21_Hy : LE H21 Hy := l_H21_Hx.trans leHy
        have l_H22_Hy : LE H22 Hy := l_H22_Hx.trans leHy
        have l_H27_Hy : LE H27 Hy := l_H27_Hx.trans leHy
        have l_H28_Hy : LE H28 Hy := l_H28_Hx.trans leHy
        have l_H29_Hy : LE H29 Hy := l_H29_Hx.trans leHy
        have l_H35_Hy : LE H35 Hy := l_H35_Hx.trans leHy
        have l_H39_Hy : LE H39 Hy := l_H39_Hx.trans leHy
        have l_Hx_Hy : LE Hx Hy := leHy
        have h := h.pull 2 rfl rfl
        have h := h.pull 2 rfl rfl
        have h := h.pull 2 rfl rfl
        have h := h.del 3
        exact ⟨_, g6, _, _, _, l_H29_Hy, CS.up hx1 l_Hx_Hy, hx3, KS.up hk39 l_H39_Hy, h.to 0 _⟩
      ·refine al zr28 h fun g6 a w h => ?_
       refine br0 ?_
       refine brl2 5 7 true false (by kernel_rfl) (by kernel_rfl) (by kernel_rfl) (fun _ => h.st.sees' (by first | exact LE.rfl | assumption) (by simp)) ?_ ?_
       ·refine bsl bs26 h fun g37 a w h => ?_
        refine br0 ?_
        refine brl1 7 false (by kernel_rfl) (by kernel_rfl) (fun _ => h.st.sees' (by first | exact LE.rfl | assumption) (by simp)) ?_
        refine cl bod28 (fun_ok [120] exA _ E H35 _ (⟨_, _, rfl, KS.up hsA l_HA_H35⟩)) h (fun r39 H39 L39 a w le39 R h => ?_) (hS := fun _ _ _ _ _ le R hw => by obtain ⟨_, rfl, _, rfl⟩ := R; exact hw.sees' (by first | exact le | exact LE.trans (by assumption) le) (by simp))
        obtain ⟨A39, rfl, hk39, rfl⟩ := R
        have l_H_H39 : LE H H39 := l_H_H35.trans le39
        have l_HA_H39 : LE HA H39 := l_HA_H35.trans le39
        have l_H21_H39 : LE H21 H39 := l_H21_H35.trans le39
        have l_H22_H39 : LE H22 H39 := l_H22_H35.trans le39
        have l_H27_H39 : LE H27 H39 := l_H27_H35.trans le39
        have l_H28_H39 : LE H28 H39 := l_H28_H35.trans le39
        have l_H29_H39 : LE H29 H39 := l_H29_H35.trans le39
        have l_H35_H39 : LE H35 H39 := le39
        refine br0 ?_
        refine tkl 8 false (by kernel_rfl) ?_
        refine bdl lay28 zr28 h fun a w h => ?_
        refine tk0 ?_
        refine brl1 10 false (by kernel_rfl) (by kernel_rfl) (fun _ => h.st.sees' (by first | exact LE.rfl | assumption) (by simp)) ?_
        refine sw1 tN28 h fun a w h => ?_
        refine br0 ?_
        refine en (by kernel_rfl) ?_
        refine thN ?_
        obtain ⟨Hx, leHx, h, hx1⟩ := h.fsl (α := Dc) (R := RDc) 2 (ys := [exD]) (RowR.one rfl rfl) (fun _ _ _ _ _ hr => hr)
        have l_H_Hx : LE H Hx := l_H_H39.trans leHx
        have l_HA_Hx : LE HA Hx := l_HA_H39.trans leHx
        have l_H21_Hx : LE H21 Hx := l_H21_H39.trans leHx
        have l_H22_Hx : LE H22 Hx := l_H22_H39.trans leHx
        have l_H27_Hx : LE H27 Hx := l_H27_H39.trans leHx
        have l_H28_Hx : LE H28 Hx := l_H28_H39.trans leHx
        have l_H29_Hx : LE H29 Hx := l_H29_H39.trans leHx
        have l_H35_Hx : LE H35 Hx := l_H35_H39.trans leHx
        have l_H39_Hx : LE H39 Hx := leHx
        obtain ⟨Hy, leHy, h, hx3⟩ := h.fsl (α := Df) (R := RDf) 0 (ys := [⟨[102], exF exX⟩]) (RowR.one rfl ⟨_, rfl, rt_of_ks (KS.up hk35 l_H35_Hx)⟩) (fun _ l _ _ _ hr => RDf.mono l hr)
        have l_H_Hy : LE H Hy := l_H_Hx.trans leHy
        have l_HA_Hy : LE HA Hy := l_HA_Hx.trans leHy
        have l_H21_Hy : LE H21 Hy := l_H21_Hx.trans leHy
        have l_H22_Hy : LE H22 Hy := l_H22_Hx.trans leHy
        have l_H27_Hy : LE H27 Hy := l_H27_Hx.trans leHy
        have l_H28_Hy : LE H28 Hy := l_H28_Hx.trans leHy
        have l_H29_Hy : LE H29 Hy := l_H29_Hx.trans leHy
        have l_H35_Hy : LE H35 Hy := l_H35_Hx.trans leHy
        have l_H39_Hy : LE H39 Hy := l_H39_Hx.trans leHy
        have l_Hx_Hy : LE Hx Hy := leHy
        have h := h.pull 2 rfl rfl
        have h := h.pull 2 rfl rfl
        have h := h.pull 2 rfl rfl
        have h := h.del 3
        exact ⟨_, g6, _, _, _, l_H29_Hy, CS.up hx1 l_Hx_Hy, hx3, KS.up hk39 l_H39_Hy, h.to 0 _⟩
       ·refine cl bod28 (fun_ok [120] exA _ E H35 _ (⟨_, _, rfl, KS.up hsA l_HA_H35⟩)) h (fun r39 H39 L39 a w le39 R h => ?_) (hS := fun _ _ _ _ _ le R hw => by obtain ⟨_, rfl, _, rfl⟩ := R; exact hw.sees' (by first | exact le | exact LE.trans (by assumption) le) (by simp))
        obtain ⟨A39, rfl, hk39, rfl⟩ := R
        have l_H_H39 : LE H H39 := l_H_H35.trans le39
        have l_HA_H39 : LE HA H39 := l_HA_H35.trans le39
        have l_H21_H39 : LE H21 H39 := l_H21_H35.trans le39
        have l_H22_H39 : LE H22 H39 := l_H22_H35.trans le39
        have l_H27_H39 : LE H27 H39 := l_H27_H35.trans le39
        have l_H28_H39 : LE H28 H39 := l_H28_H35.trans le39
        have l_H29_H39 : LE H29 H39 := l_H29_H35.trans le39
        have l_H35_H39 : LE H35 H39 := le39
        refine br0 ?_
        refine brl1 5 true (by kernel_rfl) (by kernel_rfl) (fun _ => h.st.sees' (by first | exact LE.rfl | assumption) (by simp)) ?_
        refine bsl bs26 h fun g37 a w h => ?_
        refine br0 ?_
        refine tkl 8 false (by kernel_rfl) ?_
        refine bdl lay28 zr28 h fun a w h => ?_
        refine tk0 ?_
        refine brl1 10 false (by kernel_rfl) (by kernel_rfl) (fun _ => h.st.sees' (by first | exact LE.rfl | assumption) (by simp)) ?_
        refine sw1 tN28 h fun a w h => ?_
        refine br0 ?_
        refine en (by kernel_rfl) ?_
        refine thN ?_
        obtain ⟨Hx, leHx, h, hx1⟩ := h.fsl (α := Dc) (R := RDc) 2 (ys := [exD]) (RowR.one rfl rfl) (fun _ _ _ _ _ hr => hr)
        have l_H_Hx : LE H Hx := l_H_H39.trans leHx
        have l_HA_Hx : LE HA Hx := l_HA_H39.trans leHx
        have l_H21_Hx : LE H21 Hx := l_H21_H39.trans leHx
        have l_H22_Hx : LE H22 Hx := l_H22_H39.trans leHx
        have l_H27_Hx : LE H27 Hx := l_H27_H39.trans leHx
        have l_H28_Hx : LE H28 Hx := l_H28_H39.trans leHx
        have l_H29_Hx : LE H29 Hx := l_H29_H39.trans leHx
        have l_H35_Hx : LE H35 Hx := l_H35_H39.trans leHx
        have l_H39_Hx : LE H39 Hx := leHx
        obtain ⟨Hy, leHy, h, hx3⟩ := h.fsl (α := Df) (R := RDf) 0 (ys := [⟨[102], exF exX⟩]) (RowR.one rfl ⟨_, rfl, rt_of_ks (KS.up hk35 l_H35_Hx)⟩) (fun _ l _ _ _ hr => RDf.mono l hr)
        have l_H_Hy : LE H Hy := l_H_Hx.trans leHy
        have l_HA_Hy : LE HA Hy := l_HA_Hx.trans leHy
        have l_H21_Hy : LE H21 Hy := l_H21_Hx.trans leHy
        have l_H22_Hy : LE H22 Hy := l_H22_Hx.trans leHy
        have l_H27_Hy : LE H27 Hy := l_H27_Hx.trans leHy
        have l_H28_Hy : LE H28 Hy := l_H28_Hx.trans leHy
        have l_H29_Hy : LE H29 Hy := l_H29_Hx.trans leHy
        have l_H35_Hy : LE H35 Hy := l_H35_Hx.trans leHy
        have l_H39_Hy : LE H39 Hy := l_H39_Hx.trans leHy
        have l_Hx_Hy : LE Hx Hy := leHy
        have h := h.pull 2 rfl rfl
        have h := h.pull 2 rfl rfl
        have h := h.pull 2 rfl rfl
        have h := h.del 3
        exact ⟨_, g6, _, _, _, l_H29_Hy, CS.up hx1 l_Hx_Hy, hx3, KS.up hk39 l_H39_Hy, h.to 0 _⟩
     ·refine al zr28 h fun g6 a w h => ?_
      refine br0 ?_
      refine brl1 3 true (by kernel_rfl) (by kernel_rfl) (fun _ => h.st.sees' (by first | exact LE.rfl | assumption) (by simp)) ?_
      refine cl bod28 (fun_ok [120] exX _ E H29 _ (⟨none, 0, rfl, RS.nil _ _ _⟩)) h (fun r35 H35 L35 a w le35 R h => ?_) (hS := fun _ _ _ _ _ le R hw => by obtain ⟨_, rfl, _, rfl⟩ := R; exact hw.sees' (by first | exact le | exact LE.trans (by assumption) le) (by simp))
      obtain ⟨A35, rfl, hk35, rfl⟩ := R
      have l_H_H35 : LE H H35 := l_H_H29.trans le35
      have l_HA_H35 : LE HA H35 := l_HA_H29.trans le35
      have l_H21_H35 : LE H21 H35 := l_H21_H29.trans le35
      have l_H22_H35 : LE H22 H35 := l_H22_H29.trans le35
      have l_H27_H35 : LE H27 H35 := l_H27_H29.trans le35
      have l_H28_H35 : LE H28 H35 := l_H28_H29.trans le35
      have l_H29_H35 : LE H29 H35 := le35
      refine br0 ?_
      refine tkl 4 false (by kernel_rfl) ?_
      refine bdl lay68 zr68 h fun a w h => ?_
      refine tk0 ?_
      refine brl2 5 7 true false (by kernel_rfl) (by kernel_rfl) (by kernel_rfl) (fun _ => h.st.sees' (by first | exact LE.rfl | assumption) (by simp)) ?_ ?_
      ·refine bsl bs26 h fun g37 a w h => ?_
       refine br0 ?_
       refine brl1 7 false (by kernel_rfl) (by kernel_rfl) (fun _ => h.st.sees' (by first | exact LE.rfl | assumption) (by simp)) ?_
       refine cl bod28 (fun_ok [120] exA _ E H35 _ (⟨_, _, rfl, KS.up hsA l_HA_H35⟩)) h (fun r39 H39 L39 a w le39 R h => ?_) (hS := fun _ _ _ _ _ le R hw => by obtain ⟨_, rfl, _, rfl⟩ := R; exact hw.sees' (by first | exact le | exact LE.trans (by assumption) le) (by simp))
       obtain ⟨A39, rfl, hk39, rfl⟩ := R
       have l_H_H39 : LE H H39 := l_H_H35.trans le39
       have l_HA_H39 : LE HA H39 := l_HA_H35.trans le39
       have l_H21_H39 : LE H21 H39 := l_H21_H35.trans le39
       have l_H22_H39 : LE H22 H39 := l_H22_H35.trans le39
       have l_H27_H39 : LE H27 H39 := l_H27_H35.trans le39
       have l_H28_H39 : LE H28 H39 := l_H28_H35.trans le39
       have l_H29_H39 : LE H29 H39 := l_H29_H35.trans le39
       have l_H35_H39 : LE H35 H39 := le39
       refine br0 ?_
       refine tkl 8 false (by kernel_rfl) ?_
       refine bdl lay28 zr28 h fun a w h => ?_
       refine tk0 ?_
       refine brl1 10 false (by kernel_rfl) (by kernel_rfl) (fun _ => h.st.sees' (by first | exact LE.rfl | assumption) (by simp)) ?_
       refine sw1 tN28 h fun a w h => ?_
       refine br0 ?_
       refine en (by kernel_rfl) ?_
       refine thN ?_
       obtain ⟨Hx, leHx, h, hx1⟩ := h.fsl (α := Dc) (R := RDc) 2 (ys := [exD]) (RowR.one rfl rfl) (fun _ _ _ _ _ hr => hr)
       have l_H_Hx : LE H Hx := l_H_H39.trans leHx
       have l_HA_Hx : LE HA Hx := l_HA_H39.trans leHx
       have l_H21_Hx : LE H21 Hx := l_H21_H39.trans leHx
       have l_H22_Hx : LE H22 Hx := l_H22_H39.trans leHx
       have l_H27_Hx : LE H27 Hx := l_H27_H39.trans leHx
       have l_H28_Hx : LE H28 Hx := l_H28_H39.trans leHx
       have l_H29_Hx : LE H29 Hx := l_H29_H39.trans leHx
       have l_H35_Hx : LE H35 Hx := l_H35_H39.trans leHx
       have l_H39_Hx : LE H39 Hx := leHx
       obtain ⟨Hy, leHy, h, hx3⟩ := h.fsl (α := Df) (R := RDf) 0 (ys := [⟨[102], exF exX⟩]) (RowR.one rfl ⟨_, rfl, rt_of_ks (KS.up hk35 l_H35_Hx)⟩) (fun _ l _ _ _ hr => RDf.mono l hr)
       have l_H_Hy : LE H Hy := l_H_Hx.trans leHy
       have l_HA_Hy : LE HA Hy := l_HA_Hx.trans leHy
       have l_H21_Hy : LE H21 Hy := l_H21_Hx.trans leHy
       have l_H22_Hy : LE H22 Hy := l_H22_Hx.trans leHy
       have l_H27_Hy : LE H27 Hy := l_H27_Hx.trans leHy
       have l_H28_Hy : LE H28 Hy := l_H28_Hx.trans leHy
       have l_H29_Hy : LE H29 Hy := l_H29_Hx.trans leHy
       have l_H35_Hy : LE H35 Hy := l_H35_Hx.trans leHy
       have l_H39_Hy : LE H39 Hy := l_H39_Hx.trans leHy
       have l_Hx_Hy : LE Hx Hy := leHy
       have h := h.pull 2 rfl rfl
       have h := h.pull 2 rfl rfl
       have h := h.pull 2 rfl rfl
       have h := h.del 3
       exact ⟨_, g6, _, _, _, l_H29_Hy, CS.up hx1 l_Hx_Hy, hx3, KS.up hk39 l_H39_Hy, h.to 0 _⟩
      ·refine cl bod28 (fun_ok [120] exA _ E H35 _ (⟨_, _, rfl, KS.up hsA l_HA_H35⟩)) h (fun r39 H39 L39 a w le39 R h => ?_) (hS := fun _ _ _ _ _ le R hw => by obtain ⟨_, rfl, _, rfl⟩ := R; exact hw.sees' (by first | exact le | exact LE.trans (by assumption) le) (by simp))
       obtain ⟨A39, rfl, hk39, rfl⟩ := R
       have l_H_H39 : LE H H39 := l_H_H35.trans le39
       have l_HA_H39 : LE HA H39 := l_HA_H35.trans le39
       have l_H21_H39 : LE H21 H39 := l_H21_H35.trans le39
       have l_H22_H39 : LE H22 H39 := l_H22_H35.trans le39
       have l_H27_H39 : LE H27 H39 := l_H27_H35.trans le39
       have l_H28_H39 : LE H28 H39 := l_H28_H35.trans le39
       have l_H29_H39 : LE H29 H39 := l_H29_H35.trans le39
       have l_H35_H39 : LE H35 H39 := le39
       refine br0 ?_
       refine brl1 5 true (by kernel_rfl) (by kernel_rfl) (fun _ => h.st.sees' (by first | exact LE.rfl | assumption) (by simp)) ?_
       refine bsl bs26 h fun g37 a w h => ?_
       refine br0 ?_
       refine tkl 8 false (by kernel_rfl) ?_
       refine bdl lay28 zr28 h fun a w h => ?_
       refine tk0 ?_
       refine brl1 10 false (by kernel_rfl) (by kernel_rfl) (fun _ => h.st.sees' (by first | exact LE.rfl | assumption) (by simp)) ?_
       refine sw1 tN28 h fun a w h => ?_
       refine br0 ?_
       refine en (by kernel_rfl) ?_
       refine thN ?_
       obtain ⟨Hx, leHx, h, hx1⟩ := h.fsl (α := Dc) (R := RDc) 2 (ys := [exD]) (RowR.one rfl rfl) (fun _ _ _ _ _ hr => hr)
       have l_H_Hx : LE H Hx := l_H_H39.trans leHx
       have l_HA_Hx : LE HA Hx := l_HA_H39.trans leHx
       have l_H21_Hx : LE H21 Hx := l_H21_H39.trans leHx
       have l_H22_Hx : LE H22 Hx := l_H22_H39.trans leHx
       have l_H27_Hx : LE H27 Hx := l_H27_H39.trans leHx
       have l_H28_Hx : LE H28 Hx := l_H28_H39.trans leHx
       have l_H29_Hx : LE H29 Hx := l_H29_H39.trans leHx
       have l_H35_Hx : LE H35 Hx := l_H35_H39.trans leHx
       have l_H39_Hx : LE H39 Hx := leHx
       obtain ⟨Hy, leHy, h, hx3⟩ := h.fsl (α := Df) (R := RDf) 0 (ys := [⟨[102], exF exX⟩]) (RowR.one rfl ⟨_, rfl, rt_of_ks (KS.up hk35 l_H35_Hx)⟩) (fun _ l _ _ _ hr => RDf.mono l hr)
       have l_H_Hy : LE H Hy := l_H_Hx.trans leHy
       have l_HA_Hy : LE HA Hy := l_HA_Hx.trans leHy
       have l_H21_Hy : LE H21 Hy := l_H21_Hx.trans leHy
       have l_H22_Hy : LE H22 Hy := l_H22_Hx.trans leHy
       have l_H27_Hy : LE H27 Hy := l_H27_Hx.trans leHy
       have l_H28_Hy : LE H28 Hy := l_H28_Hx.trans leHy
       have l_H29_Hy : LE H29 Hy := l_H29_Hx.trans leHy
       have l_H35_Hy : LE H35 Hy := l_H35_Hx.trans leHy
       have l_H39_Hy : LE H39 Hy := l_H39_Hx.trans leHy
       have l_Hx_Hy : LE Hx Hy := leHy
       have h := h.pull 2 rfl rfl
       have h := h.pull 2 rfl rfl
       have h := h.pull 2 rfl rfl
       have h := h.del 3
       exact ⟨_, g6, _, _, _, l_H29_Hy, CS.up hx1 l_Hx_Hy, hx3, KS.up hk39 l_H39_Hy, h.to 0 _⟩
    ·refine cl bod28 (fun_ok [120] exX _ E H29 _ (⟨none, 0, rfl, RS.nil _ _ _⟩)) h (fun r35 H35 L35 a w le35 R h => ?_) (hS := fun _ _ _ _ _ le R hw => by obtain ⟨_, rfl, _, rfl⟩ := R; exact hw.sees' (by first | exact le | exact LE.trans (by assumption) le) (by simp))
     obtain ⟨A35, rfl, hk35, rfl⟩ := R
     have l_H_H35 : LE H H35 := l_H_H29.trans le35
     have l_HA_H35 : LE HA H35 := l_HA_H29.trans le35
     have l_H21_H35 : LE H21 H35 := l_H21_H29.trans le35
     have l_H22_H35 : LE H22 H35 := l_H22_H29.trans le35
     have l_H27_H35 : LE H27 H35 := l_H27_H29.trans le35
     have l_H28_H35 : LE H28 H35 := l_H28_H29.trans le35
     have l_H29_H35 : LE H29 H35 := le35
     refine br0 ?_
     refine tkl 4 false (by kernel_rfl) ?_
     refine bdl lay68 zr68 h fun a w h => ?_
     refine tk0 ?_
     refine brl4 1 5 7 9 true true false true (by kernel_rfl) (by kernel_rfl) (by kernel_rfl) (by kernel_rfl) (by kernel_rfl) (fun _ => h.st.sees' (by first | exact LE.rfl | assumption) (by simp)) ?_ ?_ ?_ ?_
     ·refine bsl bs25 h fun g33 a w h => ?_
      refine br0 ?_
      refine brl3 5 7 9 true false true (by kernel_rfl) (by kernel_rfl) (by kernel_rfl) (by kernel_rfl) (fun _ => h.st.sees' (by first | exact LE.rfl | assumption) (by simp)) ?_ ?_ ?_
      ·refine bsl bs26 h fun g37 a w h => ?_
       refine br0 ?_
       refine brl2 7 9 false true (by kernel_rfl) (by kernel_rfl) (by kernel_rfl) (fun _ => h.st.sees' (by first | exact LE.rfl | assumption) (by simp)) ?_ ?_
       ·refine cl bod28 (fun_ok [120] exA _ E H35 _ (⟨_, _, rfl, KS.up hsA l_HA_H35⟩)) h (fun r39 H39 L39 a w le39 R h => ?_) (hS := fun _ _ _ _ _ le R hw => by obtain ⟨_, rfl, _, rfl⟩ := R; exact hw.sees' (by first | exact le | exact LE.trans (by assumption) le) (by simp))
        obtain ⟨A39, rfl, hk39, rfl⟩ := R
        have l_H_H39 : LE H H39 := l_H_H35.trans le39
        have l_HA_H39 : LE HA H39 := l_HA_H35.trans le39
        have l_H21_H39 : LE H21 H39 := l_H21_H35.trans le39
        have l_H22_H39 : LE H22 H39 := l_H22_H35.trans le39
        have l_H27_H39 : LE H27 H39 := l_H27_H35.trans le39
        have l_H28_H39 : LE H28 H39 := l_H28_H35.trans le39
        have l_H29_H39 : LE H29 H39 := l_H29_H35.trans le39
        have l_H35_H39 : LE H35 H39 := le39
        refine br0 ?_
        refine tkl 8 false (by kernel_rfl) ?_
        refine bdl lay28 zr28 h fun a w h => ?_
        refine tk0 ?_
        refine brl1 9 true (by kernel_rfl) (by kernel_rfl) (fun _ => h.st.sees' (by first | exact LE.rfl | assumption) (by simp)) ?_
        refine al zr28 h fun g6 a w h => ?_
        refine br0 ?_
        refine brl1 10 false (by kernel_rfl) (by kernel_rfl) (fun _ => h.st.sees' (by first | exact LE.rfl | assumption) (by simp)) ?_
        refine sw0 tN28 h fun a w h => ?_
        refine br0 ?_
        refine en (by kernel_rfl) ?_
        refine thN ?_
        obtain ⟨Hx, leHx, h, hx1⟩ := h.fsl (α := Dc) (R := RDc) 2 (ys := [exD]) (RowR.one rfl rfl) (fun _ _ _ _ _ hr => hr)
        have l_H_Hx : LE H Hx := l_H_H39.trans leHx
        have l_HA_Hx : LE HA Hx := l_HA_H39.trans leHx
        have l_H21_Hx : LE H21 Hx := l_H21_H39.trans leHx
        have l_H22_Hx : LE H22 Hx := l_H22_H39.trans leHx
        have l_H27_Hx : LE H27 Hx := l_H27_H39.trans leHx
        have l_H28_Hx : LE H28 Hx := l_H28_H39.trans leHx
        have l_H29_Hx : LE H29 Hx := l_H29_H39.trans leHx
        have l_H35_Hx : LE H35 Hx := l_H35_H39.trans leHx
        have l_H39_Hx : LE H39 Hx := leHx
        obtain ⟨Hy, leHy, h, hx3⟩ := h.fsl (α := Df) (R := RDf) 1 (ys := [⟨[102], exF exX⟩]) (RowR.one rfl ⟨_, rfl, rt_of_ks (KS.up hk35 l_H35_Hx)⟩) (fun _ l _ _ _ hr => RDf.mono l hr)
        have l_H_Hy : LE H Hy := l_H_Hx.trans leHy
        have l_HA_Hy : LE HA Hy := l_HA_Hx.trans leHy
        have l_H21_Hy : LE H21 Hy := l_H21_Hx.trans leHy
        have l_H22_Hy : LE H22 Hy := l_H22_Hx.trans leHy
        have l_H27_Hy : LE H27 Hy := l_H27_Hx.trans leHy
        have l_H28_Hy : LE H28 Hy := l_H28_Hx.trans leHy
        have l_H29_Hy : LE H29 Hy := l_H29_Hx.trans leHy
        have l_H35_Hy : LE H35 Hy := l_H35_Hx.trans leHy
        have l_H39_Hy : LE H39 Hy := l_H39_Hx.trans leHy
        have l_Hx_Hy : LE Hx Hy := leHy
        have h := h.pull 2 rfl rfl
        have h := h.pull 2 rfl rfl
        have h := h.pull 2 rfl rfl
        have h := h.del 3
        exact ⟨_, g6, _, _, _, l_H29_Hy, CS.up hx1 l_Hx_Hy, hx3, KS.up hk39 l_H39_Hy, h.to 0 _⟩
       ·refine al zr28 h fun g6 a w h => ?_
        refine br0 ?_
        refine brl1 7 false (by kernel_rfl) (by kernel_rfl) (fun _ => h.st.sees' (by first | exact LE.rfl | assumption) (by simp)) ?_
        refine cl bod28 (fun_ok [120] exA _ E H35 _ (⟨_, _, rfl, KS.up hsA l_HA_H35⟩)) h (fun r39 H39 L39 a w le39 R h => ?_) (hS := fun _ _ _ _ _ le R hw => by obtain ⟨_, rfl, _, rfl⟩ := R; exact hw.sees' (by first | exact le | exact LE.trans (by assumption) le) (by simp))
        obtain ⟨A39, rfl, hk39, rfl⟩ := R
        have l_H_H39 : LE H H39 := l_H_H35.trans le39
        have l_HA_H39 : LE HA H39 := l_HA_H35.trans le39
        have l_H21_H39 : LE H21 H39 := l_H21_H35.trans le39
        have l_H22_H39 : LE H22 H39 := l_H22_H35.trans le39
        have l_H27_H39 : LE H27 H39 := l_H27_H35.trans le39
        have l_H28_H39 : LE H28 H39 := l_H28_H35.trans le39
        have l_H29_H39 : LE H29 H39 := l_H29_H35.trans le39
        have l_H35_H39 : LE H35 H39 := le39
        refine br0 ?_
        refine tkl 8 false (by kernel_rfl) ?_
        refine bdl lay28 zr28 h fun a w h => ?_
        refine tk0 ?_
        refine brl1 10 false (by kernel_rfl) (by kernel_rfl) (fun _ => h.st.sees' (by first | exact LE.rfl | assumption) (by simp)) ?_
        refine sw0 tN28 h fun a w h => ?_
        refine br0 ?_
        refine en (by kernel_rfl) ?_
        refine thN ?_
        obtain ⟨Hx, leHx, h, hx1⟩ := h.fsl (α := Dc) (R := RDc) 2 (ys := [exD]) (RowR.one rfl rfl) (fun _ _ _ _ _ hr => hr)
        have l_H_Hx : LE H Hx := l_H_H39.trans leHx
        have l_HA_Hx : LE HA Hx := l_HA_H39.trans leHx
        have l_H21_Hx : LE H21 Hx := l_H21_H39.trans leHx
        have l_H22_Hx : LE H22 Hx := l_H22_H39.trans leHx
        have l_H27_Hx : LE H27 Hx := l_H27_H39.trans leHx
        have l_H28_Hx : LE H28 Hx := l_H28_H39.trans leHx
        have l_H29_Hx : LE H29 Hx := l_H29_H39.trans leHx
        have l_H35_Hx : LE H35 Hx := l_H35_H39.trans leHx
        have l_H39_Hx : LE H39 Hx := leHx
        obtain ⟨Hy, leHy, h, hx3⟩ := h.fsl (α := Df) (R := RDf) 1 (ys := [⟨[102], exF exX⟩]) (RowR.one rfl ⟨_, rfl, rt_of_ks (KS.up hk35 l_H35_Hx)⟩) (fun _ l _ _ _ hr => RDf.mono l hr)
        have l_H_Hy : LE H Hy := l_H_Hx.trans leHy
        have l_HA_Hy : LE HA Hy := l_HA_Hx.trans leHy
        have l_H21_Hy : LE H21 Hy := l_H21_Hx.trans leHy
        have l_H22_Hy : LE H22 Hy := l_H22_Hx.trans leHy
        have l_H27_Hy : LE H27 Hy := l_H27_Hx.trans leHy
        have l_H28_Hy : LE H28 Hy := l_H28_Hx.trans leHy
        have l_H29_Hy : LE H29 Hy := l_H29_Hx.trans leHy
        have l_H35_Hy : LE H35 Hy := l_H35_Hx.trans leHy
        have l_H39_Hy : LE H39 Hy := l_H39_Hx.trans leHy
        have l_Hx_Hy : LE Hx Hy := leHy
        have h := h.pull 2 rfl rfl
        have h := h.pull 2 rfl rfl
        have h := h.pull 2 rfl rfl
        have h := h.del 3
        exact ⟨_, g6, _, _, _, l_H29_Hy, CS.up hx1 l_Hx_Hy, hx3, KS.up hk39 l_H39_Hy, h.to 0 _⟩
      ·refine cl bod28 (fun_ok [120] exA _ E H35 _ (⟨_, _, rfl, KS.up hsA l_HA_H35⟩)) h (fun r39 H39 L39 a w le39 R h => ?_) (hS := fun _ _ _ _ _ le R hw => by obtain ⟨_, rfl, _, rfl⟩ := R; exact hw.sees' (by first | exact le | exact LE.trans (by assumption) le) (by simp))
       obtain ⟨A39, rfl, hk39, rfl⟩ := R
       have l_H_H39 : LE H H39 := l_H_H35.trans le39
       have l_HA_H39 : LE HA H39 := l_HA_H35.trans le39
       have l_H21_H39 : LE H21 H39 := l_H21_H35.trans le39
       have l_H22_H39 : LE H22 H39 := l_H22_H35.trans le39
       have l_H27_H39 : LE H27 H39 := l_H27_H35.trans le39
       have l_H28_H39 : LE H28 H39 := l_H28_H35.trans le39
       have l_H29_H39 : LE H29 H39 := l_H29_H35.trans le39
       have l_H35_H39 : LE H35 H39 := le39
       refine br0 ?_
       refine brl2 5 9 true true (by kernel_rfl) (by kernel_rfl) (by kernel_rfl) (fun _ => h.st.sees' (by first | exact LE.rfl | assumption) (by simp)) ?_ ?_
       ·refine bsl bs26 h fun g37 a w h => ?_
        refine br0 ?_
        refine tkl 8 false (by kernel_rfl) ?_
        refine bdl lay28 zr28 h fun a w h => ?_
        refine tk0 ?_
        refine brl1 9 true (by kernel_rfl) (by kernel_rfl) (fun _ => h.st.sees' (by first | exact LE.rfl | assumption) (by simp)) ?_
        refine al zr28 h fun g6 a w h => ?_
        refine br0 ?_
        refine brl1 10 false (by kernel_rfl) (by kernel_rfl) (fun _ => h.st.sees' (by first | exact LE.rfl | assumption) (by simp)) ?_
        refine sw0 tN28 h fun a w h => ?_
        refine br0 ?_
        refine en (by kernel_rfl) ?_
        refine thN ?_
        obtain ⟨Hx, leHx, h, hx1⟩ := h.fsl (α := Dc) (R := RDc) 2 (ys := [exD]) (RowR.one rfl rfl) (fun _ _ _ _ _ hr => hr)
        have l_H_Hx : LE H Hx := l_H_H39.trans leHx
        have l_HA_Hx : LE HA Hx := l_HA_H39.trans leHx
        have l_H21_Hx : LE H21 Hx := l_H21_H39.trans leHx
        have l_H22_Hx : LE H22 Hx := l_H22_H39.trans leHx
        have l_H27_Hx : LE H27 Hx := l_H27_H39.trans leHx
        have l_H28_Hx : LE H28 Hx := l_H28_H39.trans leHx
        have l_H29_Hx : LE H29 Hx := l_H29_H39.trans leHx
        have l_H35_Hx : LE H35 Hx := l_H35_H39.trans leHx
        have l_H39_Hx : LE H39 Hx := leHx
        obtain ⟨Hy, leHy, h, hx3⟩ := h.fsl (α := Df) (R := RDf) 1 (ys := [⟨[102], exF exX⟩]) (RowR.one rfl ⟨_, rfl, rt_of_ks (KS.up hk35 l_H35_Hx)⟩) (fun _ l _ _ _ hr => RDf.mono l hr)
        have l_H_Hy : LE H Hy := l_H_Hx.trans leHy
        have l_HA_Hy : LE HA Hy := l_HA_Hx.trans leHy
        have l_H21_Hy : LE H21 Hy := l_H21_Hx.trans leHy
        have l_H22_Hy : LE H22 Hy := l_H22_Hx.trans leHy
        have l_H27_Hy : LE H27 Hy := l_H27_Hx.trans leHy
        have l_H28_Hy : LE H28 Hy := l_H28_Hx.trans leHy
        have l_H29_Hy : LE H29 Hy := l_H29_Hx.trans leHy
        have l_H35_Hy : LE H35 Hy := l_H35_Hx.trans leHy
        have l_H39_Hy : LE H39 Hy := l_H39_Hx.trans leHy
        have l_Hx_Hy : LE Hx Hy := leHy
        have h := h.pull 2 rfl rfl
        have h := h.pull 2 rfl rfl
        have h := h.pull 2 rfl rfl
        have h := h.del 3
        exact ⟨_, g6, _, _, _, l_H29_Hy, CS.up hx1 l_Hx_Hy, hx3, KS.up hk39 l_H39_Hy, h.to 0 _⟩
       ·refine al zr28 h fun g6 a w h => ?_
        refine br0 ?_
        refine brl1 5 true (by kernel_rfl) (by kernel_rfl) (fun _ => h.st.sees' (by first | exact LE.rfl | assumption) (by simp)) ?_
        refine bsl bs26 h fun g37 a w h => ?_
        refine br0 ?_
        refine tkl 8 false (by kernel_rfl) ?_
        refine bdl lay28 zr28 h fun a w h => ?_
        refine tk0 ?_
        refine brl1 10 false (by kernel_rfl) (by kernel_rfl) (fun _ => h.st.sees' (by first | exact LE.rfl | assumption) (by simp)) ?_
        refine sw1 tN28 h fun a w h => ?_
        refine br0 ?_
        refine en (by kernel_rfl) ?_
        refine thN ?_
        obtain ⟨Hx, leHx, h, hx1⟩ := h.fsl (α := Dc) (R := RDc) 2 (ys := [exD]) (RowR.one rfl rfl) (fun _ _ _ _ _ hr => hr)
        have l_H_Hx : LE H Hx := l_H_H39.trans leHx
        have l_HA_Hx : LE HA Hx := l_HA_H39.trans leHx
        have l_H21_Hx : LE H21 Hx := l_H21_H39.trans leHx
        have l_H22_Hx : LE H22 Hx := l_H22_H39.trans leHx
        have l_H27_Hx : LE H27 Hx := l_H27_H39.trans leHx
        have l_H28_Hx : LE H28 Hx := l_H28_H39.trans leHx
        have l_H29_Hx : LE H29 Hx := l_H29_H39.trans leHx
        have l_H35_Hx : LE H35 Hx := l_H35_H39.trans leHx
        have l_H39_Hx : LE H39 Hx := leHx
        obtain ⟨Hy, leHy, h, hx3⟩ := h.fsl (α := Df) (R := RDf) 0 (ys := [⟨[102], exF exX⟩]) (RowR.one rfl ⟨_, rfl, rt_of_ks (KS.up hk35 l_H35_Hx)⟩) (fun _ l _ _ _ hr => RDf.mono l hr)
        have l_H_Hy : LE H Hy := l_H_Hx.trans leHy
        have l_HA_Hy : LE HA Hy := l_HA_Hx.trans leHy
        have l_H21_Hy : LE H21 Hy := l_H21_Hx.trans leHy
        have l_H22_Hy : LE H22 Hy := l_H22_Hx.trans leHy
        have l_H27_Hy : LE H27 Hy := l_H27_Hx.trans leHy
        have l_H28_Hy : LE H28 Hy := l_H28_Hx.trans leHy
        have l_H29_Hy : LE H29 Hy := l_H29_Hx.trans leHy
        have l_H35_Hy : LE H35 Hy := l_H35_Hx.trans leHy
        have l_H39_Hy : LE H39 Hy := l_H39_Hx.trans leHy
        have l_Hx_Hy : LE Hx Hy := leHy
        have h := h.pull 2 rfl rfl
        have h := h.pull 2 rfl rfl
        have h := h.pull 2 rfl rfl
        have h := h.del 3
        exact ⟨_, g6, _, _, _, l_H29_Hy, CS.up hx1 l_Hx_Hy, hx3, KS.up hk39 l_H39_Hy, h.to 0 _⟩
      ·refine al zr28 h fun g6 a w h => ?_
       refine br0 ?_
       refine brl2 5 7 true false (by kernel_rfl) (by kernel_rfl) (by kernel_rfl) (fun _ => h.st.sees' (by first | exact LE.rfl | assumption) (by simp)) ?_ ?_
       ·refine bsl bs26 h fun g37 a w h => ?_
        refine br0 ?_
        refine brl1 7 false (by kernel_rfl) (by kernel_rfl) (fun _ => h.st.sees' (by first | exact LE.rfl | assumption) (by simp)) ?_
        refine cl bod28 (fun_ok [120] exA _ E H35 _ (⟨_, _, rfl, KS.up hsA l_HA_H35⟩)) h (fun r39 H39 L39 a w le39 R h => ?_) (hS := fun _ _ _ _ _ le R hw => by obtain ⟨_, rfl, _, rfl⟩ := R; exact hw.sees' (by first | exact le | exact LE.trans (by assumption) le) (by simp))
        obtain ⟨A39, rfl, hk39, rfl⟩ := R
        have l_H_H39 : LE H H39 := l_H_H35.trans le39
        have l_HA_H39 : LE HA H39 := l_HA_H35.trans le39
        have l_H21_H39 : LE H21 H39 := l_H21_H35.trans le39
        have l_H22_H39 : LE H22 H39 := l_H22_H35.trans le39
        have l_H27_H39 : LE H27 H39 := l_H27_H35.trans le39
        have l_H28_H39 : LE H28 H39 := l_H28_H35.trans le39
        have l_H29_H39 : LE H29 H39 := l_H29_H35.trans le39
        have l_H35_H39 : LE H35 H39 := le39
        refine br0 ?_
        refine tkl 8 false (by kernel_rfl) ?_
        refine bdl lay28 zr28 h fun a w h => ?_
        refine tk0 ?_
        refine brl1 10 false (by kernel_rfl) (by kernel_rfl) (fun _ => h.st.sees' (by first | exact LE.rfl | assumption) (by simp)) ?_
        refine sw1 tN28 h fun a w h => ?_
        refine br0 ?_
        refine en (by kernel_rfl) ?_
        refine thN ?_
        obtain ⟨Hx, leHx, h, hx1⟩ := h.fsl (α := Dc) (R := RDc) 2 (ys := [exD]) (RowR.one rfl rfl) (fun _ _ _ _ _ hr => hr)
        have l_H_Hx : LE H Hx := l_H_H39.trans leHx
        have l_HA_Hx : LE HA Hx := l_HA_H39.trans leHx
        have l_H21_Hx : LE H21 Hx := l_H21_H39.trans leHx
        have l_H22_Hx : LE H22 Hx := l_H22_H39.trans leHx
        have l_H27_Hx : LE H27 Hx := l_H27_H39.trans leHx
        have l_H28_Hx : LE H28 Hx := l_H28_H39.trans leHx
        have l_H29_Hx : LE H29 Hx := l_H29_H39.trans leHx
        have l_H35_Hx : LE H35 Hx := l_H35_H39.trans leHx
        have l_H39_Hx : LE H39 Hx := leHx
        obtain ⟨Hy, leHy, h, hx3⟩ := h.fsl (α := Df) (R := RDf) 0 (ys := [⟨[102], exF exX⟩]) (RowR.one rfl ⟨_, rfl, rt_of_ks (KS.up hk35 l_H35_Hx)⟩) (fun _ l _ _ _ hr => RDf.mono l hr)
        have l_H_Hy : LE H Hy := l_H_Hx.trans leHy
        have l_HA_Hy : LE HA Hy := l_HA_Hx.trans leHy
        have l_H21_Hy : LE H21 Hy := l_H21_Hx.trans leHy
        have l_H22_Hy : LE H22 Hy := l_H22_Hx.trans leHy
        have l_H27_Hy : LE H27 Hy := l_H27_Hx.trans leHy
        have l_H28_Hy : LE H28 Hy := l_H28_Hx.trans leHy
        have l_H29_Hy : LE H29 Hy := l_H29_Hx.trans leHy
        have l_H35_Hy : LE H35 Hy := l_H35_Hx.trans leHy
        have l_H39_Hy : LE H39 Hy := l_H39_Hx.trans leHy
        have l_Hx_Hy : LE Hx Hy := leHy
        have h := h.pull 2 rfl rfl
        have h := h.pull 2 rfl rfl
        have h := h.pull 2 rfl rfl
        have h := h.del 3
        exact ⟨_, g6, _, _, _, l_H29_Hy, CS.up hx1 l_Hx_Hy, hx3, KS.up hk39 l_H39_Hy, h.to 0 _⟩
       ·refine cl bod28 (fun_ok [120] exA _ E H35 _ (⟨_, _, rfl, KS.up hsA l_HA_H35⟩)) h (fun r39 H39 L39 a w le39 R h => ?_) (hS := fun _ _ _ _ _ le R hw => by obtain ⟨_, rfl, _, rfl⟩ := R; exact hw.sees' (by first | exact le | exact LE.trans (by assumption) le) (by simp))
        obtain ⟨A39, rfl, hk39, rfl⟩ := R
        have l_H_H39 : LE H H39 := l_H_H35.trans le39
        have l_HA_H39 : LE HA H39 := l_HA_H35.trans le39
        have l_H21_H39 : LE H21 H39 := l_H21_H35.trans le39
        have l_H22_H39 : LE H22 H39 := l_H22_H35.trans le39
        have l_H27_H39 : LE H27 H39 := l_H27_H35.trans le39
        have l_H28_H39 : LE H28 H39 := l_H28_H35.trans le39
        have l_H29_H39 : LE H29 H39 := l_H29_H35.trans le39
        have l_H35_H39 : LE H35 H39 := le39
        refine br0 ?_
        refine brl1 5 true (by kernel_rfl) (by kernel_rfl) (fun _ => h.st.sees' (by first | exact LE.rfl | assumption) (by simp)) ?_
        refine bsl bs26 h fun g37 a w h => ?_
        refine br0 ?_
        refine tkl 8 false (by kernel_rfl) ?_
        refine bdl lay28 zr28 h fun a w h => ?_
        refine tk0 ?_
        refine brl1 10 false (by kernel_rfl) (by kernel_rfl) (fun _ => h.st.sees' (by first | exact LE.rfl | assumption) (by simp)) ?_
        refine sw1 tN28 h fun a w h => ?_
        refine br0 ?_
        refine en (by kernel_rfl) ?_
        refine thN ?_
        obtain ⟨Hx, leHx, h, hx1⟩ := h.fsl (α := Dc) (R := RDc) 2 (ys := [exD]) (RowR.one rfl rfl) (fun _ _ _ _ _ hr => hr)
        have l_H_Hx : LE H Hx := l_H_H39.trans leHx
        have l_HA_Hx : LE HA Hx := l_HA_H39.trans leHx
        have l_H21_Hx : LE H21 Hx := l_H21_H39.trans leHx
        have l_H22_Hx : LE H22 Hx := l_H22_H39.trans leHx
        have l_H27_Hx : LE H27 Hx := l_H27_H39.trans leHx
        have l_H28_Hx : LE H28 Hx := l_H28_H39.trans leHx
        have l_H29_Hx : LE H29 Hx := l_H29_H39.trans leHx
        have l_H35_Hx : LE H35 Hx := l_H35_H39.trans leHx
        have l_H39_Hx : LE H39 Hx := leHx
        obtain ⟨Hy, leHy, h, hx3⟩ := h.fsl (α := Df) (R := RDf) 0 (ys := [⟨[102], exF exX⟩]) (RowR.one rfl ⟨_, rfl, rt_of_ks (KS.up hk35 l_H35_Hx)⟩) (fun _ l _ _ _ hr => RDf.mono l hr)
        have l_H_Hy : LE H Hy := l_H_Hx.trans leHy
        have l_HA_Hy : LE HA Hy := l_HA_Hx.trans leHy
        have l_H21_Hy : LE H21 Hy := l_H21_Hx.trans leHy
        have l_H22_Hy : LE H22 Hy := l_H22_Hx.trans leHy
        have l_H27_Hy : LE H27 Hy := l_H27_Hx.trans leHy
        have l_H28_Hy : LE H28 Hy := l_H28_Hx.trans leHy
        have l_H29_Hy : LE H29 Hy := l_H29_Hx.trans leHy
        have l_H35_Hy : LE H35 Hy := l_H35_Hx.trans leHy
        have l_H39_Hy : LE H39 Hy := l_H39_Hx.trans leHy
        have l_Hx_Hy : LE Hx Hy := leHy
        have h := h.pull 2 rfl rfl
        have h := h.pull 2 rfl rfl
        have h := h.pull 2 rfl rfl
        have h := h.del 3
        exact ⟨_, g6, _, _, _, l_H29_Hy, CS.up hx1 l_Hx_Hy, hx3, KS.up hk39 l_H39_Hy, h.to 0 _⟩
     ·refine bsl bs26 h fun g37 a w h => ?_
      refine br0 ?_
      refine brl3 1 7 9 true false true (by kernel_rfl) (by kernel_rfl) (by kernel_rfl) (by kernel_rfl) (fun _ => h.st.sees' (by first | exact LE.rfl | assumption) (by simp)) ?_ ?_ ?_
      ·refine bsl bs25 h fun g33 a w h => ?_
       refine br0 ?_
       refine brl2 7 9 false true (by kernel_rfl) (by kernel_rfl) (by kernel_rfl) (fun _ => h.st.sees' (by first | exact LE.rfl | assumption) (by simp)) ?_ ?_
       ·refine cl bod28 (fun_ok [120] exA _ E H35 _ (⟨_, _, rfl, KS.up hsA l_HA_H35⟩)) h (fun r39 H39 L39 a w le39 R h => ?_) (hS := fun _ _ _ _ _ le R hw => by obtain ⟨_, rfl, _, rfl⟩ := R; exact hw.sees' (by first | exact le | exact LE.trans (by assumption) le) (by simp))
        obtain ⟨A39, rfl, hk39, rfl⟩ := R
        have l_H_H39 : LE H H39 := l_H_H35.trans le39
        have l_HA_H39 : LE HA H39 := l_HA_H35.trans le39
        have l_H21_H39 : LE H21 H39 := l_H21_H35.trans le39
        have l_H22_H39 : LE H22 H39 := l_H22_H35.trans le39
        have l_H27_H39 : LE H27 H39 := l_H27_H35.trans le39
        have l_H28_H39 : LE H28 H39 := l_H28_H35.trans le39
        have l_H29_H39 : LE H29 H39 := l_H29_H35.trans le39
        have l_H35_H39 : LE H35 H39 := le39
        refine br0 ?_
        refine tkl 8 false (by kernel_rfl) ?_
        refine bdl lay28 zr28 h fun a w h => ?_
        refine tk0 ?_
        refine brl1 9 true (by kernel_rfl) (by kernel_rfl) (fun _ => h.st.sees' (by first | exact LE.rfl | assumption) (by simp)) ?_
        refine al zr28 h fun g6 a w h => ?_
        refine br0 ?_
        refine brl1 10 false (by kernel_rfl) (by kernel_rfl) (fun _ => h.st.sees' (by first | exact LE.rfl | assumption) (by simp)) ?_
        refine sw0 tN28 h fun a w h => ?_
        refine br0 ?_
        refine en (by kernel_rfl) ?_
        refine thN ?_
        obtain ⟨Hx, leHx, h, hx1⟩ := h.fsl (α := Dc) (R := RDc) 1 (ys := [exD]) (RowR.one rfl rfl) (fun _ _ _ _ _ hr => hr)
        have l_H_Hx : LE H Hx := l_H_H39.trans leHx
        have l_HA_Hx : LE HA Hx := l_HA_H39.trans leHx
        have l_H21_Hx : LE H21 Hx := l_H21_H39.trans leHx
        have l_H22_Hx : LE H22 Hx := l_H22_H39.trans leHx
        have l_H27_Hx : LE H27 Hx := l_H27_H39.trans leHx
        have l_H28_Hx : LE H28 Hx := l_H28_H39.trans leHx
        have l_H29_Hx : LE H29 Hx := l_H29_H39.trans leHx
        have l_H35_Hx : LE H35 Hx := l_H35_H39.trans leHx
        have l_H39_Hx : LE H39 Hx := leHx
        obtain ⟨Hy, leHy, h, hx3⟩ := h.fsl (α := Df) (R := RDf) 1 (ys := [⟨[102], exF exX⟩]) (RowR.one rfl ⟨_, rfl, rt_of_ks (KS.up hk35 l_H35_Hx)⟩) (fun _ l _ _ _ hr => RDf.mono l hr)
        have l_H_Hy : LE H Hy := l_H_Hx.trans leHy
        have l_HA_Hy : LE HA Hy := l_HA_Hx.trans leHy
        have l_H21_Hy : LE H21 Hy := l_H21_Hx.trans leHy
        have l_H22_Hy : LE H22 Hy := l_H22_Hx.trans leHy
        have l_H27_Hy : LE H27 Hy := l_H27_Hx.trans leHy
        have l_H28_Hy : LE H28 Hy := l_H28_Hx.trans leHy
        have l_H29_Hy : LE H29 Hy := l_H29_Hx.trans leHy
        have l_H35_Hy : LE H35 Hy := l_H35_Hx.trans leHy
        have l_H39_Hy : LE H39 Hy := l_H39_Hx.trans leHy
        have l_Hx_Hy : LE Hx Hy := leHy
        have h := h.pull 2 rfl rfl
        have h := h.pull 2 rfl rfl
        have h := h.pull 2 rfl rfl
        have h := h.del 3
        exact ⟨_, g6, _, _, _, l_H29_Hy, CS.up hx1 l_Hx_Hy, hx3, KS.up hk39 l_H39_Hy, h.to 0 _⟩
       ·refine al zr28 h fun g6 a w h => ?_
        refine br0 ?_
        refine brl1 7 false (by kernel_rfl) (by kernel_rfl) (fun _ => h.st.sees' (by first | exact LE.rfl | assumption) (by simp)) ?_
        refine cl bod28 (fun_ok [120] exA _ E H35 _ (⟨_, _, rfl, KS.up hsA l_HA_H35⟩)) h (fun r39 H39 L39 a w le39 R h => ?_) (hS := fun _ _ _ _ _ le R hw => by obtain ⟨_, rfl, _, rfl⟩ := R; exact hw.sees' (by first | exact le | exact LE.trans (by assumption) le) (by simp))
        obtain ⟨A39, rfl, hk39, rfl⟩ := R
        have l_H_H39 : LE H H39 := l_H_H35.trans le39
        have l_HA_H39 : LE HA H39 := l_HA_H35.trans le39
        have l_H21_H39 : LE H21 H39 := l_H21_H35.trans le39
        have l_H22_H39 : LE H22 H39 := l_H22_H35.trans le39
        have l_H27_H39 : LE H27 H39 := l_H27_H35.trans le39
        have l_H28_H39 : LE H28 H39 := l_H28_H35.trans le39
        have l_H29_H39 : LE H29 H39 := l_H29_H35.trans le39
        have l_H35_H39 : LE H35 H39 := le39
        refine br0 ?_
        refine tkl 8 false (by kernel_rfl) ?_
        refine bdl lay28 zr28 h fun a w h => ?_
        refine tk0 ?_
        refine brl1 10 false (by kernel_rfl) (by kernel_rfl) (fun _ => h.st.sees' (by first | exact LE.rfl | assumption) (by simp)) ?_
        refine sw0 tN28 h fun a w h => ?_
        refine br0 ?_
        refine en (by kernel_rfl) ?_
        refine thN ?_
        obtain ⟨Hx, leHx, h, hx1⟩ := h.fsl (α := Dc) (R := RDc) 1 (ys := [exD]) (RowR.one rfl rfl) (fun _ _ _ _ _ hr => hr)
        have l_H_Hx : LE H Hx := l_H_H39.trans leHx
        have l_HA_Hx : LE HA Hx := l_HA_H39.trans leHx
        have l_H21_Hx : LE H21 Hx := l_H21_H39.trans leHx
        have l_H22_Hx : LE H22 Hx := l_H22_H39.trans leHx
        have l_H27_Hx : LE H27 Hx := l_H27_H39.trans leHx
        have l_H28_Hx : LE H28 Hx := l_H28_H39.trans leHx
        have l_H29_Hx : LE H29 Hx := l_H29_H39.trans leHx
        have l_H35_Hx : LE H35 Hx := l_H35_H39.trans leHx
        have l_H39_Hx : LE H39 Hx := leHx
        obtain ⟨Hy, leHy, h, hx3⟩ := h.fsl (α := Df) (R := RDf) 1 (ys := [⟨[102], exF exX⟩]) (RowR.one rfl ⟨_, rfl, rt_of_ks (KS.up hk35 l_H35_Hx)⟩) (fun _ l _ _ _ hr => RDf.mono l hr)
        have l_H_Hy : LE H Hy := l_H_Hx.trans leHy
        have l_HA_Hy : LE HA Hy := l_HA_Hx.trans leHy
        have l_H21_Hy : LE H21 Hy := l_H21_Hx.trans leHy
        have l_H22_Hy : LE H22 Hy := l_H22_Hx.trans leHy
        have l_H27_Hy : LE H27 Hy := l_H27_Hx.trans leHy
        have l_H28_Hy : LE H28 Hy := l_H28_Hx.trans leHy
        have l_H29_Hy : LE H29 Hy := l_H29_Hx.trans leHy
        have l_H35_Hy : LE H35 Hy := l_H35_Hx.trans leHy
        have l_H39_Hy : LE H39 Hy := l_H39_Hx.trans leHy
        have l_Hx_Hy : LE Hx Hy := leHy
        have h := h.pull 2 rfl rfl
        have h := h.pull 2 rfl rfl
        have h := h.pull 2 rfl rfl
        have h := h.del 3
        exact ⟨_, g6, _, _, _, l_H29_Hy, CS.up hx1 l_Hx_Hy, hx3, KS.up hk39 l_H39_Hy, h.to 0 _⟩
      ·refine cl bod28 (fun_ok [120] exA _ E H35 _ (⟨_, _, rfl, KS.up hsA l_HA_H35⟩)) h (fun r39 H39 L39 a w le39 R h => ?_) (hS := fun _ _ _ _ _ le R hw => by obtain ⟨_, rfl, _, rfl⟩ := R; exact hw.sees' (by first | exact le | exact LE.trans (by assumption) le) (by simp))
       obtain ⟨A39, rfl, hk39, rfl⟩ := R
       have l_H_H39 : LE H H39 := l_H_H35.trans le39
       have l_HA_H39 : LE HA H39 := l_HA_H35.trans le39
       have l_H21_H39 : LE H21 H39 := l_H21_H35.trans le39
       have l_H22_H39 : LE H22 H39 := l_H22_H35.trans le39
       have l_H27_H39 : LE H27 H39 := l_H27_H35.trans le39
       have l_H28_H39 : LE H28 H39 := l_H28_H35.trans le39
       have l_H29_H39 : LE H29 H39 := l_H29_H35.trans le39
       have l_H35_H39 : LE H35 H39 := le39
       refine br0 ?_
       refine brl2 1 9 true true (by kernel_rfl) (by kernel_rfl) (by kernel_rfl) (fun _ => h.st.sees' (by first | exact LE.rfl | assumption) (by simp)) ?_ ?_
       ·refine bsl bs25 h fun g33 a w h => ?_
        refine br0 ?_
        refine tkl 8 false (by kernel_rfl) ?_
        refine bdl lay28 zr28 h fun a w h => ?_
        refine tk0 ?_
        refine brl1 9 true (by kernel_rfl) (by kernel_rfl) (fun _ => h.st.sees' (by first | exact LE.rfl | assumption) (by simp)) ?_
        refine al zr28 h fun g6 a w h => ?_
        refine br0 ?_
        refine brl1 10 false (by kernel_rfl) (by kernel_rfl) (fun _ => h.st.sees' (by first | exact LE.rfl | assumption) (by simp)) ?_
        refine sw0 tN28 h fun a w h => ?_
        refine br0 ?_
        refine en (by kernel_rfl) ?_
        refine thN ?_
        obtain ⟨Hx, leHx, h, hx1⟩ := h.fsl (α := Dc) (R := RDc) 1 (ys := [exD]) (RowR.one rfl rfl) (fun _ _ _ _ _ hr => hr)
        have l_H_Hx : LE H Hx := l_H_H39.trans leHx
        have l_HA_Hx : LE HA Hx := l_HA_H39.trans leHx
        have l_H21_Hx : LE H21 Hx := l_H21_H39.trans leHx
        have l_H22_Hx : LE H22 Hx := l_H22_H39.trans leHx
        have l_H27_Hx : LE H27 Hx := l_H27_H39.trans leHx
        have l_H28_Hx : LE H28 Hx := l_H28_H39.trans leHx
        have l_H29_Hx : LE H29 Hx := l_H29_H39.trans leHx
        have l_H35_Hx : LE H35 Hx := l_H35_H39.trans leHx
        have l_H39_Hx : LE H39 Hx := leHx
        obtain ⟨Hy, leHy, h, hx3⟩ := h.fsl (α := Df) (R := RDf) 1 (ys := [⟨[102], exF exX⟩]) (RowR.one rfl ⟨_, rfl, rt_of_ks (KS.up hk35 l_H35_Hx)⟩) (fun _ l _ _ _ hr => RDf.mono l hr)
        have l_H_Hy : LE H Hy := l_H_Hx.trans leHy
        have l_HA_Hy : LE HA Hy := l_HA_Hx.trans leHy
        have l_H21_Hy : LE H21 Hy := l_H21_Hx.trans leHy
        have l_H22_Hy : LE H22 Hy := l_H22_Hx.trans leHy
        have l_H27_Hy : LE H27 Hy := l_H27_Hx.trans leHy
        have l_H28_Hy : LE H28 Hy := l_H28_Hx.trans leHy
        have l_H29_Hy : LE H29 Hy := l_H29_Hx.trans leHy
        have l_H35_Hy : LE H35 Hy := l_H35_Hx.trans leHy
        have l_H39_Hy : LE H39 Hy := l_H39_Hx.trans leHy
        have l_Hx_Hy : LE Hx Hy := leHy
        have h := h.pull 2 rfl rfl
        have h := h.pull 2 rfl rfl
        have h := h.pull 2 rfl rfl
        have h := h.del 3
        exact ⟨_, g6, _, _, _, l_H29_Hy, CS.up hx1 l_Hx_Hy, hx3, KS.up hk39 l_H39_Hy, h.to 0 _⟩
       ·refine al zr28 h fun g6 a w h => ?_
        refine br0 ?_
        refine brl1 1 true (by kernel_rfl) (by kernel_rfl) (fun _ => h.st.sees' (by first | exact LE.rfl | assumption) (by simp)) ?_
        refine bsl bs25 h fun g33 a w h => ?_
        refine br0 ?_
        refine tkl 8 false (by kernel_rfl) ?_
        refine bdl lay28 zr28 h fun a w h => ?_
        refine tk0 ?_
        refine brl1 10 false (by kernel_rfl) (by kernel_rfl) (fun _ => h.st.sees' (by first | exact LE.rfl | assumption) (by simp)) ?_
        refine sw1 tN28 h fun a w h => ?_
        refine br0 ?_
        refine en (by kernel_rfl) ?_
        refine thN ?_
        obtain ⟨Hx, leHx, h, hx1⟩ := h.fsl (α := Dc) (R := RDc) 0 (ys := [exD]) (RowR.one rfl rfl) (fun _ _ _ _ _ hr => hr)
        have l_H_Hx : LE H Hx := l_H_H39.trans leHx
        have l_HA_Hx : LE HA Hx := l_HA_H39.trans leHx
        have l_H21_Hx : LE H21 Hx := l_H21_H39.trans leHx
        have l_H22_Hx : LE H22 Hx := l_H22_H39.trans leHx
        have l_H27_Hx : LE H27 Hx := l_H27_H39.trans leHx
        have l_H28_Hx : LE H28 Hx := l_H28_H39.trans leHx
        have l_H29_Hx : LE H29 Hx := l_H29_H39.trans leHx
        have l_H35_Hx : LE H35 Hx := l_H35_H39.trans leHx
        have l_H39_Hx : LE H39 Hx := leHx
        obtain ⟨Hy, leHy, h, hx3⟩ := h.fsl (α := Df) (R := RDf) 1 (ys := [⟨[102], exF exX⟩]) (RowR.one rfl ⟨_, rfl, rt_of_ks (KS.up hk35 l_H35_Hx)⟩) (fun _ l _ _ _ hr => RDf.mono l hr)
        have l_H_Hy : LE H Hy := l_H_Hx.trans leHy
        have l_HA_Hy : LE HA Hy := l_HA_Hx.trans leHy
        have l_H21_Hy : LE H21 Hy := l_H21_Hx.trans leHy
        have l_H22_Hy : LE H22 Hy := l_H22_Hx.trans leHy
        have l_H27_Hy : LE H27 Hy := l_H27_Hx.trans leHy
        have l_H28_Hy : LE H28 Hy := l_H28_Hx.trans leHy
        have l_H29_Hy : LE H29 Hy := l_H29_Hx.trans leHy
        have l_H35_Hy : LE H35 Hy := l_H35_Hx.trans leHy
        have l_H39_Hy : LE H39 Hy := l_H39_Hx.trans leHy
        have l_Hx_Hy : LE Hx Hy := leHy
        have h := h.pull 2 rfl rfl
        have h := h.pull 2 rfl rfl
        have h := h.pull 2 rfl rfl
        have h := h.del 3
        exact ⟨_, g6, _, _, _, l_H29_Hy, CS.up hx1 l_Hx_Hy, hx3, KS.up hk39 l_H39_Hy, h.to 0 _⟩
      ·refine al zr28 h fun g6 a w h => ?_
       refine br0 ?_
       refine brl2 1 7 true false (by kernel_rfl) (by kernel_rfl) (by kernel_rfl) (fun _ => h.st.sees' (by first | exact LE.rfl | assumption) (by simp)) ?_ ?_
       ·refine bsl bs25 h fun g33 a w h => ?_
        refine br0 ?_
        refine brl1 7 false (by kernel_rfl) (by kernel_rfl) (fun _ => h.st.sees' (by first | exact LE.rfl | assumption) (by simp)) ?_
        refine cl bod28 (fun_ok [120] exA _ E H35 _ (⟨_, _, rfl, KS.up hsA l_HA_H35⟩)) h (fun r39 H39 L39 a w le39 R h => ?_) (hS := fun _ _ _ _ _ le R hw => by obtain ⟨_, rfl, _, rfl⟩ := R; exact hw.sees' (by first | exact le | exact LE.trans (by assumption) le) (by simp))
        obtain ⟨A39, rfl, hk39, rfl⟩ := R
        have l_H_H39 : LE H H39 := l_H_H35.trans le39
        have l_HA_H39 : LE HA H39 := l_HA_H35.trans le39
        have l_H21_H39 : LE H21 H39 := l_H21_H35.trans le39
        have l_H22_H39 : LE H22 H39 := l_H22_H35.trans le39
        have l_H27_H39 : LE H27 H39 := l_H27_H35.trans le39
        have l_H28_H39 : LE H28 H39 := l_H28_H35.trans le39
        have l_H29_H39 : LE H29 H39 := l_H29_H35.trans le39
        have l_H35_H39 : LE H35 H39 := le39
        refine br0 ?_
        refine tkl 8 false (by kernel_rfl) ?_
        refine bdl lay28 zr28 h fun a w h => ?_
        refine tk0 ?_
        refine brl1 10 false (by kernel_rfl) (by kernel_rfl) (fun _ => h.st.sees' (by first | exact LE.rfl | assumption) (by simp)) ?_
        refine sw1 tN28 h fun a w h => ?_
        refine br0 ?_
        refine en (by kernel_rfl) ?_
        refine thN ?_
        obtain ⟨Hx, leHx, h, hx1⟩ := h.fsl (α := Dc) (R := RDc) 0 (ys := [exD]) (RowR.one rfl rfl) (fun _ _ _ _ _ hr => hr)
        have l_H_Hx : LE H Hx := l_H_H39.trans leHx
        have l_HA_Hx : LE HA Hx := l_HA_H39.trans leHx
        have l_H21_Hx : LE H21 Hx := l_H21_H39.trans leHx
        have l_H22_Hx : LE H22 Hx := l_H22_H39.trans leHx
        have l_H27_Hx : LE H27 Hx := l_H27_H39.trans leHx
        have l_H28_Hx : LE H28 Hx := l_H28_H39.trans leHx
        have l_H29_Hx : LE H29 Hx := l_H29_H39.trans leHx
        have l_H35_Hx : LE H35 Hx := l_H35_H39.trans leHx
        have l_H39_Hx : LE H39 Hx := leHx
        obtain ⟨Hy, leHy, h, hx3⟩ := h.fsl (α := Df) (R := RDf) 1 (ys := [⟨[102], exF exX⟩]) (RowR.one rfl ⟨_, rfl, rt_of_ks (KS.up hk35 l_H35_Hx)⟩) (fun _ l _ _ _ hr => RDf.mono l hr)
        have l_H_Hy : LE H Hy := l_H_Hx.trans leHy
        have l_HA_Hy : LE HA Hy := l_HA_Hx.trans leHy
        have l_H21_Hy : LE H21 Hy := l_H21_Hx.trans leHy
        have l_H22_Hy : LE H22 Hy := l_H22_Hx.trans leHy
        have l_H27_Hy : LE H27 Hy := l_H27_Hx.trans leHy
        have l_H28_Hy : LE H28 Hy := l_H28_Hx.trans leHy
        have l_H29_Hy : LE H29 Hy := l_H29_Hx.trans leHy
        have l_H35_Hy : LE H35 Hy := l_H35_Hx.trans leHy
        have l_H39_Hy : LE H39 Hy := l_H39_Hx.trans leHy
        have l_Hx_Hy : LE Hx Hy := leHy
        have h := h.pull 2 rfl rfl
        have h := h.pull 2 rfl rfl
        have h := h.pull 2 rfl rfl
        have h := h.del 3
        exact ⟨_, g6, _, _, _, l_H29_Hy, CS.up hx1 l_Hx_Hy, hx3, KS.up hk39 l_H39_Hy, h.to 0 _⟩
       ·refine cl bod28 (fun_ok [120] exA _ E H35 _ (⟨_, _, rfl, KS.up hsA l_HA_H35⟩)) h (fun r39 H39 L39 a w le39 R h => ?_) (hS := fun _ _ _ _ _ le R hw => by obtain ⟨_, rfl, _, rfl⟩ := R; exact hw.sees' (by first | exact le | exact LE.trans (by assumption) le) (by simp))
        obtain ⟨A39, rfl, hk39, rfl⟩ := R
        have l_H_H39 : LE H H39 := l_H_H35.trans le39
        have l_HA_H39 : LE HA H39 := l_HA_H35.trans le39
        have l_H21_H39 : LE H21 H39 := l_H21_H35.trans le39
        have l_H22_H39 : LE H22 H39 := l_H22_H35.trans le39
        have l_H27_H39 : LE H27 H39 := l_H27_H35.trans le39
        have l_H28_H39 : LE H28 H39 := l_H28_H35.trans le39
        have l_H29_H39 : LE H29 H39 := l_H29_H35.trans le39
        have l_H35_H39 : LE H35 H39 := le39
        refine br0 ?_
        refine brl1 1 true (by kernel_rfl) (by kernel_rfl) (fun _ => h.st.sees' (by first | exact LE.rfl | assumption) (by simp)) ?_
        refine bsl bs25 h fun g33 a w h => ?_
        refine br0 ?_
        refine tkl 8 false (by kernel_rfl) ?_
        refine bdl lay28 zr28 h fun a w h => ?_
        refine tk0 ?_
        refine brl1 10 false (by kernel_rfl) (by kernel_rfl) (fun _ => h.st.sees' (by first | exact LE.rfl | assumption) (by simp)) ?_
        refine sw1 tN28 h fun a w h => ?_
        refine br0 ?_
        refine en (by kernel_rfl) ?_
        refine thN ?_
        obtain ⟨Hx, leHx, h, hx1⟩ := h.fsl (α := Dc) (R := RDc) 0 (ys := [exD]) (RowR.one rfl rfl) (fun _ _ _ _ _ hr => hr)
        have l_H_Hx : LE H Hx := l_H_H39.trans leHx
        have l_HA_Hx : LE HA Hx := l_HA_H39.trans leHx
        have l_H21_Hx : LE H21 Hx := l_H21_H39.trans leHx
        have l_H22_Hx : LE H22 Hx := l_H22_H39.trans leHx
        have l_H27_Hx : LE H27 Hx := l_H27_H39.trans leHx
        have l_H28_Hx : LE H28 Hx := l_H28_H39.trans leHx
        have l_H29_Hx : LE H29 Hx := l_H29_H39.trans leHx
        have l_H35_Hx : LE H35 Hx := l_H35_H39.trans leHx
        have l_H39_Hx : LE H39 Hx := leHx
        obtain ⟨Hy, leHy, h, hx3⟩ := h.fsl (α := Df) (R := RDf) 1 (ys := [⟨[102], exF exX⟩]) (RowR.one rfl ⟨_, rfl, rt_of_ks (KS.up hk35 l_H35_Hx)⟩) (fun _ l _ _ _ hr => RDf.mono l hr)
        have l_H_Hy : LE H Hy := l_H_Hx.trans leHy
        have l_HA_Hy : LE HA Hy := l_HA_Hx.trans leHy
        have l_H21_Hy : LE H21 Hy := l_H21_Hx.trans leHy
        have l_H22_Hy : LE H22 Hy := l_H22_Hx.trans leHy
        have l_H27_Hy : LE H27 Hy := l_H27_Hx.trans leHy
        have l_H28_Hy : LE H28 Hy := l_H28_Hx.trans leHy
        have l_H29_Hy : LE H29 Hy := l_H29_Hx.trans leHy
        have l_H35_Hy : LE H35 Hy := l_H35_Hx.trans leHy
        have l_H39_Hy : LE H39 Hy := l_H39_Hx.trans leHy
        have l_Hx_Hy : LE Hx Hy := leHy
        have h := h.pull 2 rfl rfl
        have h := h.pull 2 rfl rfl
        have h := h.pull 2 rfl rfl
        have h := h.del 3
        exact ⟨_, g6, _, _, _, l_H29_Hy, CS.up hx1 l_Hx_Hy, hx3, KS.up hk39 l_H39_Hy, h.to 0 _⟩
     ·refine cl bod28 (fun_ok [120] exA _ E H35 _ (⟨_, _, rfl, KS.up hsA l_HA_H35⟩)) h (fun r39 H39 L39 a w le39 R h => ?_) (hS := fun _ _ _ _ _ le R hw => by obtain ⟨_, rfl, _, rfl⟩ := R; exact hw.sees' (by first | exact le | exact LE.trans (by assumption) le) (by simp))
      obtain ⟨A39, rfl, hk39, rfl⟩ := R
      have l_H_H39 : LE H H39 := l_H_H35.trans le39
      have l_HA_H39 : LE HA H39 := l_HA_H35.trans le39
      have l_H21_H39 : LE H21 H39 := l_H21_H35.trans le39
      have l_H22_H39 : LE H22 H39 := l_H22_H35.trans le39
      have l_H27_H39 : LE H27 H39 := l_H27_H35.trans le39
      have l_H28_H39 : LE H28 H39 := l_H28_H35.trans le39
      have l_H29_H39 : LE H29 H39 := l_H29_H35.trans le39
      have l_H35_H39 : LE H35 H39 := le39
      refine br0 ?_
      refine brl3 1 5 9 true true true (by kernel_rfl) (by kernel_rfl) (by kernel_rfl) (by kernel_rfl) (fun _ => h.st.sees' (by first | exact LE.rfl | assumption) (by simp)) ?_ ?_ ?_
      ·refine bsl bs25 h fun g33 a w h => ?_
       refine br0 ?_
       refine brl2 5 9 true true (by kernel_rfl) (by kernel_rfl) (by kernel_rfl) (fun _ => h.st.sees' (by first | exact LE.rfl | assumption) (by simp)) ?_ ?_
       ·refine bsl bs26 h fun g37 a w h => ?_
        refine br0 ?_
        refine tkl 8 false (by kernel_rfl) ?_
        refine bdl lay28 zr28 h fun a w h => ?_
        refine tk0 ?_
        refine brl1 9 true (by kernel_rfl) (by kernel_rfl) (fun _ => h.st.sees' (by first | exact LE.rfl | assumption) (by simp)) ?_
        refine al zr28 h fun g6 a w h => ?_
        refine br0 ?_
        refine brl1 10 false (by kernel_rfl) (by kernel_rfl) (fun _ => h.st.sees' (by first | exact LE.rfl | assumption) (by simp)) ?_
        refine sw0 tN28 h fun a w h => ?_
        refine br0 ?_
        refine en (by kernel_rfl) ?_
        refine thN ?_
        obtain ⟨Hx, leHx, h, hx1⟩ := h.fsl (α := Dc) (R := RDc) 2 (ys := [exD]) (RowR.one rfl rfl) (fun _ _ _ _ _ hr => hr)
        have l_H_Hx : LE H Hx := l_H_H39.trans leHx
        have l_HA_Hx : LE HA Hx := l_HA_H39.trans leHx
        have l_H21_Hx : LE H21 Hx := l_H21_H39.trans leHx
        have l_H22_Hx : LE H22 Hx := l_H22_H39.trans leHx
        have l_H27_Hx : LE H27 Hx := l_H27_H39.trans leHx
        have l_H28_Hx : LE H28 Hx := l_H28_H39.trans leHx
        have l_H29_Hx : LE H29 Hx := l_H29_H39.trans leHx
        have l_H35_Hx : LE H35 Hx := l_H35_H39.trans leHx
        have l_H39_Hx : LE H39 Hx := leHx
        obtain ⟨Hy, leHy, h, hx3⟩ := h.fsl (α := Df) (R := RDf) 1 (ys := [⟨[102], exF exX⟩]) (RowR.one rfl ⟨_, rfl, rt_of_ks (KS.up hk35 l_H35_Hx)⟩) (fun _ l _ _ _ hr => RDf.mono l hr)
        have l_H_Hy : LE H Hy := l_H_Hx.trans leHy
        have l_HA_Hy : LE HA Hy := l_HA_Hx.trans leHy
        have l_H21_Hy : LE H21 Hy := l_H21_Hx.trans leHy
        have l_H22_Hy : LE H22 Hy := l_H22_Hx.trans leHy
        have l_H27_Hy : LE H27 Hy := l_H27_Hx.trans leHy
        have l_H28_Hy : LE H28 Hy := l_H28_Hx.trans leHy
        have l_H29_Hy : LE H29 Hy := l_H29_Hx.trans leHy
        have l_H35_Hy : LE H35 Hy := l_H35_Hx.trans leHy
        have l_H39_Hy : LE H39 Hy := l_H39_Hx.trans leHy
        have l_Hx_Hy : LE Hx Hy := leHy
        have h := h.pull 2 rfl rfl
        have h := h.pull 2 rfl rfl
        have h := h.pull 2 rfl rfl
        have h := h.del 3
        exact ⟨_, g6, _, _, _, l_H29_Hy, CS.up hx1 l_Hx_Hy, hx3, KS.up hk39 l_H39_Hy, h.to 0 _⟩
       ·refine al zr28 h fun g6 a w h => ?_
        refine br0 ?_
        refine brl1 5 true (by kernel_rfl) (by kernel_rfl) (fun _ => h.st.sees' (by first | exact LE.rfl | assumption) (by simp)) ?_
        refine bsl bs26 h fun g37 a w h => ?_
        refine br0 ?_
        refine tkl 8 false (by kernel_rfl) ?_
        refine bdl lay28 zr28 h fun a w h => ?_
        refine tk0 ?_
        refine brl1 10 false (by kernel_rfl) (by kernel_rfl) (fun _ => h.st.sees' (by first | exact LE.rfl | assumption) (by simp)) ?_
        refine sw1 tN28 h fun a w h => ?_
        refine br0 ?_
        refine en (by kernel_rfl) ?_
        refine thN ?_
        obtain ⟨Hx, leHx, h, hx1⟩ := h.fsl (α := Dc) (R := RDc) 2 (ys := [exD]) (RowR.one rfl rfl) (fun _ _ _ _ _ hr => hr)
        have l_H_Hx : LE H Hx := l_H_H39.trans leHx
        have l_HA_Hx : LE HA Hx := l_HA_H39.trans leHx
        have l_H21_Hx : LE H21 Hx := l_H21_H39.trans leHx
        have l_H22_Hx : LE H22 Hx := l_H22_H39.trans leHx
        have l_H27_Hx : LE H27 Hx := l_H27_H39.trans leHx
        have l_H28_Hx : LE H28 Hx := l_H28_H39.trans leHx
        have l_H29_Hx : LE H29 Hx := l_H29_H39.trans leHx
        have l_H35_Hx : LE H35 Hx := l_H35_H39.trans leHx
        have l_H39_Hx : LE H39 Hx := leHx
        obtain ⟨Hy, leHy, h, hx3⟩ := h.fsl (α := Df) (R := RDf) 0 (ys := [⟨[102], exF exX⟩]) (RowR.one rfl ⟨_, rfl, rt_of_ks (KS.up hk35 l_H35_Hx)⟩) (fun _ l _ _ _ hr => RDf.mono l hr)
        have l_H_Hy : LE H Hy := l_H_Hx.trans leHy
        have l_HA_Hy : LE HA Hy := l_HA_Hx.trans leHy
        have l_H21_Hy : LE H21 Hy := l_H21_Hx.trans leHy
        have l_H22_Hy : LE H22 Hy := l_H22_Hx.trans leHy
        have l_H27_Hy : LE H27 Hy := l_H27_Hx.trans leHy
        have l_H28_Hy : LE H28 Hy := l_H28_Hx.trans leHy
        have l_H29_Hy : LE H29 Hy := l_H29_Hx.trans leHy
        have l_H35_Hy : LE H35 Hy := l_H35_Hx.trans leHy
        have l_H39_Hy : LE H39 Hy := l_H39_Hx.trans leHy
        have l_Hx_Hy : LE Hx Hy := leHy
        have h := h.pull 2 rfl rfl
        have h := h.pull 2 rfl rfl
        have h := h.pull 2 rfl rfl
        have h := h.del 3
        exact ⟨_, g6, _, _, _, l_H29_Hy, CS.up hx1 l_Hx_Hy, hx3, KS.up hk39 l_H39_Hy, h.to 0 _⟩
      ·refine bsl bs26 h fun g37 a w h => ?_
       refine br0 ?_
       refine brl2 1 9 true true (by kernel_rfl) (by kernel_rfl) (by kernel_rfl) (fun _ => h.st.sees' (by first | exact LE.rfl | assumption) (by simp)) ?_ ?_
       ·refine bsl bs25 h fun g33 a w h => ?_
        refine br0 ?_
        refine tkl 8 false (by kernel_rfl) ?_
        refine bdl lay28 zr28 h fun a w h => ?_
        refine tk0 ?_
        refine brl1 9 true (by kernel_rfl) (by kernel_rfl) (fun _ => h.st.sees' (by first | exact LE.rfl | assumption) (by simp)) ?_
        refine al zr28 h fun g6 a w h => ?_
        refine br0 ?_
        refine brl1 10 false (by kernel_rfl) (by kernel_rfl) (fun _ => h.st.sees' (by first | exact LE.rfl | assumption) (by simp)) ?_
        refine sw0 tN28 h fun a w h => ?_
        refine br0 ?_
        refine en (by kernel_rfl) ?_
        refine thN ?_
        obtain ⟨Hx, leHx, h, hx1⟩ := h.fsl (α := Dc) (R := RDc) 1 (ys := [exD]) (RowR.one rfl rfl) (fun _ _ _ _ _ hr => hr)
        have l_H_Hx : LE H Hx := l_H_H39.trans leHx
        have l_HA_Hx : LE HA Hx := l_HA_H39.trans leHx
        have l_H21_Hx : LE H21 Hx := l_H21_H39.trans leHx
        have l_H22_Hx : LE H22 Hx := l_H22_H39.trans leHx
        have l_H27_Hx : LE H27 Hx := l_H27_H39.trans leHx
        have l_H28_Hx : LE H28 Hx := l_H28_H39.trans leHx
        have l_H29_Hx : LE H29 Hx := l_H29_H39.trans leHx
        have l_H35_Hx : LE H35 Hx := l_H35_H39.trans leHx
        have l_H39_Hx : LE H39 Hx := leHx
        obtain ⟨Hy, leHy, h, hx3⟩ := h.fsl (α := Df) (R := RDf) 1 (ys := [⟨[102], exF exX⟩]) (RowR.one rfl ⟨_, rfl, rt_of_ks (KS.up hk35 l_H35_Hx)⟩) (fun _ l _ _ _ hr => RDf.mono l hr)
        have l_H_Hy : LE H Hy := l_H_Hx.trans leHy
        have l_HA_Hy : LE HA Hy := l_HA_Hx.trans leHy
        have l_H21_Hy : LE H21 Hy := l_H21_Hx.trans leHy
        have l_H22_Hy : LE H22 Hy := l_H22_Hx.trans leHy
        have l_H27_Hy : LE H27 Hy := l_H27_Hx.trans leHy
        have l_H28_Hy : LE H28 Hy := l_H28_Hx.trans leHy
        have l_H29_Hy : LE H29 Hy := l_H29_Hx.trans leHy
        have l_H35_Hy : LE H35 Hy := l_H35_Hx.trans leHy
        have l_H39_Hy : LE H39 Hy := l_H39_Hx.trans leHy
        have l_Hx_Hy : LE Hx Hy := leHy
        have h := h.pull 2 rfl rfl
        have h := h.pull 2 rfl rfl
        have h := h.pull 2 rfl rfl
        have h := h.del 3
        exact ⟨_, g6, _, _, _, l_H29_Hy, CS.up hx1 l_Hx_Hy, hx3, KS.up hk39 l_H39_Hy, h.to 0 _⟩
       ·refine al zr28 h fun g6 a w h => ?_
        refine br0 ?_
        refine brl1 1 true (by kernel_rfl) (by kernel_rfl) (fun _ => h.st.sees' (by first | exact LE.rfl | assumption) (by simp)) ?_
        refine bsl bs25 h fun g33 a w h => ?_
        refine br0 ?_
        refine tkl 8 false (by kernel_rfl) ?_
        refine bdl lay28 zr28 h fun a w h => ?_
        refine tk0 ?_
        refine brl1 10 false (by kernel_rfl) (by kernel_rfl) (fun _ => h.st.sees' (by first | exact LE.rfl | assumption) (by simp)) ?_
        refine sw1 tN28 h fun a w h => ?_
        refine br0 ?_
        refine en (by kernel_rfl) ?_
        refine thN ?_
        obtain ⟨Hx, leHx, h, hx1⟩ := h.fsl (α := Dc) (R := RDc) 0 (ys := [exD]) (RowR.one rfl rfl) (fun _ _ _ _ _ hr => hr)
        have l_H_Hx : LE H Hx := l_H_H39.trans leHx
        have l_HA_Hx : LE HA Hx := l_HA_H39.trans leHx
        have l_H21_Hx : LE H21 Hx := l_H21_H39.trans leHx
        have l_H22_Hx : LE H22 Hx := l_H22_H39.trans leHx
        have l_H27_Hx : LE H27 Hx := l_H27_H39.trans leHx
        have l_H28_Hx : LE H28 Hx := l_H28_H39.trans leHx
        have l_H29_Hx : LE H29 Hx := l_H29_H39.trans leHx
        have l_H35_Hx : LE H35 Hx := l_H35_H39.trans leHx
        have l_H39_Hx : LE H39 Hx := leHx
        obtain ⟨Hy, leHy, h, hx3⟩ := h.fsl (α := Df) (R := RDf) 1 (ys := [⟨[102], exF exX⟩]) (RowR.one rfl ⟨_, rfl, rt_of_ks (KS.up hk35 l_H35_Hx)⟩) (fun _ l _ _ _ hr => RDf.mono l hr)
        have l_H_Hy : LE H Hy := l_H_Hx.trans leHy
        have l_HA_Hy : LE HA Hy := l_HA_Hx.trans leHy
        have l_H21_Hy : LE H21 Hy := l_H21_Hx.trans leHy
        have l_H22_Hy : LE H22 Hy := l_H22_Hx.trans leHy
        have l_H27_Hy : LE H27 Hy := l_H27_Hx.trans leHy
        have l_H28_Hy : LE H28 Hy := l_H28_Hx.trans leHy
        have l_H29_Hy : LE H29 Hy := l_H29_Hx.trans leHy
        have l_H35_Hy : LE H35 Hy := l_H35_Hx.trans leHy
        have l_H39_Hy : LE H39 Hy := l_H39_Hx.trans leHy
        have l_Hx_Hy : LE Hx Hy := leHy
        have h := h.pull 2 rfl rfl
        have h := h.pull 2 rfl rfl
        have h := h.pull 2 rfl rfl
        have h := h.del 3
        exact ⟨_, g6, _, _, _, l_H29_Hy, CS.up hx1 l_Hx_Hy, hx3, KS.up hk39 l_H39_Hy, h.to 0 _⟩
      ·refine al zr28 h fun g6 a w h => ?_
       refine br0 ?_
       refine brl2 1 5 true true (by kernel_rfl) (by kernel_rfl) (by kernel_rfl) (fun _ => h.st.sees' (by first | exact LE.rfl | assumption) (by simp)) ?_ ?_
       ·refine bsl bs25 h fun g33 a w h => ?_
        refine br0 ?_
        refine brl1 5 true (by kernel_rfl) (by kernel_rfl) (fun _ => h.st.sees' (by first | exact LE.rfl | assumption) (by simp)) ?_
        refine bsl bs26 h fun g37 a w h => ?_
        refine br0 ?_
        refine tkl 8 false (by kernel_rfl) ?_
        refine bdl lay28 zr28 h fun a w h => ?_
        refine tk0 ?_
        refine brl1 10 false (by kernel_rfl) (by kernel_rfl) (fun _ => h.st.sees' (by first | exact LE.rfl | assumption) (by simp)) ?_
        refine sw2 tN28 h fun a w h => ?_
        refine br0 ?_
        refine en (by kernel_rfl) ?_
        refine thN ?_
        obtain ⟨Hx, leHx, h, hx1⟩ := h.fsl (α := Dc) (R := RDc) 1 (ys := [exD]) (RowR.one rfl rfl) (fun _ _ _ _ _ hr => hr)
        have l_H_Hx : LE H Hx := l_H_H39.trans leHx
        have l_HA_Hx : LE HA Hx := l_HA_H39.trans leHx
        have l_H21_Hx : LE H21 Hx := l_H21_H39.trans leHx
        have l_H22_Hx : LE H22 Hx := l_H22_H39.trans leHx
        have l_H27_Hx : LE H27 Hx := l_H27_H39.trans leHx
        have l_H28_Hx : LE H28 Hx := l_H28_H39.trans leHx
        have l_H29_Hx : LE H29 Hx := l_H29_H39.trans leHx
        have l_H35_Hx : LE H35 Hx := l_H35_H39.trans leHx
        have l_H39_Hx : LE H39 Hx := leHx
        obtain ⟨Hy, leHy, h, hx3⟩ := h.fsl (α := Df) (R := RDf) 0 (ys := [⟨[102], exF exX⟩]) (RowR.one rfl ⟨_, rfl, rt_of_ks (KS.up hk35 l_H35_Hx)⟩) (fun _ l _ _ _ hr => RDf.mono l hr)
        have l_H_Hy : LE H Hy := l_H_Hx.trans leHy
        have l_HA_Hy : LE HA Hy := l_HA_Hx.trans leHy
        have l_H21_Hy : LE H21 Hy := l_H21_Hx.trans leHy
        have l_H22_Hy : LE H22 Hy := l_H22_Hx.trans leHy
        have l_H27_Hy : LE H27 Hy := l_H27_Hx.trans leHy
        have l_H28_Hy : LE H28 Hy := l_H28_Hx.trans leHy
        have l_H29_Hy : LE H29 Hy := l_H29_Hx.trans leHy
        have l_H35_Hy : LE H35 Hy := l_H35_Hx.trans leHy
        have l_H39_Hy : LE H39 Hy := l_H39_Hx.trans leHy
        have l_Hx_Hy : LE Hx Hy := leHy
        have h := h.pull 2 rfl rfl
        have h := h.pull 2 rfl rfl
        have h := h.pull 2 rfl rfl
        have h := h.del 3
        exact ⟨_, g6, _, _, _, l_H29_Hy, CS.up hx1 l_Hx_Hy, hx3, KS.up hk39 l_H39_Hy, h.to 0 _⟩
       ·refine bsl bs26 h fun g37 a w h => ?_
        refine br0 ?_
        refine brl1 1 true (by kernel_rfl) (by kernel_rfl) (fun _ => h.st.sees' (by first | exact LE.rfl | assumption) (by simp)) ?_
        refine bsl bs25 h fun g33 a w h => ?_
        refine br0 ?_
        refine tkl 8 false (by kernel_rfl) ?_
        refine bdl lay28 zr28 h fun a w h => ?_
        refine tk0 ?_
        refine brl1 10 false (by kernel_rfl) (by kernel_rfl) (fun _ => h.st.sees' (by first | exact LE.rfl | assumption) (by simp)) ?_
        refine sw2 tN28 h fun a w h => ?_
        refine br0 ?_
        refine en (by kernel_rfl) ?_
        refine thN ?_
        obtain ⟨Hx, leHx, h, hx1⟩ := h.fsl (α := Dc) (R := RDc) 0 (ys := [exD]) (RowR.one rfl rfl) (fun _ _ _ _ _ hr => hr)
        have l_H_Hx : LE H Hx := l_H_H39.trans leHx
        have l_HA_Hx : LE HA Hx := l_HA_H39.trans leHx
        have l_H21_Hx : LE H21 Hx := l_H21_H39.trans leHx
        have l_H22_Hx : LE H22 Hx := l_H22_H39.trans leHx
        have l_H27_Hx : LE H27 Hx := l_H27_H39.trans leHx
        have l_H28_Hx : LE H28 Hx := l_H28_H39.trans leHx
        have l_H29_Hx : LE H29 Hx := l_H29_H39.trans leHx
        have l_H35_Hx : LE H35 Hx := l_H35_H39.trans leHx
        have l_H39_Hx : LE H39 Hx := leHx
        obtain ⟨Hy, leHy, h, hx3⟩ := h.fsl (α := Df) (R := RDf) 0 (ys := [⟨[102], exF exX⟩]) (RowR.one rfl ⟨_, rfl, rt_of_ks (KS.up hk35 l_H35_Hx)⟩) (fun _ l _ _ _ hr => RDf.mono l hr)
        have l_H_Hy : LE H Hy := l_H_Hx.trans leHy
        have l_HA_Hy : LE HA Hy := l_HA_Hx.trans leHy
        have l_H21_Hy : LE H21 Hy := l_H21_Hx.trans leHy
        have l_H22_Hy : LE H22 Hy := l_H22_Hx.trans leHy
        have l_H27_Hy : LE H27 Hy := l_H27_Hx.trans leHy
        have l_H28_Hy : LE H28 Hy := l_H28_Hx.trans leHy
        have l_H29_Hy : LE H29 Hy := l_H29_Hx.trans leHy
        have l_H35_Hy : LE H35 Hy := l_H35_Hx.trans leHy
        have l_H39_Hy : LE H39 Hy := l_H39_Hx.trans leHy
        have l_Hx_Hy : LE Hx Hy := leHy
        have h := h.pull 2 rfl rfl
        have h := h.pull 2 rfl rfl
        have h := h.pull 2 rfl rfl
        have h := h.del 3
        exact ⟨_, g6, _, _, _, l_H29_Hy, CS.up hx1 l_Hx_Hy, hx3, KS.up hk39 l_H39_Hy, h.to 0 _⟩
     ·refine al zr28 h fun g6 a w h => ?_
      refine br0 ?_
      refine brl3 1 5 7 true true false (by kernel_rfl) (by kernel_rfl) (by kernel_rfl) (by kernel_rfl) (fun _ => h.st.sees' (by first | exact LE.rfl | assumption) (by simp)) ?_ ?_ ?_
      ·refine bsl bs25 h fun g33 a w h => ?_
       refine br0 ?_
       refine brl2 5 7 true false (by kernel_rfl) (by kernel_rfl) (by kernel_rfl) (fun _ => h.st.sees' (by first | exact LE.rfl | assumption) (by simp)) ?_ ?_
       ·refine bsl bs26 h fun g37 a w h => ?_
        refine br0 ?_
        refine brl1 7 false (by kernel_rfl) (by kernel_rfl) (fun _ => h.st.sees' (by first | exact LE.rfl | assumption) (by simp)) ?_
        refine cl bod28 (fun_ok [120] exA _ E H35 _ (⟨_, _, rfl, KS.up hsA l_HA_H35⟩)) h (fun r39 H39 L39 a w le39 R h => ?_) (hS := fun _ _ _ _ _ le R hw => by obtain ⟨_, rfl, _, rfl⟩ := R; exact hw.sees' (by first | exact le | exact LE.trans (by assumption) le) (by simp))
        obtain ⟨A39, rfl, hk39, rfl⟩ := R
        have l_H_H39 : LE H H39 := l_H_H35.trans le39
        have l_HA_H39 : LE HA H39 := l_HA_H35.trans le39
        have l_H21_H39 : LE H21 H39 := l_H21_H35.trans le39
        have l_H22_H39 : LE H22 H39 := l_H22_H35.trans le39
        have l_H27_H39 : LE H27 H39 := l_H27_H35.trans le39
        have l_H28_H39 : LE H28 H39 := l_H28_H35.trans le39
        have l_H29_H39 : LE H29 H39 := l_H29_H35.trans le39
        have l_H35_H39 : LE H35 H39 := le39
        refine br0 ?_
        refine tkl 8 false (by kernel_rfl) ?_
        refine bdl lay28 zr28 h fun a w h => ?_
        refine tk0 ?_
        refine brl1 10 false (by kernel_rfl) (by kernel_rfl) (fun _ => h.st.sees' (by first | exact LE.rfl | assumption) (by simp)) ?_
        refine sw2 tN28 h fun a w h => ?_
        refine br0 ?_
        refine en (by kernel_rfl) ?_
        refine thN ?_
        obtain ⟨Hx, leHx, h, hx1⟩ := h.fsl (α := Dc) (R := RDc) 1 (ys := [exD]) (RowR.one rfl rfl) (fun _ _ _ _ _ hr => hr)
        have l_H_Hx : LE H Hx := l_H_H39.trans leHx
        have l_HA_Hx : LE HA Hx := l_HA_H39.trans leHx
        have l_H21_Hx : LE H21 Hx := l_H21_H39.trans leHx
        have l_H22_Hx : LE H22 Hx := l_H22_H39.trans leHx
        have l_H27_Hx : LE H27 Hx := l_H27_H39.trans leHx
        have l_H28_Hx : LE H28 Hx := l_H28_H39.trans leHx
        have l_H29_Hx : LE H29 Hx := l_H29_H39.trans leHx
        have l_H35_Hx : LE H35 Hx := l_H35_H39.trans leHx
        have l_H39_Hx : LE H39 Hx := leHx
        obtain ⟨Hy, leHy, h, hx3⟩ := h.fsl (α := Df) (R := RDf) 0 (ys := [⟨[102], exF exX⟩]) (RowR.one rfl ⟨_, rfl, rt_of_ks (KS.up hk35 l_H35_Hx)⟩) (fun _ l _ _ _ hr => RDf.mono l hr)
        have l_H_Hy : LE H Hy := l_H_Hx.trans leHy
        have l_HA_Hy : LE HA Hy := l_HA_Hx.trans leHy
        have l_H21_Hy : LE H21 Hy := l_H21_Hx.trans leHy
        have l_H22_Hy : LE H22 Hy := l_H22_Hx.trans leHy
        have l_H27_Hy : LE H27 Hy := l_H27_Hx.trans leHy
        have l_H28_Hy : LE H28 Hy := l_H28_Hx.trans leHy
        have l_H29_Hy : LE H29 Hy := l_H29_Hx.trans leHy
        have l_H35_Hy : LE H35 Hy := l_H35_Hx.trans leHy
        have l_H39_Hy : LE H39 Hy := l_H39_Hx.trans leHy
        have l_Hx_Hy : LE Hx Hy := leHy
        have h := h.pull 2 rfl rfl
        have h := h.pull 2 rfl rfl
        have h := h.pull 2 rfl rfl
        have h := h.del 3
        exact ⟨_, g6, _, _, _, l_H29_Hy, CS.up hx1 l_Hx_Hy, hx3, KS.up hk39 l_H39_Hy, h.to 0 _⟩
       ·refine cl bod28 (fun_ok [120] exA _ E H35 _ (⟨_, _, rfl, KS.up hsA l_HA_H35⟩)) h (fun r39 H39 L39 a w le39 R h => ?_) (hS := fun _ _ _ _ _ le R hw => by obtain ⟨_, rfl, _, rfl⟩ := R; exact hw.sees' (by first | exact le | exact LE.trans (by assumption) le) (by simp))
        obtain ⟨A39, rfl, hk39, rfl⟩ := R
        have l_H_H39 : LE H H39 := l_H_H35.trans le39
        have l_HA_H39 : LE HA H39 := l_HA_H35.trans le39
        have l_H21_H39 : LE H21 H39 := l_H21_H35.trans le39
        have l_H22_H39 : LE H22 H39 := l_H22_H35.trans le39
        have l_H27_H39 : LE H27 H39 := l_H27_H35.trans le39
        have l_H28_H39 : LE H28 H39 := l_H28_H35.trans le39
        have l_H29_H39 : LE H29 H39 := l_H29_H35.trans le39
        have l_H35_H39 : LE H35 H39 := le39
        refine br0 ?_
        refine brl1 5 true (by kernel_rfl) (by kernel_rfl) (fun _ => h.st.sees' (by first | exact LE.rfl | assumption) (by simp)) ?_
        refine bsl bs26 h fun g37 a w h => ?_
        refine br0 ?_
        refine tkl 8 false (by kernel_rfl) ?_
        refine bdl lay28 zr28 h fun a w h => ?_
        refine tk0 ?_
        refine brl1 10 false (by kernel_rfl) (by kernel_rfl) (fun _ => h.st.sees' (by first | exact LE.rfl | assumption) (by simp)) ?_
        refine sw2 tN28 h fun a w h => ?_
        refine br0 ?_
        refine en (by kernel_rfl) ?_
        refine thN ?_
        obtain ⟨Hx, leHx, h, hx1⟩ := h.fsl (α := Dc) (R := RDc) 1 (ys := [exD]) (RowR.one rfl rfl) (fun _ _ _ _ _ hr => hr)
        have l_H_Hx : LE H Hx := l_H_H39.trans leHx
        have l_HA_Hx : LE HA Hx := l_HA_H39.trans leHx
        have l_H21_Hx : LE H21 Hx := l_H21_H39.trans leHx
        have l_H22_Hx : LE H22 Hx := l_H22_H39.trans leHx
        have l_H27_Hx : LE H27 Hx := l_H27_H39.trans leHx
        have l_H28_Hx : LE H28 Hx := l_H28_H39.trans leHx
        have l_H29_Hx : LE H29 Hx := l_H29_H39.trans leHx
        have l_H35_Hx : LE H35 Hx := l_H35_H39.trans leHx
        have l_H39_Hx : LE H39 Hx := leHx
        obtain ⟨Hy, leHy, h, hx3⟩ := h.fsl (α := Df) (R := RDf) 0 (ys := [⟨[102], exF exX⟩]) (RowR.one rfl ⟨_, rfl, rt_of_ks (KS.up hk35 l_H35_Hx)⟩) (fun _ l _ _ _ hr => RDf.mono l hr)
        have l_H_Hy : LE H Hy := l_H_Hx.trans leHy
        have l_HA_Hy : LE HA Hy := l_HA_Hx.trans leHy
        have l_H21_Hy : LE H21 Hy := l_H21_Hx.trans leHy
        have l_H22_Hy : LE H22 Hy := l_H22_Hx.trans leHy
        have l_H27_Hy : LE H27 Hy := l_H27_Hx.trans leHy
        have l_H28_Hy : LE H28 Hy := l_H28_Hx.trans leHy
        have l_H29_Hy : LE H29 Hy := l_H29_Hx.trans leHy
        have l_H35_Hy : LE H35 Hy := l_H35_Hx.trans leHy
        have l_H39_Hy : LE H39 Hy := l_H39_Hx.trans leHy
        have l_Hx_Hy : LE Hx Hy := leHy
        have h := h.pull 2 rfl rfl
        have h := h.pull 2 rfl rfl
        have h := h.pull 2 rfl rfl
        have h := h.del 3
        exact ⟨_, g6, _, _, _, l_H29_Hy, CS.up hx1 l_Hx_Hy, hx3, KS.up hk39 l_H39_Hy, h.to 0 _⟩
      ·refine bsl bs26 h fun g37 a w h => ?_
       refine br0 ?_
       refine brl2 1 7 true false (by kernel_rfl) (by kernel_rfl) (by kernel_rfl) (fun _ => h.st.sees' (by first | exact LE.rfl | assumption) (by simp)) ?_ ?_
       ·refine bsl bs25 h fun g33 a w h => ?_
        refine br0 ?_
        refine brl1 7 false (by kernel_rfl) (by kernel_rfl) (fun _ => h.st.sees' (by first | exact LE.rfl | assumption) (by simp)) ?_
        refine cl bod28 (fun_ok [120] exA _ E H35 _ (⟨_, _, rfl, KS.up hsA l_HA_H35⟩)) h (fun r39 H39 L39 a w le39 R h => ?_) (hS := fun _ _ _ _ _ le R hw => by obtain ⟨_, rfl, _, rfl⟩ := R; exact hw.sees' (by first | exact le | exact LE.trans (by assumption) le) (by simp))
        obtain ⟨A39, rfl, hk39, rfl⟩ := R
        have l_H_H39 : LE H H39 := l_H_H35.trans le39
        have l_HA_H39 : LE HA H39 := l_HA_H35.trans le39
        have l_H21_H39 : LE H21 H39 := l_H21_H35.trans le39
        have l_H22_H39 : LE H22 H39 := l_H22_H35.trans le39
        have l_H27_H39 : LE H27 H39 := l_H27_H35.trans le39
        have l_H28_H39 : LE H28 H39 := l_H28_H35.trans le39
        have l_H29_H39 : LE H29 H39 := l_H29_H35.trans le39
        have l_H35_H39 : LE H35 H39 := le39
        refine br0 ?_
        refine tkl 8 false (by kernel_rfl) ?_
        refine bdl lay28 zr28 h fun a w h => ?_
        refine tk0 ?_
        refine brl1 10 false (by kernel_rfl) (by kernel_rfl) (fun _ => h.st.sees' (by first | exact LE.rfl | assumption) (by simp)) ?_
        refine sw2 tN28 h fun a w h => ?_
        refine br0 ?_
        refine en (by kernel_rfl) ?_
        refine thN ?_
        obtain ⟨Hx, leHx, h, hx1⟩ := h.fsl (α := Dc) (R := RDc) 0 (ys := [exD]) (RowR.one rfl rfl) (fun _ _ _ _ _ hr => hr)
        have l_H_Hx : LE H Hx := l_H_H39.trans leHx
        have l_HA_Hx : LE HA Hx := l_HA_H39.trans leHx
        have l_H21_Hx : LE H21 Hx := l_H21_H39.trans leHx
        have l_H22_Hx : LE H22 Hx := l_H22_H39.trans leHx
        have l_H27_Hx : LE H27 Hx := l_H27_H39.trans leHx
        have l_H28_Hx : LE H28 Hx := l_H28_H39.trans leHx
        have l_H29_Hx : LE H29 Hx := l_H29_H39.trans leHx
        have l_H35_Hx : LE H35 Hx := l_H35_H39.trans leHx
        have l_H39_Hx : LE H39 Hx := leHx
        obtain ⟨Hy, leHy, h, hx3⟩ := h.fsl (α := Df) (R := RDf) 0 (ys := [⟨[102], exF exX⟩]) (RowR.one rfl ⟨_, rfl, rt_of_ks (KS.up hk35 l_H35_Hx)⟩) (fun _ l _ _ _ hr => RDf.mono l hr)
        have l_H_Hy : LE H Hy := l_H_Hx.trans leHy
        have l_HA_Hy : LE HA Hy := l_HA_Hx.trans leHy
        have l_H21_Hy : LE H21 Hy := l_H21_Hx.trans leHy
        have l_H22_Hy : LE H22 Hy := l_H22_Hx.trans leHy
        have l_H27_Hy : LE H27 Hy := l_H27_Hx.trans leHy
        have l_H28_Hy : LE H28 Hy := l_H28_Hx.trans leHy
        have l_H29_Hy : LE H29 Hy := l_H29_Hx.trans leHy
        have l_H35_Hy : LE H35 Hy := l_H35_Hx.trans leHy
        have l_H39_Hy : LE H39 Hy := l_H39_Hx.trans leHy
        have l_Hx_Hy : LE Hx Hy := leHy
        have h := h.pull 2 rfl rfl
        have h := h.pull 2 rfl rfl
        have h := h.pull 2 rfl rfl
        have h := h.del 3
        exact ⟨_, g6, _, _, _, l_H29_Hy, CS.up hx1 l_Hx_Hy, hx3, KS.up hk39 l_H39_Hy, h.to 0 _⟩
       ·refine cl bod28 (fun_ok [120] exA _ E H35 _ (⟨_, _, rfl, KS.up hsA l_HA_H35⟩)) h (fun r39 H39 L39 a w le39 R h => ?_) (hS := fun _ _ _ _ _ le R hw => by obtain ⟨_, rfl, _, rfl⟩ := R; exact hw.sees' (by first | exact le | exact LE.trans (by assumption) le) (by simp))
        obtain ⟨A39, rfl, hk39, rfl⟩ := R
        have l_H_H39 : LE H H39 := l_H_H35.trans le39
        have l_HA_H39 : LE HA H39 := l_HA_H35.trans le39
        have l_H21_H39 : LE H21 H39 := l_H21_H35.trans le39
        have l_H22_H39 : LE H22 H39 := l_H22_H35.trans le39
        have l_H27_H39 : LE H27 H39 := l_H27_H35.trans le39
        have l_H28_H39 : LE H28 H39 := l_H28_H35.trans le39
        have l_H29_H39 : LE H29 H39 := l_H29_H35.trans le39
        have l_H35_H39 : LE H35 H39 := le39
        refine br0 ?_
        refine brl1 1 true (by kernel_rfl) (by kernel_rfl) (fun _ => h.st.sees' (by first | exact LE.rfl | assumption) (by simp)) ?_
        refine bsl bs25 h fun g33 a w h => ?_
        refine br0 ?_
        refine tkl 8 false (by kernel_rfl) ?_
        refine bdl lay28 zr28 h fun a w h => ?_
        refine tk0 ?_
        refine brl1 10 false (by kernel_rfl) (by kernel_rfl) (fun _ => h.st.sees' (by first | exact LE.rfl | assumption) (by simp)) ?_
        refine sw2 tN28 h fun a w h => ?_
        refine br0 ?_
        refine en (by kernel_rfl) ?_
        refine thN ?_
        obtain ⟨Hx, leHx, h, hx1⟩ := h.fsl (α := Dc) (R := RDc) 0 (ys := [exD]) (RowR.one rfl rfl) (fun _ _ _ _ _ hr => hr)
        have l_H_Hx : LE H Hx := l_H_H39.trans leHx
        have l_HA_Hx : LE HA Hx := l_HA_H39.trans leHx
        have l_H21_Hx : LE H21 Hx := l_H21_H39.trans leHx
        have l_H22_Hx : LE H22 Hx := l_H22_H39.trans leHx
        have l_H27_Hx : LE H27 Hx := l_H27_H39.trans leHx
        have l_H28_Hx : LE H28 Hx := l_H28_H39.trans leHx
        have l_H29_Hx : LE H29 Hx := l_H29_H39.trans leHx
        have l_H35_Hx : LE H35 Hx := l_H35_H39.trans leHx
        have l_H39_Hx : LE H39 Hx := leHx
        obtain ⟨Hy, leHy, h, hx3⟩ := h.fsl (α := Df) (R := RDf) 0 (ys := [⟨[102], exF exX⟩]) (RowR.one rfl ⟨_, rfl, rt_of_ks (KS.up hk35 l_H35_Hx)⟩) (fun _ l _ _ _ hr => RDf.mono l hr)
        have l_H_Hy : LE H Hy := l_H_Hx.trans leHy
        have l_HA_Hy : LE HA Hy := l_HA_Hx.trans leHy
        have l_H21_Hy : LE H21 Hy := l_H21_Hx.trans leHy
        have l_H22_Hy : LE H22 Hy := l_H22_Hx.trans leHy
        have l_H27_Hy : LE H27 Hy := l_H27_Hx.trans leHy
        have l_H28_Hy : LE H28 Hy := l_H28_Hx.trans leHy
        have l_H29_Hy : LE H29 Hy := l_H29_Hx.trans leHy
        have l_H35_Hy : LE H35 Hy := l_H35_Hx.trans leHy
        have l_H39_Hy : LE H39 Hy := l_H39_Hx.trans leHy
        have l_Hx_Hy : LE Hx Hy := leHy
        have h := h.pull 2 rfl rfl
        have h := h.pull 2 rfl rfl
        have h := h.pull 2 rfl rfl
        have h := h.del 3
        exact ⟨_, g6, _, _, _, l_H29_Hy, CS.up hx1 l_Hx_Hy, hx3, KS.up hk39 l_H39_Hy, h.to 0 _⟩
      ·refine cl bod28 (fun_ok [120] exA _ E H35 _ (⟨_, _, rfl, KS.up hsA l_HA_H35⟩)) h (fun r39 H39 L39 a w le39 R h => ?_) (hS := fun _ _ _ _ _ le R hw => by obtain ⟨_, rfl, _, rfl⟩ := R; exact hw.sees' (by first | exact le | exact LE.trans (by assumption) le) (by simp))
       obtain ⟨A39, rfl, hk39, rfl⟩ := R
       have l_H_H39 : LE H H39 := l_H_H35.trans le39
       have l_HA_H39 : LE HA H39 := l_HA_H35.trans le39
       have l_H21_H39 : LE H21 H39 := l_H21_H35.trans le39
       have l_H22_H39 : LE H22 H39 := l_H22_H35.trans le39
       have l_H27_H39 : LE H27 H39 := l_H27_H35.trans le39
       have l_H28_H39 : LE H28 H39 := l_H28_H35.trans le39
       have l_H29_H39 : LE H29 H39 := l_H29_H35.trans le39
       have l_H35_H39 : LE H35 H39 := le39
       refine br0 ?_
       refine brl2 1 5 true true (by kernel_rfl) (by kernel_rfl) (by kernel_rfl) (fun _ => h.st.sees' (by first | exact LE.rfl | assumption) (by simp)) ?_ ?_
       ·refine bsl bs25 h fun g33 a w h => ?_
        refine br0 ?_
        refine brl1 5 true (by kernel_rfl) (by kernel_rfl) (fun _ => h.st.sees' (by first | exact LE.rfl | assumption) (by simp)) ?_
        refine bsl bs26 h fun g37 a w h => ?_
        refine br0 ?_
        refine tkl 8 false (by kernel_rfl) ?_
        refine bdl lay28 zr28 h fun a w h => ?_
        refine tk0 ?_
        refine brl1 10 false (by kernel_rfl) (by kernel_rfl) (fun _ => h.st.sees' (by first | exact LE.rfl | assumption) (by simp)) ?_
        refine sw2 tN28 h fun a w h => ?_
        refine br0 ?_
        refine en (by kernel_rfl) ?_
        refine thN ?_
        obtain ⟨Hx, leHx, h, hx1⟩ := h.fsl (α := Dc) (R := RDc) 1 (ys := [exD]) (RowR.one rfl rfl) (fun _ _ _ _ _ hr => hr)
        have l_H_Hx : LE H Hx := l_H_H39.trans leHx
        have l_HA_Hx : LE HA Hx := l_HA_H39.trans leHx
        have l_H21_Hx : LE H21 Hx := l_H21_H39.trans leHx
        have l_H22_Hx : LE H22 Hx := l_H22_H39.trans leHx
        have l_H27_Hx : LE H27 Hx := l_H27_H39.trans leHx
        have l_H28_Hx : LE H28 Hx := l_H28_H39.trans leHx
        have l_H29_Hx : LE H29 Hx := l_H29_H39.trans leHx
        have l_H35_Hx : LE H35 Hx := l_H35_H39.trans leHx
        have l_H39_Hx : LE H39 Hx := leHx
        obtain ⟨Hy, leHy, h, hx3⟩ := h.fsl (α := Df) (R := RDf) 0 (ys := [⟨[102], exF exX⟩]) (RowR.one rfl ⟨_, rfl, rt_of_ks (KS.up hk35 l_H35_Hx)⟩) (fun _ l _ _ _ hr => RDf.mono l hr)
        have l_H_Hy : LE H Hy := l_H_Hx.trans leHy
        have l_HA_Hy : LE HA Hy := l_HA_Hx.trans leHy
        have l_H21_Hy : LE H21 Hy := l_H21_Hx.trans leHy
        have l_H22_Hy : LE H22 Hy := l_H22_Hx.trans leHy
        have l_H27_Hy : LE H27 Hy := l_H27_Hx.trans leHy
        have l_H28_Hy : LE H28 Hy := l_H28_Hx.trans leHy
        have l_H29_Hy : LE H29 Hy := l_H29_Hx.trans leHy
        have l_H35_Hy : LE H35 Hy := l_H35_Hx.trans leHy
        have l_H39_Hy : LE H39 Hy := l_H39_Hx.trans leHy
        have l_Hx_Hy : LE Hx Hy := leHy
        have h := h.pull 2 rfl rfl
        have h := h.pull 2 rfl rfl
        have h := h.pull 2 rfl rfl
        have h := h.del 3
        exact ⟨_, g6, _, _, _, l_H29_Hy, CS.up hx1 l_Hx_Hy, hx3, KS.up hk39 l_H39_Hy, h.to 0 _⟩
       ·refine bsl bs26 h fun g37 a w h => ?_
        refine br0 ?_
        refine brl1 1 true (by kernel_rfl) (by kernel_rfl) (fun _ => h.st.sees' (by first | exact LE.rfl | assumption) (by simp)) ?_
        refine bsl bs25 h fun g33 a w h => ?_
        refine br0 ?_
        refine tkl 8 false (by kernel_rfl) ?_
        refine bdl lay28 zr28 h fun a w h => ?_
        refine tk0 ?_
        refine brl1 10 false (by kernel_rfl) (by kernel_rfl) (fun _ => h.st.sees' (by first | exact LE.rfl | assumption) (by simp)) ?_
        refine sw2 tN28 h fun a w h => ?_
        refine br0 ?_
        refine en (by kernel_rfl) ?_
        refine thN ?_
        obtain ⟨Hx, leHx, h, hx1⟩ := h.fsl (α := Dc) (R := RDc) 0 (ys := [exD]) (RowR.one rfl rfl) (fun _ _ _ _ _ hr => hr)
        have l_H_Hx : LE H Hx := l_H_H39.trans leHx
        have l_HA_Hx : LE HA Hx := l_HA_H39.trans leHx
        have l_H21_Hx : LE H21 Hx := l_H21_H39.trans leHx
        have l_H22_Hx : LE H22 Hx := l_H22_H39.trans leHx
        have l_H27_Hx : LE H27 Hx := l_H27_H39.trans leHx
        have l_H28_Hx : LE H28 Hx := l_H28_H39.trans leHx
        have l_H29_Hx : LE H29 Hx := l_H29_H39.trans leHx
        have l_H35_Hx : LE H35 Hx := l_H35_H39.trans leHx
        have l_H39_Hx : LE H39 Hx := leHx
        obtain ⟨Hy, leHy, h, hx3⟩ := h.fsl (α := Df) (R := RDf) 0 (ys := [⟨[102], exF exX⟩]) (RowR.one rfl ⟨_, rfl, rt_of_ks (KS.up hk35 l_H35_Hx)⟩) (fun _ l _ _ _ hr => RDf.mono l hr)
        have l_H_Hy : LE H Hy := l_H_Hx.trans leHy
        have l_HA_Hy : LE HA Hy := l_HA_Hx.trans leHy
        have l_H21_Hy : LE H21 Hy := l_H21_Hx.trans leHy
        have l_H22_Hy : LE H22 Hy := l_H22_Hx.trans leHy
        have l_H27_Hy : LE H27 Hy := l_H27_Hx.trans leHy
        have l_H28_Hy : LE H28 Hy := l_H28_Hx.trans leHy
        have l_H29_Hy : LE H29 Hy := l_H29_Hx.trans leHy
        have l_H35_Hy : LE H35 Hy := l_H35_Hx.trans leHy
        have l_H39_Hy : LE H39 Hy := l_H39_Hx.trans leHy
        have l_Hx_Hy : LE Hx Hy := leHy
        have h := h.pull 2 rfl rfl
        have h := h.pull 2 rfl rfl
        have h := h.pull 2 rfl rfl
        have h := h.del 3
        exact ⟨_, g6, _, _, _, l_H29_Hy, CS.up hx1 l_Hx_Hy, hx3, KS.up hk39 l_H39_Hy, h.to 0 _⟩
    ·refine al zr28 h fun g6 a w h => ?_
     refine br0 ?_
     refine brl2 1 3 true true (by kernel_rfl) (by kernel_rfl) (by kernel_rfl) (fun _ => h.st.sees' (by first | exact LE.rfl | assumption) (by simp)) ?_ ?_
     ·refine bsl bs25 h fun g33 a w h => ?_
      refine br0 ?_
      refine brl1 3 true (by kernel_rfl) (by kernel_rfl) (fun _ => h.st.sees' (by first | exact LE.rfl | assumption) (by simp)) ?_
      refine cl bod28 (fun_ok [120] exX _ E H29 _ (⟨none, 0, rfl, RS.nil _ _ _⟩)) h (fun r35 H35 L35 a w le35 R h => ?_) (hS := fun _ _ _ _ _ le R hw => by obtain ⟨_, rfl, _, rfl⟩ := R; exact hw.sees' (by first | exact le | exact LE.trans (by assumption) le) (by simp))
      obtain ⟨A35, rfl, hk35, rfl⟩ := R
      have l_H_H35 : LE H H35 := l_H_H29.trans le35
      have l_HA_H35 : LE HA H35 := l_HA_H29.trans le35
      have l_H21_H35 : LE H21 H35 := l_H21_H29.trans le35
      have l_H22_H35 : LE H22 H35 := l_H22_H29.trans le35
      have l_H27_H35 : LE H27 H35 := l_H27_H29.trans le35
      have l_H28_H35 : LE H28 H35 := l_H28_H29.trans le35
      have l_H29_H35 : LE H29 H35 := le35
      refine br0 ?_
      refine tkl 4 false (by kernel_rfl) ?_
      refine bdl lay68 zr68 h fun a w h => ?_
      refine tk0 ?_
      refine brl2 5 7 true false (by kernel_rfl) (by kernel_rfl) (by kernel_rfl) (fun _ => h.st.sees' (by first | exact LE.rfl | assumption) (by simp)) ?_ ?_
      ·refine bsl bs26 h fun g37 a w h => ?_
       refine br0 ?_
       refine brl1 7 false (by kernel_rfl) (by kernel_rfl) (fun _ => h.st.sees' (by first | exact LE.rfl | assumption) (by simp)) ?_
       refine cl bod28 (fun_ok [120] exA _ E H35 _ (⟨_, _, rfl, KS.up hsA l_HA_H35⟩)) h (fun r39 H39 L39 a w le39 R h => ?_) (hS := fun _ _ _ _ _ le R hw => by obtain ⟨_, rfl, _, rfl⟩ := R; exact hw.sees' (by first | exact le | exact LE.trans (by assumption) le) (by simp))
       obtain ⟨A39, rfl, hk39, rfl⟩ := R
       have l_H_H39 : LE H H39 := l_H_H35.trans le39
       have l_HA_H39 : LE HA H39 := l_HA_H35.trans le39
       have l_H21_H39 : LE H21 H39 := l_H21_H35.trans le39
       have l_H22_H39 : LE H22 H39 := l_H22_H35.trans le39
       have l_H27_H39 : LE H27 H39 := l_H27_H35.trans le39
       have l_H28_H39 : LE H28 H39 := l_H28_H35.trans le39
       have l_H29_H39 : LE H29 H39 := l_H29_H35.trans le39
       have l_H35_H39 : LE H35 H39 := le39
       refine br0 ?_
       refine tkl 8 false (by kernel_rfl) ?_
       refine bdl lay28 zr28 h fun a w h => ?_
       refine tk0 ?_
       refine brl1 10 false (by kernel_rfl) (by kernel_rfl) (fun _ => h.st.sees' (by first | exact LE.rfl | assumption) (by simp)) ?_
       refine sw2 tN28 h fun a w h => ?_
       refine br0 ?_
       refine en (by kernel_rfl) ?_
       refine thN ?_
       obtain ⟨Hx, leHx, h, hx1⟩ := h.fsl (α := Dc) (R := RDc) 1 (ys := [exD]) (RowR.one rfl rfl) (fun _ _ _ _ _ hr => hr)
       have l_H_Hx : LE H Hx := l_H_H39.trans leHx
       have l_HA_Hx : LE HA Hx := l_HA_H39.trans leHx
       have l_H21_Hx : LE H21 Hx := l_H21_H39.trans leHx
       have l_H22_Hx : LE H22 Hx := l_H22_H39.trans leHx
       have l_H27_Hx : LE H27 Hx := l_H27_H39.trans leHx
       have l_H28_Hx : LE H28 Hx := l_H28_H39.trans leHx
       have l_H29_Hx : LE H29 Hx := l_H29_H39.trans leHx
       have l_H35_Hx : LE H35 Hx := l_H35_H39.trans leHx
       have l_H39_Hx : LE H39 Hx := leHx
       obtain ⟨Hy, leHy, h, hx3⟩ := h.fsl (α := Df) (R := RDf) 0 (ys := [⟨[102], exF exX⟩]) (RowR.one rfl ⟨_, rfl, rt_of_ks (KS.up hk35 l_H35_Hx)⟩) (fun _ l _ _ _ hr => RDf.mono l hr)
       have l_H_Hy : LE H Hy := l_H_Hx.trans leHy
       have l_HA_Hy : LE HA Hy := l_HA_Hx.trans leHy
       have l_H21_Hy : LE H21 Hy := l_H21_Hx.trans leHy
       have l_H22_Hy : LE H22 Hy := l_H22_Hx.trans leHy
       have l_H27_Hy : LE H27 Hy := l_H27_Hx.trans leHy
       have l_H28_Hy : LE H28 Hy := l_H28_Hx.trans leHy
       have l_H29_Hy : LE H29 Hy := l_H29_Hx.trans leHy
       have l_H35_Hy : LE H35 Hy := l_H35_Hx.trans leHy
       have l_H39_Hy : LE H39 Hy := l_H39_Hx.trans leHy
       have l_Hx_Hy : LE Hx Hy := leHy
       have h := h.pull 2 rfl rfl
       have h := h.pull 2 rfl rfl
       have h := h.pull 2 rfl rfl
       have h := h.del 3
       exact ⟨_, g6, _, _, _, l_H29_Hy, CS.up hx1 l_Hx_Hy, hx3, KS.up hk39 l_H39_Hy, h.to 0 _⟩
      ·refine cl bod28 (fun_ok [120] exA _ E H35 _ (⟨_, _, rfl, KS.up hsA l_HA_H35⟩)) h (fun r39 H39 L39 a w le39 R h => ?_) (hS := fun _ _ _ _ _ le R hw => by obtain ⟨_, rfl, _, rfl⟩ := R; exact hw.sees' (by first | exact le | exact LE.trans (by assumption) le) (by simp))
       obtain ⟨A39, rfl, hk39, rfl⟩ := R
       have l_H_H39 : LE H H39 := l_H_H35.trans le39
       have l_HA_H39 : LE HA H39 := l_HA_H35.trans le39
       have l_H21_H39 : LE H21 H39 := l_H21_H35.trans le39
       have l_H22_H39 : LE H22 H39 := l_H22_H35.trans le39
       have l_H27_H39 : LE H27 H39 := l_H27_H35.trans le39
       have l_H28_H39 : LE H28 H39 := l_H28_H35.trans le39
       have l_H29_H39 : LE H29 H39 := l_H29_H35.trans le39
       have l_H35_H39 : LE H35 H39 := le39
       refine br0 ?_
       refine brl1 5 true (by kernel_rfl) (by kernel_rfl) (fun _ => h.st.sees' (by first | exact LE.rfl | assumption) (by simp)) ?_
       refine bsl bs26 h fun g37 a w h => ?_
       refine br0 ?_
       refine tkl 8 false (by kernel_rfl) ?_
       refine bdl lay28 zr28 h fun a w h => ?_
       refine tk0 ?_
       refine brl1 10 false (by kernel_rfl) (by kernel_rfl) (fun _ => h.st.sees' (by first | exact LE.rfl | assumption) (by simp)) ?_
       refine sw2 tN28 h fun a w h => ?_
       refine br0 ?_
       refine en (by kernel_rfl) ?_
       refine thN ?_
       obtain ⟨Hx, leHx, h, hx1⟩ := h.fsl (α := Dc) (R := RDc) 1 (ys := [exD]) (RowR.one rfl rfl) (fun _ _ _ _ _ hr => hr)
       have l_H_Hx : LE H Hx := l_H_H39.trans leHx
       have l_HA_Hx : LE HA Hx := l_HA_H39.trans leHx
       have l_H21_Hx : LE H21 Hx := l_H21_H39.trans leHx
       have l_H22_Hx : LE H22 Hx := l_H22_H39.trans leHx
       have l_H27_Hx : LE H27 Hx := l_H27_H39.trans leHx
       have l_H28_Hx : LE H28 Hx := l_H28_H39.trans leHx
       have l_H29_Hx : LE H29 Hx := l_H29_H39.trans leHx
       have l_H35_Hx : LE H35 Hx := l_H35_H39.trans leHx
       have l_H39_Hx : LE H39 Hx := leHx
       obtain ⟨Hy, leHy, h, hx3⟩ := h.fsl (α := Df) (R := RDf) 0 (ys := [⟨[102], exF exX⟩]) (RowR.one rfl ⟨_, rfl, rt_of_ks (KS.up hk35 l_H35_Hx)⟩) (fun _ l _ _ _ hr => RDf.mono l hr)
       have l_H_Hy : LE H Hy := l_H_Hx.trans leHy
       have l_HA_Hy : LE HA Hy := l_HA_Hx.trans leHy
       have l_H21_Hy : LE H21 Hy := l_H21_Hx.trans leHy
       have l_H22_Hy : LE H22 Hy := l_H22_Hx.trans leHy
       have l_H27_Hy : LE H27 Hy := l_H27_Hx.trans leHy
       have l_H28_Hy : LE H28 Hy := l_H28_Hx.trans leHy
       have l_H29_Hy : LE H29 Hy := l_H29_Hx.trans leHy
       have l_H35_Hy : LE H35 Hy := l_H35_Hx.trans leHy
       have l_H39_Hy : LE H39 Hy := l_H39_Hx.trans leHy
       have l_Hx_Hy : LE Hx Hy := leHy
       have h := h.pull 2 rfl rfl
       have h := h.pull 2 rfl rfl
       have h := h.pull 2 rfl rfl
       have h := h.del 3
       exact ⟨_, g6, _, _, _, l_H29_Hy, CS.up hx1 l_Hx_Hy, hx3, KS.up hk39 l_H39_Hy, h.to 0 _⟩
     ·refine cl bod28 (fun_ok [120] exX _ E H29 _ (⟨none, 0, rfl, RS.nil _ _ _⟩)) h (fun r35 H35 L35 a w le35 R h => ?_) (hS := fun _ _ _ _ _ le R hw => by obtain ⟨_, rfl, _, rfl⟩ := R; exact hw.sees' (by first | exact le | exact LE.trans (by assumption) le) (by simp))
      obtain ⟨A35, rfl, hk35, rfl⟩ := R
      have l_H_H35 : LE H H35 := l_H_H29.trans le35
      have l_HA_H35 : LE HA H35 := l_HA_H29.trans le35
      have l_H21_H35 : LE H21 H35 := l_H21_H29.trans le35
      have l_H22_H35 : LE H22 H35 := l_H22_H29.trans le35
      have l_H27_H35 : LE H27 H35 := l_H27_H29.trans le35
      have l_H28_H35 : LE H28 H35 := l_H28_H29.trans le35
      have l_H29_H35 : LE H29 H35 := le35
      refine br0 ?_
      refine tkl 4 false (by kernel_rfl) ?_
      refine bdl lay68 zr68 h fun a w h => ?_
      refine tk0 ?_
      refine brl3 1 5 7 true true false (by kernel_rfl) (by kernel_rfl) (by kernel_rfl) (by kernel_rfl) (fun _ => h.st.sees' (by first | exact LE.rfl | assumption) (by simp)) ?_ ?_ ?_
      ·refine bsl bs25 h fun g33 a w h => ?_
       refine br0 ?_
       refine brl2 5 7 true false (by kernel_rfl) (by kernel_rfl) (by kernel_rfl) (fun _ => h.st.sees' (by first | exact LE.rfl | assumption) (by simp)) ?_ ?_
       ·refine bsl bs26 h fun g37 a w h => ?_
        refine br0 ?_
        refine brl1 7 false (by kernel_rfl) (by kernel_rfl) (fun _ => h.st.sees' (by first | exact LE.rfl | assumption) (by simp)) ?_
        refine cl bod28 (fun_ok [120] exA _ E H35 _ (⟨_, _, rfl, KS.up hsA l_HA_H35⟩)) h (fun r39 H39 L39 a w le39 R h => ?_) (hS := fun _ _ _ _ _ le R hw => by obtain ⟨_, rfl, _, rfl⟩ := R; exact hw.sees' (by first | exact le | exact LE.trans (by assumption) le) (by simp))
        obtain ⟨A39, rfl, hk39, rfl⟩ := R
        have l_H_H39 : LE H H39 := l_H_H35.trans le39
        have l_HA_H39 : LE HA H39 := l_HA_H35.trans le39
        have l_H21_H39 : LE H21 H39 := l_H21_H35.trans le39
        have l_H22_H39 : LE H22 H39 := l_H22_H35.trans le39
        have l_H27_H39 : LE H27 H39 := l_H27_H35.trans le39
        have l_H28_H39 : LE H28 H39 := l_H28_H35.trans le39
        have l_H29_H39 : LE H29 H39 := l_H29_H35.trans le39
        have l_H35_H39 : LE H35 H39 := le39
        refine br0 ?_
        refine tkl 8 false (by kernel_rfl) ?_
        refine bdl lay28 zr28 h fun a w h => ?_
        refine tk0 ?_
        refine brl1 10 false (by kernel_rfl) (by kernel_rfl) (fun _ => h.st.sees' (by first | exact LE.rfl | assumption) (by simp)) ?_
        refine sw2 tN28 h fun a w h => ?_
        refine br0 ?_
        refine en (by kernel_rfl) ?_
        refine thN ?_
        obtain ⟨Hx, leHx, h, hx1⟩ := h.fsl (α := Dc) (R := RDc) 1 (ys := [exD]) (RowR.one rfl rfl) (fun _ _ _ _ _ hr => hr)
        have l_H_Hx : LE H Hx := l_H_H39.trans leHx
        have l_HA_Hx : LE HA Hx := l_HA_H39.trans leHx
        have l_H21_Hx : LE H21 Hx := l_H21_H39.trans leHx
        have l_H22_Hx : LE H22 Hx := l_H22_H39.trans leHx
        have l_H27_Hx : LE H27 Hx := l_H27_H39.trans leHx
        have l_H28_Hx : LE H28 Hx := l_H28_H39.trans leHx
        have l_H29_Hx : LE H29 Hx := l_H29_H39.trans leHx
        have l_H35_Hx : LE H35 Hx := l_H35_H39.trans leHx
        have l_H39_Hx : LE H39 Hx := leHx
        obtain ⟨Hy, leHy, h, hx3⟩ := h.fsl (α := Df) (R := RDf) 0 (ys := [⟨[102], exF exX⟩]) (RowR.one rfl ⟨_, rfl, rt_of_ks (KS.up hk35 l_H35_Hx)⟩) (fun _ l _ _ _ hr => RDf.mono l hr)
        have l_H_Hy : LE H Hy := l_H_Hx.trans leHy
        have l_HA_Hy : LE HA Hy := l_HA_Hx.trans leHy
        have l_H21_Hy : LE H21 Hy := l_H21_Hx.trans leHy
        have l_H22_Hy : LE H22 Hy := l_H22_Hx.trans leHy
        have l_H27_Hy : LE H27 Hy := l_H27_Hx.trans leHy
        have l_H28_Hy : LE H28 Hy := l_H28_Hx.trans leHy
        have l_H29_Hy : LE H29 Hy := l_H29_Hx.trans leHy
        have l_H35_Hy : LE H35 Hy := l_H35_Hx.trans leHy
        have l_H39_Hy : LE H39 Hy := l_H39_Hx.trans leHy
        have l_Hx_Hy : LE Hx Hy := leHy
        have h := h.pull 2 rfl rfl
        have h := h.pull 2 rfl rfl
        have h := h.pull 2 rfl rfl
        have h := h.del 3
        exact ⟨_, g6, _, _, _, l_H29_Hy, CS.up hx1 l_Hx_Hy, hx3, KS.up hk39 l_H39_Hy, h.to 0 _⟩
       ·refine cl bod28 (fun_ok [120] exA _ E H35 _ (⟨_, _, rfl, KS.up hsA l_HA_H35⟩)) h (fun r39 H39 L39 a w le39 R h => ?_) (hS := fun _ _ _ _ _ le R hw => by obtain ⟨_, rfl, _, rfl⟩ := R; exact hw.sees' (by first | exact le | exact LE.trans (by assumption) le) (by simp))
        obtain ⟨A39, rfl, hk39, rfl⟩ := R
        have l_H_H39 : LE H H39 := l_H_H35.trans le39
        have l_HA_H39 : LE HA H39 := l_HA_H35.trans le39
        have l_H21_H39 : LE H21 H39 := l_H21_H35.trans le39
        have l_H22_H39 : LE H22 H39 := l_H22_H35.trans le39
        have l_H27_H39 : LE H27 H39 := l_H27_H35.trans le39
        have l_H28_H39 : LE H28 H39 := l_H28_H35.trans le39
        have l_H29_H39 : LE H29 H39 := l_H29_H35.trans le39
        have l_H35_H39 : LE H35 H39 := le39
        refine br0 ?_
        refine brl1 5 true (by kernel_rfl) (by kernel_rfl) (fun _ => h.st.sees' (by first | exact LE.rfl | assumption) (by simp)) ?_
        refine bsl bs26 h fun g37 a w h => ?_
        refine br0 ?_
        refine tkl 8 false (by kernel_rfl) ?_
        refine bdl lay28 zr28 h fun a w h => ?_
        refine tk0 ?_
        refine brl1 10 false (by kernel_rfl) (by kernel_rfl) (fun _ => h.st.sees' (by first | exact LE.rfl | assumption) (by simp)) ?_
        refine sw2 tN28 h fun a w h => ?_
        refine br0 ?_
        refine en (by kernel_rfl) ?_
        refine thN ?_
        obtain ⟨Hx, leHx, h, hx1⟩ := h.fsl (α := Dc) (R := RDc) 1 (ys := [exD]) (RowR.one rfl rfl) (fun _ _ _ _ _ hr => hr)
        have l_H_Hx : LE H Hx := l_H_H39.trans leHx
        have l_HA_Hx : LE HA Hx := l_HA_H39.trans leHx
        have l_H21_Hx : LE H21 Hx := l_H21_H39.trans leHx
        have l_H22_Hx : LE H22 Hx := l_H22_H39.trans leHx
        have l_H27_Hx : LE H27 Hx := l_H27_H39.trans leHx
        have l_H28_Hx : LE H28 Hx := l_H28_H39.trans leHx
        have l_H29_Hx : LE H29 Hx := l_H29_H39.trans leHx
        have l_H35_Hx : LE H35 Hx := l_H35_H39.trans leHx
        have l_H39_Hx : LE H39 Hx := leHx
        obtain ⟨Hy, leHy, h, hx3⟩ := h.fsl (α := Df) (R := RDf) 0 (ys := [⟨[102], exF exX⟩]) (RowR.one rfl ⟨_, rfl, rt_of_ks (KS.up hk35 l_H35_Hx)⟩) (fun _ l _ _ _ hr => RDf.mono l hr)
        have l_H_Hy : LE H Hy := l_H_Hx.trans leHy
        have l_HA_Hy : LE HA Hy := l_HA_Hx.trans leHy
        have l_H21_Hy : LE H21 Hy := l_H21_Hx.trans leHy
        have l_H22_Hy : LE H22 Hy := l_H22_Hx.trans leHy
        have l_H27_Hy : LE H27 Hy := l_H27_Hx.trans leHy
        have l_H28_Hy : LE H28 Hy := l_H28_Hx.trans leHy
        have l_H29_Hy : LE H29 Hy := l_H29_Hx.trans leHy
        have l_H35_Hy : LE H35 Hy := l_H35_Hx.trans leHy
        have l_H39_Hy : LE H39 Hy := l_H39_Hx.trans leHy
        have l_Hx_Hy : LE Hx Hy := leHy
        have h := h.pull 2 rfl rfl
        have h := h.pull 2 rfl rfl
        have h := h.pull 2 rfl rfl
        have h := h.del 3
        exact ⟨_, g6, _, _, _, l_H29_Hy, CS.up hx1 l_Hx_Hy, hx3, KS.up hk39 l_H39_Hy, h.to 0 _⟩
      ·refine bsl bs26 h fun g37 a w h => ?_
       refine br0 ?_
       refine brl2 1 7 true false (by kernel_rfl) (by kernel_rfl) (by kernel_rfl) (fun _ => h.st.sees' (by first | exact LE.rfl | assumption) (by simp)) ?_ ?_
       ·refine bsl bs25 h fun g33 a w h => ?_
        refine br0 ?_
        refine brl1 7 false (by kernel_rfl) (by kernel_rfl) (fun _ => h.st.sees' (by first | exact LE.rfl | assumption) (by simp)) ?_
        refine cl bod28 (fun_ok [120] exA _ E H35 _ (⟨_, _, rfl, KS.up hsA l_HA_H35⟩)) h (fun r39 H39 L39 a w le39 R h => ?_) (hS := fun _ _ _ _ _ le R hw => by obtain ⟨_, rfl, _, rfl⟩ := R; exact hw.sees' (by first | exact le | exact LE.trans (by assumption) le) (by simp))
        obtain ⟨A39, rfl, hk39, rfl⟩ := R
        have l_H_H39 : LE H H39 := l_H_H35.trans le39
        have l_HA_H39 : LE HA H39 := l_HA_H35.trans le39
        have l_H21_H39 : LE H21 H39 := l_H21_H35.trans le39
        have l_H22_H39 : LE H22 H39 := l_H22_H35.trans le39
        have l_H27_H39 : LE H27 H39 := l_H27_H35.trans le39
        have l_H28_H39 : LE H28 H39 := l_H28_H35.trans le39
        have l_H29_H39 : LE H29 H39 := l_H29_H35.trans le39
        have l_H35_H39 : LE H35 H39 := le39
        refine br0 ?_
        refine tkl 8 false (by kernel_rfl) ?_
        refine bdl lay28 zr28 h fun a w h => ?_
        refine tk0 ?_
        refine brl1 10 false (by kernel_rfl) (by kernel_rfl) (fun _ => h.st.sees' (by first | exact LE.rfl | assumption) (by simp)) ?_
        refine sw2 tN28 h fun a w h => ?_
        refine br0 ?_
        refine en (by kernel_rfl) ?_
        refine thN ?_
        obtain ⟨Hx, leHx, h, hx1⟩ := h.fsl (α := Dc) (R := RDc) 0 (ys := [exD]) (RowR.one rfl rfl) (fun _ _ _ _ _ hr => hr)
        have l_H_Hx : LE H Hx := l_H_H39.trans leHx
        have l_HA_Hx : LE HA Hx := l_HA_H39.trans leHx
        have l_H21_Hx : LE H21 Hx := l_H21_H39.trans leHx
        have l_H22_Hx : LE H22 Hx := l_H22_H39.trans leHx
        have l_H27_Hx : LE H27 Hx := l_H27_H39.trans leHx
        have l_H28_Hx : LE H28 Hx := l_H28_H39.trans leHx
        have l_H29_Hx : LE H29 Hx := l_H29_H39.trans leHx
        have l_H35_Hx : LE H35 Hx := l_H35_H39.trans leHx
        have l_H39_Hx : LE H39 Hx := leHx
        obtain ⟨Hy, leHy, h, hx3⟩ := h.fsl (α := Df) (R := RDf) 0 (ys := [⟨[102], exF exX⟩]) (RowR.one rfl ⟨_, rfl, rt_of_ks (KS.up hk35 l_H35_Hx)⟩) (fun _ l _ _ _ hr => RDf.mono l hr)
        have l_H_Hy : LE H Hy := l_H_Hx.trans leHy
        have l_HA_Hy : LE HA Hy := l_HA_Hx.trans leHy
        have l_H21_Hy : LE H21 Hy := l_H21_Hx.trans leHy
        have l_H22_Hy : LE H22 Hy := l_H22_Hx.trans leHy
        have l_H27_Hy : LE H27 Hy := l_H27_Hx.trans leHy
        have l_H28_Hy : LE H28 Hy := l_H28_Hx.trans leHy
        have l_H29_Hy : LE H29 Hy := l_H29_Hx.trans leHy
        have l_H35_Hy : LE H35 Hy := l_H35_Hx.trans leHy
        have l_H39_Hy : LE H39 Hy := l_H39_Hx.trans leHy
        have l_Hx_Hy : LE Hx Hy := leHy
        have h := h.pull 2 rfl rfl
        have h := h.pull 2 rfl rfl
        have h := h.pull 2 rfl rfl
        have h := h.del 3
        exact ⟨_, g6, _, _, _, l_H29_Hy, CS.up hx1 l_Hx_Hy, hx3, KS.up hk39 l_H39_Hy, h.to 0 _⟩
       ·refine cl bod28 (fun_ok [120] exA _ E H35 _ (⟨_, _, rfl, KS.up hsA l_HA_H35⟩)) h (fun r39 H39 L39 a w le39 R h => ?_) (hS := fun _ _ _ _ _ le R hw => by obtain ⟨_, rfl, _, rfl⟩ := R; exact hw.sees' (by first | exact le | exact LE.trans (by assumption) le) (by simp))
        obtain ⟨A39, rfl, hk39, rfl⟩ := R
        have l_H_H39 : LE H H39 := l_H_H35.trans le39
        have l_HA_H39 : LE HA H39 := l_HA_H35.trans le39
        have l_H21_H39 : LE H21 H39 := l_H21_H35.trans le39
        have l_H22_H39 : LE H22 H39 := l_H22_H35.trans le39
        have l_H27_H39 : LE H27 H39 := l_H27_H35.trans le39
        have l_H28_H39 : LE H28 H39 := l_H28_H35.trans le39
        have l_H29_H39 : LE H29 H39 := l_H29_H35.trans le39
        have l_H35_H39 : LE H35 H39 := le39
        refine br0 ?_
        refine brl1 1 true (by kernel_rfl) (by kernel_rfl) (fun _ => h.st.sees' (by first | exact LE.rfl | assumption) (by simp)) ?_
        refine bsl bs25 h fun g33 a w h => ?_
        refine br0 ?_
        refine tkl 8 false (by kernel_rfl) ?_
        refine bdl lay28 zr28 h fun a w h => ?_
        refine tk0 ?_
        refine brl1 10 false (by kernel_rfl) (by kernel_rfl) (fun _ => h.st.sees' (by first | exact LE.rfl | assumption) (by simp)) ?_
        refine sw2 tN28 h fun a w h => ?_
        refine br0 ?_
        refine en (by kernel_rfl) ?_
        refine thN ?_
        obtain ⟨Hx, leHx, h, hx1⟩ := h.fsl (α := Dc) (R := RDc) 0 (ys := [exD]) (RowR.one rfl rfl) (fun _ _ _ _ _ hr => hr)
        have l_H_Hx : LE H Hx := l_H_H39.trans leHx
        have l_HA_Hx : LE HA Hx := l_HA_H39.trans leHx
        have l_H21_Hx : LE H21 Hx := l_H21_H39.trans leHx
        have l_H22_Hx : LE H22 Hx := l_H22_H39.trans leHx
        have l_H27_Hx : LE H27 Hx := l_H27_H39.trans leHx
        have l_H28_Hx : LE H28 Hx := l_H28_H39.trans leHx
        have l_H29_Hx : LE H29 Hx := l_H29_H39.trans leHx
        have l_H35_Hx : LE H35 Hx := l_H35_H39.trans leHx
        have l_H39_Hx : LE H39 Hx := leHx
        obtain ⟨Hy, leHy, h, hx3⟩ := h.fsl (α := Df) (R := RDf) 0 (ys := [⟨[102], exF exX⟩]) (RowR.one rfl ⟨_, rfl, rt_of_ks (KS.up hk35 l_H35_Hx)⟩) (fun _ l _ _ _ hr => RDf.mono l hr)
        have l_H_Hy : LE H Hy := l_H_Hx.trans leHy
        have l_HA_Hy : LE HA Hy := l_HA_Hx.trans leHy
        have l_H21_Hy : LE H21 Hy := l_H21_Hx.trans leHy
        have l_H22_Hy : LE H22 Hy := l_H22_Hx.trans leHy
        have l_H27_Hy : LE H27 Hy := l_H27_Hx.trans leHy
        have l_H28_Hy : LE H28 Hy := l_H28_Hx.trans leHy
        have l_H29_Hy : LE H29 Hy := l_H29_Hx.trans leHy
        have l_H35_Hy : LE H35 Hy := l_H35_Hx.trans leHy
        have l_H39_Hy : LE H39 Hy := l_H39_Hx.trans leHy
        have l_Hx_Hy : LE Hx Hy := leHy
        have h := h.pull 2 rfl rfl
        have h := h.pull 2 rfl rfl
        have h := h.pull 2 rfl rfl
        have h := h.del 3
        exact ⟨_, g6, _, _, _, l_H29_Hy, CS.up hx1 l_Hx_Hy, hx3, KS.up hk39 l_H39_Hy, h.to 0 _⟩
      ·refine cl bod28 (fun_ok [120] exA _ E H35 _ (⟨_, _, rfl, KS.up hsA l_HA_H35⟩)) h (fun r39 H39 L39 a w le39 R h => ?_) (hS := fun _ _ _ _ _ le R hw => by obtain ⟨_, rfl, _, rfl⟩ := R; exact hw.sees' (by first | exact le | exact LE.trans (by assumption) le) (by simp))
       obtain ⟨A39, rfl, hk39, rfl⟩ := R
       have l_H_H39 : LE H H39 := l_H_H35.trans le39
       have l_HA_H39 : LE HA H39 := l_HA_H35.trans le39
       have l_H21_H39 : LE H21 H39 := l_H21_H35.trans le39
       have l_H22_H39 : LE H22 H39 := l_H22_H35.trans le39
       have l_H27_H39 : LE H27 H39 := l_H27_H35.trans le39
       have l_H28_H39 : LE H28 H39 := l_H28_H35.trans le39
       have l_H29_H39 : LE H29 H39 := l_H29_H35.trans le39
       have l_H35_H39 : LE H35 H39 := le39
       refine br0 ?_
       refine brl2 1 5 true true (by kernel_rfl) (by kernel_rfl) (by kernel_rfl) (fun _ => h.st.sees' (by first | exact LE.rfl | assumption) (by simp)) ?_ ?_
       ·refine bsl bs25 h fun g33 a w h => ?_
        refine br0 ?_
        refine brl1 5 true (by kernel_rfl) (by kernel_rfl) (fun _ => h.st.sees' (by first | exact LE.rfl | assumption) (by simp)) ?_
        refine bsl bs26 h fun g37 a w h => ?_
        refine br0 ?_
        refine tkl 8 false (by kernel_rfl) ?_
        refine bdl lay28 zr28 h fun a w h => ?_
        refine tk0 ?_
        refine brl1 10 false (by kernel_rfl) (by kernel_rfl) (fun _ => h.st.sees' (by first | exact LE.rfl | assumption) (by simp)) ?_
        refine sw2 tN28 h fun a w h => ?_
        refine br0 ?_
        refine en (by kernel_rfl) ?_
        refine thN ?_
        obtain ⟨Hx, leHx, h, hx1⟩ := h.fsl (α := Dc) (R := RDc) 1 (ys := [exD]) (RowR.one rfl rfl) (fun _ _ _ _ _ hr => hr)
        have l_H_Hx : LE H Hx := l_H_H39.trans leHx
        have l_HA_Hx : LE HA Hx := l_HA_H39.trans leHx
        have l_H21_Hx : LE H21 Hx := l_H21_H39.trans leHx
        have l_H22_Hx : LE H22 Hx := l_H22_H39.trans leHx
        have l_H27_Hx : LE H27 Hx := l_H27_H39.trans leHx
        have l_H28_Hx : LE H28 Hx := l_H28_H39.trans leHx
        have l_H29_Hx : LE H29 Hx := l_H29_H39.trans leHx
        have l_H35_Hx : LE H35 Hx := l_H35_H39.trans leHx
        have l_H39_Hx : LE H39 Hx := leHx
        obtain ⟨Hy, leHy, h, hx3⟩ := h.fsl (α := Df) (R := RDf) 0 (ys := [⟨[102], exF exX⟩]) (RowR.one rfl ⟨_, rfl, rt_of_ks (KS.up hk35 l_H35_Hx)⟩) (fun _ l _ _ _ hr => RDf.mono l hr)
        have l_H_Hy : LE H Hy := l_H_Hx.trans leHy
        have l_HA_Hy : LE HA Hy := l_HA_Hx.trans leHy
        have l_H21_Hy : LE H21 Hy := l_H21_Hx.trans leHy
        have l_H22_Hy : LE H22 Hy := l_H22_Hx.trans leHy
        have l_H27_Hy : LE H27 Hy := l_H27_Hx.trans leHy
        have l_H28_Hy : LE H28 Hy := l_H28_Hx.trans leHy
        have l_H29_Hy : LE H29 Hy := l_H29_Hx.trans leHy
        have l_H35_Hy : LE H35 Hy := l_H35_Hx.trans leHy
        have l_H39_Hy : LE H39 Hy := l_H39_Hx.trans leHy
        have l_Hx_Hy : LE Hx Hy := leHy
        have h := h.pull 2 rfl rfl
        have h := h.pull 2 rfl rfl
        have h := h.pull 2 rfl rfl
        have h := h.del 3
        exact ⟨_, g6, _, _, _, l_H29_Hy, CS.up hx1 l_Hx_Hy, hx3, KS.up hk39 l_H39_Hy, h.to 0 _⟩
       ·refine bsl bs26 h fun g37 a w h => ?_
        refine br0 ?_
        refine brl1 1 true (by kernel_rfl) (by kernel_rfl) (fun _ => h.st.sees' (by first | exact LE.rfl | assumption) (by simp)) ?_
        refine bsl bs25 h fun g33 a w h => ?_
        refine br0 ?_
        refine tkl 8 false (by kernel_rfl) ?_
        refine bdl lay28 zr28 h fun a w h => ?_
        refine tk0 ?_
        refine brl1 10 false (by kernel_rfl) (by kernel_rfl) (fun _ => h.st.sees' (by first | exact LE.rfl | assumption) (by simp)) ?_
        refine sw2 tN28 h fun a w h => ?_
        refine br0 ?_
        refine en (by kernel_rfl) ?_
        refine thN ?_
        obtain ⟨Hx, leHx, h, hx1⟩ := h.fsl (α := Dc) (R := RDc) 0 (ys := [exD]) (RowR.one rfl rfl) (fun _ _ _ _ _ hr => hr)
        have l_H_Hx : LE H Hx := l_H_H39.trans leHx
        have l_HA_Hx : LE HA Hx := l_HA_H39.trans leHx
        have l_H21_Hx : LE H21 Hx := l_H21_H39.trans leHx
        have l_H22_Hx : LE H22 Hx := l_H22_H39.trans leHx
        have l_H27_Hx : LE H27 Hx := l_H27_H39.trans leHx
        have l_H28_Hx : LE H28 Hx := l_H28_H39.trans leHx
        have l_H29_Hx : LE H29 Hx := l_H29_H39.trans leHx
        have l_H35_Hx : LE H35 Hx := l_H35_H39.trans leHx
        have l_H39_Hx : LE H39 Hx := leHx
        obtain ⟨Hy, leHy, h, hx3⟩ := h.fsl (α := Df) (R := RDf) 0 (ys := [⟨[102], exF exX⟩]) (RowR.one rfl ⟨_, rfl, rt_of_ks (KS.up hk35 l_H35_Hx)⟩) (fun _ l _ _ _ hr => RDf.mono l hr)
        have l_H_Hy : LE H Hy := l_H_Hx.trans leHy
        have l_HA_Hy : LE HA Hy := l_HA_Hx.trans leHy
        have l_H21_Hy : LE H21 Hy := l_H21_Hx.trans leHy
        have l_H22_Hy : LE H22 Hy := l_H22_Hx.trans leHy
        have l_H27_Hy : LE H27 Hy := l_H27_Hx.trans leHy
        have l_H28_Hy : LE H28 Hy := l_H28_Hx.trans leHy
        have l_H29_Hy : LE H29 Hy := l_H29_Hx.trans leHy
        have l_H35_Hy : LE H35 Hy := l_H35_Hx.trans leHy
        have l_H39_Hy : LE H39 Hy := l_H39_Hx.trans leHy
        have l_Hx_Hy : LE Hx Hy := leHy
        have h := h.pull 2 rfl rfl
        have h := h.pull 2 rfl rfl
        have h := h.pull 2 rfl rfl
        have h := h.del 3
        exact ⟨_, g6, _, _, _, l_H29_Hy, CS.up hx1 l_Hx_Hy, hx3, KS.up hk39 l_H39_Hy, h.to 0 _⟩
   ·refine al zr28 h fun g6 a w h => ?_
    refine br0 ?_
    refine brl2 1 2 true true (by kernel_rfl) (by kernel_rfl) (by kernel_rfl) (fun _ => h.st.sees' (by first | exact LE.rfl | assumption) (by simp)) ?_ ?_
    ·refine bsl bs25 h fun g33 a w h => ?_
     refine br0 ?_
     refine brl1 2 true (by kernel_rfl) (by kernel_rfl) (fun _ => h.st.sees' (by first | exact LE.rfl | assumption) (by simp)) ?_
     refine cl bod30 (of_ok [120] E H29 _) h (fun r34 H34 L34 a w le34 R h => ?_) (hS := fun _ _ _ _ _ le R hw => by obtain ⟨rfl, rfl, rfl⟩ := R; exact hw.sees' (by first | exact le | exact LE.trans (by assumption) le) (by simp))
     obtain ⟨rfl, rfl, rfl⟩ := R
     refine br0 ?_
     refine brl1 3 true (by kernel_rfl) (by kernel_rfl) (fun _ => h.st.sees' (by first | exact LE.rfl | assumption) (by simp)) ?_
     refine cl bod28 (fun_ok [120] exX _ E H29 _ (⟨none, 0, rfl, RS.nil _ _ _⟩)) h (fun r35 H35 L35 a w le35 R h => ?_) (hS := fun _ _ _ _ _ le R hw => by obtain ⟨_, rfl, _, rfl⟩ := R; exact hw.sees' (by first | exact le | exact LE.trans (by assumption) le) (by simp))
     obtain ⟨A35, rfl, hk35, rfl⟩ := R
     have l_H_H35 : LE H H35 := l_H_H29.trans le35
     have l_HA_H35 : LE HA H35 := l_HA_H29.trans le35
     have l_H21_H35 : LE H21 H35 := l_H21_H29.trans le35
     have l_H22_H35 : LE H22 H35 := l_H22_H29.trans le35
     have l_H27_H35 : LE H27 H35 := l_H27_H29.trans le35
     have l_H28_H35 : LE H28 H35 := l_H28_H29.trans le35
     have l_H29_H35 : LE H29 H35 := le35
     refine br0 ?_
     refine tkl 4 false (by kernel_rfl) ?_
     refine bdl lay68 zr68 h fun a w h => ?_
     refine tk0 ?_
     refine brl2 5 7 true false (by kernel_rfl) (by kernel_rfl) (by kernel_rfl) (fun _ => h.st.sees' (by first | exact LE.rfl | assumption) (by simp)) ?_ ?_
     ·refine bsl bs26 h fun g37 a w h => ?_
      refine br0 ?_
      refine brl1 7 false (by kernel_rfl) (by kernel_rfl) (fun _ => h.st.sees' (by first | exact LE.rfl | assumption) (by simp)) ?_
      refine cl bod28 (fun_ok [120] exA _ E H35 _ (⟨_, _, rfl, KS.up hsA l_HA_H35⟩)) h (fun r39 H39 L39 a w le39 R h => ?_) (hS := fun _ _ _ _ _ le R hw => by obtain ⟨_, rfl, _, rfl⟩ := R; exact hw.sees' (by first | exact le | exact LE.trans (by assumption) le) (by simp))
      obtain ⟨A39, rfl, hk39, rfl⟩ := R
      have l_H_H39 : LE H H39 := l_H_H35.trans le39
      have l_HA_H39 : LE HA H39 := l_HA_H35.trans le39
      have l_H21_H39 : LE H21 H39 := l_H21_H35.trans le39
      have l_H22_H39 : LE H22 H39 := l_H22_H35.trans le39
      have l_H27_H39 : LE H27 H39 := l_H27_H35.trans le39
      have l_H28_H39 : LE H28 H39 := l_H28_H35.trans le39
      have l_H29_H39 : LE H29 H39 := l_H29_H35.trans le39
      have l_H35_H39 : LE H35 H39 := le39
      refine br0 ?_
      refine tkl 8 false (by kernel_rfl) ?_
      refine bdl lay28 zr28 h fun a w h => ?_
      refine tk0 ?_
      refine brl1 10 false (by kernel_rfl) (by kernel_rfl) (fun _ => h.st.sees' (by first | exact LE.rfl | assumption) (by simp)) ?_
      refine sw2 tN28 h fun a w h => ?_
      refine br0 ?_
      refine en (by kernel_rfl) ?_
      refine thN ?_
      obtain ⟨Hx, leHx, h, hx1⟩ := h.fsl (α := Dc) (R := RDc) 1 (ys := [exD]) (RowR.one rfl rfl) (fun _ _ _ _ _ hr => hr)
      have l_H_Hx : LE H Hx := l_H_H39.trans leHx
      have l_HA_Hx : LE HA Hx := l_HA_H39.trans leHx
      have l_H21_Hx : LE H21 Hx := l_H21_H39.trans leHx
      have l_H22_Hx : LE H22 Hx := l_H22_H39.trans leHx
      have l_H27_Hx : LE H27 Hx := l_H27_H39.trans leHx
      have l_H28_Hx : LE H28 Hx := l_H28_H39.trans leHx
      have l_H29_Hx : LE H29 Hx := l_H29_H39.trans leHx
      have l_H35_Hx : LE H35 Hx := l_H35_H39.trans leHx
      have l_H39_Hx : LE H39 Hx := leHx
      obtain ⟨Hy, leHy, h, hx3⟩ := h.fsl (α := Df) (R := RDf) 0 (ys := [⟨[102], exF exX⟩]) (RowR.one rfl ⟨_, rfl, rt_of_ks (KS.up hk35 l_H35_Hx)⟩) (fun _ l _ _ _ hr => RDf.mono l hr)
      have l_H_Hy : LE H Hy := l_H_Hx.trans leHy
      have l_HA_Hy : LE HA Hy := l_HA_Hx.trans leHy
      have l_H21_Hy : LE H21 Hy := l_H21_Hx.trans leHy
      have l_H22_Hy : LE H22 Hy := l_H22_Hx.trans leHy
      have l_H27_Hy : LE H27 Hy := l_H27_Hx.trans leHy
      have l_H28_Hy : LE H28 Hy := l_H28_Hx.trans leHy
      have l_H29_Hy : LE H29 Hy := l_H29_Hx.trans leHy
      have l_H35_Hy : LE H35 Hy := l_H35_Hx.trans leHy
      have l_H39_Hy : LE H39 Hy := l_H39_Hx.trans leHy
      have l_Hx_Hy : LE Hx Hy := leHy
      have h := h.pull 2 rfl rfl
      have h := h.pull 2 rfl rfl
      have h := h.pull 2 rfl rfl
      have h := h.del 3
      exact ⟨_, g6, _, _, _, l_H29_Hy, CS.up hx1 l_Hx_Hy, hx3, KS.up hk39 l_H39_Hy, h.to 0 _⟩
     ·refine cl bod28 (fun_ok [120] exA _ E H35 _ (⟨_, _, rfl, KS.up hsA l_HA_H35⟩)) h (fun r39 H39 L39 a w le39 R h => ?_) (hS := fun _ _ _ _ _ le R hw => by obtain ⟨_, rfl, _, rfl⟩ := R; exact hw.sees' (by first | exact le | exact LE.trans (by assumption) le) (by simp))
      obtain ⟨A39, rfl, hk39, rfl⟩ := R
      have l_H_H39 : LE H H39 := l_H_H35.trans le39
      have l_HA_H39 : LE HA H39 := l_HA_H35.trans le39
      have l_H21_H39 : LE H21 H39 := l_H21_H35.trans le39
      have l_H22_H39 : LE H22 H39 := l_H22_H35.trans le39
      have l_H27_H39 : LE H27 H39 := l_H27_H35.trans le39
      have l_H28_H39 : LE H28 H39 := l_H28_H35.trans le39
      have l_H29_H39 : LE H29 H39 := l_H29_H35.trans le39
      have l_H35_H39 : LE H35 H39 := le39
      refine br0 ?_
      refine brl1 5 true (by kernel_rfl) (by kernel_rfl) (fun _ => h.st.sees' (by first | exact LE.rfl | assumption) (by simp)) ?_
      refine bsl bs26 h fun g37 a w h => ?_
      refine br0 ?_
      refine tkl 8 false (by kernel_rfl) ?_
      refine bdl lay28 zr28 h fun a w h => ?_
      refine tk0 ?_
      refine brl1 10 false (by kernel_rfl) (by kernel_rfl) (fun _ => h.st.sees' (by first | exact LE.rfl | assumption) (by simp)) ?_
      refine sw2 tN28 h fun a w h => ?_
      refine br0 ?_
      refine en (by kernel_rfl) ?_
      refine thN ?_
      obtain ⟨Hx, leHx, h, hx1⟩ := h.fsl (α := Dc) (R := RDc) 1 (ys := [exD]) (RowR.one rfl rfl) (fun _ _ _ _ _ hr => hr)
      have l_H_Hx : LE H Hx := l_H_H39.trans leHx
      have l_HA_Hx : LE HA Hx := l_HA_H39.trans leHx
      have l_H21_Hx : LE H21 Hx := l_H21_H39.trans leHx
      have l_H22_Hx : LE H22 Hx := l_H22_H39.trans leHx
      have l_H27_Hx : LE H27 Hx := l_H27_H39.trans leHx
      have l_H28_Hx : LE H28 Hx := l_H28_H39.trans leHx
      have l_H29_Hx : LE H29 Hx := l_H29_H39.trans leHx
      have l_H35_Hx : LE H35 Hx := l_H35_H39.trans leHx
      have l_H39_Hx : LE H39 Hx := leHx
      obtain ⟨Hy, leHy, h, hx3⟩ := h.fsl (α := Df) (R := RDf) 0 (ys := [⟨[102], exF exX⟩]) (RowR.one rfl ⟨_, rfl, rt_of_ks (KS.up hk35 l_H35_Hx)⟩) (fun _ l _ _ _ hr => RDf.mono l hr)
      have l_H_Hy : LE H Hy := l_H_Hx.trans leHy
      have l_HA_Hy : LE HA Hy := l_HA_Hx.trans leHy
      have l_H21_Hy : LE H21 Hy := l_H21_Hx.trans leHy
      have l_H22_Hy : LE H22 Hy := l_H22_Hx.trans leHy
      have l_H27_Hy : LE H27 Hy := l_H27_Hx.trans leHy
      have l_H28_Hy : LE H28 Hy := l_H28_Hx.trans leHy
      have l_H29_Hy : LE H29 Hy := l_H29_Hx.trans leHy
      have l_H35_Hy : LE H35 Hy := l_H35_Hx.trans leHy
      have l_H39_Hy : LE H39 Hy := l_H39_Hx.trans leHy
      have l_Hx_Hy : LE Hx Hy := leHy
      have h := h.pull 2 rfl rfl
      have h := h.pull 2 rfl rfl
      have h := h.pull 2 rfl rfl
      have h := h.del 3
      exact ⟨_, g6, _, _, _, l_H29_Hy, CS.up hx1 l_Hx_Hy, hx3, KS.up hk39 l_H39_Hy, h.to 0 _⟩
    ·refine cl bod30 (of_ok [120] E H29 _) h (fun r34 H34 L34 a w le34 R h => ?_) (hS := fun _ _ _ _ _ le R hw => by obtain ⟨rfl, rfl, rfl⟩ := R; exact hw.sees' (by first | exact le | exact LE.trans (by assumption) le) (by simp))
     obtain ⟨rfl, rfl, rfl⟩ := R
     refine br0 ?_
     refine brl2 1 3 true true (by kernel_rfl) (by kernel_rfl) (by kernel_rfl) (fun _ => h.st.sees' (by first | exact LE.rfl | assumption) (by simp)) ?_ ?_
     ·refine bsl bs25 h fun g33 a w h => ?_
      refine br0 ?_
      refine brl1 3 true (by kernel_rfl) (by kernel_rfl) (fun _ => h.st.sees' (by first | exact LE.rfl | assumption) (by simp)) ?_
      refine cl bod28 (fun_ok [120] exX _ E H29 _ (⟨none, 0, rfl, RS.nil _ _ _⟩)) h (fun r35 H35 L35 a w le35 R h => ?_) (hS := fun _ _ _ _ _ le R hw => by obtain ⟨_, rfl, _, rfl⟩ := R; exact hw.sees' (by first | exact le | exact LE.trans (by assumption) le) (by simp))
      obtain ⟨A35, rfl, hk35, rfl⟩ := R
      have l_H_H35 : LE H H35 := l_H_H29.trans le35
      have l_HA_H35 : LE HA H35 := l_HA_H29.trans le35
      have l_H21_H35 : LE H21 H35 := l_H21_H29.trans le35
      have l_H22_H35 : LE H22 H35 := l_H22_H29.trans le35
      have l_H27_H35 : LE H27 H35 := l_H27_H29.trans le35
      have l_H28_H35 : LE H28 H35 := l_H28_H29.trans le35
      have l_H29_H35 : LE H29 H35 := le35
      refine br0 ?_
      refine tkl 4 false (by kernel_rfl) ?_
      refine bdl lay68 zr68 h fun a w h => ?_
      refine tk0 ?_
      refine brl2 5 7 true false (by kernel_rfl) (by kernel_rfl) (by kernel_rfl) (fun _ => h.st.sees' (by first | exact LE.rfl | assumption) (by simp)) ?_ ?_
      ·refine bsl bs26 h fun g37 a w h => ?_
       refine br0 ?_
       refine brl1 7 false (by kernel_rfl) (by kernel_rfl) (fun _ => h.st.sees' (by first | exact LE.rfl | assumption) (by simp)) ?_
       refine cl bod28 (fun_ok [120] exA _ E H35 _ (⟨_, _, rfl, KS.up hsA l_HA_H35⟩)) h (fun r39 H39 L39 a w le39 R h => ?_) (hS := fun _ _ _ _ _ le R hw => by obtain ⟨_, rfl, _, rfl⟩ := R; exact hw.sees' (by first | exact le | exact LE.trans (by assumption) le) (by simp))
       obtain ⟨A39, rfl, hk39, rfl⟩ := R
       have l_H_H39 : LE H H39 := l_H_H35.trans le39
       have l_HA_H39 : LE HA H39 := l_HA_H35.trans le39
       have l_H21_H39 : LE H21 H39 := l_H21_H35.trans le39
       have l_H22_H39 : LE H22 H39 := l_H22_H35.trans le39
       have l_H27_H39 : LE H27 H39 := l_H27_H35.trans le39
       have l_H28_H39 : LE H28 H39 := l_H28_H35.trans le39
       have l_H29_H39 : LE H29 H39 := l_H29_H35.trans le39
       have l_H35_H39 : LE H35 H39 := le39
       refine br0 ?_
       refine tkl 8 false (by kernel_rfl) ?_
       refine bdl lay28 zr28 h fun a w h => ?_
       refine tk0 ?_
       refine brl1 10 false (by kernel_rfl) (by kernel_rfl) (fun _ => h.st.sees' (by first | exact LE.rfl | assumption) (by simp)) ?_
       refine sw2 tN28 h fun a w h => ?_
       refine br0 ?_
       refine en (by kernel_rfl) ?_
       refine thN ?_
       obtain ⟨Hx, leHx, h, hx1⟩ := h.fsl (α := Dc) (R := RDc) 1 (ys := [exD]) (RowR.one rfl rfl) (fun _ _ _ _ _ hr => hr)
       have l_H_Hx : LE H Hx := l_H_H39.trans leHx
       have l_HA_Hx : LE HA Hx := l_HA_H39.trans leHx
       have l_H21_Hx : LE H21 Hx := l_H21_H39.trans leHx
       have l_H22_Hx : LE H22 Hx := l_H22_H39.trans leHx
       have l_H27_Hx : LE H27 Hx := l_H27_H39.trans leHx
       have l_H28_Hx : LE H28 Hx := l_H28_H39.trans leHx
       have l_H29_Hx : LE H29 Hx := l_H29_H39.trans leHx
       have l_H35_Hx : LE H35 Hx := l_H35_H39.trans leHx
       have l_H39_Hx : LE H39 Hx := leHx
       obtain ⟨Hy, leHy, h, hx3⟩ := h.fsl (α := Df) (R := RDf) 0 (ys := [⟨[102], exF exX⟩]) (RowR.one rfl ⟨_, rfl, rt_of_ks (KS.up hk35 l_H35_Hx)⟩) (fun _ l _ _ _ hr => RDf.mono l hr)
       have l_H_Hy : LE H Hy := l_H_Hx.trans leHy
       have l_HA_Hy : LE HA Hy := l_HA_Hx.trans leHy
       have l_H21_Hy : LE H21 Hy := l_H21_Hx.trans leHy
       have l_H22_Hy : LE H22 Hy := l_H22_Hx.trans leHy
       have l_H27_Hy : LE H27 Hy := l_H27_Hx.trans leHy
       have l_H28_Hy : LE H28 Hy := l_H28_Hx.trans leHy
       have l_H29_Hy : LE H29 Hy := l_H29_Hx.trans leHy
       have l_H35_Hy : LE H35 Hy := l_H35_Hx.trans leHy
       have l_H39_Hy : LE H39 Hy := l_H39_Hx.trans leHy
       have l_Hx_Hy : LE Hx Hy := leHy
       have h := h.pull 2 rfl rfl
       have h := h.pull 2 rfl rfl
       have h := h.pull 2 rfl rfl
       have h := h.del 3
       exact ⟨_, g6, _, _, _, l_H29_Hy, CS.up hx1 l_Hx_Hy, hx3, KS.up hk39 l_H39_Hy, h.to 0 _⟩
      ·refine cl bod28 (fun_ok [120] exA _ E H35 _ (⟨_, _, rfl, KS.up hsA l_HA_H35⟩)) h (fun r39 H39 L39 a w le39 R h => ?_) (hS := fun _ _ _ _ _ le R hw => by obtain ⟨_, rfl, _, rfl⟩ := R; exact hw.sees' (by first | exact le | exact LE.trans (by assumption) le) (by simp))
       obtain ⟨A39, rfl, hk39, rfl⟩ := R
       have l_H_H39 : LE H H39 := l_H_H35.trans le39
       have l_HA_H39 : LE HA H39 := l_HA_H35.trans le39
       have l_H21_H39 : LE H21 H39 := l_H21_H35.trans le39
       have l_H22_H39 : LE H22 H39 := l_H22_H35.trans le39
       have l_H27_H39 : LE H27 H39 := l_H27_H35.trans le39
       have l_H28_H39 : LE H28 H39 := l_H28_H35.trans le39
       have l_H29_H39 : LE H29 H39 := l_H29_H35.trans le39
       have l_H35_H39 : LE H35 H39 := le39
       refine br0 ?_
       refine brl1 5 true (by kernel_rfl) (by kernel_rfl) (fun _ => h.st.sees' (by first | exact LE.rfl | assumption) (by simp)) ?_
       refine bsl bs26 h fun g37 a w h => ?_
       refine br0 ?_
       refine tkl 8 false (by kernel_rfl) ?_
       refine bdl lay28 zr28 h fun a w h => ?_
       refine tk0 ?_
       refine brl1 10 false (by kernel_rfl) (by kernel_rfl) (fun _ => h.st.sees' (by first | exact LE.rfl | assumption) (by simp)) ?_
       refine sw2 tN28 h fun a w h => ?_
       refine br0 ?_
       refine en (by kernel_rfl) ?_
       refine thN ?_
       obtain ⟨Hx, leHx, h, hx1⟩ := h.fsl (α := Dc) (R := RDc) 1 (ys := [exD]) (RowR.one rfl rfl) (fun _ _ _ _ _ hr => hr)
       have l_H_Hx : LE H Hx := l_H_H39.trans leHx
       have l_HA_Hx : LE HA Hx := l_HA_H39.trans leHx
       have l_H21_Hx : LE H21 Hx := l_H21_H39.trans leHx
       have l_H22_Hx : LE H22 Hx := l_H22_H39.trans leHx
       have l_H27_Hx : LE H27 Hx := l_H27_H39.trans leHx
       have l_H28_Hx : LE H28 Hx := l_H28_H39.trans leHx
       have l_H29_Hx : LE H29 Hx := l_H29_H39.trans leHx
       have l_H35_Hx : LE H35 Hx := l_H35_H39.trans leHx
       have l_H39_Hx : LE H39 Hx := leHx
       obtain ⟨Hy, leHy, h, hx3⟩ := h.fsl (α := Df) (R := RDf) 0 (ys := [⟨[102], exF exX⟩]) (RowR.one rfl ⟨_, rfl, rt_of_ks (KS.up hk35 l_H35_Hx)⟩) (fun _ l _ _ _ hr => RDf.mono l hr)
       have l_H_Hy : LE H Hy := l_H_Hx.trans leHy
       have l_HA_Hy : LE HA Hy := l_HA_Hx.trans leHy
       have l_H21_Hy : LE H21 Hy := l_H21_Hx.trans leHy
       have l_H22_Hy : LE H22 Hy := l_H22_Hx.trans leHy
       have l_H27_Hy : LE H27 Hy := l_H27_Hx.trans leHy
       have l_H28_Hy : LE H28 Hy := l_H28_Hx.trans leHy
       have l_H29_Hy : LE H29 Hy := l_H29_Hx.trans leHy
       have l_H35_Hy : LE H35 Hy := l_H35_Hx.trans leHy
       have l_H39_Hy : LE H39 Hy := l_H39_Hx.trans leHy
       have l_Hx_Hy : LE Hx Hy := leHy
       have h := h.pull 2 rfl rfl
       have h := h.pull 2 rfl rfl
       have h := h.pull 2 rfl rfl
       have h := h.del 3
       exact ⟨_, g6, _, _, _, l_H29_Hy, CS.up hx1 l_Hx_Hy, hx3, KS.up hk39 l_H39_Hy, h.to 0 _⟩
     ·refine cl bod28 (fun_ok [120] exX _ E H29 _ (⟨none, 0, rfl, RS.nil _ _ _⟩)) h (fun r35 H35 L35 a w le35 R h => ?_) (hS := fun _ _ _ _ _ le R hw => by obtain ⟨_, rfl, _, rfl⟩ := R; exact hw.sees' (by first | exact le | exact LE.trans (by assumption) le) (by simp))
      obtain ⟨A35, rfl, hk35, rfl⟩ := R
      have l_H_H35 : LE H H35 := l_H_H29.trans le35
      have l_HA_H35 : LE HA H35 := l_HA_H29.trans le35
      have l_H21_H35 : LE H21 H35 := l_H21_H29.trans le35
      have l_H22_H35 : LE H22 H35 := l_H22_H29.trans le35
      have l_H27_H35 : LE H27 H35 := l_H27_H29.trans le35
      have l_H28_H35 : LE H28 H35 := l_H28_H29.trans le35
      have l_H29_H35 : LE H29 H35 := le35
      refine br0 ?_
      refine tkl 4 false (by kernel_rfl) ?_
      refine bdl lay68 zr68 h fun a w h => ?_
      refine tk0 ?_
      refine brl3 1 5 7 true true false (by kernel_rfl) (by kernel_rfl) (by kernel_rfl) (by kernel_rfl) (fun _ => h.st.sees' (by first | exact LE.rfl | assumption) (by simp)) ?_ ?_ ?_
      ·refine bsl bs25 h fun g33 a w h => ?_
       refine br0 ?_
       refine brl2 5 7 true false (by kernel_rfl) (by kernel_rfl) (by kernel_rfl) (fun _ => h.st.sees' (by first | exact LE.rfl | assumption) (by simp)) ?_ ?_
       ·refine bsl bs26 h fun g37 a w h => ?_
        refine br0 ?_
        refine brl1 7 false (by kernel_rfl) (by kernel_rfl) (fun _ => h.st.sees' (by first | exact LE.rfl | assumption) (by simp)) ?_
        refine cl bod28 (fun_ok [120] exA _ E H35 _ (⟨_, _, rfl, KS.up hsA l_HA_H35⟩)) h (fun r39 H39 L39 a w le39 R h => ?_) (hS := fun _ _ _ _ _ le R hw => by obtain ⟨_, rfl, _, rfl⟩ := R; exact hw.sees' (by first | exact le | exact LE.trans (by assumption) le) (by simp))
        obtain ⟨A39, rfl, hk39, rfl⟩ := R
        have l_H_H39 : LE H H39 := l_H_H35.trans le39
        have l_HA_H39 : LE HA H39 := l_HA_H35.trans le39
        have l_H21_H39 : LE H21 H39 := l_H21_H35.trans le39
        have l_H22_H39 : LE H22 H39 := l_H22_H35.trans le39
        have l_H27_H39 : LE H27 H39 := l_H27_H35.trans le39
        have l_H28_H39 : LE H28 H39 := l_H28_H35.trans le39
        have l_H29_H39 : LE H29 H39 := l_H29_H35.trans le39
        have l_H35_H39 : LE H35 H39 := le39
        refine br0 ?_
        refine tkl 8 false (by kernel_rfl) ?_
        refine bdl lay28 zr28 h fun a w h => ?_
        refine tk0 ?_
        refine brl1 10 false (by kernel_rfl) (by kernel_rfl) (fun _ => h.st.sees' (by first | exact LE.rfl | assumption) (by simp)) ?_
        refine sw2 tN28 h fun a w h => ?_
        refine br0 ?_
        refine en (by kernel_rfl) ?_
        refine thN ?_
        obtain ⟨Hx, leHx, h, hx1⟩ := h.fsl (α := Dc) (R := RDc) 1 (ys := [exD]) (RowR.one rfl rfl) (fun _ _ _ _ _ hr => hr)
        have l_H_Hx : LE H Hx := l_H_H39.trans leHx
        have l_HA_Hx : LE HA Hx := l_HA_H39.trans leHx
        have l_H21_Hx : LE H21 Hx := l_H21_H39.trans leHx
        have l_H22_Hx : LE H22 Hx := l_H22_H39.trans leHx
        have l_H27_Hx : LE H27 Hx := l_H27_H39.trans leHx
        have l_H28_Hx : LE H28 Hx := l_H28_H39.trans leHx
        have l_H29_Hx : LE H29 Hx := l_H29_H39.trans leHx
        have l_H35_Hx : LE H35 Hx := l_H35_H39.trans leHx
        have l_H39_Hx : LE H39 Hx := leHx
        obtain ⟨Hy, leHy, h, hx3⟩ := h.fsl (α := Df) (R := RDf) 0 (ys := [⟨[102], exF exX⟩]) (RowR.one rfl ⟨_, rfl, rt_of_ks (KS.up hk35 l_H35_Hx)⟩) (fun _ l _ _ _ hr => RDf.mono l hr)
        have l_H_Hy : LE H Hy := l_H_Hx.trans leHy
        have l_HA_Hy : LE HA Hy := l_HA_Hx.trans leHy
        have l_H21_Hy : LE H21 Hy := l_H21_Hx.trans leHy
        have l_H22_Hy : LE H22 Hy := l_H22_Hx.trans leHy
        have l_H27_Hy : LE H27 Hy := l_H27_Hx.trans leHy
        have l_H28_Hy : LE H28 Hy := l_H28_Hx.trans leHy
        have l_H29_Hy : LE H29 Hy := l_H29_Hx.trans leHy
        have l_H35_Hy : LE H35 Hy := l_H35_Hx.trans leHy
        have l_H39_Hy : LE H39 Hy := l_H39_Hx.trans leHy
        have l_Hx_Hy : LE Hx Hy := leHy
        have h := h.pull 2 rfl rfl
        have h := h.pull 2 rfl rfl
        have h := h.pull 2 rfl rfl
        have h := h.del 3
        exact ⟨_, g6, _, _, _, l_H29_Hy, CS.up hx1 l_Hx_Hy, hx3, KS.up hk39 l_H39_Hy, h.to 0 _⟩
       ·refine cl bod28 (fun_ok [120] exA _ E H35 _ (⟨_, _, rfl, KS.up hsA l_HA_H35⟩)) h (fun r39 H39 L39 a w le39 R h => ?_) (hS := fun _ _ _ _ _ le R hw => by obtain ⟨_, rfl, _, rfl⟩ := R; exact hw.sees' (by first | exact le | exact LE.trans (by assumption) le) (by simp))
        obtain ⟨A39, rfl, hk39, rfl⟩ := R
        have l_H_H39 : LE H H39 := l_H_H35.trans le39
        have l_HA_H39 : LE HA H39 := l_HA_H35.trans le39
        have l_H21_H39 : LE H21 H39 := l_H21_H35.trans le39
        have l_H22_H39 : LE H22 H39 := l_H22_H35.trans le39
        have l_H27_H39 : LE H27 H39 := l_H27_H35.trans le39
        have l_H28_H39 : LE H28 H39 := l_H28_H35.trans le39
        have l_H29_H39 : LE H29 H39 := l_H29_H35.trans le39
        have l_H35_H39 : LE H35 H39 := le39
        refine br0 ?_
        refine brl1 5 true (by kernel_rfl) (by kernel_rfl) (fun _ => h.st.sees' (by first | exact LE.rfl | assumption) (by simp)) ?_
        refine bsl bs26 h fun g37 a w h => ?_
        refine br0 ?_
        refine tkl 8 false (by kernel_rfl) ?_
        refine bdl lay28 zr28 h fun a w h => ?_
        refine tk0 ?_
        refine brl1 10 false (by kernel_rfl) (by kernel_rfl) (fun _ => h.st.sees' (by first | exact LE.rfl | assumption) (by simp)) ?_
        refine sw2 tN28 h fun a w h => ?_
        refine br0 ?_
        refine en (by kernel_rfl) ?_
        refine thN ?_
        obtain ⟨Hx, leHx, h, hx1⟩ := h.fsl (α := Dc) (R := RDc) 1 (ys := [exD]) (RowR.one rfl rfl) (fun _ _ _ _ _ hr => hr)
        have l_H_Hx : LE H Hx := l_H_H39.trans leHx
        have l_HA_Hx : LE HA Hx := l_HA_H39.trans leHx
        have l_H21_Hx : LE H21 Hx := l_H21_H39.trans leHx
        have l_H22_Hx : LE H22 Hx := l_H22_H39.trans leHx
        have l_H27_Hx : LE H27 Hx := l_H27_H39.trans leHx
        have l_H28_Hx : LE H28 Hx := l_H28_H39.trans leHx
        have l_H29_Hx : LE H29 Hx := l_H29_H39.trans leHx
        have l_H35_Hx : LE H35 Hx := l_H35_H39.trans leHx
        have l_H39_Hx : LE H39 Hx := leHx
        obtain ⟨Hy, leHy, h, hx3⟩ := h.fsl (α := Df) (R := RDf) 0 (ys := [⟨[102], exF exX⟩]) (RowR.one rfl ⟨_, rfl, rt_of_ks (KS.up hk35 l_H35_Hx)⟩) (fun _ l _ _ _ hr => RDf.mono l hr)
        have l_H_Hy : LE H Hy := l_H_Hx.trans leHy
        have l_HA_Hy : LE HA Hy := l_HA_Hx.trans leHy
        have l_H21_Hy : LE H21 Hy := l_H21_Hx.trans leHy
        have l_H22_Hy : LE H22 Hy := l_H22_Hx.trans leHy
        have l_H27_Hy : LE H27 Hy := l_H27_Hx.trans leHy
        have l_H28_Hy : LE H28 Hy := l_H28_Hx.trans leHy
        have l_H29_Hy : LE H29 Hy := l_H29_Hx.trans leHy
        have l_H35_Hy : LE H35 Hy := l_H35_Hx.trans leHy
        have l_H39_Hy : LE H39 Hy := l_H39_Hx.trans leHy
        have l_Hx_Hy : LE Hx Hy := leHy
        have h := h.pull 2 rfl rfl
        have h := h.pull 2 rfl rfl
        have h := h.pull 2 rfl rfl
        have h := h.del 3
        exact ⟨_, g6, _, _, _, l_H29_Hy, CS.up hx1 l_Hx_Hy, hx3, KS.up hk39 l_H39_Hy, h.to 0 _⟩
      ·refine bsl bs26 h fun g37 a w h => ?_
       refine br0 ?_
       refine brl2 1 7 true false (by kernel_rfl) (by kernel_rfl) (by kernel_rfl) (fun _ => h.st.sees' (by first | exact LE.rfl | assumption) (by simp)) ?_ ?_
       ·refine bsl bs25 h fun g33 a w h => ?_
        refine br0 ?_
        refine brl1 7 false (by kernel_rfl) (by kernel_rfl) (fun _ => h.st.sees' (by first | exact LE.rfl | assumption) (by simp)) ?_
        refine cl bod28 (fun_ok [120] exA _ E H35 _ (⟨_, _, rfl, KS.up hsA l_HA_H35⟩)) h (fun r39 H39 L39 a w le39 R h => ?_) (hS := fun _ _ _ _ _ le R hw => by obtain ⟨_, rfl, _, rfl⟩ := R; exact hw.sees' (by first | exact le | exact LE.trans (by assumption) le) (by simp))
        obtain ⟨A39, rfl, hk39, rfl⟩ := R
        have l_H_H39 : LE H H39 := l_H_H35.trans le39
        have l_HA_H39 : LE HA H39 := l_HA_H35.trans le39
        have l_H21_H39 : LE H21 H39 := l_H21_H35.trans le39
        have l_H22_H39 : LE H22 H39 := l_H22_H35.trans le39
        have l_H27_H39 : LE H27 H39 := l_H27_H35.trans le39
        have l_H28_H39 : LE H28 H39 := l_H28_H35.trans le39
        have l_H29_H39 : LE H29 H39 := l_H29_H35.trans le39
        have l_H35_H39 : LE H35 H39 := le39
        refine br0 ?_
        refine tkl 8 false (by kernel_rfl) ?_
        refine bdl lay28 zr28 h fun a w h => ?_
        refine tk0 ?_
        refine brl1 10 false (by kernel_rfl) (by kernel_rfl) (fun _ => h.st.sees' (by first | exact LE.rfl | assumption) (by simp)) ?_
        refine sw2 tN28 h fun a w h => ?_
        refine br0 ?_
        refine en (by kernel_rfl) ?_
        refine thN ?_
        obtain ⟨Hx, leHx, h, hx1⟩ := h.fsl (α := Dc) (R := RDc) 0 (ys := [exD]) (RowR.one rfl rfl) (fun _ _ _ _ _ hr => hr)
        have l_H_Hx : LE H Hx := l_H_H39.trans leHx
        have l_HA_Hx : LE HA Hx := l_HA_H39.trans leHx
        have l_H21_Hx : LE H21 Hx := l_H21_H39.trans leHx
        have l_H22_Hx : LE H22 Hx := l_H22_H39.trans leHx
        have l_H27_Hx : LE H27 Hx := l_H27_H39.trans leHx
        have l_H28_Hx : LE H28 Hx := l_H28_H39.trans leHx
        have l_H29_Hx : LE H29 Hx := l_H29_H39.trans leHx
        have l_H35_Hx : LE H35 Hx := l_H35_H39.trans leHx
        have l_H39_Hx : LE H39 Hx := leHx
        obtain ⟨Hy, leHy, h, hx3⟩ := h.fsl (α := Df) (R := RDf) 0 (ys := [⟨[102], exF exX⟩]) (RowR.one rfl ⟨_, rfl, rt_of_ks (KS.up hk35 l_H35_Hx)⟩) (fun _ l _ _ _ hr => RDf.mono l hr)
        have l_H_Hy : LE H Hy := l_H_Hx.trans leHy
        have l_HA_Hy : LE HA Hy := l_HA_Hx.trans leHy
        have l_H21_Hy : LE H21 Hy := l_H21_Hx.trans leHy
        have l_H22_Hy : LE H22 Hy := l_H22_Hx.trans leHy
        have l_H27_Hy : LE H27 Hy := l_H27_Hx.trans leHy
        have l_H28_Hy : LE H28 Hy := l_H28_Hx.trans leHy
        have l_H29_Hy : LE H29 Hy := l_H29_Hx.trans leHy
        have l_H35_Hy : LE H35 Hy := l_H35_Hx.trans leHy
        have l_H39_Hy : LE H39 Hy := l_H39_Hx.trans leHy
        have l_Hx_Hy : LE Hx Hy := leHy
        have h := h.pull 2 rfl rfl
        have h := h.pull 2 rfl rfl
        have h := h.pull 2 rfl rfl
        have h := h.del 3
        exact ⟨_, g6, _, _, _, l_H29_Hy, CS.up hx1 l_Hx_Hy, hx3, KS.up hk39 l_H39_Hy, h.to 0 _⟩
       ·refine cl bod28 (fun_ok [120] exA _ E H35 _ (⟨_, _, rfl, KS.up hsA l_HA_H35⟩)) h (fun r39 H39 L39 a w le39 R h => ?_) (hS := fun _ _ _ _ _ le R hw => by obtain ⟨_, rfl, _, rfl⟩ := R; exact hw.sees' (by first | exact le | exact LE.trans (by assumption) le) (by simp))
        obtain ⟨A39, rfl, hk39, rfl⟩ := R
        have l_H_H39 : LE H H39 := l_H_H35.trans le39
        have l_HA_H39 : LE HA H39 := l_HA_H35.trans le39
        have l_H21_H39 : LE H21 H39 := l_H21_H35.trans le39
        have l_H22_H39 : LE H22 H39 := l_H22_H35.trans le39
        have l_H27_H39 : LE H27 H39 := l_H27_H35.trans le39
        have l_H28_H39 : LE H28 H39 := l_H28_H35.trans le39
        have l_H29_H39 : LE H29 H39 := l_H29_H35.trans le39
        have l_H35_H39 : LE H35 H39 := le39
        refine br0 ?_
        refine brl1 1 true (by kernel_rfl) (by kernel_rfl) (fun _ => h.st.sees' (by first | exact LE.rfl | assumption) (by simp)) ?_
        refine bsl bs25 h fun g33 a w h => ?_
        refine br0 ?_
        refine tkl 8 false (by kernel_rfl) ?_
        refine bdl lay28 zr28 h fun a w h => ?_
        refine tk0 ?_
        refine brl1 10 false (by kernel_rfl) (by kernel_rfl) (fun _ => h.st.sees' (by first | exact LE.rfl | assumption) (by simp)) ?_
        refine sw2 tN28 h fun a w h => ?_
        refine br0 ?_
        refine en (by kernel_rfl) ?_
        refine thN ?_
        obtain ⟨Hx, leHx, h, hx1⟩ := h.fsl (α := Dc) (R := RDc) 0 (ys := [exD]) (RowR.one rfl rfl) (fun _ _ _ _ _ hr => hr)
        have l_H_Hx : LE H Hx := l_H_H39.trans leHx
        have l_HA_Hx : LE HA Hx := l_HA_H39.trans leHx
        have l_H21_Hx : LE H21 Hx := l_H21_H39.trans leHx
        have l_H22_Hx : LE H22 Hx := l_H22_H39.trans leHx
        have l_H27_Hx : LE H27 Hx := l_H27_H39.trans leHx
        have l_H28_Hx : LE H28 Hx := l_H28_H39.trans leHx
        have l_H29_Hx : LE H29 Hx := l_H29_H39.trans leHx
        have l_H35_Hx : LE H35 Hx := l_H35_H39.trans leHx
        have l_H39_Hx : LE H39 Hx := leHx
        obtain ⟨Hy, leHy, h, hx3⟩ := h.fsl (α := Df) (R := RDf) 0 (ys := [⟨[102], exF exX⟩]) (RowR.one rfl ⟨_, rfl, rt_of_ks (KS.up hk35 l_H35_Hx)⟩) (fun _ l _ _ _ hr => RDf.mono l hr)
        have l_H_Hy : LE H Hy := l_H_Hx.trans leHy
        have l_HA_Hy : LE HA Hy := l_HA_Hx.trans leHy
        have l_H21_Hy : LE H21 Hy := l_H21_Hx.trans leHy
        have l_H22_Hy : LE H22 Hy := l_H22_Hx.trans leHy
        have l_H27_Hy : LE H27 Hy := l_H27_Hx.trans leHy
        have l_H28_Hy : LE H28 Hy := l_H28_Hx.trans leHy
        have l_H29_Hy : LE H29 Hy := l_H29_Hx.trans leHy
        have l_H35_Hy : LE H35 Hy := l_H35_Hx.trans leHy
        have l_H39_Hy : LE H39 Hy := l_H39_Hx.trans leHy
        have l_Hx_Hy : LE Hx Hy := leHy
        have h := h.pull 2 rfl rfl
        have h := h.pull 2 rfl rfl
        have h := h.pull 2 rfl rfl
        have h := h.del 3
        exact ⟨_, g6, _, _, _, l_H29_Hy, CS.up hx1 l_Hx_Hy, hx3, KS.up hk39 l_H39_Hy, h.to 0 _⟩
      ·refine cl bod28 (fun_ok [120] exA _ E H35 _ (⟨_, _, rfl, KS.up hsA l_HA_H35⟩)) h (fun r39 H39 L39 a w le39 R h => ?_) (hS := fun _ _ _ _ _ le R hw => by obtain ⟨_, rfl, _, rfl⟩ := R; exact hw.sees' (by first | exact le | exact LE.trans (by assumption) le) (by simp))
       obtain ⟨A39, rfl, hk39, rfl⟩ := R
       have l_H_H39 : LE H H39 := l_H_H35.trans le39
       have l_HA_H39 : LE HA H39 := l_HA_H35.trans le39
       have l_H21_H39 : LE H21 H39 := l_H21_H35.trans le39
       have l_H22_H39 : LE H22 H39 := l_H22_H35.trans le39
       have l_H27_H39 : LE H27 H39 := l_H27_H35.trans le39
       have l_H28_H39 : LE H28 H39 := l_H28_H35.trans le39
       have l_H29_H39 : LE H29 H39 := l_H29_H35.trans le39
       have l_H35_H39 : LE H35 H39 := le39
       refine br0 ?_
       refine brl2 1 5 true true (by kernel_rfl) (by kernel_rfl) (by kernel_rfl) (fun _ => h.st.sees' (by first | exact LE.rfl | assumption) (by simp)) ?_ ?_
       ·refine bsl bs25 h fun g33 a w h => ?_
        refine br0 ?_
        refine brl1 5 true (by kernel_rfl) (by kernel_rfl) (fun _ => h.st.sees' (by first | exact LE.rfl | assumption) (by simp)) ?_
        refine bsl bs26 h fun g37 a w h => ?_
        refine br0 ?_
        refine tkl 8 false (by kernel_rfl) ?_
        refine bdl lay28 zr28 h fun a w h => ?_
        refine tk0 ?_
        refine brl1 10 false (by kernel_rfl) (by kernel_rfl) (fun _ => h.st.sees' (by first | exact LE.rfl | assumption) (by simp)) ?_
        refine sw2 tN28 h fun a w h => ?_
        refine br0 ?_
        refine en (by kernel_rfl) ?_
        refine thN ?_
        obtain ⟨Hx, leHx, h, hx1⟩ := h.fsl (α := Dc) (R := RDc) 1 (ys := [exD]) (RowR.one rfl rfl) (fun _ _ _ _ _ hr => hr)
        have l_H_Hx : LE H Hx := l_H_H39.trans leHx
        have l_HA_Hx : LE HA Hx := l_HA_H39.trans leHx
        have l_H21_Hx : LE H21 Hx := l_H21_H39.trans leHx
        have l_H22_Hx : LE H22 Hx := l_H22_H39.trans leHx
        have l_H27_Hx : LE H27 Hx := l_H27_H39.trans leHx
        have l_H28_Hx : LE H28 Hx := l_H28_H39.trans leHx
        have l_H29_Hx : LE H29 Hx := l_H29_H39.trans leHx
        have l_H35_Hx : LE H35 Hx := l_H35_H39.trans leHx
        have l_H39_Hx : LE H39 Hx := leHx
        obtain ⟨Hy, leHy, h, hx3⟩ := h.fsl (α := Df) (R := RDf) 0 (ys := [⟨[102], exF exX⟩]) (RowR.one rfl ⟨_, rfl, rt_of_ks (KS.up hk35 l_H35_Hx)⟩) (fun _ l _ _ _ hr => RDf.mono l hr)
        have l_H_Hy : LE H Hy := l_H_Hx.trans leHy
        have l_HA_Hy : LE HA Hy := l_HA_Hx.trans leHy
        have l_H21_Hy : LE H21 Hy := l_H21_Hx.trans leHy
        have l_H22_Hy : LE H22 Hy := l_H22_Hx.trans leHy
        have l_H27_Hy : LE H27 Hy := l_H27_Hx.trans leHy
        have l_H28_Hy : LE H28 Hy := l_H28_Hx.trans leHy
        have l_H29_Hy : LE H29 Hy := l_H29_Hx.trans leHy
        have l_H35_Hy : LE H35 Hy := l_H35_Hx.trans leHy
        have l_H39_Hy : LE H39 Hy := l_H39_Hx.trans leHy
        have l_Hx_Hy : LE Hx Hy := leHy
        have h := h.pull 2 rfl rfl
        have h := h.pull 2 rfl rfl
        have h := h.pull 2 rfl rfl
        have h := h.del 3
        exact ⟨_, g6, _, _, _, l_H29_Hy, CS.up hx1 l_Hx_Hy, hx3, KS.up hk39 l_H39_Hy, h.to 0 _⟩
       ·refine bsl bs26 h fun g37 a w h => ?_
        refine br0 ?_
        refine brl1 1 true (by kernel_rfl) (by kernel_rfl) (fun _ => h.st.sees' (by first | exact LE.rfl | assumption) (by simp)) ?_
        refine bsl bs25 h fun g33 a w h => ?_
        refine br0 ?_
        refine tkl 8 false (by kernel_rfl) ?_
        refine bdl lay28 zr28 h fun a w h => ?_
        refine tk0 ?_
        refine brl1 10 false (by kernel_rfl) (by kernel_rfl) (fun _ => h.st.sees' (by first | exact LE.rfl | assumption) (by simp)) ?_
        refine sw2 tN28 h fun a w h => ?_
        refine br0 ?_
        refine en (by kernel_rfl) ?_
        refine thN ?_
        obtain ⟨Hx, leHx, h, hx1⟩ := h.fsl (α := Dc) (R := RDc) 0 (ys := [exD]) (RowR.one rfl rfl) (fun _ _ _ _ _ hr => hr)
        have l_H_Hx : LE H Hx := l_H_H39.trans leHx
        have l_HA_Hx : LE HA Hx := l_HA_H39.trans leHx
        have l_H21_Hx : LE H21 Hx := l_H21_H39.trans leHx
        have l_H22_Hx : LE H22 Hx := l_H22_H39.trans leHx
        have l_H27_Hx : LE H27 Hx := l_H27_H39.trans leHx
        have l_H28_Hx : LE H28 Hx := l_H28_H39.trans leHx
        have l_H29_Hx : LE H29 Hx := l_H29_H39.trans leHx
        have l_H35_Hx : LE H35 Hx := l_H35_H39.trans leHx
        have l_H39_Hx : LE H39 Hx := leHx
        obtain ⟨Hy, leHy, h, hx3⟩ := h.fsl (α := Df) (R := RDf) 0 (ys := [⟨[102], exF exX⟩]) (RowR.one rfl ⟨_, rfl, rt_of_ks (KS.up hk35 l_H35_Hx)⟩) (fun _ l _ _ _ hr => RDf.mono l hr)
        have l_H_Hy : LE H Hy := l_H_Hx.trans leHy
        have l_HA_Hy : LE HA Hy := l_HA_Hx.trans leHy
        have l_H21_Hy : LE H21 Hy := l_H21_Hx.trans leHy
        have l_H22_Hy : LE H22 Hy := l_H22_Hx.trans leHy
        have l_H27_Hy : LE H27 Hy := l_H27_Hx.trans leHy
        have l_H28_Hy : LE H28 Hy := l_H28_Hx.trans leHy
        have l_H29_Hy : LE H29 Hy := l_H29_Hx.trans leHy
        have l_H35_Hy : LE H35 Hy := l_H35_Hx.trans leHy
        have l_H39_Hy : LE H39 Hy := l_H39_Hx.trans leHy
        have l_Hx_Hy : LE Hx Hy := leHy
        have h := h.pull 2 rfl rfl
        have h := h.pull 2 rfl rfl
        have h := h.pull 2 rfl rfl
        have h := h.del 3
        exact ⟨_, g6, _, _, _, l_H29_Hy, CS.up hx1 l_Hx_Hy, hx3, KS.up hk39 l_H39_Hy, h.to 0 _⟩
  ·rintro a w ⟨Hc, g6, B1, B3, B4, leHc, hB1, hB3, hB4, h⟩
   have hLc := hL.up (l_H_H29.trans leHc)
   refine sqr ?_
   refine ldW 0 tN28 h fun a w h => ?_
   refine cl bod17 (Resolve_ok exP _ E Hc _ (⟨B1, 1, none, 0, B3, 1, B4, 1, rfl, hB1, RS.nil _ _ _, hB3, hB4⟩) (hLc.up LE.rfl) (by constructor <;> decide)) h fun r43 H43 L43 a w le43 R h => ?_
   obtain ⟨v43, rfl, hv43, rfl⟩ := R
   rw [ex3] at hv43 h
   obtain ⟨D43_1, d43_1, D43_2, d43_2, D43_3, d43_3, D43_4, d43_4, rfl, hq431, hq432, hq433, hq434⟩ := hv43
   have l_Hc_H43 : LE Hc H43 := le43
   refine mv h fun a w h => ?_
   refine ex h fun a w h => ?_
   refine ex h fun a w h => ?_
   refine al zr28 h fun g7 a w h => ?_
   refine sw0 tN28 h fun a w h => ?_
   refine as_ h fun a w h => ?_
   refine nlt ?_
   refine sq ?_
   refine rgd [1] [_] [3, 2, 0] [1, 3, 5] 2 mix (by kernel_rfl) h (fun a w h => ?_)
   refine fa fl28_0 (r := 0) h fun a w h => ?_
   refine ldD 0 t1_25 h fun a w h => ?_
   refine fa fl28_0 (r := 0) h fun a w h => ?_
   refine ldD 0 t1_25 h fun a w h => ?_
   obtain ⟨gi, oi, eB, hvt, hcell⟩ := CS.get hB1 (j := 0) (by decide)
   subst eB
   refine ia sli25 sz72 (j := 0) rfl ?_ h fun a w h => ?_
   ·decide
   refine ldHND tN72 rfl (fun i u hu => (hcell i u hu).mono l_Hc_H43) h fun a w h => ?_
   refine bsl bs25 h fun g52 a w h => ?_
   have hB1x : RS RDc 3 H43 (.slice (some ⟨gi, oi, none⟩) [exD].length [exD].length) [exD] := hB1.mono (l_Hc_H43) (fun _ _ _ hr => hr)
   refine apc (R := RDc) (ys := [exD]) 0 [_, _, _] row25 hB1x h ?_ ?_ fun A53 c53 olds a w hol h => ?_
   ·decide
   ·decide
   obtain ⟨H53, le53, h, hB5⟩ := h.frw 0 (ys := [exD, exD]) (hol.snoc (y := exD) rfl rfl) rfl (fun _ _ _ _ _ hr => hr)
   have l_Hc_H53 : LE Hc H53 := l_Hc_H43.trans le53
   have l_H43_H53 : LE H43 H53 := le53
   refine fa fl28_0 (r := 0) h fun a w h => ?_
   refine st2 (l := [_, _, _, _, _, _, _]) t1_25 h fun a w h => ?_
   refine nsr ?_
   refine ldW 2 tN28 h fun a w h => ?_
   refine cl bod17 (Resolve_ok exP2 _ E H53 _ (⟨A53, c53, none, 0, B3, 1, B4, 1, rfl, CS.up hB5 LE.rfl, RS.nil _ _ _, FS.up hB3 l_Hc_H53, KS.up hB4 l_Hc_H53⟩) (hLc.up l_Hc_H53) (by constructor <;> decide)) h fun r57 H57 L57 a w le57 R h => ?_
   obtain ⟨v57, rfl, hv57, rfl⟩ := R
   rw [ex4] at h
   obtain ⟨D57_1, d57_1, D57_2, d57_2, D57_3, d57_3, D57_4, d57_4, rfl, hq571, hq572, hq573, hq574⟩ := hv57
   have l_Hc_H57 : LE Hc H57 := l_Hc_H53.trans le57
   have l_H43_H57 : LE H43 H57 := l_H43_H53.trans le57
   have l_H53_H57 : LE H53 H57 := le57
   refine mv h fun a w h => ?_
   refine ex h fun a w h => ?_
   refine ex h fun a w h => ?_
   refine al zr28 h fun g9 a w h => ?_
   refine sw0 tN28 h fun a w h => ?_
   refine as_ h fun a w h => ?_
   refine nsr ?_
   refine cl bod30 (of_ok [120] E H57 _) h (fun r61 H61 L61 a w le61 R h => ?_)
   obtain ⟨rfl, rfl, rfl⟩ := R
   refine bdl lay28 zr28 h fun a w h => ?_
   refine cl bod17 (Resolve_ok exP3 _ E H57 _ (⟨none, 0, none, 0, none, 0, none, 0, rfl, RS.nil _ _ _, RS.nil _ _ _, RS.nil _ _ _, RS.nil _ _ _⟩) (hLc.up l_Hc_H57) (by constructor <;> decide)) h fun r63 H63 L63 a w le63 R h => ?_
   obtain ⟨v63, rfl, hv63, rfl⟩ := R
   rw [ex5] at h
   obtain ⟨D63_1, d63_1, D63_2, d63_2, D63_3, d63_3, D63_4, d63_4, rfl, hq631, hq632, hq633, hq634⟩ := hv63
   have l_Hc_H63 : LE Hc H63 := l_Hc_H57.trans le63
   have l_H43_H63 : LE H43 H63 := l_H43_H57.trans le63
   have l_H53_H63 : LE H53 H63 := l_H53_H57.trans le63
   have l_H57_H63 : LE H57 H63 := le63
   refine mv h fun a w h => ?_
   refine ex h fun a w h => ?_
   refine ex h fun a w h => ?_
   refine al zr28 h fun g11 a w h => ?_
   refine sw0 tN28 h fun a w h => ?_
   refine as_ h fun a w h => ?_
   refine nsr ?_
   refine bdl lay28 zr28 h fun a w h => ?_
   refine cl bod17 (Resolve_ok Pg.zero _ E H63 _ (vp_zero _) (hLc.up l_Hc_H63) (by constructor <;> decide)) h fun r68 H68 L68 a w le68 R h => ?_
   obtain ⟨v68, rfl, hv68, rfl⟩ := R
   rw [ex6] at h
   obtain ⟨D68_1, d68_1, D68_2, d68_2, D68_3, d68_3, D68_4, d68_4, rfl, hq681, hq682, hq683, hq684⟩ := hv68
   have l_Hc_H68 : LE Hc H68 := l_Hc_H63.trans le68
   have l_H43_H68 : LE H43 H68 := l_H43_H63.trans le68
   have l_H53_H68 : LE H53 H68 := l_H53_H63.trans le68
   have l_H57_H68 : LE H57 H68 := l_H57_H63.trans le68
   have l_H63_H68 : LE H63 H68 := le68
   refine mv h fun a w h => ?_
   refine ex h fun a w h => ?_
   refine ex h fun a w h => ?_
   refine al zr28 h fun g13 a w h => ?_
   refine sw0 tN28 h fun a w h => ?_
   refine as_ h fun a w h => ?_
   refine nlt ?_
   refine sq ?_
   refine sq ?_
   obtain ⟨ga, oa, Aa, ca, ea, hva, hca⟩ := KS.get (KS.up hk22 ((l_H22_H29.trans leHc).trans l_Hc_H68)) (j := 0) (by decide)
   subst ea
   obtain ⟨_, _, ea2, hka⟩ := hva
   cases ea2
   obtain ⟨gb, ob, _, _, eb, _, hcb⟩ := KS.get hka (j := 0) (by decide)
   obtain ⟨gb2, ob2, _, _, eb2, _, hcb2⟩ := KS.get hka (j := 1) (by decide)
   subst eb
   cases eb2
   obtain ⟨gc, oc, Ac, cc, ec, hvc, hcc⟩ := KS.get (KS.up hk29 (leHc.trans l_Hc_H68)) (j := 0) (by decide)
   subst ec
   obtain ⟨_, _, ec2, hkc⟩ := hvc
   cases ec2
   obtain ⟨gd, od, _, _, ed, _, hcd⟩ := KS.get hkc (j := 0) (by decide)
   subst ed
   obtain ⟨ge, oe, _, _, ee, _, hce⟩ := FS.get (FS.up hq433 l_H43_H68) (j := 0) (by decide)
   subst ee
   refine rg0 ?_
   refine fa fl24_3 (r := 3) h fun a w h => ?_
   refine ld 7 t1_22 h fun a w h => ?_
   refine ln sli22 h fun a w h => ?_
   refine nei h fun a w h => ?_
   refine h.spl (fun c74 h => ?_) (fun c74 h => ?_)
   ·exact absurd c74 (by decide)
   ·refine mv h fun a w h => ?_
    refine fa fl24_3 (r := 3) h fun a w h => ?_
    refine ld 7 t1_22 h fun a w h => ?_
    refine ia sli22 sz24 (j := 0) rfl ?_ h fun a w h => ?_
    ·decide
    refine fa fl24_3 (r := oa + 0 * 4 + 3) h fun a w h => ?_
    refine ldH t1_22 (hca 3 _ rfl) h fun a w h => ?_
    refine ln sli22 h fun a w h => ?_
    refine nei h fun a w h => ?_
    refine pkF h fun a w h => ?_
    refine h.spl (fun c83 h => ?_) (fun c83 h => ?_)
    ·exact absurd c83 (by decide)
    ·refine mv h fun a w h => ?_
     refine fa fl24_3 (r := 3) h fun a w h => ?_
     refine ld 6 t1_22 h fun a w h => ?_
     refine ln sli22 h fun a w h => ?_
     refine nei h fun a w h => ?_
     refine pkF h fun a w h => ?_
     refine h.spl (fun c89 h => ?_) (fun c89 h => ?_)
     ·exact absurd c89 (by decide)
     ·refine mv h fun a w h => ?_
      refine fa fl24_3 (r := 3) h fun a w h => ?_
      refine ld 6 t1_22 h fun a w h => ?_
      refine ia sli22 sz24 (j := 0) rfl ?_ h fun a w h => ?_
      ·decide
      refine fa fl24_3 (r := oc + 0 * 4 + 3) h fun a w h => ?_
      refine ldH t1_22 (hcc 3 _ rfl) h fun a w h => ?_
      refine ln sli22 h fun a w h => ?_
      refine nei h fun a w h => ?_
      refine pkF h fun a w h => ?_
      refine h.spl (fun c98 h => ?_) (fun c98 h => ?_)
      ·exact absurd c98 (by decide)
      ·refine mv h fun a w h => ?_
       refine fa fl28_2 (r := 2) h fun a w h => ?_
       refine ld 4 t1_26 h fun a w h => ?_
       refine ln sli26 h fun a w h => ?_
       refine nei h fun a w h => ?_
       refine pkF h fun a w h => ?_
       refine nlt ?_
       refine cdB h (fun c104 => ?_) (fun c104 => ?_)
       ·exact absurd c104 (by decide)
       ·refine skt ?_
        refine sqr ?_
        refine fa fl24_1 (r := 1) h fun a w h => ?_
        refine ld 7 t1_9 h fun a w h => ?_
        refine eqb h fun a w h => ?_
        refine h.spl (fun c107 h => ?_) (fun c107 h => ?_)
        ·refine mv h fun a w h => ?_
         refine mv h fun a w h => ?_
         refine eqi h fun a w h => ?_
         refine pkT h fun a w h => ?_
         refine h.spl (fun c111 h => ?_) (fun c111 h => ?_)
         ·refine mv h fun a w h => ?_
          refine fa fl24_3 (r := 3) h fun a w h => ?_
          refine ld 7 t1_22 h fun a w h => ?_
          refine ia sli22 sz24 (j := 0) rfl ?_ h fun a w h => ?_
          ·decide
          refine fa fl24_3 (r := oa + 0 * 4 + 3) h fun a w h => ?_
          refine ldH t1_22 (hca 3 _ rfl) h fun a w h => ?_
          refine ia sli22 sz24 (j := 0) rfl ?_ h fun a w h => ?_
          ·decide
          refine fa fl24_1 (r := ob + 0 * 4 + 1) h fun a w h => ?_
          refine ldH t1_9 (hcb 1 _ rfl) h fun a w h => ?_
          refine eqb h fun a w h => ?_
          refine pkT h fun a w h => ?_
          refine h.spl (fun c122 h => ?_) (fun c122 h => ?_)
          ·refine mv h fun a w h => ?_
           refine fa fl24_3 (r := 3) h fun a w h => ?_
           refine ld 7 t1_22 h fun a w h => ?_
           refine ia sli22 sz24 (j := 0) rfl ?_ h fun a w h => ?_
           ·decide
           refine fa fl24_3 (r := oa + 0 * 4 + 3) h fun a w h => ?_
           refine ldH t1_22 (hca 3 _ rfl) h fun a w h => ?_
           refine ia sli22 sz24 (j := 1) rfl ?_ h fun a w h => ?_
           ·decide
           refine fa fl24_1 (r := ob + 1 * 4 + 1) h fun a w h => ?_
           refine ldH t1_9 (hcb2 1 _ rfl) h fun a w h => ?_
           refine eqb h fun a w h => ?_
           refine pkT h fun a w h => ?_
           refine h.spl (fun c133 h => ?_) (fun c133 h => ?_)
           ·refine mv h fun a w h => ?_
            refine fa fl24_1 (r := 1) h fun a w h => ?_
            refine ld 6 t1_9 h fun a w h => ?_
            refine eqb h fun a w h => ?_
            refine pkT h fun a w h => ?_
            refine h.spl (fun c138 h => ?_) (fun c138 h => ?_)
            ·refine mv h fun a w h => ?_
             refine mv h fun a w h => ?_
             refine eqi h fun a w h => ?_
             refine pkT h fun a w h => ?_
             refine h.spl (fun c142 h => ?_) (fun c142 h => ?_)
             ·refine mv h fun a w h => ?_
              refine fa fl24_3 (r := 3) h fun a w h => ?_
              refine ld 6 t1_22 h fun a w h => ?_
              refine ia sli22 sz24 (j := 0) rfl ?_ h fun a w h => ?_
              ·decide
              refine fa fl24_3 (r := oc + 0 * 4 + 3) h fun a w h => ?_
              refine ldH t1_22 (hcc 3 _ rfl) h fun a w h => ?_
              refine ia sli22 sz24 (j := 0) rfl ?_ h fun a w h => ?_
              ·decide
              refine fa fl24_1 (r := od + 0 * 4 + 1) h fun a w h => ?_
              refine ldH t1_9 (hcd 1 _ rfl) h fun a w h => ?_
              refine eqb h fun a w h => ?_
              refine pkT h fun a w h => ?_
              refine h.spl (fun c153 h => ?_) (fun c153 h => ?_)
              ·refine mv h fun a w h => ?_
               refine ldW 6 tN24 h fun a w h => ?_
               refine cl bod14 (Count_ok (.mk 3 [45, 49] 0 [.mk 3 [48] 0 [.mk 2 [48] 0 []]]) _ E H68 _ ⟨_, _, rfl, KS.up hk29 (leHc.trans l_Hc_H68)⟩ (by decide)) h fun r156 H156 L156 a w le156 R h => ?_
               obtain ⟨rfl, rfl, rfl⟩ := R
               refine eqi h fun a w h => ?_
               refine pkT h fun a w h => ?_
               refine h.spl (fun c158 h => ?_) (fun c158 h => ?_)
               ·refine mv h fun a w h => ?_
                refine mv h fun a w h => ?_
                refine eqi h fun a w h => ?_
                refine pkT h fun a w h => ?_
                refine h.spl (fun c162 h => ?_) (fun c162 h => ?_)
                ·refine mv h fun a w h => ?_
                 refine fa fl28_2 (r := 2) h fun a w h => ?_
                 refine ld 4 t1_26 h fun a w h => ?_
                 refine ia sli26 sz68 (j := 0) rfl ?_ h fun a w h => ?_
                 ·decide
                 refine fa fl68_1 (r := oe + 0 * 5 + 1) h fun a w h => ?_
                 refine fa fl24_1 (r := oe + 0 * 5 + 2) h fun a w h => ?_
                 refine ldH t1_9 (hce 2 _ rfl) h fun a w h => ?_
                 refine eqb h fun a w h => ?_
                 refine pkT h fun a w h => ?_
                 refine h.spl (fun c171 h => ?_) (fun c171 h => ?_)
                 ·refine mv h fun a w h => ?_
                  refine fa fl28_3 (r := 3) h fun a w h => ?_
                  refine fa fl24_1 (r := 4) h fun a w h => ?_
                  refine ld 4 t1_9 h fun a w h => ?_
                  refine eqb h fun a w h => ?_
                  refine pkT h fun a w h => ?_
                  refine h.spl (fun c177 h => ?_) (fun c177 h => ?_)
                  ·refine mv h fun a w h => ?_
                   refine mv h fun a w h => ?_
                   refine eqi h fun a w h => ?_
                   refine pkT h fun a w h => ?_
                   refine h.spl (fun c181 h => ?_) (fun c181 h => ?_)
                   ·refine mv h fun a w h => ?_
                    refine mv h fun a w h => ?_
                    refine eqi h fun a w h => ?_
                    refine pkT h fun a w h => ?_
                    refine h.spl (fun c185 h => ?_) (fun c185 h => ?_)
                    ·refine mv h fun a w h => ?_
                     refine mv h fun a w h => ?_
                     refine eqi h fun a w h => ?_
                     refine pkT h fun a w h => ?_
                     refine as_ h fun a w h => ?_
                     refine nlt ?_
                     refine ret_ ?_
                     have h := h.del 7
                     have h := h.del 6
                     have h := h.del 5
                     have h := h.del 4
                     have h := h.del 3
                     have h := h.del 2
                     have h := h.del 1
                     have h := h.del 0
                     refine fin1 0 0 h ((l_H_H29.trans leHc).trans l_Hc_H68) ?_
                     exact ⟨rfl, rfl⟩
                    ·exact absurd c185 (by decide)
                   ·exact absurd c181 (by decide)
                  ·exact absurd c177 (by decide)
                 ·exact absurd c171 (by decide)
                ·exact absurd c162 (by decide)
               ·exact absurd c158 (by decide)
              ·exact absurd c153 (by decide)
             ·exact absurd c142 (by decide)
            ·exact absurd c138 (by decide)
           ·exact absurd c133 (by decide)
          ·exact absurd c122 (by decide)
         ·exact absurd c111 (by decide)
        ·exact absurd c107 (by decide)
end Go.Proofs.YtindlieilabgfaaGreatDoor
/- Walks: term.Same, slices.EqualFunc. -/
set_option linter.unusedVariables false
set_option linter.unusedSimpArgs false
set_option linter.unusedSectionVars false
set_option autoImplicit false
set_option relaxedAutoImplicit false
set_option maxRecDepth 10000
namespace Go.Proofs.YtindlieilabgfaaGreatDoor
open Go X
theorem take_eq_succ {ks ms : List Tm} {k : Nat} (h : k < ks.length) (h' : k < ms.length) (e : ks.take k = ms.take k) (s : ks[k].same ms[k] = true) : ks.take (k + 1) = ms.take (k + 1) := by
  rw [List.take_succ_eq_append_getElem h, List.take_succ_eq_append_getElem h', e, (same_iff _ _).1 s]
theorem take_eq_all {ks ms : List Tm} {k : Nat} (hl : ks.length = ms.length) (hk : k = ks.length) (e : ks.take k = ms.take k) : sameL ks ms = true := by
  rw [sameL_iff]; subst hk; rw [List.take_length, hl, List.take_length] at e; exact e
theorem sameL_len {ks ms : List Tm} (h : ks.length ≠ ms.length) : sameL ks ms = false := by
  rw [Bool.eq_false_iff, ne_eq, sameL_iff]; rintro rfl; exact h rfl
theorem sameL_at {ks ms : List Tm} {k : Nat} (h : k < ks.length) (h' : k < ms.length) (s : ks[k].same ms[k] = false ∨ ks[k].same ms[k] = false) : sameL ks ms = false := by
  rw [Bool.eq_false_iff, ne_eq, sameL_iff]; rintro rfl
  have := (same_iff ks[k] ks[k]).2 rfl
  rcases s with s | s <;> rw [this] at s <;> cases s
theorem EqualFunc_ok (ks ms : List Tm) (A A' : Option Addr) (c c' : Nat) (E : World) (H : GH) (L : List It) (hks : KS H A c ks) (hms : KS H A' c' ms) (hb : ks.length < 1000000000000)
    (hf : ∀ x ∈ ks, ∀ y ∈ ms, ∀ vx vy, VT H vx x → VT H vy y → ∀ L, Ok Tryz.prog 27 #[vx, vy] E H L fun r H' L' => r = .bool (x.same y) ∧ H = H' ∧ L = L') :
    Ok Tryz.prog 56 #[.slice A ks.length c, .slice A' ms.length c', .func (.func 27) #[] #[]] E H L fun r H' L' => r = .bool (sameL ks ms) ∧ H = H' ∧ L = L' := by
  refine enter (N := 32) [(0, _), (1, _), (2, _)] Tryz.func56 rfl rfl rfl rfl fun a w h => ?_
  refine sqr ?_
  refine as_ h fun a w h => ?_
  refine nlt ?_
  refine sq ?_
  refine sqr ?_
  refine mv h fun a w h => ?_
  refine ln sli22 h fun a w h => ?_
  refine mv h fun a w h => ?_
  refine ln sli22 h fun a w h => ?_
  refine nei h fun a w h => ?_
  refine nlt ?_
  refine cdB h (fun c14 => ?_) (fun c14 => ?_)
  ·have hfact : sameL ks ms = false := sameL_len (by simp at c14; omega)
   refine sqr ?_
   refine as_ h fun a w h => ?_
   refine nlt ?_
   refine ret_ ?_
   refine thR ?_
   refine fin1 6 0 h LE.rfl ?_
   exact ⟨by rw [hfact], rfl, rfl⟩
  ·have hlen : ks.length = ms.length := by simp at c14; omega
   refine skt ?_
   refine sq ?_
   refine sqr ?_
   refine mv h fun a w h => ?_
   refine ln sli22 h fun a w h => ?_
   refine mv h fun a w h => ?_
   refine nlt ?_
   refine blk ?_
   refine lp (β := Nat) (fun k a w => (k ≤ ks.length ∧ ks.take k = ms.take k) ∧ S E H 32 [] [(17, .int .i64 (k : Int)), (15, .slice A ks.length c), (16, .int .i64 (ks.length : Int)), (1, .slice A' ms.length c'), (2, .func (.func 27) #[] #[])] (L) a w)
    (fun k => ks.length - k) 0 ⟨⟨Nat.zero_le _, rfl⟩, h.to 0 _⟩ ?_
   rintro k a w ⟨pre, h⟩
   refine sqr ?_
   refine lt h fun a w h => ?_
   refine nlt ?_
   refine sq ?_
   refine cdB h (fun c18 => ?_) (fun c18 => ?_)
   ·have c18 : k < ks.length := by simpa using c18
    have c18m : k < ms.length := by omega
    obtain ⟨g, off, A2, c2, rfl, hx, hcx⟩ := KS.get hks c18
    obtain ⟨g', off', A3, c3, rfl, hy, hcy⟩ := KS.get hms c18m
    refine skt ?_
    refine sq ?_
    refine blk ?_
    refine sqr ?_
    refine mv h fun a w h => ?_
    refine ia sli22 sz24 rfl c18 h fun a w h => ?_
    refine ldHN tN24 rfl hcx h fun a w h => ?_
    refine al zr24 h fun g8 a w h => ?_
    refine as_ h fun a w h => ?_
    refine sw0 tN24 h fun a w h => ?_
    refine nsr ?_
    refine mv h fun a w h => ?_
    refine mv h fun a w h => ?_
    refine ia sli22 sz24 rfl c18m h fun a w h => ?_
    refine ldHN tN24 rfl hcy h fun a w h => ?_
    refine al zr24 h fun g9 a w h => ?_
    refine sw0 tN24 h fun a w h => ?_
    refine nsr ?_
    refine mv h fun a w h => ?_
    refine ldW 1 tN24 h fun a w h => ?_
    refine ldW 0 tN24 h fun a w h => ?_
    refine cl bod27 (hf _ (List.getElem_mem c18) _ (List.getElem_mem c18m) _ _ hx hy _) h fun r H1 L1 a w le R h => ?_
    obtain ⟨rfl, rfl, rfl⟩ := R
    refine nt h fun a w h => ?_
    refine nlt ?_
    refine cdB h (fun c30 => ?_) (fun c30 => ?_)
    ·have hfact : sameL ks ms = false := sameL_at c18 c18m (by simpa using c30)
     refine sqr ?_
     refine as_ h fun a w h => ?_
     refine nlt ?_
     refine ret_ ?_
     refine ibR ?_
     refine thR ?_
     refine thR ?_
     refine ibR ?_
     refine thR ?_
     refine fin1 6 2 h LE.rfl ?_
     exact ⟨by rw [hfact], rfl, rfl⟩
    ·have c30 : ks[k].same ms[k] = true := by simpa using c30
     refine sk_ ?_
     refine ibN ?_
     refine thN ?_
     refine rg0 ?_
     refine inc ?_ h fun a w h => ?_
     ·omega
     refine mv h fun a w h => ?_
     refine nlt ?_
     exact ⟨(k + 1), ⟨⟨by omega, take_eq_succ c18 c18m pre.2 c30⟩, h.to 2 _⟩, by show _ - (k + 1) < _ - k; omega⟩
   ·have hk : k = ks.length := by simp at c18; omega
    have hfact : sameL ks ms = true := take_eq_all hlen hk pre.2
    refine exit_ ?_
    refine thE ?_
    refine thE ?_
    refine ibH ?_
    refine thN ?_
    refine sqr ?_
    refine as_ h fun a w h => ?_
    refine nlt ?_
    refine ret_ ?_
    refine fin1 6 0 h LE.rfl ?_
    exact ⟨by rw [hfact], rfl, rfl⟩
theorem Same_ok : ∀ (t u : Tm) (v v' : Value) (E : World) (H : GH) (L : List It), VT H v t → VT H v' u → t.size < 1000000000000 →
    Ok Tryz.prog 27 #[v, v'] E H L fun r H' L' => r = .bool (t.same u) ∧ H = H' ∧ L = L' := by
  intro t
  induction t using Tm.ind with
  | h kd nm nn ks ih =>
  intro u v v' E H L hv hv' hb
  obtain ⟨kd', nm', nn', ms⟩ := u
  obtain ⟨A, c, rfl, hks⟩ := hv.mk
  obtain ⟨A', c', rfl, hms⟩ := hv'.mk
  simp only [Tm.size] at hb
  have hlen := length_le_sizeL ks
  refine enter (N := 31) [(0, _), (1, _)] Tryz.func27 rfl rfl rfl rfl fun a w h => ?_
  refine sqr ?_
  refine bxA h fun g2 a w h => ?_
  refine bxA h fun g3 a w h => ?_
  refine as_ h fun a w h => ?_
  refine nsr ?_
  refine fa fl24_0 (r := 0) h fun a w h => ?_
  refine ld 1 t1_3 h fun a w h => ?_
  refine fa fl24_0 (r := 0) h fun a w h => ?_
  refine ld 0 t1_3 h fun a w h => ?_
  refine eqi h fun a w h => ?_
  refine h.spl (fun c9 h => ?_) (fun c9 h => ?_)
  ·refine mv h fun a w h => ?_
   refine fa fl24_1 (r := 1) h fun a w h => ?_
   refine ld 1 t1_9 h fun a w h => ?_
   refine fa fl24_1 (r := 1) h fun a w h => ?_
   refine ld 0 t1_9 h fun a w h => ?_
   refine eqb h fun a w h => ?_
   refine pkT h fun a w h => ?_
   refine h.spl (fun c16 h => ?_) (fun c16 h => ?_)
   ·refine mv h fun a w h => ?_
    refine fa fl24_2 (r := 2) h fun a w h => ?_
    refine ld 1 t1_2 h fun a w h => ?_
    refine fa fl24_2 (r := 2) h fun a w h => ?_
    refine ld 0 t1_2 h fun a w h => ?_
    refine eqi h fun a w h => ?_
    refine pkT h fun a w h => ?_
    refine h.spl (fun c23 h => ?_) (fun c23 h => ?_)
    ·refine mv h fun a w h => ?_
     refine fa fl24_3 (r := 3) h fun a w h => ?_
     refine ld 1 t1_22 h fun a w h => ?_
     refine fa fl24_3 (r := 3) h fun a w h => ?_
     refine ld 0 t1_22 h fun a w h => ?_
     refine cl bod56 (EqualFunc_ok ks ms A A' c c' E H _ hks hms (by omega) (fun x hx y _ vx vy hvx hvy L => ih x hx y vx vy E H L hvx hvy (by have := size_le_sizeL hx; omega))) h fun r H1 L1 a w le R h => ?_
     obtain ⟨rfl, rfl, rfl⟩ := R
     refine pkT h fun a w h => ?_
     refine as_ h fun a w h => ?_
     refine nlt ?_
     refine ret_ ?_
     refine fin1 4 2 h LE.rfl ?_
     exact ⟨by rw [same_mk, c9, c16, c23]; first | done | rfl, rfl, rfl⟩
    ·refine mv h fun a w h => ?_
     refine sk h (k := fun a w h => ?_)
     refine sk h (k := fun a w h => ?_)
     refine sk h (k := fun a w h => ?_)
     refine sk h (k := fun a w h => ?_)
     refine sk h (k := fun a w h => ?_)
     refine pkF h fun a w h => ?_
     refine as_ h fun a w h => ?_
     refine nlt ?_
     refine ret_ ?_
     refine fin1 4 2 h LE.rfl ?_
     exact ⟨by rw [same_mk, c9, c16, c23]; first | done | rfl, rfl, rfl⟩
   ·refine mv h fun a w h => ?_
    refine sk h (k := fun a w h => ?_)
    refine sk h (k := fun a w h => ?_)
    refine sk h (k := fun a w h => ?_)
    refine sk h (k := fun a w h => ?_)
    refine sk h (k := fun a w h => ?_)
    refine pkF h fun a w h => ?_
    refine mv h fun a w h => ?_
    refine sk h (k := fun a w h => ?_)
    refine sk h (k := fun a w h => ?_)
    refine sk h (k := fun a w h => ?_)
    refine sk h (k := fun a w h => ?_)
    refine sk h (k := fun a w h => ?_)
    refine pkF h fun a w h => ?_
    refine as_ h fun a w h => ?_
    refine nlt ?_
    refine ret_ ?_
    refine fin1 4 2 h LE.rfl ?_
    exact ⟨by rw [same_mk, c9, c16]; first | done | rfl, rfl, rfl⟩
  ·refine mv h fun a w h => ?_
   refine sk h (k := fun a w h => ?_)
   refine sk h (k := fun a w h => ?_)
   refine sk h (k := fun a w h => ?_)
   refine sk h (k := fun a w h => ?_)
   refine sk h (k := fun a w h => ?_)
   refine pkF h fun a w h => ?_
   refine mv h fun a w h => ?_
   refine sk h (k := fun a w h => ?_)
   refine sk h (k := fun a w h => ?_)
   refine sk h (k := fun a w h => ?_)
   refine sk h (k := fun a w h => ?_)
   refine sk h (k := fun a w h => ?_)
   refine pkF h fun a w h => ?_
   refine mv h fun a w h => ?_
   refine sk h (k := fun a w h => ?_)
   refine sk h (k := fun a w h => ?_)
   refine sk h (k := fun a w h => ?_)
   refine sk h (k := fun a w h => ?_)
   refine sk h (k := fun a w h => ?_)
   refine pkF h fun a w h => ?_
   refine as_ h fun a w h => ?_
   refine nlt ?_
   refine ret_ ?_
   refine fin1 4 2 h LE.rfl ?_
   exact ⟨by rw [same_mk, c9]; first | done | rfl, rfl, rfl⟩
end Go.Proofs.YtindlieilabgfaaGreatDoor
/- Walk: the law ScopeKeeps. -/
set_option linter.unusedVariables false
set_option linter.unusedSimpArgs false
set_option linter.unusedSectionVars false
set_option autoImplicit false
set_option relaxedAutoImplicit false
set_option maxRecDepth 10000
set_option maxHeartbeats 2000000
namespace Go.Proofs.YtindlieilabgfaaGreatDoor
open Go X
theorem mk_size {t : Tm} (h : Mk 6 t) : t.size ≤ 16384 := h.1
theorem mk_num {t : Tm} {d : Nat} (h : Mk d t) : ∀ s ∈ t.names, numB s = false := fun s hs => (by decide : ∀ s ∈ mkN, numB s = false) s (h.2.1 s hs)
mutual
theorem long_of {B : Nat} : ∀ t : Tm, (∀ s ∈ t.names, s.length ≤ B) → t.long ≤ B
  | .mk k s n ks, h => by
    have h1 := h s (by simp [Tm.names])
    have h2 := longL_of (B := B) ks (fun r hr => h r (by simp [Tm.names, hr]))
    simp only [Tm.long]; omega
theorem longL_of {B : Nat} : ∀ l : List Tm, (∀ s ∈ namesL l, s.length ≤ B) → longL l ≤ B
  | [], _ => by simp [longL]
  | t :: l, h => by
    have h1 := long_of (B := B) t (fun r hr => h r (by simp [namesL, hr]))
    have h2 := longL_of (B := B) l (fun r hr => h r (by simp [namesL, hr]))
    simp only [longL]; omega
end
theorem mk_long {t : Tm} {d : Nat} (h : Mk d t) : t.long ≤ 2 := long_of t fun s hs => (by decide : ∀ s ∈ mkN, s.length ≤ 2) s (h.2.1 s hs)
end Go.Proofs.YtindlieilabgfaaGreatDoor
/- Walk: the law ScopeApart. -/
set_option linter.unusedVariables false
set_option linter.unusedSimpArgs false
set_option linter.unusedSectionVars false
set_option autoImplicit false
set_option relaxedAutoImplicit false
set_option maxRecDepth 10000
set_option maxHeartbeats 2000000
namespace Go.Proofs.YtindlieilabgfaaGreatDoor
open Go X
end Go.Proofs.YtindlieilabgfaaGreatDoor
