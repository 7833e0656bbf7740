/- Parts of the proof: W10, W11, W12, Iter, W13, S1, S2, S3, S4, S5, X17, S6, P2, S7, S8, F2, V1, V2, V3, V4, V5, V6, S9, V7, X18, P3. -/
import Derived.Test.YthnhddjlgjecdaaGreatDoorZm2
import Derived.Shelf.SlIter.Nil
import Derived.Shelf.SortM.Plain
import Derived.Shelf.SortM.SortNone
import Derived.Ground.GgzProg
import Derived.Ground.SlgmProg
import Derived.Shelf.Spec.SlicesGrow
import Derived.Ground.Names7Prog
import Derived.Shelf.SlIterI.Nil
import Derived.Test.YthnhddjlgjecdaaGreatDoorProg
import Derived.Maps.Own
import Derived.Laws.CopyRow
import Derived.Lib.AppendZerosOnto
import Derived.Lib.Overlaps
import Derived.Laws.Externs
set_option autoImplicit false
set_option linter.unnecessarySimpa false
set_option linter.unusedSectionVars false
set_option linter.unusedSimpArgs false
set_option linter.unusedVariables false
set_option maxHeartbeats 8000000
set_option maxRecDepth 100000
set_option relaxedAutoImplicit false
namespace Go.Proofs.YthnhddjlgjecdaaGreatDoor
open Go X
theorem toks_ok : ∀ (t : Tm), t.wrong = false → t.size ≤ 100000 → ToksOk t := by
 intro t
 induction t using Tm.ind with
 | h kd nm nn ks ih =>
 intro hwr hsz v E H L hv hL
 obtain ⟨A, c, rfl, hks⟩ := hv
 obtain ⟨hnode, hkw⟩ := right_of hwr
 obtain ⟨_, _, _, hn0, hn1⟩ := kids_of_node hnode
 have htl := toks_len (.mk kd nm nn ks)
 simp only [Tm.size] at hsz htl
 have hwi : ∀ x ∈ ks, WithinOk x := fun x hx => within_ok x (ih x hx (hkw x hx) (by have := size_le_sizeL hx; omega)) (by have := toks_len x; have := size_le_sizeL hx; omega)
 have hks : KS H A c ks := hks
 refine enter (N := 153) [(0, _)] Tryz.func153 rfl rfl rfl rfl fun a w h => ?_
 refine au [1,2] h ?_
 refine bxA h fun g1 a w h => ?_
 refine au [0,6,0,2] h ?_; intro a w h
 obtain ⟨Hf, leHf, h, hf1⟩ := h.frz 0
 have l_H_Hf : LE H Hf := leHf
 refine au [7,3,0,6,0,2,0,7] h ?_; intro a w h
 refine ldH t1_9 (Hc.of (LE.rfl _ _ hf1) rfl) h fun a w h => ?_
 refine au [0,6,0,3,0,4,1,2,0,7] h ?_; intro a w h
 refine ldH t1_3 (Hc.of (LE.rfl _ _ hf1) rfl) h fun a w h => ?_
 refine au [0,3,1,5,1,2,6,2,0,6,0,3] h ?_; intro a w h
 refine cdB h (fun c10 => ?_) (fun c10 => ?_)
 ·have ek : kd = 1 := eq_of_beq c10
  have etk := (toks_k hnode).1 ek
  refine sq ?_
  refine rgx [] [] [1, 4] 8 mix h (fun a w h => ?_)
  refine au [8,0,0,7,2,6,8,1] h ?_; intro a w h
  refine ldHT t1_2 (Hc.of (LE.rfl _ _ hf1) rfl) h fun a w h => ?_
  refine au [2,6,8,3,0,7,2,6,8,4] h ?_; intro a w h
  refine ldHT t1_2 (Hc.of (LE.rfl _ _ hf1) rfl) h fun a w h => ?_
  refine tk0 ?_
  refine brl1 2 true (by kernel_rfl) (by kernel_rfl) (fun _ => h.st.sees' (by first | exact LE.rfl | assumption) (by simp)) ?_
  refine cl bod112 (FormatInt_ok nn E Hf _ (hL.up l_H_Hf) (by omega) (by omega)) h fun r14 H14 L14 a w le14 R h => ?_
  obtain ⟨rfl, rfl, rfl⟩ := R
  refine au [2,7,8,5,7,5,2,6] h ?_; intro a w h
  refine brl1 6 true (by kernel_rfl) (by kernel_rfl) (fun _ => h.st.sees' (by first | exact LE.rfl | assumption) (by simp)) ?_
  refine bsl bs251 h fun g18 a w h => ?_
  refine au [2,7,8,7,0,6,2,6] h ?_; intro a w h
  refine en (by kernel_rfl) ?_
  refine au [1,0,1,3,1,6,1,4] h ?_
  have h := h.asRow (sz := 3) (n := 1)
  refine fin1 2 0 h l_H_Hf ?_
  unfold RowTk
  rw [etk]
  exact ⟨_, _, _, rfl, rfl, .one rfl rfl⟩
 ·have ne1 : kd ≠ 1 := ne_of_beq_false c10
  refine au [1,2,6,2,0,6,0,3] h ?_; intro a w h
  refine cdB h (fun c19 => ?_) (fun c19 => ?_)
  ·have ek : kd = 2 := eq_of_beq c19
   have etk := (toks_k hnode).2.1 ek
   refine au [1,2,0,0,7,6] h ?_; intro a w h
   refine bsl bs345 h fun g23 a w h => ?_
   obtain ⟨Hl23, leHl23, h, hp23⟩ := h.fsl (α := Pt) (R := RPt) 0 (ys := [.name nm]) (.cons1 rfl .nil) (fun _ l _ _ _ hr => rpt_up l hr)
   have l_H_Hl23 : LE H Hl23 := l_H_Hf.trans leHl23
   have l_Hf_Hl23 : LE Hf Hl23 := leHl23
   refine cl bod194 (laid_ok [.name nm] _ E Hl23 _ hp23 (hL.up l_H_Hl23) (fun t ht => by simp at ht) (by simp only [List.length_cons, List.length_nil]; omega) (by rw [← etk]; omega)) h fun r24 H24 L24 a w le24 R h => ?_
   obtain ⟨A24, c24, xs24, rfl, rfl, hr24⟩ := R
   have l_H_H24 : LE H H24 := l_H_Hl23.trans le24
   have l_Hf_H24 : LE Hf H24 := l_Hf_Hl23.trans le24
   have l_Hl23_H24 : LE Hl23 H24 := le24
   refine au [0,6,0,3,1,3,1,6,1,4] h ?_; intro a w h
   refine fin1 2 0 h l_H_H24 ?_
   unfold RowTk
   rw [etk]
   exact ⟨_, _, _, rfl, rfl, hr24⟩
  ·have ne2 : kd ≠ 2 := ne_of_beq_false c19
   refine au [1,2,6,2,0,6,0,3] h ?_; intro a w h
   refine cdB h (fun c25 => ?_) (fun c25 => ?_)
   ·have ek : kd = 3 := eq_of_beq c25
    obtain ⟨hkl, etk⟩ := (toks_k hnode).2.2.1 ek
    refine au [1,2,7,6,0,0,7,6,7,6,0,0] h ?_; intro a w h
    refine cl bod193 (kid_ok ks 0 (by omega) A c g1 E Hf _ (hks.up l_H_Hf) ((Hc.of hf1 rfl).mono LE.rfl)) h (fun r32 H32 L32 a w le32 R h => ?_)
    obtain ⟨A32, c32, rfl, hk32, rfl, rfl⟩ := R
    refine mi cnc290 h fun a w h => ?_
    refine bsl bs345 h fun g34 a w h => ?_
    obtain ⟨Hl34, leHl34, h, hp34⟩ := h.fsl (α := Pt) (R := RPt) 0 (ys := [.word [102, 117, 110], .name nm, .mark [61, 62], .kid (ks[0]'(by omega))]) (.cons1 rfl (.cons1 rfl (.cons1 rfl (.cons1 ⟨A32, c32, rfl, hk32.up LE.rfl⟩ .nil)))) (fun _ l _ _ _ hr => rpt_up l hr)
    have l_H_Hl34 : LE H Hl34 := l_H_Hf.trans leHl34
    have l_Hf_Hl34 : LE Hf Hl34 := leHl34
    refine cl bod194 (laid_ok [.word [102, 117, 110], .name nm, .mark [61, 62], .kid (ks[0]'(by omega))] _ E Hl34 _ hp34 (hL.up l_H_Hl34) (fun t ht => by simp at ht; subst ht; exact hwi _ (List.getElem_mem _)) (by simp only [List.length_cons, List.length_nil]; omega) (by rw [← etk]; omega)) h fun r35 H35 L35 a w le35 R h => ?_
    obtain ⟨A35, c35, xs35, rfl, rfl, hr35⟩ := R
    have l_H_H35 : LE H H35 := l_H_Hl34.trans le35
    have l_Hf_H35 : LE Hf H35 := l_Hf_Hl34.trans le35
    have l_Hl34_H35 : LE Hl34 H35 := le35
    refine au [0,6,0,3,1,3,1,6,1,4] h ?_; intro a w h
    refine fin1 2 0 h l_H_H35 ?_
    unfold RowTk
    rw [etk]
    exact ⟨_, _, _, rfl, rfl, hr35⟩
   ·have ne3 : kd ≠ 3 := ne_of_beq_false c25
    refine au [1,2,6,2,0,6,0,3] h ?_; intro a w h
    refine cdB h (fun c36 => ?_) (fun c36 => ?_)
    ·have ek : kd = 4 := eq_of_beq c36
     obtain ⟨hkl, etk⟩ := (toks_k hnode).2.2.2.1 ek
     refine au [1,2,0,0] h ?_; intro a w h
     refine cl bod193 (kid_ok ks 0 (by omega) A c g1 E Hf _ (hks.up l_H_Hf) ((Hc.of hf1 rfl).mono LE.rfl)) h (fun r39 H39 L39 a w le39 R h => ?_)
     obtain ⟨A39, c39, rfl, hk39, rfl, rfl⟩ := R
     refine au [7,6,0,0] h ?_; intro a w h
     refine cl bod193 (kid_ok ks 1 (by omega) A c g1 E Hf _ (hks.up l_H_Hf) ((Hc.of hf1 rfl).mono LE.rfl)) h (fun r42 H42 L42 a w le42 R h => ?_)
     obtain ⟨A42, c42, rfl, hk42, rfl, rfl⟩ := R
     refine mi cnc290 h fun a w h => ?_
     refine bsl bs345 h fun g44 a w h => ?_
     obtain ⟨Hl44, leHl44, h, hp44⟩ := h.fsl (α := Pt) (R := RPt) 0 (ys := [.kid (ks[0]'(by omega)), .kid (ks[1]'(by omega))]) (.cons1 ⟨A39, c39, rfl, hk39.up LE.rfl⟩ (.cons1 ⟨A42, c42, rfl, hk42.up LE.rfl⟩ .nil)) (fun _ l _ _ _ hr => rpt_up l hr)
     have l_H_Hl44 : LE H Hl44 := l_H_Hf.trans leHl44
     have l_Hf_Hl44 : LE Hf Hl44 := leHl44
     refine cl bod194 (laid_ok [.kid (ks[0]'(by omega)), .kid (ks[1]'(by omega))] _ E Hl44 _ hp44 (hL.up l_H_Hl44) (fun t ht => by simp at ht; rcases ht with rfl | rfl <;> exact hwi _ (List.getElem_mem _)) (by simp only [List.length_cons, List.length_nil]; omega) (by rw [← etk]; omega)) h fun r45 H45 L45 a w le45 R h => ?_
     obtain ⟨A45, c45, xs45, rfl, rfl, hr45⟩ := R
     have l_H_H45 : LE H H45 := l_H_Hl44.trans le45
     have l_Hf_H45 : LE Hf H45 := l_Hf_Hl44.trans le45
     have l_Hl44_H45 : LE Hl44 H45 := le45
     refine au [0,6,0,3,1,3,1,6,1,4] h ?_; intro a w h
     refine fin1 2 0 h l_H_H45 ?_
     unfold RowTk
     rw [etk]
     exact ⟨_, _, _, rfl, rfl, hr45⟩
    ·have ne4 : kd ≠ 4 := ne_of_beq_false c36
     refine au [1,2,6,2,0,6,0,3] h ?_; intro a w h
     refine cdB h (fun c46 => ?_) (fun c46 => ?_)
     ·have ek : kd = 5 := eq_of_beq c46
      obtain ⟨hkl, etk⟩ := (toks_k hnode).2.2.2.2.1 ek
      refine au [1,2,7,6,0,0,7,6,7,6,0,0] h ?_; intro a w h
      refine cl bod193 (kid_ok ks 0 (by omega) A c g1 E Hf _ (hks.up l_H_Hf) ((Hc.of hf1 rfl).mono LE.rfl)) h (fun r53 H53 L53 a w le53 R h => ?_)
      obtain ⟨A53, c53, rfl, hk53, rfl, rfl⟩ := R
      refine au [7,6,7,6,0,0] h ?_; intro a w h
      refine cl bod193 (kid_ok ks 1 (by omega) A c g1 E Hf _ (hks.up l_H_Hf) ((Hc.of hf1 rfl).mono LE.rfl)) h (fun r57 H57 L57 a w le57 R h => ?_)
      obtain ⟨A57, c57, rfl, hk57, rfl, rfl⟩ := R
      refine mi cnc290 h fun a w h => ?_
      refine bsl bs345 h fun g59 a w h => ?_
      obtain ⟨Hl59, leHl59, h, hp59⟩ := h.fsl (α := Pt) (R := RPt) 0 (ys := [.word [108, 101, 116], .name nm, .mark [61], .kid (ks[0]'(by omega)), .word [105, 110], .kid (ks[1]'(by omega))]) (.cons1 rfl (.cons1 rfl (.cons1 rfl (.cons1 ⟨A53, c53, rfl, hk53.up LE.rfl⟩ (.cons1 rfl (.cons1 ⟨A57, c57, rfl, hk57.up LE.rfl⟩ .nil)))))) (fun _ l _ _ _ hr => rpt_up l hr)
      have l_H_Hl59 : LE H Hl59 := l_H_Hf.trans leHl59
      have l_Hf_Hl59 : LE Hf Hl59 := leHl59
      refine cl bod194 (laid_ok [.word [108, 101, 116], .name nm, .mark [61], .kid (ks[0]'(by omega)), .word [105, 110], .kid (ks[1]'(by omega))] _ E Hl59 _ hp59 (hL.up l_H_Hl59) (fun t ht => by simp at ht; rcases ht with rfl | rfl <;> exact hwi _ (List.getElem_mem _)) (by simp only [List.length_cons, List.length_nil]; omega) (by rw [← etk]; omega)) h fun r60 H60 L60 a w le60 R h => ?_
      obtain ⟨A60, c60, xs60, rfl, rfl, hr60⟩ := R
      have l_H_H60 : LE H H60 := l_H_Hl59.trans le60
      have l_Hf_H60 : LE Hf H60 := l_Hf_Hl59.trans le60
      have l_Hl59_H60 : LE Hl59 H60 := le60
      refine au [0,6,0,3,1,3,1,6,1,4] h ?_; intro a w h
      refine fin1 2 0 h l_H_H60 ?_
      unfold RowTk
      rw [etk]
      exact ⟨_, _, _, rfl, rfl, hr60⟩
     ·have ne5 : kd ≠ 5 := ne_of_beq_false c46
      refine au [1,2,6,2,0,6,0,3] h ?_; intro a w h
      refine cdB h (fun c61 => ?_) (fun c61 => ?_)
      ·have ek : kd = 6 := eq_of_beq c61
       obtain ⟨hkl, etk⟩ := (toks_k hnode).2.2.2.2.2.1 ek
       refine au [1,2,7,6,0,0] h ?_; intro a w h
       refine cl bod193 (kid_ok ks 0 (by omega) A c g1 E Hf _ (hks.up l_H_Hf) ((Hc.of hf1 rfl).mono LE.rfl)) h (fun r65 H65 L65 a w le65 R h => ?_)
       obtain ⟨A65, c65, rfl, hk65, rfl, rfl⟩ := R
       refine au [7,6,7,6,0,0] h ?_; intro a w h
       refine cl bod193 (kid_ok ks 1 (by omega) A c g1 E Hf _ (hks.up l_H_Hf) ((Hc.of hf1 rfl).mono LE.rfl)) h (fun r69 H69 L69 a w le69 R h => ?_)
       obtain ⟨A69, c69, rfl, hk69, rfl, rfl⟩ := R
       refine au [7,6,7,6,0,0] h ?_; intro a w h
       refine cl bod193 (kid_ok ks 2 (by omega) A c g1 E Hf _ (hks.up l_H_Hf) ((Hc.of hf1 rfl).mono LE.rfl)) h (fun r73 H73 L73 a w le73 R h => ?_)
       obtain ⟨A73, c73, rfl, hk73, rfl, rfl⟩ := R
       refine mi cnc290 h fun a w h => ?_
       refine bsl bs345 h fun g75 a w h => ?_
       obtain ⟨Hl75, leHl75, h, hp75⟩ := h.fsl (α := Pt) (R := RPt) 0 (ys := [.word [105, 102], .kid (ks[0]'(by omega)), .word [116, 104, 101, 110], .kid (ks[1]'(by omega)), .word [101, 108, 115, 101], .kid (ks[2]'(by omega))]) (.cons1 rfl (.cons1 ⟨A65, c65, rfl, hk65.up LE.rfl⟩ (.cons1 rfl (.cons1 ⟨A69, c69, rfl, hk69.up LE.rfl⟩ (.cons1 rfl (.cons1 ⟨A73, c73, rfl, hk73.up LE.rfl⟩ .nil)))))) (fun _ l _ _ _ hr => rpt_up l hr)
       have l_H_Hl75 : LE H Hl75 := l_H_Hf.trans leHl75
       have l_Hf_Hl75 : LE Hf Hl75 := leHl75
       refine cl bod194 (laid_ok [.word [105, 102], .kid (ks[0]'(by omega)), .word [116, 104, 101, 110], .kid (ks[1]'(by omega)), .word [101, 108, 115, 101], .kid (ks[2]'(by omega))] _ E Hl75 _ hp75 (hL.up l_H_Hl75) (fun t ht => by simp at ht; rcases ht with rfl | rfl | rfl <;> exact hwi _ (List.getElem_mem _)) (by simp only [List.length_cons, List.length_nil]; omega) (by rw [← etk]; omega)) h fun r76 H76 L76 a w le76 R h => ?_
       obtain ⟨A76, c76, xs76, rfl, rfl, hr76⟩ := R
       have l_H_H76 : LE H H76 := l_H_Hl75.trans le76
       have l_Hf_H76 : LE Hf H76 := l_Hf_Hl75.trans le76
       have l_Hl75_H76 : LE Hl75 H76 := le76
       refine au [0,6,0,3,1,3,1,6,1,4] h ?_; intro a w h
       refine fin1 2 0 h l_H_H76 ?_
       unfold RowTk
       rw [etk]
       exact ⟨_, _, _, rfl, rfl, hr76⟩
      ·have ne6 : kd ≠ 6 := ne_of_beq_false c61
       refine au [1,2,6,2,0,6,0,3] h ?_; intro a w h
       refine cdB h (fun c77 => ?_) (fun c77 => ?_)
       ·have ek : kd = 7 := eq_of_beq c77
        obtain ⟨hkl, etk⟩ := (toks_k hnode).2.2.2.2.2.2.1 ek
        refine au [1,2,7,6,0,0] h ?_; intro a w h
        refine cl bod193 (kid_ok ks 0 (by omega) A c g1 E Hf _ (hks.up l_H_Hf) ((Hc.of hf1 rfl).mono LE.rfl)) h (fun r81 H81 L81 a w le81 R h => ?_)
        obtain ⟨A81, c81, rfl, hk81, rfl, rfl⟩ := R
        refine au [7,6,7,6,0,0] h ?_; intro a w h
        refine cl bod193 (kid_ok ks 1 (by omega) A c g1 E Hf _ (hks.up l_H_Hf) ((Hc.of hf1 rfl).mono LE.rfl)) h (fun r85 H85 L85 a w le85 R h => ?_)
        obtain ⟨A85, c85, rfl, hk85, rfl, rfl⟩ := R
        refine mi cnc290 h fun a w h => ?_
        refine bsl bs345 h fun g87 a w h => ?_
        obtain ⟨Hl87, leHl87, h, hp87⟩ := h.fsl (α := Pt) (R := RPt) 0 (ys := [.word [119, 104, 105, 108, 101], .kid (ks[0]'(by omega)), .word [100, 111], .kid (ks[1]'(by omega))]) (.cons1 rfl (.cons1 ⟨A81, c81, rfl, hk81.up LE.rfl⟩ (.cons1 rfl (.cons1 ⟨A85, c85, rfl, hk85.up LE.rfl⟩ .nil)))) (fun _ l _ _ _ hr => rpt_up l hr)
        have l_H_Hl87 : LE H Hl87 := l_H_Hf.trans leHl87
        have l_Hf_Hl87 : LE Hf Hl87 := leHl87
        refine cl bod194 (laid_ok [.word [119, 104, 105, 108, 101], .kid (ks[0]'(by omega)), .word [100, 111], .kid (ks[1]'(by omega))] _ E Hl87 _ hp87 (hL.up l_H_Hl87) (fun t ht => by simp at ht; rcases ht with rfl | rfl <;> exact hwi _ (List.getElem_mem _)) (by simp only [List.length_cons, List.length_nil]; omega) (by rw [← etk]; omega)) h fun r88 H88 L88 a w le88 R h => ?_
        obtain ⟨A88, c88, xs88, rfl, rfl, hr88⟩ := R
        have l_H_H88 : LE H H88 := l_H_Hl87.trans le88
        have l_Hf_H88 : LE Hf H88 := l_Hf_Hl87.trans le88
        have l_Hl87_H88 : LE Hl87 H88 := le88
        refine au [0,6,0,3,1,3,1,6,1,4] h ?_; intro a w h
        refine fin1 2 0 h l_H_H88 ?_
        unfold RowTk
        rw [etk]
        exact ⟨_, _, _, rfl, rfl, hr88⟩
       ·have ne7 : kd ≠ 7 := ne_of_beq_false c77
        refine au [1,2,6,2,0,6,0,3] h ?_; intro a w h
        refine cdB h (fun c89 => ?_) (fun c89 => ?_)
        ·have ek : kd = 8 := eq_of_beq c89
         obtain ⟨hkl, etk⟩ := (toks_k hnode).2.2.2.2.2.2.2.1 ek
         refine au [1,2,7,6,0,0] h ?_; intro a w h
         refine cl bod193 (kid_ok ks 0 (by omega) A c g1 E Hf _ (hks.up l_H_Hf) ((Hc.of hf1 rfl).mono LE.rfl)) h (fun r93 H93 L93 a w le93 R h => ?_)
         obtain ⟨A93, c93, rfl, hk93, rfl, rfl⟩ := R
         refine mi cnc290 h fun a w h => ?_
         refine bsl bs345 h fun g95 a w h => ?_
         obtain ⟨Hl95, leHl95, h, hp95⟩ := h.fsl (α := Pt) (R := RPt) 0 (ys := [.word [114, 97, 105, 115, 101], .kid (ks[0]'(by omega))]) (.cons1 rfl (.cons1 ⟨A93, c93, rfl, hk93.up LE.rfl⟩ .nil)) (fun _ l _ _ _ hr => rpt_up l hr)
         have l_H_Hl95 : LE H Hl95 := l_H_Hf.trans leHl95
         have l_Hf_Hl95 : LE Hf Hl95 := leHl95
         refine cl bod194 (laid_ok [.word [114, 97, 105, 115, 101], .kid (ks[0]'(by omega))] _ E Hl95 _ hp95 (hL.up l_H_Hl95) (fun t ht => by simp at ht; subst ht; exact hwi _ (List.getElem_mem _)) (by simp only [List.length_cons, List.length_nil]; omega) (by rw [← etk]; omega)) h fun r96 H96 L96 a w le96 R h => ?_
         obtain ⟨A96, c96, xs96, rfl, rfl, hr96⟩ := R
         have l_H_H96 : LE H H96 := l_H_Hl95.trans le96
         have l_Hf_H96 : LE Hf H96 := l_Hf_Hl95.trans le96
         have l_Hl95_H96 : LE Hl95 H96 := le96
         refine au [0,6,0,3,1,3,1,6,1,4] h ?_; intro a w h
         refine fin1 2 0 h l_H_H96 ?_
         unfold RowTk
         rw [etk]
         exact ⟨_, _, _, rfl, rfl, hr96⟩
        ·have ne8 : kd ≠ 8 := ne_of_beq_false c89
         refine au [1,2,6,2,0,6,0,3] h ?_; intro a w h
         refine cdB h (fun c97 => ?_) (fun c97 => ?_)
         ·have ek : kd = 9 := eq_of_beq c97
          obtain ⟨hkl, etk⟩ := (toks_k hnode).2.2.2.2.2.2.2.2.1 ek
          refine au [1,2,7,6,0,0] h ?_; intro a w h
          refine cl bod193 (kid_ok ks 0 (by omega) A c g1 E Hf _ (hks.up l_H_Hf) ((Hc.of hf1 rfl).mono LE.rfl)) h (fun r101 H101 L101 a w le101 R h => ?_)
          obtain ⟨A101, c101, rfl, hk101, rfl, rfl⟩ := R
          refine au [7,6,7,6,0,0,7,6,7,6,0,0] h ?_; intro a w h
          refine cl bod193 (kid_ok ks 1 (by omega) A c g1 E Hf _ (hks.up l_H_Hf) ((Hc.of hf1 rfl).mono LE.rfl)) h (fun r108 H108 L108 a w le108 R h => ?_)
          obtain ⟨A108, c108, rfl, hk108, rfl, rfl⟩ := R
          refine mi cnc290 h fun a w h => ?_
          refine bsl bs345 h fun g110 a w h => ?_
          obtain ⟨Hl110, leHl110, h, hp110⟩ := h.fsl (α := Pt) (R := RPt) 0 (ys := [.word [116, 114, 121], .kid (ks[0]'(by omega)), .word [119, 105, 116, 104], .name nm, .mark [61, 62], .kid (ks[1]'(by omega))]) (.cons1 rfl (.cons1 ⟨A101, c101, rfl, hk101.up LE.rfl⟩ (.cons1 rfl (.cons1 rfl (.cons1 rfl (.cons1 ⟨A108, c108, rfl, hk108.up LE.rfl⟩ .nil)))))) (fun _ l _ _ _ hr => rpt_up l hr)
          have l_H_Hl110 : LE H Hl110 := l_H_Hf.trans leHl110
          have l_Hf_Hl110 : LE Hf Hl110 := leHl110
          refine cl bod194 (laid_ok [.word [116, 114, 121], .kid (ks[0]'(by omega)), .word [119, 105, 116, 104], .name nm, .mark [61, 62], .kid (ks[1]'(by omega))] _ E Hl110 _ hp110 (hL.up l_H_Hl110) (fun t ht => by simp at ht; rcases ht with rfl | rfl <;> exact hwi _ (List.getElem_mem _)) (by simp only [List.length_cons, List.length_nil]; omega) (by rw [← etk]; omega)) h fun r111 H111 L111 a w le111 R h => ?_
          obtain ⟨A111, c111, xs111, rfl, rfl, hr111⟩ := R
          have l_H_H111 : LE H H111 := l_H_Hl110.trans le111
          have l_Hf_H111 : LE Hf H111 := l_Hf_Hl110.trans le111
          have l_Hl110_H111 : LE Hl110 H111 := le111
          refine au [0,6,0,3,1,3,1,6,1,4] h ?_; intro a w h
          refine fin1 2 0 h l_H_H111 ?_
          unfold RowTk
          rw [etk]
          exact ⟨_, _, _, rfl, rfl, hr111⟩
         ·have ne9 : kd ≠ 9 := ne_of_beq_false c97
          refine au [1,2,6,2,0,6,0,3] h ?_; intro a w h
          refine cdB h (fun c112 => ?_) (fun c112 => ?_)
          ·have ek : kd = 10 := eq_of_beq c112
           obtain ⟨hkl, etk⟩ := (toks_k hnode).2.2.2.2.2.2.2.2.2.1 ek
           refine au [1,2,7,6,0,0] h ?_; intro a w h
           refine cl bod193 (kid_ok ks 0 (by omega) A c g1 E Hf _ (hks.up l_H_Hf) ((Hc.of hf1 rfl).mono LE.rfl)) h (fun r116 H116 L116 a w le116 R h => ?_)
           obtain ⟨A116, c116, rfl, hk116, rfl, rfl⟩ := R
           refine mi cnc290 h fun a w h => ?_
           refine bsl bs345 h fun g118 a w h => ?_
           obtain ⟨Hl118, leHl118, h, hp118⟩ := h.fsl (α := Pt) (R := RPt) 0 (ys := [.mark [33], .kid (ks[0]'(by omega))]) (.cons1 rfl (.cons1 ⟨A116, c116, rfl, hk116.up LE.rfl⟩ .nil)) (fun _ l _ _ _ hr => rpt_up l hr)
           have l_H_Hl118 : LE H Hl118 := l_H_Hf.trans leHl118
           have l_Hf_Hl118 : LE Hf Hl118 := leHl118
           refine cl bod194 (laid_ok [.mark [33], .kid (ks[0]'(by omega))] _ E Hl118 _ hp118 (hL.up l_H_Hl118) (fun t ht => by simp at ht; subst ht; exact hwi _ (List.getElem_mem _)) (by simp only [List.length_cons, List.length_nil]; omega) (by rw [← etk]; omega)) h fun r119 H119 L119 a w le119 R h => ?_
           obtain ⟨A119, c119, xs119, rfl, rfl, hr119⟩ := R
           have l_H_H119 : LE H H119 := l_H_Hl118.trans le119
           have l_Hf_H119 : LE Hf H119 := l_Hf_Hl118.trans le119
           have l_Hl118_H119 : LE Hl118 H119 := le119
           refine au [0,6,0,3,1,3,1,6,1,4] h ?_; intro a w h
           refine fin1 2 0 h l_H_H119 ?_
           unfold RowTk
           rw [etk]
           exact ⟨_, _, _, rfl, rfl, hr119⟩
          ·have ne10 : kd ≠ 10 := ne_of_beq_false c112
           refine au [1,2,6,2,0,6,0,3] h ?_; intro a w h
           refine cdB h (fun c120 => ?_) (fun c120 => ?_)
           ·have ek : kd = 11 := eq_of_beq c120
            obtain ⟨hkl, etk⟩ := (toks_k hnode).2.2.2.2.2.2.2.2.2.2.1 ek
            refine au [1,2,0,0] h ?_; intro a w h
            refine cl bod193 (kid_ok ks 0 (by omega) A c g1 E Hf _ (hks.up l_H_Hf) ((Hc.of hf1 rfl).mono LE.rfl)) h (fun r123 H123 L123 a w le123 R h => ?_)
            obtain ⟨A123, c123, rfl, hk123, rfl, rfl⟩ := R
            refine au [7,6,7,6,0,0] h ?_; intro a w h
            refine cl bod193 (kid_ok ks 1 (by omega) A c g1 E Hf _ (hks.up l_H_Hf) ((Hc.of hf1 rfl).mono LE.rfl)) h (fun r127 H127 L127 a w le127 R h => ?_)
            obtain ⟨A127, c127, rfl, hk127, rfl, rfl⟩ := R
            refine mi cnc290 h fun a w h => ?_
            refine bsl bs345 h fun g129 a w h => ?_
            obtain ⟨Hl129, leHl129, h, hp129⟩ := h.fsl (α := Pt) (R := RPt) 0 (ys := [.kid (ks[0]'(by omega)), .mark [58, 61], .kid (ks[1]'(by omega))]) (.cons1 ⟨A123, c123, rfl, hk123.up LE.rfl⟩ (.cons1 rfl (.cons1 ⟨A127, c127, rfl, hk127.up LE.rfl⟩ .nil))) (fun _ l _ _ _ hr => rpt_up l hr)
            have l_H_Hl129 : LE H Hl129 := l_H_Hf.trans leHl129
            have l_Hf_Hl129 : LE Hf Hl129 := leHl129
            refine cl bod194 (laid_ok [.kid (ks[0]'(by omega)), .mark [58, 61], .kid (ks[1]'(by omega))] _ E Hl129 _ hp129 (hL.up l_H_Hl129) (fun t ht => by simp at ht; rcases ht with rfl | rfl <;> exact hwi _ (List.getElem_mem _)) (by simp only [List.length_cons, List.length_nil]; omega) (by rw [← etk]; omega)) h fun r130 H130 L130 a w le130 R h => ?_
            obtain ⟨A130, c130, xs130, rfl, rfl, hr130⟩ := R
            have l_H_H130 : LE H H130 := l_H_Hl129.trans le130
            have l_Hf_H130 : LE Hf H130 := l_Hf_Hl129.trans le130
            have l_Hl129_H130 : LE Hl129 H130 := le130
            refine au [0,6,0,3,1,3,1,6,1,4] h ?_; intro a w h
            refine fin1 2 0 h l_H_H130 ?_
            unfold RowTk
            rw [etk]
            exact ⟨_, _, _, rfl, rfl, hr130⟩
           ·have ne11 : kd ≠ 11 := ne_of_beq_false c120
            refine au [1,2,6,2,0,6,0,3] h ?_; intro a w h
            refine cdB h (fun c131 => ?_) (fun c131 => ?_)
            ·have ek : kd = 12 := eq_of_beq c131
             obtain ⟨hkl, etk⟩ := (toks_k hnode).2.2.2.2.2.2.2.2.2.2.2.1 ek
             refine sq ?_
             refine rgx [] [] [4] 12 mix h (fun a w h => ?_)
             refine au [8,0,0,0,2,6,8,3,0,7,2,6,8,4] h ?_; intro a w h
             refine ldHT t1_9 (Hc.of (LE.rfl _ _ hf1) rfl) h fun a w h => ?_
             refine au [2,6,8,5,7,6,2,6,8,6,0,0,2,6] h ?_; intro a w h
             refine brl1 1 true (by kernel_rfl) (by kernel_rfl) (fun _ => h.st.sees' (by first | exact LE.rfl | assumption) (by simp)) ?_
             refine cl bod193 (kid_ok ks 0 (by omega) A c g1 E Hf _ (hks.up l_H_Hf) ((Hc.of hf1 rfl).mono LE.rfl)) h (fun r134 H134 L134 a w le134 R h => ?_) (hS := fun _ _ _ _ _ le R hw => by obtain ⟨_, _, _, _, rfl, rfl⟩ := R; exact hw.sees' (by first | exact le | exact LE.trans (by assumption) le) (by simp))
             obtain ⟨A134, c134, rfl, hk134, rfl, rfl⟩ := R
             refine au [2,7,8,2,7,6,2,6] h ?_; intro a w h
             refine brl1 7 true (by kernel_rfl) (by kernel_rfl) (fun _ => h.st.sees' (by first | exact LE.rfl | assumption) (by simp)) ?_
             refine cl bod193 (kid_ok ks 1 (by omega) A c g1 E Hf _ (hks.up l_H_Hf) ((Hc.of hf1 rfl).mono LE.rfl)) h (fun r140 H140 L140 a w le140 R h => ?_) (hS := fun _ _ _ _ _ le R hw => by obtain ⟨_, _, _, _, rfl, rfl⟩ := R; exact hw.sees' (by first | exact le | exact LE.trans (by assumption) le) (by simp))
             obtain ⟨A140, c140, rfl, hk140, rfl, rfl⟩ := R
             refine au [2,7,8,8,7,6,2,6] h ?_; intro a w h
             refine brl1 9 true (by kernel_rfl) (by kernel_rfl) (fun _ => h.st.sees' (by first | exact LE.rfl | assumption) (by simp)) ?_
             refine bsl bs345 h fun g142 a w h => ?_
             refine br0 ?_
             refine brl1 10 true (by kernel_rfl) (by kernel_rfl) (fun _ => h.st.sees' (by first | exact LE.rfl | assumption) (by simp)) ?_
             obtain ⟨Hl142, leHl142, h, hp142⟩ := h.fsl (α := Pt) (R := RPt) 0 (ys := [.kid (ks[0]'(by omega)), .mark nm, .kid (ks[1]'(by omega))]) (.cons1 ⟨A134, c134, rfl, hk134.up LE.rfl⟩ (.cons1 rfl (.cons1 ⟨A140, c140, rfl, hk140.up LE.rfl⟩ .nil))) (fun _ l _ _ _ hr => rpt_up l hr)
             have l_H_Hl142 : LE H Hl142 := l_H_Hf.trans leHl142
             have l_Hf_Hl142 : LE Hf Hl142 := leHl142
             refine cl bod194 (laid_ok [.kid (ks[0]'(by omega)), .mark nm, .kid (ks[1]'(by omega))] _ E Hl142 _ hp142 (hL.up l_H_Hl142) (fun t ht => by simp at ht; rcases ht with rfl | rfl <;> exact hwi _ (List.getElem_mem _)) (by simp only [List.length_cons, List.length_nil]; omega) (by rw [← etk]; omega)) h fun r143 H143 L143 a w le143 R h => ?_
             obtain ⟨A143, c143, xs143, rfl, rfl, hr143⟩ := R
             have l_H_H143 : LE H H143 := l_H_Hl142.trans le143
             have l_Hf_H143 : LE Hf H143 := l_Hf_Hl142.trans le143
             have l_Hl142_H143 : LE Hl142 H143 := le143
             refine au [2,7,8,11,0,6,2,6] h ?_; intro a w h
             refine en (by kernel_rfl) ?_
             refine au [1,0,1,3,1,6,1,4] h ?_
             refine fin1 2 0 h l_H_H143 ?_
             unfold RowTk
             rw [etk]
             exact ⟨_, _, _, rfl, rfl, hr143⟩
            ·have ne12 : kd ≠ 12 := ne_of_beq_false c131
             refine au [1,8,1,7,1,0,1,2] h ?_
             obtain ⟨hkl, etk⟩ := (toks_k hnode).2.2.2.2.2.2.2.2.2.2.2.2 ne1 ne2 ne3 ne4 ne5 ne6 ne7 ne8 ne9 ne10 ne11 ne12
             refine mv h fun a w h => ?_
             refine cl bod193 (kid_ok ks 0 (by omega) A c g1 E Hf _ (hks.up l_H_Hf) ((Hc.of hf1 rfl).mono LE.rfl)) h (fun r145 H145 L145 a w le145 R h => ?_)
             obtain ⟨A145, c145, rfl, hk145, rfl, rfl⟩ := R
             refine au [7,6,7,6,0,0] h ?_; intro a w h
             refine cl bod193 (kid_ok ks 1 (by omega) A c g1 E Hf _ (hks.up l_H_Hf) ((Hc.of hf1 rfl).mono LE.rfl)) h (fun r149 H149 L149 a w le149 R h => ?_)
             obtain ⟨A149, c149, rfl, hk149, rfl, rfl⟩ := R
             refine mi cnc290 h fun a w h => ?_
             refine bsl bs345 h fun g151 a w h => ?_
             obtain ⟨Hl151, leHl151, h, hp151⟩ := h.fsl (α := Pt) (R := RPt) 0 (ys := [.kid (ks[0]'(by omega)), .mark [59], .kid (ks[1]'(by omega))]) (.cons1 ⟨A145, c145, rfl, hk145.up LE.rfl⟩ (.cons1 rfl (.cons1 ⟨A149, c149, rfl, hk149.up LE.rfl⟩ .nil))) (fun _ l _ _ _ hr => rpt_up l hr)
             have l_H_Hl151 : LE H Hl151 := l_H_Hf.trans leHl151
             have l_Hf_Hl151 : LE Hf Hl151 := leHl151
             refine cl bod194 (laid_ok [.kid (ks[0]'(by omega)), .mark [59], .kid (ks[1]'(by omega))] _ E Hl151 _ hp151 (hL.up l_H_Hl151) (fun t ht => by simp at ht; rcases ht with rfl | rfl <;> exact hwi _ (List.getElem_mem _)) (by simp only [List.length_cons, List.length_nil]; omega) (by rw [← etk]; omega)) h fun r152 H152 L152 a w le152 R h => ?_
             obtain ⟨A152, c152, xs152, rfl, rfl, hr152⟩ := R
             have l_H_H152 : LE H H152 := l_H_Hl151.trans le152
             have l_Hf_H152 : LE Hf H152 := l_Hf_Hl151.trans le152
             have l_Hl151_H152 : LE Hl151 H152 := le152
             refine au [0,6,0,3,1,3] h ?_; intro a w h
             refine fin1 2 0 h l_H_H152 ?_
             unfold RowTk
             rw [etk]
             exact ⟨_, _, _, rfl, rfl, hr152⟩
theorem right_iff {t : Tm} (h : t.right = true) : t.depth ≤ 200 ∧ t.size ≤ 10000 ∧ t.wrong = false := by
 unfold Tm.right at h
 simp only [Bool.and_eq_true, decide_eq_true_eq, Bool.not_eq_true'] at h
 exact ⟨by omega, by omega, h.2.2⟩
theorem Show_ok (t : Tm) (v : Value) (E : World) (H : GH) (L : List It) (hv : VT H v t) (hL : Laid H) (hlg : t.long < 1000000000000) (hsz : t.size < 1000000000000) (hjoin : t.right = true → (Lib.join (t.toks.map (·.text)) [32]).length ≤ 140737488355328) : Ok Tryz.prog 113 #[v] E H L fun r H' L' => r = str t.show' ∧ H = H' ∧ L = L' := by
 have hv0 := hv
 obtain ⟨A, c, rfl, hks⟩ := hv
 have hv := hv0
 refine enter (N := 9) [(0, _)] Tryz.func113 rfl rfl rfl rfl fun a w h => ?_
 refine au [1,2] h ?_
 refine bxA h fun g1 a w h => ?_
 refine au [0,6,0,3,0,4,1,2,3,3] h ?_; intro a w h
 refine cl bod151 (Right_ok t _ E H _ hv hL hlg hsz) h fun r4 H4 L4 a w le4 R h => ?_
 obtain ⟨rfl, rfl, rfl⟩ := R
 refine au [7,1,0,3] h ?_; intro a w h
 refine cdB h (fun c5 => ?_) (fun c5 => ?_)
 ·have c4 : t.right = false := by simpa using c5
  refine au [1,2,0,6,0,3,1,3,1,4] h ?_; intro a w h
  have h := h.del 0
  refine fin1 2 0 (h.less LE.rfl) LE.rfl ?_
  unfold Tm.show'
  exact ⟨by rw [c4]; rfl, rfl, rfl⟩
 ·have c4 : t.right = true := by simpa using c5
  obtain ⟨hs1, hs2, hs3⟩ := right_iff c4
  have htl := toks_len t
  have hjl := hjoin c4
  refine au [1,8,1,0,1,2,3,3] h ?_; intro a w h
  refine cl bod153 (toks_ok t hs3 (by omega) _ E H _ (hv.mono LE.rfl) (hL.up LE.rfl)) h fun r7 H7 L7 a w le7 R h => ?_
  obtain ⟨A7, c7, xs7, rfl, rfl, hr7⟩ := R
  have l_H_H7 : LE H H7 := le7
  obtain ⟨Hs, leHs, h, hrs⟩ := h.frw 0 (n := t.toks.length) hr7 rfl (fun _ _ _ _ _ h => h)
  have l_H_Hs : LE H Hs := l_H_H7.trans leHs
  have l_H7_Hs : LE H7 Hs := leHs
  refine cl bod152 (Print_ok t.toks _ E Hs _ hrs (by omega) hjl) h fun r8 H8 L8 a w le8 R h => ?_
  obtain ⟨rfl, rfl, rfl⟩ := R
  refine au [0,6,0,3,1,3] h ?_; intro a w h
  have h := h.del 0
  refine fin1 2 0 (h.less l_H_Hs) LE.rfl ?_
  unfold Tm.show'
  exact ⟨by rw [c4]; rfl, rfl, rfl⟩
def apd (a b : Bs) : Bs := match b with
 | [] => a
 | _ => a ++ b
theorem apd_eq (a b : Bs) : apd a b = a ++ b := by cases b <;> simp [apd]
theorem catB {P : Program} {ops : Array Oper} {Q : Exit → Act → World → Prop} {γ : Gd P ops Q} {rest : List Oper} {o : Oper} {E w : World} {H : GH} {N : Nat} {D : List Deferred} {F : List (Nat × Value)} {L : List It} {a : Act}
   {t u : TypeId} {x y : Operand} {d : Nat} {s s' : List UInt8} (h : S E H N D F L a w) (hl : s.length + s'.length ≤ 100000000000000) (k : ∀ a w, S E H N D ((d, .string ⟨(s ++ s').toArray⟩) :: F) L a w → γ.G rest a w)
   (ho : o.op = .binOp .add t x y u := by rfl) (hx : ev F x = some (.string ⟨s.toArray⟩) := by rfl) (hy : ev F y = some (.string ⟨s'.toArray⟩) := by rfl)
   (hw : wn ops F o = some true := by rfl) (hd : o.dst = some d := by rfl) (hN : Nat.blt d N = true := by rfl) : γ.G (o :: rest) a w := cat h k hl ho hx hy hw hd hN
theorem PrintP_ok (p : Pg) (v : Value) (E : World) (H : GH) (L : List It) (hv : VP H v p) (hL : Laid H) (hb : Mild p) : Ok Tryz.prog 57 #[v] E H L fun r H' L' => r = str p.print ∧ H = H' ∧ L = L' := by
 have hv0 := hv
 obtain ⟨A1, c1, A2, c2, A3, c3, A4, c4, rfl, hi, hc, hd, hk⟩ := hv
 have hv := hv0
 refine enter (N := 83) [(0, _)] Tryz.func57 rfl rfl rfl rfl fun a w h => ?_
 refine au [1,2] h ?_
 refine bxA h fun g1 a w h => ?_
 refine au [0,6,0,3,0,4,1,2] h ?_; intro a w h
 obtain ⟨Hf, leHf, h, hf1⟩ := h.frz 0
 have l_H_Hf : LE H Hf := leHf
 have hL := hL.up l_H_Hf
 have hv := hv.mono l_H_Hf
 have hi := hi.up l_H_Hf
 have hc := hc.up l_H_Hf
 have hd := hd.up l_H_Hf
 have hk := hk.up l_H_Hf
 refine ldHN tN28 rfl (Hc.all (LE.rfl _ _ hf1)) h fun a w h => ?_
 refine cl bod111 (fits_ok p _ E Hf _ hv hL hb) h fun r11 H11 L11 a w le11 R h => ?_
 obtain ⟨rfl, rfl, rfl⟩ := R
 refine au [7,1,0,3] h ?_; intro a w h
 refine cdB h (fun c12 => ?_) (fun c12 => ?_)
 ·have hfit : p.fits = false := by simpa using c12
  have e0 : p.print = [] := by unfold Pg.print; rw [if_neg (by rw [hfit]; simp)]
  refine au [1,2,0,6,0,3,1,3,1,4] h ?_; intro a w h
  refine fin1 2 0 (h.less l_H_Hf) LE.rfl ?_
  exact ⟨by first | (rw [e0]; done) | (rw [e0]; rfl), rfl, rfl⟩
 ·have hfit : p.fits = true := by simpa using c12
  obtain ⟨hl1, hl2, hl3, hw1, hw2, hw3, hbr⟩ := fits_of hfit
  have q1 := flat_take_len (f := Dc.inL) (fun d hd => inL_len (hw1 d hd).1) hl1
  have q2 := flat_take_len (f := Dc.cellL) (fun d hd => cellL_len (hw2 d hd)) hl2
  have q3 := flat_take_len (f := Df.line) (fun d hd => line_len (hw3 d hd)) hl3
  have q1a := q1 p.inputs.length
  have q2a := q2 p.cells.length
  have q3a := q3 p.defs.length
  rw [List.take_length] at q1a q2a q3a
  have q4 := show'_le p.body
  refine au [1,8,1,0,1,2,0,6,0,3,0,4,1,2,0,7] h ?_; intro a w h
  refine ldH t1_22 (Hc.of (LE.rfl _ _ hf1) rfl) h fun a w h => ?_
  refine au [6,0,0,0,0,3,1,5] h ?_; intro a w h
  refine lp (β := Nat) (fun k a w => (k ≤ p.inputs.length) ∧ S E Hf 83 [] [(16, .int .i64 (k : Int)), (15, .int .i64 (p.inputs.length : Int)), (14, .slice A1 p.inputs.length c1), (3, str (apd [] ((p.inputs.take k).flatMap Dc.inL))), (1, .pointer (some ⟨g1, 0, none⟩))] (L) a w)
   (fun k => p.inputs.length - k) 0 ⟨Nat.zero_le _, h.to 0 _⟩ ?_
  rintro k a w ⟨pre, h⟩
  refine au [1,2,6,4,0,3,0,4] h ?_; intro a w h
  refine cdB h (fun c17 => ?_) (fun c17 => ?_)
  ·have c17 : k < p.inputs.length := by simpa using c17
   obtain ⟨g, off, rfl, hvt, hcell⟩ := CS.get hi c17
   obtain ⟨d1, d2, _, _⟩ := dc_len (hw1 _ (List.getElem_mem c17)).1
   have qk := q1 k
   rw [apd_eq] at h
   refine au [1,8,1,0,0,4,1,5,1,2] h ?_
   refine ia sli22 sz82 rfl c17 h fun a w h => ?_
   refine ldHN tN82 rfl hcell h fun a w h => ?_
   refine al zr82 h fun g5 a w h => ?_
   refine au [5,5,0,3,0,5,0,0,0,7,0,8] h ?_; intro a w h
   refine catB h ?_ fun a w h => ?_
   ·(try simp only [List.length_append, List.length_cons, List.length_nil]); omega
   refine catB h ?_ fun a w h => ?_
   ·(try simp only [List.length_append, List.length_cons, List.length_nil]); omega
   refine au [0,7,0,8] h ?_; intro a w h
   refine catB h ?_ fun a w h => ?_
   ·(try simp only [List.length_append, List.length_cons, List.length_nil]); omega
   refine catB h ?_ fun a w h => ?_
   ·(try simp only [List.length_append, List.length_cons, List.length_nil]); omega
   refine catB h ?_ fun a w h => ?_
   ·(try simp only [List.length_append, List.length_cons, List.length_nil]); omega
   have ea : ∀ z, z = Dc.inL p.inputs[k] → ([] ++ (p.inputs.take k).flatMap Dc.inL) ++ z = apd [] ((p.inputs.take (k + 1)).flatMap Dc.inL) := by intro z hz; rw [hz, apd_eq, flat_take c17, List.append_assoc]
   rw [ea _ ?hz] at h
   case hz => rfl
   refine au [0,6,1,1,1,7,1,0,0,5] h ?_; intro a w h
   refine inc ?_ h fun a w h => ?_
   ·omega
   refine au [0,0,0,3] h ?_; intro a w h
   exact ⟨(k + 1), ⟨by omega, h.to 1 _⟩, by show _ - (k + 1) < _ - k; omega⟩
  ·have hk0 : k = p.inputs.length := by simp at c17; omega
   rw [apd_eq, hk0, List.take_length] at h
   rw [List.nil_append] at h
   refine au [2,5,2,2,2,2,2,3,1,0,0,4,1,2,0,7] h ?_; intro a w h
   refine ldH t1_22 (Hc.of (LE.rfl _ _ hf1) rfl) h fun a w h => ?_
   refine au [6,0,0,0,0,3,1,5] h ?_; intro a w h
   refine lp (β := Nat) (fun k a w => (k ≤ p.cells.length) ∧ S E Hf 83 [] [(34, .int .i64 (k : Int)), (33, .int .i64 (p.cells.length : Int)), (32, .slice A2 p.cells.length c2), (3, str (apd (p.inputs.flatMap Dc.inL) ((p.cells.take k).flatMap Dc.cellL))), (1, .pointer (some ⟨g1, 0, none⟩))] (L) a w)
    (fun k => p.cells.length - k) 0 ⟨Nat.zero_le _, h.to 0 _⟩ ?_
   rintro k a w ⟨pre, h⟩
   refine au [1,2,6,4,0,3,0,4] h ?_; intro a w h
   refine cdB h (fun c35 => ?_) (fun c35 => ?_)
   ·have c35 : k < p.cells.length := by simpa using c35
    obtain ⟨g, off, rfl, hvt, hcell⟩ := CS.get hc c35
    obtain ⟨d1, d2, d3, d4⟩ := dc_len (hw2 _ (List.getElem_mem c35))
    have qk := q2 k
    rw [apd_eq] at h
    have d5 := Lib.itoa_length_le p.cells[k].n (by omega) (by omega)
    refine au [1,8,1,0,0,4,1,5,1,2] h ?_
    refine ia sli22 sz82 rfl c35 h fun a w h => ?_
    refine ldHN tN82 rfl hcell h fun a w h => ?_
    refine al zr82 h fun g7 a w h => ?_
    refine au [5,5,0,3] h ?_; intro a w h
    refine rgd [0] [_] [4] [2, 6, 10] 1 mix (by kernel_rfl) h (fun a w h => ?_)
    refine au [0,0,0,7,4,2] h ?_; intro a w h
    refine catB h ?_ fun a w h => ?_
    ·(try simp only [List.length_append, List.length_cons, List.length_nil]); omega
    refine catB h ?_ fun a w h => ?_
    ·(try simp only [List.length_append, List.length_cons, List.length_nil]); omega
    refine au [0,7,4,2] h ?_; intro a w h
    refine catB h ?_ fun a w h => ?_
    ·(try simp only [List.length_append, List.length_cons, List.length_nil]); omega
    refine catB h ?_ fun a w h => ?_
    ·(try simp only [List.length_append, List.length_cons, List.length_nil]); omega
    refine au [0,7,4,2] h ?_; intro a w h
    refine cl bod112 (FormatInt_ok p.cells[k].n E Hf _ hL (by omega) (by omega)) h fun r49 H49 L49 a w le49 R h => ?_
    obtain ⟨rfl, rfl, rfl⟩ := R
    refine catB h ?_ fun a w h => ?_
    ·(try simp only [List.length_append, List.length_cons, List.length_nil]); omega
    refine catB h ?_ fun a w h => ?_
    ·(try simp only [List.length_append, List.length_cons, List.length_nil]); omega
    refine catB h ?_ fun a w h => ?_
    ·(try simp only [List.length_append, List.length_cons, List.length_nil]); omega
    have ea : ∀ z, z = Dc.cellL p.cells[k] → ((p.inputs.flatMap Dc.inL) ++ (p.cells.take k).flatMap Dc.cellL) ++ z = apd (p.inputs.flatMap Dc.inL) ((p.cells.take (k + 1)).flatMap Dc.cellL) := by intro z hz; rw [hz, apd_eq, flat_take c35, List.append_assoc]
    rw [ea _ ?hz] at h
    case hz => rfl
    refine au [0,6,1,1,1,7,1,0,0,5] h ?_; intro a w h
    refine inc ?_ h fun a w h => ?_
    ·omega
    refine au [0,0,0,3] h ?_; intro a w h
    exact ⟨(k + 1), ⟨by omega, h.to 1 _⟩, by show _ - (k + 1) < _ - k; omega⟩
   ·have hk0 : k = p.cells.length := by simp at c35; omega
    rw [apd_eq, hk0, List.take_length] at h
    refine au [2,5,2,2,2,2,2,3,1,0,0,4,1,2,0,7] h ?_; intro a w h
    refine ldH t1_23 (Hc.of (LE.rfl _ _ hf1) rfl) h fun a w h => ?_
    refine au [6,0,0,0,0,3,1,5] h ?_; intro a w h
    refine lp (β := Nat) (fun k a w => (k ≤ p.defs.length) ∧ S E Hf 83 [] [(57, .int .i64 (k : Int)), (56, .int .i64 (p.defs.length : Int)), (55, .slice A3 p.defs.length c3), (3, str (apd ((p.inputs.flatMap Dc.inL) ++ p.cells.flatMap Dc.cellL) ((p.defs.take k).flatMap Df.line))), (1, .pointer (some ⟨g1, 0, none⟩))] (L) a w)
     (fun k => p.defs.length - k) 0 ⟨Nat.zero_le _, h.to 0 _⟩ ?_
    rintro k a w ⟨pre, h⟩
    refine au [1,2,6,4,0,3,0,4] h ?_; intro a w h
    refine cdB h (fun c58 => ?_) (fun c58 => ?_)
    ·have c58 : k < p.defs.length := by simpa using c58
     obtain ⟨g, off, A5, c5, rfl, hvt, hcell⟩ := FS.get hd c58
     obtain ⟨d1, d2⟩ := df_len (hw3 _ (List.getElem_mem c58))
     have d3 := show'_le p.defs[k].t
     have qk := q3 k
     rw [apd_eq] at h
     obtain ⟨A6, c6, e6, hkt⟩ := hvt
     cases e6
     refine au [1,8,1,0,0,4,1,5,1,2] h ?_
     refine ia sli23 sz93 rfl c58 h fun a w h => ?_
     refine ldHN tN93 rfl hcell h fun a w h => ?_
     refine al zr93 h fun g9 a w h => ?_
     refine au [5,5,0,3] h ?_; intro a w h
     refine rgd [0] [_] [4] [2, 6] 1 mix (by kernel_rfl) h (fun a w h => ?_)
     refine au [0,0,0,7,4,2] h ?_; intro a w h
     refine catB h ?_ fun a w h => ?_
     ·(try simp only [List.length_append, List.length_cons, List.length_nil]); omega
     refine catB h ?_ fun a w h => ?_
     ·(try simp only [List.length_append, List.length_cons, List.length_nil]); omega
     refine fa fl93_1 (r := 1) h fun a w h => ?_
     refine ldND 0 tN26 h fun a w h => ?_
     refine cl bod113 (Show_ok p.defs[k].t _ E Hf _ (VDf.t hkt) hL (hb.f _ (List.getElem_mem c58)).2.1 (hb.f _ (List.getElem_mem c58)).2.2 (fun hr => by have := show_le hr; unfold showL at this; omega)) h fun r68 H68 L68 a w le68 R h => ?_
     obtain ⟨rfl, rfl, rfl⟩ := R
     refine catB h ?_ fun a w h => ?_
     ·(try simp only [List.length_append, List.length_cons, List.length_nil]); omega
     refine catB h ?_ fun a w h => ?_
     ·(try simp only [List.length_append, List.length_cons, List.length_nil]); omega
     refine catB h ?_ fun a w h => ?_
     ·(try simp only [List.length_append, List.length_cons, List.length_nil]); omega
     have ea : ∀ z, z = Df.line p.defs[k] → (((p.inputs.flatMap Dc.inL) ++ p.cells.flatMap Dc.cellL) ++ (p.defs.take k).flatMap Df.line) ++ z = apd ((p.inputs.flatMap Dc.inL) ++ p.cells.flatMap Dc.cellL) ((p.defs.take (k + 1)).flatMap Df.line) := by intro z hz; rw [hz, apd_eq, flat_take c58, List.append_assoc]
     rw [ea _ ?hz] at h
     case hz => rfl
     refine au [0,6,1,1,1,7,1,0,0,5] h ?_; intro a w h
     refine inc ?_ h fun a w h => ?_
     ·omega
     refine au [0,0,0,3] h ?_; intro a w h
     exact ⟨(k + 1), ⟨by omega, h.to 1 _⟩, by show _ - (k + 1) < _ - k; omega⟩
    ·have hk0 : k = p.defs.length := by simp at c58; omega
     rw [apd_eq, hk0, List.take_length] at h
     refine au [2,5,2,2,2,2,2,3,1,0,1,2,0,0,0,7] h ?_; intro a w h
     refine ldHN (l := [_, _, _, _]) tN26 rfl (Hc.sub 3 4 (LE.rfl _ _ hf1)) h fun a w h => ?_
     refine cl bod113 (Show_ok p.body _ E Hf _ ⟨A4, c4, rfl, hk⟩ hL hb.b1 hb.b2 (fun hr => by have := show_le hr; unfold showL at this; omega)) h fun r76 H76 L76 a w le76 R h => ?_
     obtain ⟨rfl, rfl, rfl⟩ := R
     refine catB h ?_ fun a w h => ?_
     ·(try simp only [List.length_append, List.length_cons, List.length_nil]); omega
     refine catB h ?_ fun a w h => ?_
     ·(try simp only [List.length_append, List.length_cons, List.length_nil]); omega
     refine au [0,6,0,3,0,4,1,2,0,0,6,1,6,6,0,3] h ?_; intro a w h
     refine cdB h (fun c81 => ?_) (fun c81 => ?_)
     ·have e0 : p.print = [] := by unfold Pg.print; rw [if_pos hfit, if_pos (show decide (65536 < (p.text.length : Int)) = true from c81)]
      refine au [1,2,0,6,0,3,1,3,1,4] h ?_; intro a w h
      refine fin1 2 0 (h.less l_H_Hf) LE.rfl ?_
      exact ⟨by first | (rw [e0]; done) | (rw [e0]; rfl), rfl, rfl⟩
     ·have e0 : p.print = p.text := by unfold Pg.print; rw [if_pos hfit, if_neg (by rw [show decide (65536 < (p.text.length : Int)) = false from c81]; simp)]
      refine au [1,8,1,0,1,2,0,0,0,6,0,3,1,3] h ?_; intro a w h
      refine fin1 2 0 (h.less l_H_Hf) LE.rfl ?_
      exact ⟨by first | (rw [e0]; done) | (rw [e0]; rfl), rfl, rfl⟩
theorem RightP_ok (p : Pg) (v : Value) (E : World) (H : GH) (L : List It) (hv : VP H v p) (hL : Laid H) (hb : Mild p) : Ok Tryz.prog 27 #[v] E H L fun r H' L' => r = .bool p.right ∧ H = H' ∧ L = L' := by
 have hv0 := hv
 obtain ⟨A1, c1, A2, c2, A3, c3, A4, c4, rfl, hi, hc, hd, hk⟩ := hv
 have hv := hv0
 refine enter (N := 6) [(0, _)] Tryz.func27 rfl rfl rfl rfl fun a w h => ?_
 refine au [1,2] h ?_
 refine bxA h fun g1 a w h => ?_
 refine au [0,6,0,2,3,3] h ?_; intro a w h
 refine cl bod57 (PrintP_ok p _ E H _ hv hL hb) h fun r4 H4 L4 a w le4 R h => ?_
 obtain ⟨rfl, rfl, rfl⟩ := R
 refine au [7,0,0,6,0,3,1,3] h ?_; intro a w h
 refine fin1 2 1 h LE.rfl ?_
 exact ⟨rfl, rfl, rfl⟩
end Go.Proofs.YthnhddjlgjecdaaGreatDoor
/-
  DERIVED: THE SHELF's CONTRACTS AT THIS DUMP, IN PLAIN WORDS (tools/lay-plain.mjs out of 'TryzIter.lean', which tools/lay-shelf.mjs wrote): THE SAME DECLARATIONS UNDER THE SAME NAMES: 'import', 'namespace', 'open', 'def', 'theorem' AND NOTHING ELSE: no command of the shelf's: FOR A HAND-IN. Each laying: the table of numbers ('.._ren') and one theorem, a field a fact of the dump's own or the kernel's comparison; each contract: ONE APPLICATION.
-/
namespace Go.Proofs
open Go.Shelf
def Tryz.keys119_ren : Go.Shelf.Ren := ⟨fun | 7 => 119 | 10 => 156 | n => n, fun | 23 => 209 | 26 => 9 | 3 => 3 | 28 => 213 | 0 => 0 | 27 => 212 | 33 => 158 | 4 => 4 | n => n, fun | n => n⟩
theorem Tryz.keys119 : Go.Proofs.SlLaysZ.n7 Tryz.prog Tryz.keys119_ren := {
 mixed := by kernel_rfl
 f7 := ⟨Tryz.f119.name, by decide, Tryz.func119.trans (congrArg some (by kernel_rfl))⟩
 f10 := ⟨Tryz.f156.name, by decide, Tryz.func156.trans (congrArg some (by kernel_rfl))⟩
 t0 := Tryz.underlying0
 a0 := Tryz.isAgg0
 z0 := Tryz.sizeOf0
 v0 := Tryz.zeroValue0
 t4 := Tryz.underlying4
 a4 := Tryz.isAgg4
 z4 := Tryz.sizeOf4
 v4 := Tryz.zeroValue4
 t23 := Tryz.underlying209
 a23 := Tryz.isAgg209
 z23 := Tryz.sizeOf209
 v23 := Tryz.zeroValue209
 t26 := Tryz.underlying9
 a26 := Tryz.isAgg9
 z26 := Tryz.sizeOf9
 v26 := Tryz.zeroValue9
 t27 := Tryz.underlying212
 a27 := Tryz.isAgg212
 z27 := Tryz.sizeOf212
 v27 := Tryz.zeroValue212
 t28 := Tryz.underlying213
 a28 := Tryz.isAgg213
 z28 := Tryz.sizeOf213
 v28 := Tryz.zeroValue213
 t33 := Tryz.underlying158
 a33 := Tryz.isAgg158
 z33 := Tryz.sizeOf158
 v33 := Tryz.zeroValue158 }
def Tryz.sorted118_ren : Go.Shelf.Ren := ⟨fun | 6 => 118 | 8 => 154 | 9 => 155 | 11 => 195 | 13 => 180 | 12 => 196 | 23 => 227 | 24 => 228 | 14 => 240 | 15 => 241 | 16 => 242 | 17 => 243 | 18 => 244 | 19 => 245 | 20 => 246 | 21 => 247 | 22 => 248 | 25 => 285 | 26 => 275 | 27 => 276 | 28 => 286 | 29 => 287 | 30 => 288 | 31 => 306 | n => n, fun | 26 => 9 | 28 => 213 | 24 => 54 | 0 => 0 | 3 => 3 | 37 => 277 | 48 => 329 | 50 => 171 | 4 => 4 | 40 => 321 | 39 => 320 | 45 => 326 | 5 => 5 | 9 => 9 | 51 => 373 | 55 => 377 | 57 => 393 | 58 => 394 | 33 => 158 | n => n, fun | n => n⟩
theorem Tryz.sorted118 : Go.Proofs.SlLaysZ.n6 Tryz.prog Tryz.sorted118_ren := {
 mixed := by kernel_rfl
 f6 := ⟨Tryz.f118.name, by decide, Tryz.func118.trans (congrArg some (by kernel_rfl))⟩
 f8 := ⟨Tryz.f154.name, by decide, Tryz.func154.trans (congrArg some (by kernel_rfl))⟩
 f11 := ⟨Tryz.f195.name, by decide, Tryz.func195.trans (congrArg some (by kernel_rfl))⟩
 t0 := Tryz.underlying0
 a0 := Tryz.isAgg0
 z0 := Tryz.sizeOf0
 v0 := Tryz.zeroValue0
 t24 := Tryz.underlying54
 a24 := Tryz.isAgg54
 z24 := Tryz.sizeOf54
 v24 := Tryz.zeroValue54
 t26 := Tryz.underlying9
 a26 := Tryz.isAgg9
 z26 := Tryz.sizeOf9
 v26 := Tryz.zeroValue9
 t28 := Tryz.underlying213
 a28 := Tryz.isAgg213
 z28 := Tryz.sizeOf213
 v28 := Tryz.zeroValue213
 i26 := by kernel_rfl }
def Tryz.sort155_ren : Go.Shelf.Ren := ⟨fun | 6 => 155 | 8 => 180 | 9 => 196 | 19 => 227 | 20 => 228 | 21 => 240 | 22 => 241 | 23 => 242 | 24 => 243 | 25 => 244 | 26 => 245 | 27 => 246 | 28 => 247 | 29 => 248 | 36 => 285 | 31 => 275 | 32 => 276 | 37 => 286 | 38 => 287 | 39 => 288 | 41 => 306 | n => n, fun | 27 => 54 | 29 => 9 | 3 => 3 | 32 => 277 | 26 => 54 | 0 => 0 | 44 => 329 | 46 => 171 | 4 => 4 | 36 => 321 | 35 => 320 | 41 => 326 | 5 => 5 | 9 => 9 | 53 => 373 | 57 => 377 | 63 => 393 | 64 => 394 | n => n, fun | n => n⟩
theorem Tryz.sort155 : Go.Proofs.SlLaysM.n6 Tryz.prog Tryz.sort155_ren := {
 mixed := by kernel_rfl
 f6 := ⟨Tryz.f155.name, by decide, Tryz.func155.trans (congrArg some (by kernel_rfl))⟩
 f8 := Tryz.func180.trans (congrArg some (by kernel_rfl))
 f9 := ⟨Tryz.f196.name, by decide, Tryz.func196.trans (congrArg some (by kernel_rfl))⟩
 f19 := Tryz.func227.trans (congrArg some (by kernel_rfl))
 f20 := Tryz.func228.trans (congrArg some (by kernel_rfl))
 f21 := ⟨Tryz.f240.name, by decide, Tryz.func240.trans (congrArg some (by kernel_rfl))⟩
 f22 := ⟨Tryz.f241.name, by decide, Tryz.func241.trans (congrArg some (by kernel_rfl))⟩
 f23 := ⟨Tryz.f242.name, by decide, Tryz.func242.trans (congrArg some (by kernel_rfl))⟩
 f24 := ⟨Tryz.f243.name, by decide, Tryz.func243.trans (congrArg some (by kernel_rfl))⟩
 f25 := ⟨Tryz.f244.name, by decide, Tryz.func244.trans (congrArg some (by kernel_rfl))⟩
 f26 := ⟨Tryz.f245.name, by decide, Tryz.func245.trans (congrArg some (by kernel_rfl))⟩
 f27 := ⟨Tryz.f246.name, by decide, Tryz.func246.trans (congrArg some (by kernel_rfl))⟩
 f28 := ⟨Tryz.f247.name, by decide, Tryz.func247.trans (congrArg some (by kernel_rfl))⟩
 f29 := ⟨Tryz.f248.name, by decide, Tryz.func248.trans (congrArg some (by kernel_rfl))⟩
 f31 := Tryz.func275.trans (congrArg some (by kernel_rfl))
 f32 := Tryz.func276.trans (congrArg some (by kernel_rfl))
 f36 := ⟨Tryz.f285.name, by decide, Tryz.func285.trans (congrArg some (by kernel_rfl))⟩
 f37 := ⟨Tryz.f286.name, by decide, Tryz.func286.trans (congrArg some (by kernel_rfl))⟩
 f38 := ⟨Tryz.f287.name, by decide, Tryz.func287.trans (congrArg some (by kernel_rfl))⟩
 f39 := ⟨Tryz.f288.name, by decide, Tryz.func288.trans (congrArg some (by kernel_rfl))⟩
 f41 := ⟨Tryz.f306.name, by decide, Tryz.func306.trans (congrArg some (by kernel_rfl))⟩
 t0 := Tryz.underlying0
 a0 := Tryz.isAgg0
 z0 := Tryz.sizeOf0
 v0 := Tryz.zeroValue0
 t3 := Tryz.underlying3
 a3 := Tryz.isAgg3
 z3 := Tryz.sizeOf3
 v3 := Tryz.zeroValue3
 t4 := Tryz.underlying4
 a4 := Tryz.isAgg4
 z4 := Tryz.sizeOf4
 v4 := Tryz.zeroValue4
 t5 := Tryz.underlying5
 a5 := Tryz.isAgg5
 z5 := Tryz.sizeOf5
 v5 := Tryz.zeroValue5
 t9 := Tryz.underlying9
 a9 := Tryz.isAgg9
 z9 := Tryz.sizeOf9
 v9 := Tryz.zeroValue9
 t26 := Tryz.underlying54
 a26 := Tryz.isAgg54
 z26 := Tryz.sizeOf54
 v26 := Tryz.zeroValue54
 t27 := Tryz.underlying54
 a27 := Tryz.isAgg54
 z27 := Tryz.sizeOf54
 v27 := Tryz.zeroValue54
 t29 := Tryz.underlying9
 a29 := Tryz.isAgg9
 z29 := Tryz.sizeOf9
 v29 := Tryz.zeroValue9
 t32 := Tryz.underlying277
 a32 := Tryz.isAgg277
 z32 := Tryz.sizeOf277
 v32 := Tryz.zeroValue277
 t35 := Tryz.underlying320
 a35 := Tryz.isAgg320
 z35 := Tryz.sizeOf320
 v35 := Tryz.zeroValue320
 t36 := Tryz.underlying321
 a36 := Tryz.isAgg321
 z36 := Tryz.sizeOf321
 v36 := Tryz.zeroValue321
 t41 := Tryz.underlying326
 a41 := Tryz.isAgg326
 z41 := Tryz.sizeOf326
 v41 := Tryz.zeroValue326
 t44 := Tryz.underlying329
 a44 := Tryz.isAgg329
 z44 := Tryz.sizeOf329
 v44 := Tryz.zeroValue329
 t46 := Tryz.underlying171
 a46 := Tryz.isAgg171
 z46 := Tryz.sizeOf171
 v46 := Tryz.zeroValue171
 t53 := Tryz.underlying373
 a53 := Tryz.isAgg373
 z53 := Tryz.sizeOf373
 v53 := Tryz.zeroValue373
 t57 := Tryz.underlying377
 a57 := Tryz.isAgg377
 z57 := Tryz.sizeOf377
 v57 := Tryz.zeroValue377
 t63 := Tryz.underlying393
 a63 := Tryz.isAgg393
 z63 := Tryz.sizeOf393
 v63 := Tryz.zeroValue393
 t64 := Tryz.underlying394
 a64 := Tryz.isAgg394
 z64 := Tryz.sizeOf394
 v64 := Tryz.zeroValue394 }
def Tryz.grow114_ren : Go.Shelf.Ren := ⟨fun | 4 => 114 | n => n, fun | 22 => 22 | 25 => 82 | 3 => 3 | 4 => 4 | 9 => 9 | 20 => 20 | 0 => 0 | n => n, fun | n => n⟩
theorem Tryz.grow114 : Go.Proofs.Lays8.n4 Tryz.prog Tryz.grow114_ren := {
 mixed := by kernel_rfl
 f4 := ⟨Tryz.f114.name, by decide, Tryz.func114.trans (congrArg some (by kernel_rfl))⟩
 t0 := Tryz.underlying0
 a0 := Tryz.isAgg0
 z0 := Tryz.sizeOf0
 v0 := Tryz.zeroValue0
 t3 := Tryz.underlying3
 a3 := Tryz.isAgg3
 z3 := Tryz.sizeOf3
 v3 := Tryz.zeroValue3
 t4 := Tryz.underlying4
 a4 := Tryz.isAgg4
 z4 := Tryz.sizeOf4
 v4 := Tryz.zeroValue4
 t9 := Tryz.underlying9
 a9 := Tryz.isAgg9
 z9 := Tryz.sizeOf9
 v9 := Tryz.zeroValue9
 t20 := Tryz.underlying20
 a20 := Tryz.isAgg20
 z20 := Tryz.sizeOf20
 v20 := Tryz.zeroValue20
 t22 := Tryz.underlying22
 a22 := Tryz.isAgg22
 z22 := Tryz.sizeOf22
 v22 := Tryz.zeroValue22 }
def Tryz.keys107_ren : Go.Shelf.Ren := ⟨fun | 7 => 107 | 10 => 143 | n => n, fun | 23 => 197 | 26 => 3 | 3 => 3 | 28 => 201 | 0 => 0 | 27 => 200 | 33 => 244 | 4 => 4 | n => n, fun | n => n⟩
theorem Tryz.keys107 : Go.Proofs.SlLaysZI.n7 Tryz.prog Tryz.keys107_ren := {
 mixed := by kernel_rfl
 f7 := ⟨Tryz.f107.name, by decide, Tryz.func107.trans (congrArg some (by kernel_rfl))⟩
 f10 := ⟨Tryz.f143.name, by decide, Tryz.func143.trans (congrArg some (by kernel_rfl))⟩
 t0 := Tryz.underlying0
 a0 := Tryz.isAgg0
 z0 := Tryz.sizeOf0
 v0 := Tryz.zeroValue0
 t4 := Tryz.underlying4
 a4 := Tryz.isAgg4
 z4 := Tryz.sizeOf4
 v4 := Tryz.zeroValue4
 t23 := Tryz.underlying197
 a23 := Tryz.isAgg197
 z23 := Tryz.sizeOf197
 v23 := Tryz.zeroValue197
 t26 := Tryz.underlying3
 a26 := Tryz.isAgg3
 z26 := Tryz.sizeOf3
 v26 := Tryz.zeroValue3
 t27 := Tryz.underlying200
 a27 := Tryz.isAgg200
 z27 := Tryz.sizeOf200
 v27 := Tryz.zeroValue200
 t28 := Tryz.underlying201
 a28 := Tryz.isAgg201
 z28 := Tryz.sizeOf201
 v28 := Tryz.zeroValue201
 t33 := Tryz.underlying244
 a33 := Tryz.isAgg244
 z33 := Tryz.sizeOf244
 v33 := Tryz.zeroValue244 }
def Tryz.sorted106_ren : Go.Shelf.Ren := ⟨fun | 6 => 106 | 8 => 141 | 9 => 142 | 11 => 178 | 13 => 180 | 12 => 179 | 23 => 227 | 24 => 228 | 14 => 218 | 15 => 219 | 16 => 220 | 17 => 221 | 18 => 222 | 19 => 223 | 20 => 224 | 21 => 225 | 22 => 226 | 25 => 274 | 26 => 275 | 27 => 276 | 28 => 277 | 29 => 278 | 30 => 279 | 31 => 303 | n => n, fun | 26 => 3 | 28 => 201 | 24 => 146 | 0 => 0 | 3 => 3 | 37 => 277 | 48 => 329 | 50 => 171 | 4 => 4 | 40 => 321 | 39 => 320 | 45 => 326 | 5 => 5 | 9 => 9 | 51 => 373 | 55 => 377 | 57 => 393 | 58 => 394 | 33 => 244 | n => n, fun | n => n⟩
theorem Tryz.sorted106 : Go.Proofs.SlLaysZI.n6 Tryz.prog Tryz.sorted106_ren := {
 mixed := by kernel_rfl
 f6 := ⟨Tryz.f106.name, by decide, Tryz.func106.trans (congrArg some (by kernel_rfl))⟩
 f8 := ⟨Tryz.f141.name, by decide, Tryz.func141.trans (congrArg some (by kernel_rfl))⟩
 f11 := ⟨Tryz.f178.name, by decide, Tryz.func178.trans (congrArg some (by kernel_rfl))⟩
 t0 := Tryz.underlying0
 a0 := Tryz.isAgg0
 z0 := Tryz.sizeOf0
 v0 := Tryz.zeroValue0
 t24 := Tryz.underlying146
 a24 := Tryz.isAgg146
 z24 := Tryz.sizeOf146
 v24 := Tryz.zeroValue146
 t26 := Tryz.underlying3
 a26 := Tryz.isAgg3
 z26 := Tryz.sizeOf3
 v26 := Tryz.zeroValue3
 t28 := Tryz.underlying201
 a28 := Tryz.isAgg201
 z28 := Tryz.sizeOf201
 v28 := Tryz.zeroValue201
 i26 := by kernel_rfl }
end Go.Proofs
namespace Go.Proofs.YthnhddjlgjecdaaGreatDoor
open Go X
open Go.Proofs Go.RowKit Go.Shelf Go.Sort
abbrev encS : Bs → Value := fun s => str s
theorem keyS : KeyLaw Tryz.prog 9 encS .string := keyStr (und_str str9)
theorem mapSI : mapT Tryz.prog 209 = some (9, 3) := by kernel_rfl
theorem St.belowRow {E w w' : World} {H : GH} {L : List It} {v : Value} {e : TypeId} {sz n : Nat} {xs : List Value} (h : St E H L w) (hb : Below w.heap.size w w') (hrow : w'.ownsRow w.heap.size e sz v n xs) : St E H (.row v e sz n xs :: L) w' := by
 have h' := h.below hb
 have h0 : w'.ownsRow 0 e sz v n xs := ⟨hrow.1, hrow.2.imp id fun ⟨g, cap, cur, h1, h2, h3⟩ => ⟨g, cap, cur, h1, Nat.zero_le _, h3⟩⟩
 have hge : ∀ g ∈ (It.row v e sz n xs).own, w.heap.size ≤ g := by
   intro g hg
   rcases hrow.2 with ⟨rfl, _⟩ | ⟨g', cap, cur, rfl, h2, _⟩
   · simp [It.own, Value.ownBlock] at hg
   · simp [It.own, Value.ownBlock] at hg; omega
 refine ⟨h'.os, h'.tape, h'.output, h'.fro, fun i hi => ?_, fun i hi g hg => ?_, List.pairwise_cons.2 ⟨fun i hi g hg hgi => ?_, h'.apart⟩⟩
 · cases hi with
   | head => exact h0
   | tail _ hi => exact h'.holds i hi
 · cases hi with
   | head =>
     cases hH : H g with
     | none => rfl
     | some o => exact absurd (h.size_le hH) (by have := hge g hg; omega)
   | tail _ hi => exact h'.off i hi g hg
 · have := hge g hg
   have := It.lt (h.holds i hi) hgi
   omega
theorem keys_ok (b : Nat) (E : World) (H : GH) (L : List It) : Ok Tryz.prog 119 #[.map (some b)] E H L fun r H' L' => ∃ g, r = .func (.func 156) #[] #[.pointer (some ⟨g, 0, none⟩)] ∧ H = H' ∧ L' = .obj g (.cells #[.map (some b)] 209 (0, 0)) :: L := fun w hw =>
 (callsIn_wide.1 (AnyZ.keys_in Tryz.keys119 Fence.wide 5 trivial rfl (some b) w)).mono fun e w' ⟨he, hw'⟩ => ⟨_, H, _, he, LE.rfl, by subst hw'; exact hw.alloc _, _, rfl, rfl, rfl⟩
theorem sortsK (m : Nat) : AnyZ.SortsIn Tryz.prog Tryz.sorted118_ren Fence.wide m :=
 ⟨fun blk off cap ss W hH hblk hsz => callsIn_wide.2 (AnyM.slices_Sort_string Tryz.sort155 blk off cap ss W hH hblk hsz), fun p cap W => callsIn_wide.2 (AnyM.slices_Sort_string_none Tryz.sort155 p cap W)⟩
theorem sub_len : ∀ {l m : List Bs}, l.Nodup → (∀ x ∈ l, x ∈ m) → l.length ≤ m.length
 | [], _, _, _ => Nat.zero_le _
 | a :: l, m, hd, hs => by
   rw [List.nodup_cons] at hd
   have hm := hs a (List.mem_cons_self ..)
   have := sub_len (l := l) (m := m.erase a) hd.2 fun x hx => (List.mem_erase_of_ne (fun e => by subst e; exact hd.1 hx)).2 (hs x (List.mem_cons_of_mem _ hx))
   rw [List.length_erase_of_mem hm] at this
   have := List.length_pos_of_mem hm
   simp only [List.length_cons]; omega
theorem lk_some {κ : Type} [DecidableEq κ] (k : κ) : ∀ m : List (κ × Value), (m.lookup k).isSome = true ↔ k ∈ m.map (·.1)
 | [] => by simp [List.lookup]
 | (a, v) :: l => by
   simp only [List.lookup, List.map_cons, List.mem_cons]
   by_cases e : k = a
   · subst e; simp
   · have : (k == a) = false := by simpa using e
     simp only [this, e, false_or]
     exact lk_some k l
theorem sorted_ok (b g : Nat) (f : Bs → Option Value) (k0 : Nat) (E : World) (H : GH) (L : List It) (hg : L[0]? = some (.obj g (.cells #[.map (some b)] 209 (0, 0)))) (hb : L[k0]? = some (.blk b (IsMap encS f)))
   (hlen : ∀ x, (f x).isSome = true → x.length < 1000000000000) (hcnt : ∀ l : List Bs, l.Nodup → (∀ x ∈ l, (f x).isSome = true) → l.length < 1000000000000) :
   Ok Tryz.prog 118 #[.func (.func 156) #[] #[.pointer (some ⟨g, 0, none⟩)]] E H L fun r H' L' => ∃ A c ss, r = .slice A ss.length c ∧ H = H' ∧ L' = .row (.slice A ss.length c) 9 1 ss.length (ss.map encS) :: L ∧ IsSet ss (fun x => (f x).isSome) := fun w hw => by
 obtain ⟨o, ho, es, clock, m, rfl, hst, h1, h2, h3⟩ := item_at hw.sees hb
 have hcell : w.heap[g]? = some (.cells #[.map (some b)] 209 (0, 0)) := item_at hw.sees hg
 have hmem : ∀ k, (k ∈ m.map (·.1)) ↔ (f k).isSome = true := fun k => by
   rw [← h3 k]; exact (lk_some k m).symm
 have hml : m.length < 1000000000000 := by
   have := hcnt (m.map (·.1)) h2 (fun x hx => (hmem x).1 hx)
   simpa using this
 have hel : es.size = m.length := by simpa using congrArg List.length h1
 let R : Value → Option (DataW Unit × List MemPlace) := fun _ => some (.nil, [])
 have hkey : ∀ (s : Bs) , s.length < 1000000000000 → keyOf Tryz.prog 9 (str s) = some (.string s) := fun s hs => by
   unfold keyOf
   rw [und_str str9]
   have hsz : (⟨s.toArray⟩ : ByteArray).size = s.length := by simp [ByteArray.size]
   simp [mapKey, und_str str9, hsz, maxLen]
   try omega
 have hread : ∀ x ∈ es.toList, ∃ s : Bs, s ∈ m.map (·.1) ∧ x.key = str s ∧ WideElems.rd Tryz.prog 9 R x = some (.string s, .nil) := fun x hx => by
   have : (x.key, x.val) ∈ m.map (fun p => (encS p.1, p.2)) := by rw [← h1]; exact List.mem_map.2 ⟨x, hx, rfl⟩
   obtain ⟨p, hp, hpe⟩ := List.mem_map.1 this
   have he : x.key = str p.1 := (congrArg Prod.fst hpe).symm
   have hpm : p.1 ∈ m.map (·.1) := List.mem_map.2 ⟨p, hp, rfl⟩
   refine ⟨p.1, hpm, he, ?_⟩
   have hk := hkey p.1 (hlen _ ((hmem _).1 hpm))
   unfold WideElems.rd
   rw [he, hk]; rfl
 have hown : w.ownsMap Tryz.prog 9 R b es.size (.map ((es.toList.map (WideElems.rg Tryz.prog 9 R)).foldr DataW.insert [])) :=
   ⟨es, clock, ho, ⟨by rw [hel]; simp only [maxLen]; omega, hst, fun x hx => let ⟨s, _, _, h⟩ := hread x hx; ⟨_, h⟩⟩, Nat.le_refl _, rfl⟩
 have hD : strKeys (.map ((es.toList.map (WideElems.rg Tryz.prog 9 R)).foldr DataW.insert []) : DataW Unit) = (((es.toList.map (WideElems.rg Tryz.prog 9 R)).foldr DataW.insert [])).map fun p => strOf p.1 := rfl
 have hperm : (strKeys (.map ((es.toList.map (WideElems.rg Tryz.prog 9 R)).foldr DataW.insert []) : DataW Unit)).Perm (m.map (·.1)) := by
   rw [hD]
   refine ((WideShapes.sorted_perm _).map _).trans (.of_eq ?_)
   rw [List.map_map]
   have e2 : m.map (·.1) = es.toList.map (fun x => match x.key with | .string s => s.data.toList | _ => []) := by
     have := congrArg (List.map (fun q : Value × Value => match q.1 with | .string s => s.data.toList | _ => [])) h1
     rw [List.map_map, List.map_map] at this
     rw [show m.map (·.1) = m.map ((fun q : Value × Value => match q.1 with | .string s => s.data.toList | _ => []) ∘ fun p => (encS p.1, p.2)) from List.map_congr_left fun p _ => by simp, ← this]
     rfl
   rw [e2]
   refine List.map_congr_left fun x hx => ?_
   obtain ⟨s, _, hk, hr⟩ := hread x hx
   simp only [Function.comp, WideElems.rg_of hr, hk]
   simp [strOf]
 have hseq : SeqGives Fence.wide 2 Tryz.prog 156 #[.pointer (some ⟨g, 0, none⟩)] encStr (fun ss => ss.Perm (strKeys (.map ((es.toList.map (WideElems.rg Tryz.prog 9 R)).foldr DataW.insert []) : DataW Unit))) _ w :=
   AnyZ.keys_gives (ρ := Tryz.keys119_ren) { Tryz.keys119 with } Fence.wide _ trivial rfl (by omega) g b es.size _ w (Array.getElem?_eq_some_iff.1 hcell).1 (by simp [World.cell?, hcell]) hown
 have hsz : Maps.size (.map ((es.toList.map (WideElems.rg Tryz.prog 9 R)).foldr DataW.insert []) : DataW Unit) = m.length := by
   have := hperm.length_eq
   rw [hD, List.length_map, List.length_map] at this
   exact this
 refine (callsIn_wide.1 (AnyZ.sorted_in Tryz.sorted118 Fence.wide 5 trivial trivial trivial trivial rfl (by omega) (sortsK _) (enters_of Tryz.func155 (by kernel_rfl) rfl) 156 #[.pointer (some ⟨g, 0, none⟩)] trivial (enters_of Tryz.func156 (by kernel_rfl) rfl) _ _ (by rw [hsz]; simp only [maxLen]; omega) (by rw [hsz]; omega) w hseq)).mono ?_
 rintro e w' ⟨v, ss, he, hS, hrow, hnil, hbel⟩
 have hlen' : (ss.mergeSort fun x y => decide (x ≤ y)).length = ss.length := List.length_mergeSort ..
 have hpm : (ss.mergeSort fun x y => decide (x ≤ y)).Perm (m.map (·.1)) := (List.mergeSort_perm ..).trans (hS.trans hperm)
 have hv : ∃ A c, v = .slice A (ss.mergeSort fun x y => decide (x ≤ y)).length c := by
   rw [hlen']
   rcases hrow.2 with ⟨rfl, e⟩ | ⟨_, cap, _, rfl, _⟩
   · exact ⟨none, 0, by rw [e]⟩
   · exact ⟨_, _, rfl⟩
 obtain ⟨Ad, c, rfl⟩ := hv
 rw [← hlen'] at hrow
 refine ⟨_, H, _, he, LE.rfl, St.belowRow hw hbel hrow, Ad, c, ss.mergeSort fun x y => decide (x ≤ y), rfl, rfl, rfl, hpm.nodup_iff.2 h2, fun x => (hpm.mem_iff).trans (hmem x), ?_⟩
 have hsorted := List.pairwise_mergeSort (le := fun x y : Bs => decide (x ≤ y)) (fun a b c h1 h2 => by simp at *; exact List.le_trans h1 h2) (fun a b => by simp; exact List.le_total a b) ss
 exact hsorted.imp fun h => by simpa using h
inductive Sh where
 | mk (kind : Int) (n : Int) (kids : List Sh)
namespace Sh
def kind : Sh → Int | .mk kind _ _ => kind
def n : Sh → Int | .mk _ n _ => n
def kids : Sh → List Sh | .mk _ _ kids => kids
theorem ind {p : Sh → Prop} (h : ∀ kind n kids, (∀ x ∈ kids, p x) → p (.mk kind n kids)) : ∀ t, p t
 | .mk kind n kids => h kind n kids fun x hx => ind h x
end Sh
mutual
def RSh (H : GH) (cs : List Value) : Sh → Prop
 | .mk kind n kids => ∃ A0 c0, cs = [.int .i64 kind, .int .i64 n, .slice A0 kids.length c0] ∧ kids.length ≤ c0 ∧ RShL H A0 0 kids
def RShL (H : GH) (A : Option Addr) (j : Nat) : List Sh → Prop
 | [] => True
 | t :: l => (∃ g off cs, A = some ⟨g, off, none⟩ ∧ cs.length = 3 ∧ RSh H cs t ∧ ∀ i u, cs[i]? = some u → Hc H g (off + j * 3 + i) u) ∧ RShL H A (j + 1) l
end
theorem rshl_iff (H : GH) (A : Option Addr) : ∀ (l : List Sh) (b : Nat), RShL H A b l ↔ ∀ j x, l[j]? = some x → ∃ g off cs, A = some ⟨g, off, none⟩ ∧ cs.length = 3 ∧ RSh H cs x ∧ ∀ i u, cs[i]? = some u → Hc H g (off + (b + j) * 3 + i) u
 | [], b => by simp [RShL]
 | t :: l, b => by
   simp only [RShL, rshl_iff H A l (b + 1)]
   constructor
   · rintro ⟨h0, h1⟩ j x hx
     cases j with
     | zero => simp at hx; subst hx; simpa using h0
     | succ j => simp at hx; have := h1 j x hx; simpa [Nat.add_assoc, Nat.add_comm 1 j] using this
   · intro h
     refine ⟨by simpa using h 0 t rfl, fun j x hx => ?_⟩
     have := h (j + 1) x (by simpa using hx)
     simpa [Nat.add_assoc, Nat.add_comm 1 j] using this
theorem rsh_iff {H : GH} {cs : List Value} {x : Sh} : RSh H cs x ↔ ∃ A0 c0, cs = [.int .i64 x.kind, .int .i64 x.n, .slice A0 x.kids.length c0] ∧ RS RSh 3 H (.slice A0 x.kids.length c0) x.kids := by
 cases x with
 | mk kind n kids =>
 simp only [RSh, rshl_iff, Nat.zero_add]
 constructor
 · rintro ⟨A0, c0, rfl, h1, h2⟩; exact ⟨A0, c0, rfl, ⟨A0, c0, rfl, h1, h2⟩⟩
 · rintro ⟨A0, c0, rfl, ⟨B, d, e, h1, h2⟩⟩; cases e; exact ⟨A0, c0, rfl, h1, h2⟩
theorem RSh.mono {H H' : GH} (hl : LE H H') : ∀ (x : Sh) {cs : List Value}, RSh H cs x → RSh H' cs x := by
 intro x
 induction x using Sh.ind with
 | h kind n kids ih =>
   intro cs h
   rw [rsh_iff] at h ⊢
   obtain ⟨A0, c0, rfl, h0⟩ := h
   exact ⟨A0, c0, rfl, h0.mono hl fun cs x hx hr => ih x hx hr⟩
def VSh (H : GH) (v : Value) (x : Sh) : Prop := ∃ A0 c0, v = .agg #[.int .i64 x.kind, .int .i64 x.n, .slice A0 x.kids.length c0] ∧ RS RSh 3 H (.slice A0 x.kids.length c0) x.kids
theorem VSh.mono {H H' : GH} {v : Value} {x : Sh} (h : VSh H v x) (hl : LE H H') : VSh H' v x := let ⟨A0, c0, e, h0⟩ := h; ⟨A0, c0, e, h0.mono hl fun _ _ _ hr => RSh.mono hl _ hr⟩
theorem rsh_of_v {H : GH} {cs : List Value} {x : Sh} (h : VSh H (.agg cs.toArray) x) : RSh H cs x := by
 obtain ⟨A0, c0, e, h0⟩ := h
 rw [rsh_iff]
 refine ⟨A0, c0, ?_, h0⟩
 have := congrArg (fun v => match v with | .agg a => a.toList | _ => []) e
 have t3 := this
 simp at t3
 exact t3
abbrev HS (H : GH) (A : Option Addr) (c : Nat) (xs : List Sh) : Prop := RS RSh 3 H (.slice A xs.length c) xs
theorem HS.up {H H' : GH} {A : Option Addr} {c : Nat} {xs : List Sh} (h : HS H A c xs) (hl : LE H H') : HS H' A c xs := RS.mono h hl fun _ x _ h => RSh.mono hl x h
theorem HS.get {H : GH} {A : Option Addr} {c : Nat} {xs : List Sh} (h : HS H A c xs) {j : Nat} (hj : j < xs.length) :
   ∃ g off A0 c0, A = some ⟨g, off, none⟩ ∧ VSh H (.agg #[.int .i64 xs[j].kind, .int .i64 xs[j].n, .slice A0 xs[j].kids.length c0]) xs[j] ∧ ∀ i u, [.int .i64 xs[j].kind, .int .i64 xs[j].n, .slice A0 xs[j].kids.length c0][i]? = some u → Hc H g (off + j * 3 + i) u := by
 obtain ⟨g, off, cs, hA, hl, hr, hc⟩ := RS.at_ h (List.getElem?_eq_getElem hj)
 rw [rsh_iff] at hr
 obtain ⟨A0, c0, rfl, h0⟩ := hr
 exact ⟨g, off, A0, c0, hA, ⟨A0, c0, rfl, h0⟩, hc⟩
structure Bd where
 n : Int
 s : Sh
def RBd (H : GH) (cs : List Value) (x : Bd) : Prop := ∃ A0 c0, cs = [.int .i64 x.n, .int .i64 x.s.kind, .int .i64 x.s.n, .slice A0 x.s.kids.length c0] ∧ RS RSh 3 H (.slice A0 x.s.kids.length c0) x.s.kids
theorem rbd_iff {H : GH} {cs : List Value} {x : Bd} : RBd H cs x ↔ ∃ A0 c0, cs = [.int .i64 x.n, .int .i64 x.s.kind, .int .i64 x.s.n, .slice A0 x.s.kids.length c0] ∧ RS RSh 3 H (.slice A0 x.s.kids.length c0) x.s.kids := Iff.rfl
theorem RBd.mono {H H' : GH} (hl : LE H H') (x : Bd) {cs : List Value} (h : RBd H cs x) : RBd H' cs x := let ⟨A0, c0, e, h0⟩ := h; ⟨A0, c0, e, h0.mono hl fun _ _ _ hr => RSh.mono hl _ hr⟩
def VBd (H : GH) (v : Value) (x : Bd) : Prop := ∃ A0 c0, v = .agg #[.int .i64 x.n, .int .i64 x.s.kind, .int .i64 x.s.n, .slice A0 x.s.kids.length c0] ∧ RS RSh 3 H (.slice A0 x.s.kids.length c0) x.s.kids
theorem rbd_of_v {H : GH} {cs : List Value} {x : Bd} (h : VBd H (.agg cs.toArray) x) : RBd H cs x := by
 obtain ⟨A0, c0, e, h0⟩ := h
 rw [rbd_iff]
 refine ⟨A0, c0, ?_, h0⟩
 have := congrArg (fun v => match v with | .agg a => a.toList | _ => []) e
 have t3 := this
 simp at t3
 exact t3
abbrev BdS (H : GH) (A : Option Addr) (c : Nat) (xs : List Bd) : Prop := RS RBd 4 H (.slice A xs.length c) xs
theorem BdS.up {H H' : GH} {A : Option Addr} {c : Nat} {xs : List Bd} (h : BdS H A c xs) (hl : LE H H') : BdS H' A c xs := RS.mono h hl fun _ x _ h => RBd.mono hl x h
theorem BdS.get {H : GH} {A : Option Addr} {c : Nat} {xs : List Bd} (h : BdS H A c xs) {j : Nat} (hj : j < xs.length) :
   ∃ g off A0 c0, A = some ⟨g, off, none⟩ ∧ VBd H (.agg #[.int .i64 xs[j].n, .int .i64 xs[j].s.kind, .int .i64 xs[j].s.n, .slice A0 xs[j].s.kids.length c0]) xs[j] ∧ ∀ i u, [.int .i64 xs[j].n, .int .i64 xs[j].s.kind, .int .i64 xs[j].s.n, .slice A0 xs[j].s.kids.length c0][i]? = some u → Hc H g (off + j * 4 + i) u := by
 obtain ⟨g, off, cs, hA, hl, hr, hc⟩ := RS.at_ h (List.getElem?_eq_getElem hj)
 rw [rbd_iff] at hr
 obtain ⟨A0, c0, rfl, h0⟩ := hr
 exact ⟨g, off, A0, c0, hA, ⟨A0, c0, rfl, h0⟩, hc⟩
inductive Tr where
 | mk (kind : Int) (name : Bs) (n : Int) (s : Sh) (b : Sh) (kids : List Tr)
namespace Tr
def kind : Tr → Int | .mk kind _ _ _ _ _ => kind
def name : Tr → Bs | .mk _ name _ _ _ _ => name
def n : Tr → Int | .mk _ _ n _ _ _ => n
def s : Tr → Sh | .mk _ _ _ s _ _ => s
def b : Tr → Sh | .mk _ _ _ _ b _ => b
def kids : Tr → List Tr | .mk _ _ _ _ _ kids => kids
theorem ind {p : Tr → Prop} (h : ∀ kind name n s b kids, (∀ x ∈ kids, p x) → p (.mk kind name n s b kids)) : ∀ t, p t
 | .mk kind name n s b kids => h kind name n s b kids fun x hx => ind h x
end Tr
mutual
def RTr (H : GH) (cs : List Value) : Tr → Prop
 | .mk kind name n s b kids => ∃ A0 c0 A1 c1 A2 c2, cs = [.int .i64 kind, str name, .int .i64 n, .int .i64 s.kind, .int .i64 s.n, .slice A0 s.kids.length c0, .int .i64 b.kind, .int .i64 b.n, .slice A1 b.kids.length c1, .slice A2 kids.length c2] ∧ RS RSh 3 H (.slice A0 s.kids.length c0) s.kids ∧ RS RSh 3 H (.slice A1 b.kids.length c1) b.kids ∧ kids.length ≤ c2 ∧ RTrL H A2 0 kids
def RTrL (H : GH) (A : Option Addr) (j : Nat) : List Tr → Prop
 | [] => True
 | t :: l => (∃ g off cs, A = some ⟨g, off, none⟩ ∧ cs.length = 10 ∧ RTr H cs t ∧ ∀ i u, cs[i]? = some u → Hc H g (off + j * 10 + i) u) ∧ RTrL H A (j + 1) l
end
theorem rtrl_iff (H : GH) (A : Option Addr) : ∀ (l : List Tr) (b : Nat), RTrL H A b l ↔ ∀ j x, l[j]? = some x → ∃ g off cs, A = some ⟨g, off, none⟩ ∧ cs.length = 10 ∧ RTr H cs x ∧ ∀ i u, cs[i]? = some u → Hc H g (off + (b + j) * 10 + i) u
 | [], b => by simp [RTrL]
 | t :: l, b => by
   simp only [RTrL, rtrl_iff H A l (b + 1)]
   constructor
   · rintro ⟨h0, h1⟩ j x hx
     cases j with
     | zero => simp at hx; subst hx; simpa using h0
     | succ j => simp at hx; have := h1 j x hx; simpa [Nat.add_assoc, Nat.add_comm 1 j] using this
   · intro h
     refine ⟨by simpa using h 0 t rfl, fun j x hx => ?_⟩
     have := h (j + 1) x (by simpa using hx)
     simpa [Nat.add_assoc, Nat.add_comm 1 j] using this
theorem rtr_iff {H : GH} {cs : List Value} {x : Tr} : RTr H cs x ↔ ∃ A0 c0 A1 c1 A2 c2, cs = [.int .i64 x.kind, str x.name, .int .i64 x.n, .int .i64 x.s.kind, .int .i64 x.s.n, .slice A0 x.s.kids.length c0, .int .i64 x.b.kind, .int .i64 x.b.n, .slice A1 x.b.kids.length c1, .slice A2 x.kids.length c2] ∧ RS RSh 3 H (.slice A0 x.s.kids.length c0) x.s.kids ∧ RS RSh 3 H (.slice A1 x.b.kids.length c1) x.b.kids ∧ RS RTr 10 H (.slice A2 x.kids.length c2) x.kids := by
 cases x with
 | mk kind name n s b kids =>
 simp only [RTr, rtrl_iff, Nat.zero_add]
 constructor
 · rintro ⟨A0, c0, A1, c1, A2, c2, rfl, q0, q1, h1, h2⟩; exact ⟨A0, c0, A1, c1, A2, c2, rfl, q0, q1, ⟨A2, c2, rfl, h1, h2⟩⟩
 · rintro ⟨A0, c0, A1, c1, A2, c2, rfl, q0, q1, ⟨B, d, e, h1, h2⟩⟩; cases e; exact ⟨A0, c0, A1, c1, A2, c2, rfl, q0, q1, h1, h2⟩
theorem RTr.mono {H H' : GH} (hl : LE H H') : ∀ (x : Tr) {cs : List Value}, RTr H cs x → RTr H' cs x := by
 intro x
 induction x using Tr.ind with
 | h kind name n s b kids ih =>
   intro cs h
   rw [rtr_iff] at h ⊢
   obtain ⟨A0, c0, A1, c1, A2, c2, rfl, h0, h1, h2⟩ := h
   exact ⟨A0, c0, A1, c1, A2, c2, rfl, h0.mono hl fun cs x hx hr => RSh.mono hl _ hr, h1.mono hl fun cs x hx hr => RSh.mono hl _ hr, h2.mono hl fun cs x hx hr => ih x hx hr⟩
def VTr (H : GH) (v : Value) (x : Tr) : Prop := ∃ A0 c0 A1 c1 A2 c2, v = .agg #[.int .i64 x.kind, str x.name, .int .i64 x.n, .int .i64 x.s.kind, .int .i64 x.s.n, .slice A0 x.s.kids.length c0, .int .i64 x.b.kind, .int .i64 x.b.n, .slice A1 x.b.kids.length c1, .slice A2 x.kids.length c2] ∧ RS RSh 3 H (.slice A0 x.s.kids.length c0) x.s.kids ∧ RS RSh 3 H (.slice A1 x.b.kids.length c1) x.b.kids ∧ RS RTr 10 H (.slice A2 x.kids.length c2) x.kids
theorem rtr_of_v {H : GH} {cs : List Value} {x : Tr} (h : VTr H (.agg cs.toArray) x) : RTr H cs x := by
 obtain ⟨A0, c0, A1, c1, A2, c2, e, h0, h1, h2⟩ := h
 rw [rtr_iff]
 refine ⟨A0, c0, A1, c1, A2, c2, ?_, h0, h1, h2⟩
 have := congrArg (fun v => match v with | .agg a => a.toList | _ => []) e
 have t3 := this
 simp at t3
 exact t3
abbrev TrS (H : GH) (A : Option Addr) (c : Nat) (xs : List Tr) : Prop := RS RTr 10 H (.slice A xs.length c) xs
theorem TrS.up {H H' : GH} {A : Option Addr} {c : Nat} {xs : List Tr} (h : TrS H A c xs) (hl : LE H H') : TrS H' A c xs := RS.mono h hl fun _ x _ h => RTr.mono hl x h
theorem TrS.get {H : GH} {A : Option Addr} {c : Nat} {xs : List Tr} (h : TrS H A c xs) {j : Nat} (hj : j < xs.length) :
   ∃ g off A0 c0 A1 c1 A2 c2, A = some ⟨g, off, none⟩ ∧ VTr H (.agg #[.int .i64 xs[j].kind, str xs[j].name, .int .i64 xs[j].n, .int .i64 xs[j].s.kind, .int .i64 xs[j].s.n, .slice A0 xs[j].s.kids.length c0, .int .i64 xs[j].b.kind, .int .i64 xs[j].b.n, .slice A1 xs[j].b.kids.length c1, .slice A2 xs[j].kids.length c2]) xs[j] ∧ ∀ i u, [.int .i64 xs[j].kind, str xs[j].name, .int .i64 xs[j].n, .int .i64 xs[j].s.kind, .int .i64 xs[j].s.n, .slice A0 xs[j].s.kids.length c0, .int .i64 xs[j].b.kind, .int .i64 xs[j].b.n, .slice A1 xs[j].b.kids.length c1, .slice A2 xs[j].kids.length c2][i]? = some u → Hc H g (off + j * 10 + i) u := by
 obtain ⟨g, off, cs, hA, hl, hr, hc⟩ := RS.at_ h (List.getElem?_eq_getElem hj)
 rw [rtr_iff] at hr
 obtain ⟨A0, c0, A1, c1, A2, c2, rfl, h0, h1, h2⟩ := hr
 exact ⟨g, off, A0, c0, A1, c1, A2, c2, hA, ⟨A0, c0, A1, c1, A2, c2, rfl, h0, h1, h2⟩, hc⟩
structure Td where
 name : Bs
 t : Tr
def RTd (H : GH) (cs : List Value) (x : Td) : Prop := ∃ A0 c0 A1 c1 A2 c2, cs = [str x.name, .int .i64 x.t.kind, str x.t.name, .int .i64 x.t.n, .int .i64 x.t.s.kind, .int .i64 x.t.s.n, .slice A0 x.t.s.kids.length c0, .int .i64 x.t.b.kind, .int .i64 x.t.b.n, .slice A1 x.t.b.kids.length c1, .slice A2 x.t.kids.length c2] ∧ RS RSh 3 H (.slice A0 x.t.s.kids.length c0) x.t.s.kids ∧ RS RSh 3 H (.slice A1 x.t.b.kids.length c1) x.t.b.kids ∧ RS RTr 10 H (.slice A2 x.t.kids.length c2) x.t.kids
theorem rtd_iff {H : GH} {cs : List Value} {x : Td} : RTd H cs x ↔ ∃ A0 c0 A1 c1 A2 c2, cs = [str x.name, .int .i64 x.t.kind, str x.t.name, .int .i64 x.t.n, .int .i64 x.t.s.kind, .int .i64 x.t.s.n, .slice A0 x.t.s.kids.length c0, .int .i64 x.t.b.kind, .int .i64 x.t.b.n, .slice A1 x.t.b.kids.length c1, .slice A2 x.t.kids.length c2] ∧ RS RSh 3 H (.slice A0 x.t.s.kids.length c0) x.t.s.kids ∧ RS RSh 3 H (.slice A1 x.t.b.kids.length c1) x.t.b.kids ∧ RS RTr 10 H (.slice A2 x.t.kids.length c2) x.t.kids := Iff.rfl
theorem RTd.mono {H H' : GH} (hl : LE H H') (x : Td) {cs : List Value} (h : RTd H cs x) : RTd H' cs x := let ⟨A0, c0, A1, c1, A2, c2, e, h0, h1, h2⟩ := h; ⟨A0, c0, A1, c1, A2, c2, e, h0.mono hl fun _ _ _ hr => RSh.mono hl _ hr, h1.mono hl fun _ _ _ hr => RSh.mono hl _ hr, h2.mono hl fun _ _ _ hr => RTr.mono hl _ hr⟩
def VTd (H : GH) (v : Value) (x : Td) : Prop := ∃ A0 c0 A1 c1 A2 c2, v = .agg #[str x.name, .int .i64 x.t.kind, str x.t.name, .int .i64 x.t.n, .int .i64 x.t.s.kind, .int .i64 x.t.s.n, .slice A0 x.t.s.kids.length c0, .int .i64 x.t.b.kind, .int .i64 x.t.b.n, .slice A1 x.t.b.kids.length c1, .slice A2 x.t.kids.length c2] ∧ RS RSh 3 H (.slice A0 x.t.s.kids.length c0) x.t.s.kids ∧ RS RSh 3 H (.slice A1 x.t.b.kids.length c1) x.t.b.kids ∧ RS RTr 10 H (.slice A2 x.t.kids.length c2) x.t.kids
theorem rtd_of_v {H : GH} {cs : List Value} {x : Td} (h : VTd H (.agg cs.toArray) x) : RTd H cs x := by
 obtain ⟨A0, c0, A1, c1, A2, c2, e, h0, h1, h2⟩ := h
 rw [rtd_iff]
 refine ⟨A0, c0, A1, c1, A2, c2, ?_, h0, h1, h2⟩
 have := congrArg (fun v => match v with | .agg a => a.toList | _ => []) e
 have t3 := this
 simp at t3
 exact t3
abbrev TdS (H : GH) (A : Option Addr) (c : Nat) (xs : List Td) : Prop := RS RTd 11 H (.slice A xs.length c) xs
theorem TdS.up {H H' : GH} {A : Option Addr} {c : Nat} {xs : List Td} (h : TdS H A c xs) (hl : LE H H') : TdS H' A c xs := RS.mono h hl fun _ x _ h => RTd.mono hl x h
theorem TdS.get {H : GH} {A : Option Addr} {c : Nat} {xs : List Td} (h : TdS H A c xs) {j : Nat} (hj : j < xs.length) :
   ∃ g off A0 c0 A1 c1 A2 c2, A = some ⟨g, off, none⟩ ∧ VTd H (.agg #[str xs[j].name, .int .i64 xs[j].t.kind, str xs[j].t.name, .int .i64 xs[j].t.n, .int .i64 xs[j].t.s.kind, .int .i64 xs[j].t.s.n, .slice A0 xs[j].t.s.kids.length c0, .int .i64 xs[j].t.b.kind, .int .i64 xs[j].t.b.n, .slice A1 xs[j].t.b.kids.length c1, .slice A2 xs[j].t.kids.length c2]) xs[j] ∧ ∀ i u, [str xs[j].name, .int .i64 xs[j].t.kind, str xs[j].t.name, .int .i64 xs[j].t.n, .int .i64 xs[j].t.s.kind, .int .i64 xs[j].t.s.n, .slice A0 xs[j].t.s.kids.length c0, .int .i64 xs[j].t.b.kind, .int .i64 xs[j].t.b.n, .slice A1 xs[j].t.b.kids.length c1, .slice A2 xs[j].t.kids.length c2][i]? = some u → Hc H g (off + j * 11 + i) u := by
 obtain ⟨g, off, cs, hA, hl, hr, hc⟩ := RS.at_ h (List.getElem?_eq_getElem hj)
 rw [rtd_iff] at hr
 obtain ⟨A0, c0, A1, c1, A2, c2, rfl, h0, h1, h2⟩ := hr
 exact ⟨g, off, A0, c0, A1, c1, A2, c2, hA, ⟨A0, c0, A1, c1, A2, c2, rfl, h0, h1, h2⟩, hc⟩
structure Ty where
 defs : List Td
 body : Tr
def VTy (H : GH) (v : Value) (x : Ty) : Prop := ∃ A0 c0 A1 c1 A2 c2 A3 c3, v = .agg #[.slice A0 x.defs.length c0, .int .i64 x.body.kind, str x.body.name, .int .i64 x.body.n, .int .i64 x.body.s.kind, .int .i64 x.body.s.n, .slice A1 x.body.s.kids.length c1, .int .i64 x.body.b.kind, .int .i64 x.body.b.n, .slice A2 x.body.b.kids.length c2, .slice A3 x.body.kids.length c3] ∧ RS RTd 11 H (.slice A0 x.defs.length c0) x.defs ∧ RS RSh 3 H (.slice A1 x.body.s.kids.length c1) x.body.s.kids ∧ RS RSh 3 H (.slice A2 x.body.b.kids.length c2) x.body.b.kids ∧ RS RTr 10 H (.slice A3 x.body.kids.length c3) x.body.kids
mutual
def Sh.same : Sh → Sh → Bool
 | .mk k n ks, .mk k' n' ks' => (k == k') && ((n == n') && sameSL ks ks')
def sameSL : List Sh → List Sh → Bool
 | [], [] => true
 | t :: l, u :: m => t.same u && sameSL l m
 | _, _ => false
end
mutual
theorem sh_same_iff : ∀ t u : Sh, t.same u = true ↔ t = u
 | .mk k n ks, .mk k' n' ks' => by simp [Sh.same, sameSL_iff ks ks']
theorem sameSL_iff : ∀ l m : List Sh, sameSL l m = true ↔ l = m
 | [], [] => by simp [sameSL]
 | [], _ :: _ => by simp [sameSL]
 | _ :: _, [] => by simp [sameSL]
 | t :: l, u :: m => by simp [sameSL, sh_same_iff t u, sameSL_iff l m]
end
mutual
def Sh.size : Sh → Nat
 | .mk _ _ ks => 1 + sizeSL ks
def sizeSL : List Sh → Nat
 | [] => 0
 | t :: l => t.size + sizeSL l
end
theorem sizeSL_append (l m : List Sh) : sizeSL (l ++ m) = sizeSL l + sizeSL m := by
 induction l with
 | nil => simp [sizeSL]
 | cons t l ih => simp [sizeSL, ih]; omega
theorem sh_size_le {t : Sh} {l : List Sh} (h : t ∈ l) : t.size ≤ sizeSL l := by
 induction l with
 | nil => cases h
 | cons u l ih =>
   simp only [sizeSL]
   cases h with
   | head => omega
   | tail _ h => have := ih h; omega
theorem sh_size_pos (t : Sh) : 0 < t.size := by cases t; simp [Sh.size]; omega
theorem sh_len_le (l : List Sh) : l.length ≤ sizeSL l := by
 induction l with
 | nil => simp
 | cons t l ih => simp only [sizeSL, List.length_cons]; have := sh_size_pos t; omega
theorem sh_take_size {ks : List Sh} {k : Nat} (h : k < ks.length) : sizeSL (ks.take (k + 1)) = sizeSL (ks.take k) + ks[k].size := by
 rw [List.take_succ_eq_append_getElem h, sizeSL_append]; simp [sizeSL]
theorem sh_take_le (ks : List Sh) (k : Nat) : sizeSL (ks.take k) ≤ sizeSL ks := by
 have := sizeSL_append (ks.take k) (ks.drop k)
 rw [List.take_append_drop] at this; omega
def nodeSh (k n : Int) (l : Nat) : Bool := decide (1 ≤ k) && (decide (k ≤ 4) && (decide (0 ≤ n) && ((n == 0 || k == 4) && (l == if k == 3 then 2 else 0))))
mutual
def Sh.right : Sh → Bool
 | .mk k n ks => nodeSh k n ks.length && rightSL ks
def rightSL : List Sh → Bool
 | [] => true
 | t :: l => t.right && rightSL l
end
theorem rightSL_all : ∀ l : List Sh, rightSL l = l.all Sh.right
 | [] => rfl
 | t :: l => by simp [rightSL, rightSL_all l]
mutual
def Sh.hl : Sh → List Int
 | .mk k n ks => (if k == 4 then [n] else []) ++ hlL ks
def hlL : List Sh → List Int
 | [] => []
 | t :: l => t.hl ++ hlL l
end
theorem mem_hlL {h : Int} : ∀ {l : List Sh}, h ∈ hlL l ↔ ∃ t ∈ l, h ∈ t.hl
 | [] => by simp [hlL]
 | t :: l => by simp [hlL, mem_hlL (l := l)]
mutual
def Sh.ap (f : Int → Option Sh) : Sh → Sh
 | .mk k n ks => if k == 4 then (f n).getD (.mk k n ks) else .mk k n (apL f ks)
def apL (f : Int → Option Sh) : List Sh → List Sh
 | [] => []
 | t :: l => t.ap f :: apL f l
end
theorem apL_map (f : Int → Option Sh) : ∀ l : List Sh, apL f l = l.map (Sh.ap f)
 | [] => rfl
 | t :: l => by simp [apL, apL_map f l]
def look (l : List Bd) (n : Int) : Option Sh := (l.find? fun b => b.n == n).map (·.s)
def one (n : Int) (s : Sh) : Int → Option Sh := fun m => if m = n then some s else none
def bindS (l : List Bd) (n : Int) (s : Sh) : Option (List Bd) :=
 if s.hl.contains n then none else
   let out := l.map fun b => (⟨b.n, b.s.ap (one n s)⟩ : Bd)
   let out2 := out.takeWhile (fun b => decide (b.n < n)) ++ ⟨n, s⟩ :: out.dropWhile (fun b => decide (b.n < n))
   if out2.any (fun b => decide (100 < (b.s.size : Int))) then none else some out2
def swp (a b : Sh) : Bool := ((a.kind != 4) && (b.kind == 4)) || ((a.kind == 4) && ((b.kind == 4) && decide (a.n < b.n)))
mutual
def uni : Nat → List Bd → Sh → Sh → Option (Option (List Bd))
 | 0, _, _, _ => none
 | f + 1, l, a, b =>
   let a1 := a.ap (look l); let b1 := b.ap (look l)
   let a2 := if swp a1 b1 then b1 else a1; let b2 := if swp a1 b1 then a1 else b1
   if (a2.kind == 4) && ((b2.kind == 4) && (a2.n == b2.n)) then some (some l)
   else if a2.kind == 4 then some (bindS l a2.n b2)
   else if a2.kind == b2.kind then uniL f l a2.kids b2.kids else some none
def uniL : Nat → List Bd → List Sh → List Sh → Option (Option (List Bd))
 | _, l, [], _ => some (some l)
 | _, _, _ :: _, [] => none
 | f, l, a :: as_, b :: bs_ => match uni f l a b with
   | none => none
   | some none => some none
   | some (some l') => uniL f l' as_ bs_
end
structure Ord (l : List Bd) : Prop where
 inc : l.Pairwise fun b c => b.n < c.n
 nn : ∀ b ∈ l, 0 ≤ b.n
 right : ∀ b ∈ l, b.s.right = true
 small : ∀ b ∈ l, b.s.size ≤ 100
 idem : ∀ b ∈ l, ∀ h ∈ b.s.hl, look l h = none
theorem look_some {l : List Bd} {n : Int} {s : Sh} (h : look l n = some s) : ∃ b ∈ l, b.n = n ∧ b.s = s := by
 unfold look at h
 obtain ⟨b, hb, e⟩ := Option.map_eq_some_iff.1 h
 exact ⟨b, List.mem_of_find?_eq_some hb, by have := List.find?_some hb; simpa using this, e⟩
theorem look_none {l : List Bd} {n : Int} : look l n = none ↔ ∀ b ∈ l, b.n ≠ n := by
 unfold look
 rw [Option.map_eq_none_iff, List.find?_eq_none]
 simp
theorem look_of {l : List Bd} (hp : l.Pairwise fun b c => b.n < c.n) {b : Bd} (hb : b ∈ l) : look l b.n = some b.s := by
 induction l with
 | nil => cases hb
 | cons c l ih =>
   have h1 := (List.pairwise_cons.1 hp).1
   unfold look
   rw [List.find?_cons]
   cases hb with
   | head => simp
   | tail _ hb =>
     have : c.n < b.n := h1 b hb
     have hne : (c.n == b.n) = false := by simp; omega
     rw [hne]
     exact ih (List.pairwise_cons.1 hp).2 hb
mutual
theorem hl_ap (f : Int → Option Sh) : ∀ (t : Sh) (h : Int), t.right = true → h ∈ (t.ap f).hl → (h ∈ t.hl ∧ f h = none) ∨ ∃ m s, m ∈ t.hl ∧ f m = some s ∧ h ∈ s.hl
 | .mk k n ks, h, hr, hh => by
   simp only [Sh.ap] at hh
   simp only [Sh.right, Bool.and_eq_true] at hr
   by_cases hk : (k == 4) = true
   · rw [if_pos hk] at hh
     have hl0 : ks.length = 0 := by
       have := hr.1
       simp only [nodeSh, Bool.and_eq_true, beq_iff_eq] at this
       have h4 := eq_of_beq hk
       rw [this.2.2.2.2, h4]; rfl
     have hks : ks = [] := List.eq_nil_of_length_eq_zero hl0
     subst hks
     have hn : n ∈ (Sh.mk k n []).hl := by simp [Sh.hl, hk]
     cases hf : f n with
     | none =>
       rw [hf] at hh
       have e : h = n := by simpa [Sh.hl, hlL, hk] using hh
       subst e
       exact .inl ⟨hn, hf⟩
     | some s =>
       rw [hf] at hh
       exact .inr ⟨n, s, hn, hf, hh⟩
   · rw [if_neg hk] at hh
     simp only [Sh.hl, if_neg hk, List.nil_append] at hh ⊢
     exact hl_apL f ks h hr.2 hh
theorem hl_apL (f : Int → Option Sh) : ∀ (l : List Sh) (h : Int), rightSL l = true → h ∈ hlL (apL f l) → (h ∈ hlL l ∧ f h = none) ∨ ∃ m s, m ∈ hlL l ∧ f m = some s ∧ h ∈ s.hl
 | [], h, _, hh => by simp [apL, hlL] at hh
 | t :: l, h, hr, hh => by
   simp only [rightSL, Bool.and_eq_true] at hr
   simp only [apL, hlL, List.mem_append] at hh ⊢
   rcases hh with hh | hh
   · rcases hl_ap f t h hr.1 hh with ⟨h1, h2⟩ | ⟨m, s, h1, h2, h3⟩
     · exact .inl ⟨.inl h1, h2⟩
     · exact .inr ⟨m, s, .inl h1, h2, h3⟩
   · rcases hl_apL f l h hr.2 hh with ⟨h1, h2⟩ | ⟨m, s, h1, h2, h3⟩
     · exact .inl ⟨.inr h1, h2⟩
     · exact .inr ⟨m, s, .inr h1, h2, h3⟩
end
mutual
theorem right_ap {f : Int → Option Sh} (hf : ∀ m s, f m = some s → s.right = true) : ∀ t : Sh, t.right = true → (t.ap f).right = true
 | .mk k n ks, hr => by
   simp only [Sh.ap]
   split
   · cases e : f n with
     | none => exact hr
     | some s => exact hf n s e
   · simp only [Sh.right, Bool.and_eq_true] at hr ⊢
     exact ⟨by rw [apL_map, List.length_map]; exact hr.1, right_apL hf ks hr.2⟩
theorem right_apL {f : Int → Option Sh} (hf : ∀ m s, f m = some s → s.right = true) : ∀ l : List Sh, rightSL l = true → rightSL (apL f l) = true
 | [], _ => rfl
 | t :: l, hr => by
   simp only [rightSL, Bool.and_eq_true] at hr
   simp only [apL, rightSL, right_ap hf t hr.1, right_apL hf l hr.2]; rfl
end
mutual
theorem ap_ap {f g k : Int → Option Sh} (hk : ∀ m, k m = match f m with | some s => some (s.ap g) | none => g m) : ∀ t : Sh, t.right = true → (t.ap f).ap g = t.ap k
 | .mk kd n ks, hr => by
   simp only [Sh.right, Bool.and_eq_true] at hr
   by_cases h4 : (kd == 4) = true
   · simp only [Sh.ap, if_pos h4, hk n]
     cases e : f n with
     | none => simp [Sh.ap, h4]
     | some s => simp
   · simp only [Sh.ap, if_neg h4, apL_apL hk ks hr.2]
theorem apL_apL {f g k : Int → Option Sh} (hk : ∀ m, k m = match f m with | some s => some (s.ap g) | none => g m) : ∀ l : List Sh, rightSL l = true → apL g (apL f l) = apL k l
 | [], _ => rfl
 | t :: l, hr => by
   simp only [rightSL, Bool.and_eq_true] at hr
   simp only [apL, ap_ap hk t hr.1, apL_apL hk l hr.2]
end
mutual
theorem ap_id {f : Int → Option Sh} : ∀ t : Sh, (∀ h ∈ t.hl, f h = none) → t.ap f = t
 | .mk k n ks, h => by
   simp only [Sh.ap]
   split
   · rename_i hk
     rw [h n (by simp [Sh.hl, hk])]; rfl
   · rename_i hk
     rw [apL_id ks fun x hx => h x (by simp [Sh.hl, hx])]
theorem apL_id {f : Int → Option Sh} : ∀ l : List Sh, (∀ h ∈ hlL l, f h = none) → apL f l = l
 | [], _ => rfl
 | t :: l, h => by simp only [apL]; rw [ap_id t fun x hx => h x (by simp [hlL, hx]), apL_id l fun x hx => h x (by simp [hlL, hx])]
end
theorem look_inc {l : List Bd} (hp : l.Pairwise fun b c => b.n < c.n) {m : Int} {s : Sh} : look l m = some s ↔ ⟨m, s⟩ ∈ l := by
 constructor
 · intro h
   obtain ⟨b, hb, e1, e2⟩ := look_some h
   cases b; simp only at e1 e2; subst e1; subst e2; exact hb
 · intro h; exact look_of hp h
theorem drop_ge {n : Int} : ∀ {l : List Bd}, (l.Pairwise fun b c => b.n < c.n) → ∀ b ∈ l.dropWhile (fun b => decide (b.n < n)), n ≤ b.n
 | [], _, b, hb => by simp at hb
 | c :: l, hp, b, hb => by
   rw [List.dropWhile_cons] at hb
   have h1 := (List.pairwise_cons.1 hp).1
   split at hb
   · exact drop_ge (List.pairwise_cons.1 hp).2 b hb
   · rename_i hc
     have hc : n ≤ c.n := by simpa using hc
     cases hb with
     | head => exact hc
     | tail _ hb => have := h1 b hb; omega
theorem take_lt {n : Int} : ∀ {l : List Bd}, ∀ b ∈ l.takeWhile (fun b => decide (b.n < n)), b.n < n := fun b hb => by
 have := List.all_takeWhile (p := fun b : Bd => decide (b.n < n)) (l := ‹_›)
 rw [List.all_eq_true] at this
 simpa using this b hb
structure CanBind (l : List Bd) (n : Int) (s : Sh) : Prop where
 ord : Ord l
 nn : 0 ≤ n
 new : look l n = none
 right : s.right = true
 unb : ∀ h ∈ s.hl, look l h = none
theorem bindS_mem {l l' : List Bd} {n : Int} {s : Sh} (h : bindS l n s = some l') : n ∉ s.hl ∧ (∀ b, b ∈ l' ↔ b = ⟨n, s⟩ ∨ b ∈ l.map fun b => (⟨b.n, b.s.ap (one n s)⟩ : Bd)) ∧ (∀ b ∈ l', b.s.size ≤ 100) := by
 unfold bindS at h
 split at h
 · cases h
 · rename_i hn
   simp only at h
   split at h
   · cases h
   · rename_i ha
     cases h
     refine ⟨by simpa using hn, fun b => ?_, fun b hb => ?_⟩
     · rw [List.mem_append, List.mem_cons]
       constructor
       · rintro (h | rfl | h)
         · exact .inr (List.takeWhile_sublist _ |>.mem h)
         · exact .inl rfl
         · exact .inr (List.dropWhile_sublist _ |>.mem h)
       · rintro (rfl | h)
         · exact .inr (.inl rfl)
         · rw [← List.takeWhile_append_dropWhile (p := fun b : Bd => decide (b.n < n)) (l := l.map fun b => (⟨b.n, b.s.ap (one n s)⟩ : Bd)), List.mem_append] at h
           rcases h with h | h
           · exact .inl h
           · exact .inr (.inr h)
     · rw [Bool.not_eq_true, List.any_eq_false] at ha
       have := ha b hb
       simp at this; omega
theorem bindS_inc {l l' : List Bd} {n : Int} {s : Sh} (hc : CanBind l n s) (h : bindS l n s = some l') : l'.Pairwise fun b c => b.n < c.n := by
 have hmap : (l.map fun b => (⟨b.n, b.s.ap (one n s)⟩ : Bd)).Pairwise fun b c => b.n < c.n := by
   rw [List.pairwise_map]; exact hc.ord.inc
 have hne : ∀ b ∈ l.map fun b => (⟨b.n, b.s.ap (one n s)⟩ : Bd), b.n ≠ n := by
   intro b hb
   obtain ⟨c, hc2, rfl⟩ := List.mem_map.1 hb
   exact look_none.1 hc.new c hc2
 unfold bindS at h
 split at h
 · cases h
 · simp only at h
   split at h
   · cases h
   · cases h
     rw [List.pairwise_append]
     refine ⟨hmap.sublist (List.takeWhile_sublist _), List.pairwise_cons.2 ⟨fun b hb => ?_, hmap.sublist (List.dropWhile_sublist _)⟩, fun a ha b hb => ?_⟩
     · have h1 := drop_ge hmap b hb
       have h2 := hne b (List.dropWhile_sublist _ |>.mem hb)
       show n < b.n
       omega
     · have h1 : a.n < n := take_lt a ha
       rw [List.mem_cons] at hb
       rcases hb with rfl | hb
       · exact h1
       · have := drop_ge hmap b hb; show a.n < b.n; omega
theorem bindS_look {l l' : List Bd} {n : Int} {s : Sh} (hc : CanBind l n s) (h : bindS l n s = some l') (m : Int) : look l' m = match look l m with | some u => some (u.ap (one n s)) | none => one n s m := by
 have hi := bindS_inc hc h
 obtain ⟨_, hm, _⟩ := bindS_mem h
 cases e : look l m with
 | some u =>
   rw [look_inc hc.ord.inc] at e
   show look l' m = some (u.ap (one n s))
   rw [look_inc hi, hm]
   exact .inr (List.mem_map.2 ⟨_, e, rfl⟩)
 | none =>
   show look l' m = one n s m
   unfold one
   split
   · rename_i e2; subst e2
     rw [look_inc hi, hm]; exact .inl rfl
   · rename_i e2
     rw [look_none] at e ⊢
     intro b hb
     rw [hm] at hb
     rcases hb with rfl | hb
     · exact fun q => e2 q.symm
     · obtain ⟨c, hc2, rfl⟩ := List.mem_map.1 hb
       exact e c hc2
theorem one_right {n : Int} {s : Sh} (hs : s.right = true) : ∀ m u, one n s m = some u → u.right = true := by
 intro m u h
 unfold one at h
 split at h
 · cases h; exact hs
 · cases h
theorem bindS_ord {l l' : List Bd} {n : Int} {s : Sh} (hc : CanBind l n s) (h : bindS l n s = some l') : Ord l' := by
 have hi := bindS_inc hc h
 obtain ⟨hn, hm, hs⟩ := bindS_mem h
 have hun : ∀ x, look l x = none → x ≠ n → look l' x = none := fun x h1 h2 => by
   rw [bindS_look hc h, h1]; unfold one; simp [h2]
 refine ⟨hi, fun b hb => ?_, fun b hb => ?_, hs, fun b hb x hx => ?_⟩
 · rw [hm] at hb
   rcases hb with rfl | hb
   · exact hc.nn
   · obtain ⟨c, hc2, rfl⟩ := List.mem_map.1 hb; exact hc.ord.nn c hc2
 · rw [hm] at hb
   rcases hb with rfl | hb
   · exact hc.right
   · obtain ⟨c, hc2, rfl⟩ := List.mem_map.1 hb
     exact right_ap (one_right hc.right) _ (hc.ord.right c hc2)
 · rw [hm] at hb
   rcases hb with rfl | hb
   · exact hun x (hc.unb x hx) (fun e => hn (e ▸ hx))
   · obtain ⟨c, hc2, rfl⟩ := List.mem_map.1 hb
     rcases hl_ap _ _ x (hc.ord.right c hc2) hx with ⟨h1, h2⟩ | ⟨m, u, h1, h2, h3⟩
     · refine hun x (hc.ord.idem c hc2 x h1) (fun e => ?_)
       subst e; unfold one at h2; simp at h2
     · unfold one at h2
       split at h2
       · cases h2; exact hun x (hc.unb x h3) (fun e => hn (e ▸ h3))
       · cases h2
theorem bindS_ap {l l' : List Bd} {n : Int} {s : Sh} (hc : CanBind l n s) (h : bindS l n s = some l') {t : Sh} (ht : t.right = true) : t.ap (look l') = (t.ap (look l)).ap (one n s) :=
 (ap_ap (bindS_look hc h) t ht).symm
theorem look_right {l : List Bd} (ho : Ord l) : ∀ m s, look l m = some s → s.right = true := fun m s h => by
 obtain ⟨b, hb, _, rfl⟩ := look_some h; exact ho.right b hb
theorem ap_unb {l : List Bd} (ho : Ord l) {t : Sh} (ht : t.right = true) : ∀ h ∈ (t.ap (look l)).hl, look l h = none := fun h hh => by
 rcases hl_ap _ _ h ht hh with ⟨_, h2⟩ | ⟨m, s, _, h2, h3⟩
 · exact h2
 · obtain ⟨b, hb, _, rfl⟩ := look_some h2
   exact ho.idem b hb h h3
theorem hole_of {t : Sh} (hr : t.right = true) (hk : (t.kind == 4) = true) : t = .mk 4 t.n [] ∧ 0 ≤ t.n ∧ t.hl = [t.n] := by
 obtain ⟨k, n, ks⟩ := t
 have h4 : k = 4 := eq_of_beq hk
 subst h4
 simp only [Sh.right, Bool.and_eq_true, nodeSh, beq_iff_eq, decide_eq_true_eq] at hr
 have hks : ks = [] := List.eq_nil_of_length_eq_zero (by rw [hr.1.2.2.2.2]; rfl)
 subst hks
 exact ⟨rfl, hr.1.2.2.1, by simp [Sh.hl, hlL, Sh.n]⟩
def Ext (l l' : List Bd) (hs : List Int) : Prop := l' = l ∨ ∃ hs' : List Int, hs'.length < hs.length ∧ (∀ x ∈ hs', x ∈ hs) ∧ ∀ t : Sh, t.right = true → (∀ h ∈ (t.ap (look l)).hl, h ∈ hs) → ∀ h ∈ (t.ap (look l')).hl, h ∈ hs'
theorem filter_lt {n : Int} : ∀ {hs : List Int}, n ∈ hs → (hs.filter (· != n)).length < hs.length := fun {hs} h => by
 have := List.length_filter_lt_length_iff_exists (p := (· != n)) (l := hs)
 exact this.2 ⟨n, h, by simp⟩
theorem bindS_ext {l l' : List Bd} {n : Int} {s : Sh} {hs : List Int} (hc : CanBind l n s) (h : bindS l n s = some l') (hn : n ∈ hs) (hsub : ∀ x ∈ s.hl, x ∈ hs) : Ext l l' hs := by
 obtain ⟨hns, _, _⟩ := bindS_mem h
 refine .inr ⟨hs.filter (· != n), filter_lt hn, fun x hx => (List.mem_filter.1 hx).1, fun t ht hh x hx => ?_⟩
 rw [bindS_ap hc h ht] at hx
 rw [List.mem_filter]
 rcases hl_ap _ _ x (right_ap (look_right hc.ord) t ht) hx with ⟨h1, h2⟩ | ⟨m, u, h1, h2, h3⟩
 · refine ⟨hh x h1, ?_⟩
   simp only [bne_iff_ne, ne_eq]
   intro e; subst e; unfold one at h2; simp at h2
 · unfold one at h2
   split at h2
   · cases h2
     refine ⟨hsub x h3, ?_⟩
     simp only [bne_iff_ne, ne_eq]
     intro e; subst e; exact hns h3
   · cases h2
mutual
theorem uni_mono : ∀ (f : Nat) (l : List Bd) (a b : Sh) (r : Option (List Bd)), uni f l a b = some r → ∀ g, f ≤ g → uni g l a b = some r
 | 0, _, _, _, _, h, _, _ => by simp [uni] at h
 | f + 1, l, a, b, r, h, g, hg => by
   obtain ⟨g', rfl⟩ : ∃ g', g = g' + 1 := ⟨g - 1, by omega⟩
   simp only [uni] at h ⊢
   generalize (if swp (a.ap (look l)) (b.ap (look l)) = true then b.ap (look l) else a.ap (look l)) = a2 at h ⊢
   generalize (if swp (a.ap (look l)) (b.ap (look l)) = true then a.ap (look l) else b.ap (look l)) = b2 at h ⊢
   split at h
   · rename_i h1; rw [if_pos h1]; exact h
   · rename_i h1
     rw [if_neg h1]
     split at h
     · rename_i h2; rw [if_pos h2]; exact h
     · rename_i h2
       rw [if_neg h2]
       split at h
       · rename_i h3; rw [if_pos h3]; exact uniL_mono f l _ _ r h g' (by omega)
       · rename_i h3; rw [if_neg h3]; exact h
theorem uniL_mono : ∀ (f : Nat) (l : List Bd) (a b : List Sh) (r : Option (List Bd)), uniL f l a b = some r → ∀ g, f ≤ g → uniL g l a b = some r
 | f, l, [], b, r, h, g, hg => by simpa [uniL] using h
 | f, l, a :: la, [], r, h, g, hg => by simp [uniL] at h
 | f, l, a :: la, b :: lb, r, h, g, hg => by
   simp only [uniL] at h ⊢
   cases e : uni f l a b with
   | none => rw [e] at h; cases h
   | some q =>
     rw [uni_mono f l a b q e g hg]
     rw [e] at h
     cases q with
     | none => exact h
     | some l' => exact uniL_mono f l' la lb r h g hg
end
theorem Ext.trans {l l1 l2 : List Bd} {hs hs' : List Int} (hlt : hs'.length < hs.length) (hsub : ∀ x ∈ hs', x ∈ hs) (h1 : ∀ t : Sh, t.right = true → (∀ h ∈ (t.ap (look l)).hl, h ∈ hs) → ∀ h ∈ (t.ap (look l1)).hl, h ∈ hs') (h2 : Ext l1 l2 hs') : Ext l l2 hs := by
 rcases h2 with rfl | ⟨hs2, q1, q2, q3⟩
 · exact .inr ⟨hs', hlt, hsub, h1⟩
 · exact .inr ⟨hs2, by omega, fun x hx => hsub x (q2 x hx), fun t ht hh => q3 t ht (h1 t ht hh)⟩
def Uni1 (m sz : Nat) : Prop := ∀ (l : List Bd) (a b : Sh) (hs : List Int), Ord l → a.right = true → b.right = true → (∀ h ∈ (a.ap (look l)).hl, h ∈ hs) → (∀ h ∈ (b.ap (look l)).hl, h ∈ hs) → hs.length ≤ m → (a.ap (look l)).size ≤ sz →
 ∃ f r, uni f l a b = some r ∧ ∀ l', r = some l' → Ord l' ∧ Ext l l' hs
theorem uniL_total {m sz : Nat} (ih : ∀ m', m' < m → ∀ sz', Uni1 m' sz') (ih2 : ∀ sz', sz' < sz → Uni1 m sz') : ∀ (la lb : List Sh) (l : List Bd) (hs : List Int), Ord l → la.length = lb.length → (∀ x ∈ la, x.right = true) → (∀ x ∈ lb, x.right = true) →
   (∀ x ∈ la, ∀ h ∈ (x.ap (look l)).hl, h ∈ hs) → (∀ x ∈ lb, ∀ h ∈ (x.ap (look l)).hl, h ∈ hs) → hs.length ≤ m → ((∀ x ∈ la, (x.ap (look l)).size < sz) ∨ hs.length < m) → ∃ f r, uniL f l la lb = some r ∧ ∀ l', r = some l' → Ord l' ∧ Ext l l' hs
 | [], lb, l, hs, ho, _, _, _, _, _, _, _ => ⟨0, some l, by simp [uniL], fun l' e => by cases e; exact ⟨ho, .inl rfl⟩⟩
 | a :: la, [], _, _, _, hl, _, _, _, _, _, _ => by simp at hl
 | a :: la, b :: lb, l, hs, ho, hl, ha, hb, ha2, hb2, hm, hc => by
   have h1 : ∃ f r, uni f l a b = some r ∧ ∀ l', r = some l' → Ord l' ∧ Ext l l' hs := by
     rcases hc with hc | hc
     · have hlt := hc a (List.mem_cons_self ..)
       exact ih2 _ hlt l a b hs ho (ha a (List.mem_cons_self ..)) (hb b (List.mem_cons_self ..)) (ha2 a (List.mem_cons_self ..)) (hb2 b (List.mem_cons_self ..)) hm (Nat.le_refl _)
     · exact ih _ hc _ l a b hs ho (ha a (List.mem_cons_self ..)) (hb b (List.mem_cons_self ..)) (ha2 a (List.mem_cons_self ..)) (hb2 b (List.mem_cons_self ..)) (Nat.le_refl _) (Nat.le_refl _)
   obtain ⟨f1, r1, e1, p1⟩ := h1
   have ta : ∀ x ∈ la, x.right = true := fun x hx => ha x (List.mem_cons_of_mem _ hx)
   have tb : ∀ x ∈ lb, x.right = true := fun x hx => hb x (List.mem_cons_of_mem _ hx)
   have ta2 : ∀ x ∈ la, ∀ h ∈ (x.ap (look l)).hl, h ∈ hs := fun x hx => ha2 x (List.mem_cons_of_mem _ hx)
   have tb2 : ∀ x ∈ lb, ∀ h ∈ (x.ap (look l)).hl, h ∈ hs := fun x hx => hb2 x (List.mem_cons_of_mem _ hx)
   cases r1 with
   | none => exact ⟨f1, none, by simp only [uniL, e1], fun l' e => by cases e⟩
   | some l1 =>
     obtain ⟨o1, x1⟩ := p1 l1 rfl
     have key : ∃ f r, uniL f l1 la lb = some r ∧ ∀ l', r = some l' → Ord l' ∧ Ext l l' hs := by
       rcases x1 with rfl | ⟨hs', q1, q2, q3⟩
       · exact uniL_total ih ih2 la lb l1 hs ho (by simpa using hl) ta tb ta2 tb2 hm (hc.imp (fun h x hx => h x (List.mem_cons_of_mem _ hx)) id)
       · obtain ⟨f2, r2, e2, p2⟩ := uniL_total ih ih2 la lb l1 hs' o1 (by simpa using hl) ta tb (fun x hx => q3 x (ta x hx) (ta2 x hx)) (fun x hx => q3 x (tb x hx) (tb2 x hx)) (by omega) (.inr (by omega))
         exact ⟨f2, r2, e2, fun l' e => ⟨(p2 l' e).1, Ext.trans q1 q2 q3 (p2 l' e).2⟩⟩
     obtain ⟨f2, r2, e2, p2⟩ := key
     refine ⟨max f1 f2, r2, ?_, p2⟩
     simp only [uniL, uni_mono f1 l a b _ e1 (max f1 f2) (Nat.le_max_left ..)]
     exact uniL_mono f2 l1 la lb _ e2 (max f1 f2) (Nat.le_max_right ..)
theorem rightSL_mem {l : List Sh} (h : rightSL l = true) : ∀ x ∈ l, x.right = true := by
 rw [rightSL_all, List.all_eq_true] at h; exact h
theorem kids_len {a b : Sh} (ha : a.right = true) (hb : b.right = true) (hk : (a.kind == b.kind) = true) : a.kids.length = b.kids.length := by
 obtain ⟨k, n, ks⟩ := a
 obtain ⟨k', n', ks'⟩ := b
 simp only [Sh.right, Bool.and_eq_true, nodeSh, beq_iff_eq] at ha hb
 have hk : k = k' := eq_of_beq hk
 subst hk
 show ks.length = ks'.length
 rw [ha.1.2.2.2.2, hb.1.2.2.2.2]
theorem kids_hl {a : Sh} : ∀ x ∈ a.kids, ∀ h ∈ x.hl, h ∈ a.hl := fun x hx h hh => by
 obtain ⟨k, n, ks⟩ := a
 simp only [Sh.hl, List.mem_append]
 exact .inr (mem_hlL.2 ⟨x, hx, hh⟩)
theorem kids_size {a : Sh} : ∀ x ∈ a.kids, x.size < a.size := fun x hx => by
 obtain ⟨k, n, ks⟩ := a
 have := sh_size_le (l := ks) hx
 simp only [Sh.size]; omega
theorem kids_right {a : Sh} (h : a.right = true) : ∀ x ∈ a.kids, x.right = true := by
 obtain ⟨k, n, ks⟩ := a
 simp only [Sh.right, Bool.and_eq_true] at h
 exact rightSL_mem h.2
theorem uni1_all : ∀ m sz, Uni1 m sz := by
 intro m
 induction m using Nat.strongRecOn with
 | _ m ih =>
 intro sz
 induction sz using Nat.strongRecOn with
 | _ sz ih2 =>
 intro l a b hs ho ha hb hha hhb hm hsz
 have ra := right_ap (look_right ho) a ha
 have rb := right_ap (look_right ho) b hb
 have ua := ap_unb ho ha
 have ub := ap_unb ho hb
 by_cases hs1 : swp (a.ap (look l)) (b.ap (look l)) = true
 · -- b is a hole
   have hbk : ((b.ap (look l)).kind == 4) = true := by
     unfold swp at hs1
     simp only [Bool.or_eq_true, Bool.and_eq_true] at hs1
     rcases hs1 with h | h
     · exact h.2
     · exact h.2.1
   obtain ⟨e4, n4, h4⟩ := hole_of rb hbk
   by_cases h1 : (((b.ap (look l)).kind == 4) && (((a.ap (look l)).kind == 4) && ((b.ap (look l)).n == (a.ap (look l)).n))) = true
   · refine ⟨1, some l, by simp only [uni, if_pos hs1]; rw [if_pos h1], fun l' e => by cases e; exact ⟨ho, .inl rfl⟩⟩
   · refine ⟨1, bindS l (b.ap (look l)).n (a.ap (look l)), by simp only [uni, if_pos hs1]; rw [if_neg h1, if_pos hbk], fun l' e => ?_⟩
     have hin : (b.ap (look l)).n ∈ (b.ap (look l)).hl := by rw [h4]; exact List.mem_singleton.2 rfl
     have hc : CanBind l (b.ap (look l)).n (a.ap (look l)) := ⟨ho, n4, ub _ hin, ra, ua⟩
     exact ⟨bindS_ord hc e, bindS_ext hc e (hhb _ hin) hha⟩
 · by_cases h1 : (((a.ap (look l)).kind == 4) && (((b.ap (look l)).kind == 4) && ((a.ap (look l)).n == (b.ap (look l)).n))) = true
   · refine ⟨1, some l, by simp only [uni, if_neg hs1]; rw [if_pos h1], fun l' e => by cases e; exact ⟨ho, .inl rfl⟩⟩
   · by_cases hak : ((a.ap (look l)).kind == 4) = true
     · obtain ⟨e4, n4, h4⟩ := hole_of ra hak
       refine ⟨1, bindS l (a.ap (look l)).n (b.ap (look l)), by simp only [uni, if_neg hs1]; rw [if_neg h1, if_pos hak], fun l' e => ?_⟩
       have hin : (a.ap (look l)).n ∈ (a.ap (look l)).hl := by rw [h4]; exact List.mem_singleton.2 rfl
       have hc : CanBind l (a.ap (look l)).n (b.ap (look l)) := ⟨ho, n4, ua _ hin, rb, ub⟩
       exact ⟨bindS_ord hc e, bindS_ext hc e (hha _ hin) hhb⟩
     · by_cases hk : ((a.ap (look l)).kind == (b.ap (look l)).kind) = true
       · have id1 : ∀ x ∈ (a.ap (look l)).kids, x.ap (look l) = x := fun x hx => ap_id x fun h hh => ua h (kids_hl x hx h hh)
         have id2 : ∀ x ∈ (b.ap (look l)).kids, x.ap (look l) = x := fun x hx => ap_id x fun h hh => ub h (kids_hl x hx h hh)
         obtain ⟨f, r, e, p⟩ := uniL_total (m := m) (sz := sz) ih ih2 (a.ap (look l)).kids (b.ap (look l)).kids l hs ho (kids_len ra rb hk) (kids_right ra) (kids_right rb)
           (fun x hx h hh => by rw [id1 x hx] at hh; exact hha h (kids_hl x hx h hh)) (fun x hx h hh => by rw [id2 x hx] at hh; exact hhb h (kids_hl x hx h hh)) hm
           (.inl fun x hx => by rw [id1 x hx]; have := kids_size x hx; omega)
         exact ⟨f + 1, r, by simp only [uni, if_neg hs1]; rw [if_neg h1, if_neg hak, if_pos hk]; exact e, p⟩
       · exact ⟨1, none, by simp only [uni, if_neg hs1]; rw [if_neg h1, if_neg hak, if_neg hk], fun l' e => by cases e⟩
theorem uni_total {l : List Bd} {a b : Sh} (ho : Ord l) (ha : a.right = true) (hb : b.right = true) : ∃ f r, uni f l a b = some r ∧ ∀ l', r = some l' → Ord l' := by
 obtain ⟨f, r, e, p⟩ := uni1_all _ _ l a b ((a.ap (look l)).hl ++ (b.ap (look l)).hl) ho ha hb (fun h hh => List.mem_append.2 (.inl hh)) (fun h hh => List.mem_append.2 (.inr hh)) (Nat.le_refl _) (Nat.le_refl _)
 exact ⟨f, r, e, fun l' h => (p l' h).1⟩
def More (l l' : List Bd) : Prop := ∀ t : Sh, t.right = true → (t.ap (look l)).ap (look l') = t.ap (look l')
theorem More.refl {l : List Bd} (ho : Ord l) : More l l := fun t ht => ap_id _ (ap_unb ho ht)
theorem More.trans {l l1 l2 : List Bd} (ho : Ord l) (o1 : Ord l1) (h1 : More l l1) (h2 : More l1 l2) : More l l2 := fun t ht => by
 have r := right_ap (look_right ho) t ht
 rw [← h2 _ r, h1 t ht, h2 t ht]
theorem bindS_more {l l' : List Bd} {n : Int} {s : Sh} (hc : CanBind l n s) (h : bindS l n s = some l') : More l l' := fun t ht => by
 have r := right_ap (look_right hc.ord) t ht
 rw [bindS_ap hc h r, bindS_ap hc h ht, ap_id (f := look l) (t.ap (look l)) (ap_unb hc.ord ht)]
theorem one_hole {n : Int} {s : Sh} : (Sh.mk 4 n []).ap (one n s) = s := by simp [Sh.ap, one]
theorem one_id {n : Int} {s t : Sh} (h : n ∉ t.hl) : t.ap (one n s) = t := ap_id t fun m hm => by
 unfold one; rw [if_neg]; intro e; exact h (e ▸ hm)
theorem right_n {a : Sh} (h : a.right = true) (hk : ¬ ((a.kind == 4) = true)) : a.n = 0 := by
 obtain ⟨k, n, ks⟩ := a
 simp only [Sh.right, Bool.and_eq_true, nodeSh, beq_iff_eq, Bool.or_eq_true] at h
 rcases h.1.2.2.2.1 with h | h
 · exact h
 · exact absurd (by simp [Sh.kind, h]) hk
theorem ap_node {f : Int → Option Sh} {a : Sh} (hk : ¬ ((a.kind == 4) = true)) : a.ap f = .mk a.kind a.n (a.kids.map (Sh.ap f)) := by
 obtain ⟨k, n, ks⟩ := a
 simp only [Sh.ap]
 rw [if_neg (show ¬ ((k == 4) = true) from hk), apL_map]; rfl
mutual
theorem uni_sound : ∀ (f : Nat) (l l' : List Bd) (a b : Sh), uni f l a b = some (some l') → Ord l → a.right = true → b.right = true → Ord l' ∧ More l l' ∧ a.ap (look l') = b.ap (look l')
 | 0, _, _, _, _, h, _, _, _ => by simp [uni] at h
 | f + 1, l, l', a, b, h, ho, ha, hb => by
   have ra := right_ap (look_right ho) a ha
   have rb := right_ap (look_right ho) b hb
   have ua := ap_unb ho ha
   have ub := ap_unb ho hb
   have bindc : ∀ x y : Sh, x.right = true → y.right = true → ((x.ap (look l)).kind == 4) = true → bindS l (x.ap (look l)).n (y.ap (look l)) = some l' → Ord l' ∧ More l l' ∧ x.ap (look l') = y.ap (look l') := by
     intro x y hx hy hxk e
     have rx := right_ap (look_right ho) x hx
     have ry := right_ap (look_right ho) y hy
     obtain ⟨e4, n4, h4⟩ := hole_of rx hxk
     have hin : (x.ap (look l)).n ∈ (x.ap (look l)).hl := by rw [h4]; exact List.mem_singleton.2 rfl
     have hc : CanBind l (x.ap (look l)).n (y.ap (look l)) := ⟨ho, n4, ap_unb ho hx _ hin, ry, ap_unb ho hy⟩
     refine ⟨bindS_ord hc e, bindS_more hc e, ?_⟩
     rw [bindS_ap hc e hx, bindS_ap hc e hy, one_id (bindS_mem e).1]
     generalize (x.ap (look l)) = z at e4 ⊢
     rw [e4]; exact one_hole
   simp only [uni] at h
   by_cases hs1 : swp (a.ap (look l)) (b.ap (look l)) = true
   · simp only [if_pos hs1] at h
     split at h
     · rename_i h1
       simp only [Option.some.injEq] at h; subst h
       simp only [Bool.and_eq_true] at h1
       refine ⟨ho, More.refl ho, ?_⟩
       obtain ⟨e1, _, _⟩ := hole_of rb h1.1
       obtain ⟨e2, _, _⟩ := hole_of ra h1.2.1
       rw [e1, e2, eq_of_beq h1.2.2]
     · split at h
       · rename_i h2
         obtain ⟨q1, q2, q3⟩ := bindc b a hb ha h2 (by simpa using h)
         exact ⟨q1, q2, q3.symm⟩
       · rename_i h2
         exfalso
         unfold swp at hs1
         simp only [Bool.or_eq_true, Bool.and_eq_true] at hs1
         rcases hs1 with h3 | h3
         · exact h2 h3.2
         · exact h2 h3.2.1
   · simp only [if_neg hs1] at h
     split at h
     · rename_i h1
       simp only [Option.some.injEq] at h; subst h
       simp only [Bool.and_eq_true] at h1
       refine ⟨ho, More.refl ho, ?_⟩
       obtain ⟨e1, _, _⟩ := hole_of ra h1.1
       obtain ⟨e2, _, _⟩ := hole_of rb h1.2.1
       rw [e1, e2, eq_of_beq h1.2.2]
     · rename_i h1
       split at h
       · rename_i h2
         exact bindc a b ha hb h2 (by simpa using h)
       · rename_i h2
         split at h
         · rename_i h3
           obtain ⟨q1, q2, q3⟩ := uniL_sound f l l' _ _ h ho (kids_right ra) (kids_right rb) (kids_len ra rb h3)
           refine ⟨q1, q2, ?_⟩
           rw [← q2 a ha, ← q2 b hb]
           have hbk : ¬ (((b.ap (look l)).kind == 4) = true) := fun q => h2 (by rw [eq_of_beq h3]; exact q)
           rw [ap_node h2, ap_node hbk, q3, eq_of_beq h3, right_n ra h2, right_n rb hbk]
         · cases h
theorem uniL_sound : ∀ (f : Nat) (l l' : List Bd) (la lb : List Sh), uniL f l la lb = some (some l') → Ord l → (∀ x ∈ la, x.right = true) → (∀ x ∈ lb, x.right = true) → la.length = lb.length → Ord l' ∧ More l l' ∧ la.map (Sh.ap (look l')) = lb.map (Sh.ap (look l'))
 | f, l, l', [], [], h, ho, _, _, _ => by simp [uniL] at h; subst h; exact ⟨ho, More.refl ho, rfl⟩
 | f, l, l', [], _ :: _, h, ho, _, _, hl => by simp at hl
 | f, l, l', _ :: _, [], h, ho, _, _, hl => by simp at hl
 | f, l, l', a :: la, b :: lb, h, ho, ha, hb, hl => by
   simp only [uniL] at h
   cases e : uni f l a b with
   | none => rw [e] at h; cases h
   | some q =>
     rw [e] at h
     cases q with
     | none => cases h
     | some l1 =>
       obtain ⟨o1, m1, s1⟩ := uni_sound f l l1 a b e ho (ha a (List.mem_cons_self ..)) (hb b (List.mem_cons_self ..))
       obtain ⟨o2, m2, s2⟩ := uniL_sound f l1 l' la lb h o1 (fun x hx => ha x (List.mem_cons_of_mem _ hx)) (fun x hx => hb x (List.mem_cons_of_mem _ hx)) (by simpa using hl)
       refine ⟨o2, More.trans ho o1 m1 m2, ?_⟩
       simp only [List.map_cons, s2]
       rw [← m2 a (ha a (List.mem_cons_self ..)), s1, m2 b (hb b (List.mem_cons_self ..))]
end
def Sat (θ : Int → Sh) (l : List Bd) : Prop := ∀ n s, look l n = some s → θ n = s.ap fun n => some (θ n)
theorem Sat.ap {θ : Int → Sh} {l : List Bd} (h : Sat θ l) {t : Sh} (ht : t.right = true) : (t.ap (look l)).ap (fun n => some (θ n)) = t.ap fun n => some (θ n) :=
 ap_ap (fun m => by cases e : look l m with
   | none => rfl
   | some s => simp only [h m s e]) t ht
mutual
theorem size_ap (θ : Int → Sh) : ∀ t : Sh, t.right = true → t.size ≤ (t.ap fun n => some (θ n)).size
 | .mk k n ks, hr => by
   simp only [Sh.ap]
   split
   · rename_i hk
     have := (hole_of hr hk).1
     have hks : ks = [] := by injection this
     subst hks
     simp only [Option.getD_some, Sh.size, sizeSL]; exact sh_size_pos _
   · simp only [Sh.right, Bool.and_eq_true] at hr
     simp only [Sh.size]; have := sizeSL_ap θ ks hr.2; omega
theorem sizeSL_ap (θ : Int → Sh) : ∀ l : List Sh, rightSL l = true → sizeSL l ≤ sizeSL (apL (fun n => some (θ n)) l)
 | [], _ => Nat.le_refl _
 | t :: l, hr => by
   simp only [rightSL, Bool.and_eq_true] at hr
   simp only [apL, sizeSL]; have := size_ap θ t hr.1; have := sizeSL_ap θ l hr.2; omega
end
mutual
theorem hole_size (θ : Int → Sh) : ∀ (t : Sh) (m : Int), t.right = true → m ∈ t.hl → (θ m).size ≤ (t.ap fun n => some (θ n)).size ∧ (¬ ((t.kind == 4) = true) → (θ m).size < (t.ap fun n => some (θ n)).size)
 | .mk k n ks, m, hr, h => by
   simp only [Sh.ap]
   by_cases hk : (k == 4) = true
   · rw [if_pos hk]
     have h4 := (hole_of hr hk).2.2
     rw [h4] at h
     have e : m = n := by simpa [Sh.n] using h
     subst e
     exact ⟨by simp, fun q => absurd hk q⟩
   · simp only [Sh.hl, List.mem_append] at h
     rw [if_neg hk] at h ⊢
     simp only [Sh.right, Bool.and_eq_true] at hr
     have h : m ∈ hlL ks := by simpa using h
     have := hole_sizeL θ ks m hr.2 h
     simp only [Sh.size]
     exact ⟨by omega, fun _ => by omega⟩
theorem hole_sizeL (θ : Int → Sh) : ∀ (l : List Sh) (m : Int), rightSL l = true → m ∈ hlL l → (θ m).size ≤ sizeSL (apL (fun n => some (θ n)) l)
 | [], m, _, h => by simp [hlL] at h
 | t :: l, m, hr, h => by
   simp only [hlL, List.mem_append] at h
   simp only [rightSL, Bool.and_eq_true] at hr
   simp only [apL, sizeSL]
   rcases h with h | h
   · have := (hole_size θ t m hr.1 h).1; omega
   · have := hole_sizeL θ l m hr.2 h; omega
end
theorem bindS_complete {θ : Int → Sh} (hθ : ∀ n, (θ n).size ≤ 100) {l : List Bd} {n : Int} {s : Sh} (hc : CanBind l n s) (hs : Sat θ l) (he : θ n = s.ap fun n => some (θ n)) (hne : s ≠ .mk 4 n []) : ∃ l', bindS l n s = some l' ∧ Sat θ l' := by
 have hn : n ∉ s.hl := by
   intro hm
   by_cases hk : (s.kind == 4) = true
   · obtain ⟨e, _, h4⟩ := hole_of hc.right hk
     rw [h4] at hm
     have : n = s.n := by simpa using hm
     exact hne (by rw [e, ← this])
   · have := (hole_size θ s n hc.right hm).2 hk
     rw [← he] at this; omega
 have hone : ∀ t : Sh, t.right = true → (t.ap (one n s)).ap (fun n => some (θ n)) = t.ap fun n => some (θ n) := fun t ht =>
   ap_ap (fun m => by
     unfold one
     by_cases e : m = n
     · subst e; rw [if_pos rfl, he]
     · simp only [if_neg e]) t ht
 have hsm : ∀ (m : Int) (t : Sh), t.right = true → θ m = t.ap (fun n => some (θ n)) → t.size ≤ 100 := fun m t ht e => by
   have h1 := size_ap θ t ht
   rw [← e] at h1
   have := hθ m; omega
 cases hb : bindS l n s with
 | none =>
   exfalso
   unfold bindS at hb
   rw [if_neg (by simpa using hn)] at hb
   simp only at hb
   split at hb
   · rename_i ha
     rw [List.any_eq_true] at ha
     obtain ⟨b, hb2, hgt⟩ := ha
     have hgt : (100 : Int) < (b.s.size : Int) := by simpa using hgt
     have : b.s.size ≤ 100 := by
       rw [List.mem_append, List.mem_cons] at hb2
       have hout : ∀ b ∈ l.map fun b => (⟨b.n, b.s.ap (one n s)⟩ : Bd), b.s.size ≤ 100 := fun b hb => by
         obtain ⟨c, hc2, rfl⟩ := List.mem_map.1 hb
         refine hsm c.n _ (right_ap (one_right hc.right) _ (hc.ord.right c hc2)) ?_
         show θ c.n = (c.s.ap (one n s)).ap _
         rw [hone _ (hc.ord.right c hc2)]
         exact hs c.n c.s ((look_inc hc.ord.inc).2 (by cases c; exact hc2))
       rcases hb2 with h | rfl | h
       · exact hout b (List.takeWhile_sublist _ |>.mem h)
       · exact hsm n s hc.right he
       · exact hout b (List.dropWhile_sublist _ |>.mem h)
     omega
   · cases hb
 | some l' =>
   refine ⟨l', rfl, fun m t ht => ?_⟩
   rw [bindS_look hc hb] at ht
   cases e : look l m with
   | some u =>
     rw [e] at ht
     simp only [Option.some.injEq] at ht
     rw [← ht, hone _ (look_right hc.ord m u e)]
     exact hs m u e
   | none =>
     rw [e] at ht
     simp only [one] at ht
     split at ht
     · rename_i e2; cases ht; rw [e2]; exact he
     · cases ht
mutual
theorem uni_complete (θ : Int → Sh) (hθ : ∀ n, (θ n).size ≤ 100) : ∀ (f : Nat) (l : List Bd) (a b : Sh) (r : Option (List Bd)), uni f l a b = some r → Ord l → a.right = true → b.right = true → Sat θ l → (a.ap fun n => some (θ n)) = (b.ap fun n => some (θ n)) → ∃ l', r = some l' ∧ Sat θ l'
 | 0, _, _, _, _, h, _, _, _, _, _ => by simp [uni] at h
 | f + 1, l, a, b, r, h, ho, ha, hb, hs, he => by
   have ra := right_ap (look_right ho) a ha
   have rb := right_ap (look_right ho) b hb
   have he1 : (a.ap (look l)).ap (fun n => some (θ n)) = (b.ap (look l)).ap fun n => some (θ n) := by rw [hs.ap ha, hs.ap hb]; exact he
   have bindc : ∀ x y : Sh, x.right = true → y.right = true → ((x.ap (look l)).kind == 4) = true → (x.ap (look l)).ap (fun n => some (θ n)) = (y.ap (look l)).ap (fun n => some (θ n)) → ¬ ((((x.ap (look l)).kind == 4) && (((y.ap (look l)).kind == 4) && ((x.ap (look l)).n == (y.ap (look l)).n))) = true) → r = bindS l (x.ap (look l)).n (y.ap (look l)) → ∃ l', r = some l' ∧ Sat θ l' := by
     intro x y hx hy hxk hxy hnn e
     have rx := right_ap (look_right ho) x hx
     have ry := right_ap (look_right ho) y hy
     obtain ⟨e4, n4, h4⟩ := hole_of rx hxk
     have hin : (x.ap (look l)).n ∈ (x.ap (look l)).hl := by rw [h4]; exact List.mem_singleton.2 rfl
     have hc : CanBind l (x.ap (look l)).n (y.ap (look l)) := ⟨ho, n4, ap_unb ho hx _ hin, ry, ap_unb ho hy⟩
     have hth : θ (x.ap (look l)).n = (y.ap (look l)).ap fun n => some (θ n) := by
       rw [← hxy, e4]; simp [Sh.ap, Sh.n]
     obtain ⟨l', q1, q2⟩ := bindS_complete hθ hc hs hth (fun q => hnn (by rw [hxk, q]; simp [Sh.kind, Sh.n]))
     exact ⟨l', by rw [e, q1], q2⟩
   simp only [uni] at h
   by_cases hs1 : swp (a.ap (look l)) (b.ap (look l)) = true
   · simp only [if_pos hs1] at h
     split at h
     · simp only [Option.some.injEq] at h; subst h; exact ⟨l, rfl, hs⟩
     · rename_i h1
       split at h
       · rename_i h2
         exact bindc b a hb ha h2 he1.symm h1 (by simpa using h.symm)
       · rename_i h2
         exfalso
         unfold swp at hs1
         simp only [Bool.or_eq_true, Bool.and_eq_true] at hs1
         rcases hs1 with h3 | h3
         · exact h2 h3.2
         · exact h2 h3.2.1
   · simp only [if_neg hs1] at h
     split at h
     · simp only [Option.some.injEq] at h; subst h; exact ⟨l, rfl, hs⟩
     · rename_i h1
       split at h
       · rename_i h2
         exact bindc a b ha hb h2 he1 h1 (by simpa using h.symm)
       · rename_i h2
         have hbk : ¬ (((b.ap (look l)).kind == 4) = true) := by
           intro q
           apply hs1
           unfold swp
           simp only [Bool.or_eq_true, Bool.and_eq_true]
           exact .inl ⟨by simpa using h2, q⟩
         rw [ap_node h2, ap_node hbk] at he1
         simp only [Sh.mk.injEq] at he1
         split at h
         · rename_i h3
           exact uniL_complete θ hθ f l _ _ r h ho (kids_right ra) (kids_right rb) hs he1.2.2
         · rename_i h3; exact absurd (by rw [he1.1]; simp) h3
theorem uniL_complete (θ : Int → Sh) (hθ : ∀ n, (θ n).size ≤ 100) : ∀ (f : Nat) (l : List Bd) (la lb : List Sh) (r : Option (List Bd)), uniL f l la lb = some r → Ord l → (∀ x ∈ la, x.right = true) → (∀ x ∈ lb, x.right = true) → Sat θ l → la.map (Sh.ap fun n => some (θ n)) = lb.map (Sh.ap fun n => some (θ n)) → ∃ l', r = some l' ∧ Sat θ l'
 | f, l, [], lb, r, h, ho, _, _, hs, _ => by simp [uniL] at h; exact ⟨l, h.symm, hs⟩
 | f, l, a :: la, [], r, h, ho, _, _, hs, he => by simp at he
 | f, l, a :: la, b :: lb, r, h, ho, ha, hb, hs, he => by
   simp only [List.map_cons, List.cons.injEq] at he
   simp only [uniL] at h
   cases e : uni f l a b with
   | none => rw [e] at h; cases h
   | some q =>
     obtain ⟨l1, q1, s1⟩ := uni_complete θ hθ f l a b q e ho (ha a (List.mem_cons_self ..)) (hb b (List.mem_cons_self ..)) hs he.1
     subst q1
     rw [e] at h
     obtain ⟨o1, _, _⟩ := uni_sound f l l1 a b e ho (ha a (List.mem_cons_self ..)) (hb b (List.mem_cons_self ..))
     exact uniL_complete θ hθ f l1 la lb r h o1 (fun x hx => ha x (List.mem_cons_of_mem _ hx)) (fun x hx => hb x (List.mem_cons_of_mem _ hx)) s1 he.2
end
end Go.Proofs.YthnhddjlgjecdaaGreatDoor
namespace Go.Proofs.YthnhddjlgjecdaaGreatDoor.X
open Go
abbrev chain1 (v : Value) : List PanicEntry := [{ v, recovered := false }]
def OkP (P : Program) (f : FuncId) (args : Array Value) (E : World) (H : GH) (L : List It) (v : Value) (Pn : Prop) (LP : List It) (R : Value → GH → List It → Prop) : Prop :=
 ∀ w, St E H L w → Calls P f args w fun e w' => (∃ r H' L', e = .returned r ∧ LE H H' ∧ St E H' L' w' ∧ R r H' L') ∨ (∃ H', Pn ∧ e = .panicked (chain1 v) ∧ LE H H' ∧ St E H' LP w')
def FinP (P : Program) (fn : Func) (E : World) (H : GH) (v : Value) (Pn : Prop) (LP : List It) (R : Value → GH → List It → Prop) : Exit → Act → World → Prop :=
 bodyPost P fn fun e w' => (∃ r H' L', e = .returned r ∧ LE H H' ∧ St E H' L' w' ∧ R r H' L') ∨ (∃ H', Pn ∧ e = .panicked (chain1 v) ∧ LE H H' ∧ St E H' LP w')
section
variable {P : Program} {ops : Array Oper} {Q : Exit → Act → World → Prop} {γ : Gd P ops Q} {rest : List Oper} {o : Oper} {E w : World} {H : GH} {N : Nat} {D : List Deferred} {F : List (Nat × Value)} {L LP : List It} {a : Act} {v : Value} {Pn : Prop}
variable {x : Operand} {d : Nat}
theorem enterP {f : FuncId} {fn : Func} {c : Code} {args : List Value} {R : Value → GH → List It → Prop} (F : List (Nat × Value)) (hf : P.funcs[f]? = some fn) (hb : fn.body = some c) (hn : fn.ntmps = N)
   (hF : F.map (fun p => args.toArray[p.1]?) = F.map (fun p => some p.2)) (hs : Nat.ble args.length N = true) (h : ∀ a w, S E H N [] F L a w → c.wp P (FinP P fn E H v Pn LP R) a w) : OkP P f args.toArray E H L v Pn LP R := fun w hw =>
 calls_of_wp hf hb (h _ _ ⟨by rw [hn]; exact ag_enter N args.toArray (by simpa using hs) F hF, hw⟩)
theorem FinP.of {fn : Func} {R : Value → GH → List It → Prop} {e : Exit} (he : e = .ret ∨ e = .normal) (h : Fin P fn E H R e a w) : FinP P fn E H v Pn LP R e a w := by
 rcases he with rfl | rfl
 · obtain ⟨h1, u, h2, h3⟩ := h; exact ⟨h1, u, h2, .inl h3⟩
 · obtain ⟨h1, u, h2, h3⟩ := h; exact ⟨h1, u, h2, .inl h3⟩
theorem FinP.ret {fn : Func} {R : Value → GH → List It → Prop} (h : Fin P fn E H R .ret a w) : FinP P fn E H v Pn LP R .ret a w := .of (.inl rfl) h
theorem FinP.nrm {fn : Func} {R : Value → GH → List It → Prop} (h : Fin P fn E H R .normal a w) : FinP P fn E H v Pn LP R .normal a w := .of (.inr rfl) h
theorem pfin {fn : Func} {R : Value → GH → List It → Prop} {H0 : GH} (h : S E H N [] F L a w) (hp : Pn) (hle : LE H0 H) (hL : LP.Sublist L) : FinP P fn E H0 v Pn LP R (.panic (chain1 v)) a w :=
 ⟨h.ag.defers, .inr ⟨H, hp, rfl, hle, h.st.sub hL⟩⟩
theorem clP {f : FuncId} {args first caps : Array Value} {aL : List Operand} {vs : List Value} {ts : Array TypeId} {R : Value → GH → List It → Prop}
   (hb : bodT P f = true) (hc : OkP P f args E H L v Pn LP R) (h : S E H N D F L a w) (kp : ∀ H' a w, Pn → LE H H' → S E H' N D F LP a w → Q (.panic (chain1 v)) a w)
   (k : ∀ r H' L' a w, LE H H' → R r H' L' → S E H' N D ((d, r) :: F) L' a w → γ.G rest a w)
   (ho : o.op = .call { callee := .value x, args := aL.toArray, argTypes := ts } := by rfl) (hx : ev F x = some (.func (.func f) first caps) := by rfl) (has : evs F aL = some vs := by rfl)
   (hA : first ++ vs.toArray ++ caps = args := by rfl)
   (hw : wn ops F o = some true := by rfl) (hd : o.dst = some d := by rfl) (hN : Nat.blt d N = true := by rfl) (hE : γ.isE rest.length = true := by rfl) (hS : γ.isN rest.length = true → ∀ r H' L' w, LE H H' → R r H' L' → St E H' L' w → γ.S w := by exact fun e => Bool.noConfusion (show false = true from e)) : γ.G (o :: rest) a w := by
 subst hA
 refine γ.eff hE (wanted_of h.ag hw) ?_
 have hrun : (execOp a.eval o).run P w = .ok (.enter f (first ++ vs.toArray ++ caps)) w := by
   have h1 := h.ag.ev hx
   have h2 := h.ag.evs has
   simp [execOp, ho, resolve, h1, h2, Deferred.ofValue, invoke, run_callFunc hb]
 unfold Oper.wp
 rw [hrun, Oper.upon_enter]
 refine (hc w h.st).mono fun e w' h' => ?_
 rcases h' with ⟨r, H', L', h1, h2, h3, h4⟩ | ⟨H', h0, h1, h2, h3⟩
 · subst h1
   simp only [hd]
   exact ⟨fun e => hS e _ _ _ _ h2 h4 h3, k r H' L' _ _ h2 h4 ⟨h.ag.put (by simpa [Nat.blt_eq] using hN) r, h3⟩⟩
 · subst h1
   exact kp H' a w' h0 h2 ⟨h.ag, h3⟩
theorem pn {t : TypeId} {u : Value} (h : S E H N D F L a w) (k : Q (.panic (chain1 (.iface t u))) a w) (ho : o.op = .panic x := by rfl) (hx : ev F x = some (.iface t u) := by rfl) (hw : wn ops F o = some true := by rfl) (hE : γ.isE rest.length = true := by rfl) : γ.G (o :: rest) a w := by
 refine γ.eff hE (wanted_of h.ag hw) ?_
 unfold Oper.wp
 have hrun : (execOp a.eval o).run P w = .halt (.panic (.iface t u)) w := by simp [execOp, ho, h.ag.ev hx, Instr.panic]
 rw [hrun]
 simpa [Oper.upon] using k
end
end Go.Proofs.YthnhddjlgjecdaaGreatDoor.X
namespace Go.Proofs.YthnhddjlgjecdaaGreatDoor
open Go X
theorem nodeSh_eq (k n : Int) (l : Nat) : (!(decide (k < 1) || (decide (4 < k) || (decide (n < 0) || ((n != 0 && k != 4) || ((l : Int) != (if k = 3 then 2 else 0))))))) = nodeSh k n l := by
 unfold nodeSh
 rw [Bool.eq_iff_iff]
 simp only [Bool.not_eq_true', Bool.or_eq_false_iff, decide_eq_false_iff_not, Bool.and_eq_true, decide_eq_true_eq, Bool.and_eq_false_iff, bne_eq_false_iff_eq, Bool.or_eq_true, beq_iff_eq]
 constructor
 · rintro ⟨h1, h2, h3, h4, h5⟩
   refine ⟨by omega, by omega, by omega, ?_, ?_⟩
   · rcases h4 with h4 | h4
     · exact .inl h4
     · exact .inr h4
   · split at h5 <;> rename_i h6 <;> simp [h6] <;> omega
 · rintro ⟨h1, h2, h3, h4, h5⟩
   refine ⟨by omega, by omega, by omega, ?_, ?_⟩
   · rcases h4 with h4 | h4
     · exact .inl h4
     · exact .inr h4
   · split <;> rename_i h6 <;> simp [h6] at h5 <;> omega
theorem rightSL_not : ∀ l : List Sh, (!(l.any fun t => !t.right)) = rightSL l
 | [] => rfl
 | t :: l => by simp only [rightSL, List.any_cons, ← rightSL_not l]; simp
theorem upto {k j : Nat} (h : j < k + 1) : j < k ∨ j = k := by omega
theorem map_take_succ {α β : Type} {f : α → β} {xs : List α} {k : Nat} (h : k < xs.length) : (xs.take (k + 1)).map f = (xs.take k).map f ++ [f xs[k]] := by
 rw [List.take_succ_eq_append_getElem h, List.map_append]; rfl
def eqBy {α : Type} (f : α → α → Bool) : List α → List α → Bool
 | [], [] => true
 | x :: xs, y :: ys => f x y && eqBy f xs ys
 | _, _ => false
theorem eqBy_len {α : Type} {f : α → α → Bool} : ∀ {xs ys : List α}, xs.length ≠ ys.length → eqBy f xs ys = false
 | [], [], h => absurd rfl h
 | [], _ :: _, _ => rfl
 | _ :: _, [], _ => rfl
 | x :: xs, y :: ys, h => by simp only [eqBy, eqBy_len (xs := xs) (ys := ys) (by simpa using h), Bool.and_false]
theorem eqBy_at {α : Type} {f : α → α → Bool} : ∀ {xs ys : List α} {k : Nat} (h1 : k < xs.length) (h2 : k < ys.length), f xs[k] ys[k] = false → eqBy f xs ys = false
 | [], _, _, h1, _, _ => absurd h1 (by simp)
 | _ :: _, [], _, _, h2, _ => absurd h2 (by simp)
 | x :: xs, y :: ys, 0, _, _, e => by simp only [eqBy]; rw [show f x y = false from e]; rfl
 | x :: xs, y :: ys, k + 1, h1, h2, e => by simp only [eqBy]; rw [eqBy_at (k := k) (by simpa using h1) (by simpa using h2) (by simpa using e), Bool.and_false]
theorem eqBy_yes {α : Type} {f : α → α → Bool} : ∀ {xs ys : List α}, xs.length = ys.length → (∀ j (h1 : j < xs.length) (h2 : j < ys.length), f xs[j] ys[j] = true) → eqBy f xs ys = true
 | [], [], _, _ => rfl
 | [], _ :: _, h, _ => by simp at h
 | _ :: _, [], h, _ => by simp at h
 | x :: xs, y :: ys, hl, h => by
   simp only [eqBy, Bool.and_eq_true]
   exact ⟨h 0 (Nat.zero_lt_succ _) (Nat.zero_lt_succ _), eqBy_yes (by simpa using hl) fun j h1 h2 => h (j + 1) (Nat.succ_lt_succ h1) (Nat.succ_lt_succ h2)⟩
theorem look_miss {l : List Bd} {n : Int} (h : decide ((0 : Int) ≤ indexF (fun b : Bd => b.n == n) l) = false) : look l n = none := by
 rw [indexF_ge, List.any_eq_false] at h
 rw [look_none]
 intro b hb e
 exact h b hb (by simp [e])
theorem look_hit {l : List Bd} {n : Int} (h : decide ((0 : Int) ≤ indexF (fun b : Bd => b.n == n) l) = true) : ∃ j, ∃ hj : j < l.length, indexF (fun b : Bd => b.n == n) l = (j : Int) ∧ look l n = some l[j].s := by
 unfold indexF at h ⊢
 cases e : l.findIdx? (fun b : Bd => b.n == n) with
 | none => rw [e] at h; exact absurd h (by decide)
 | some j =>
   rw [List.findIdx?_eq_some_iff_getElem] at e
   obtain ⟨hj, e1, e2⟩ := e
   refine ⟨j, hj, rfl, ?_⟩
   unfold look
   rw [(List.find?_eq_some_iff_getElem (p := fun b : Bd => b.n == n) (b := l[j])).2 ⟨e1, j, hj, rfl, fun i hi => by simpa using e2 i hi⟩]
   rfl
theorem nodeSh_c3 {k n : Int} {l : Nat} {b : Bool} (h : k = 3) (e : (decide (k < 1) || (decide (4 < k) || (decide (n < 0) || bif n != 0 then k != 4 || ((l : Int) != 2) else ((l : Int) != 2)))) = b) : nodeSh k n l = !b := by
 rw [← nodeSh_eq, if_pos h, ← e]; cases (n != 0) <;> simp
theorem nodeSh_c0 {k n : Int} {l : Nat} {b : Bool} (h : ¬k = 3) (e : (decide (k < 1) || (decide (4 < k) || (decide (n < 0) || bif n != 0 then k != 4 || ((l : Int) != 0) else ((l : Int) != 0)))) = b) : nodeSh k n l = !b := by
 rw [← nodeSh_eq, if_neg h, ← e]; cases (n != 0) <;> simp
theorem sameSL_eqBy : ∀ l m : List Sh, eqBy Sh.same l m = sameSL l m
 | [], [] => rfl
 | [], _ :: _ => rfl
 | _ :: _, [] => rfl
 | t :: l, u :: m => by simp only [eqBy, sameSL, sameSL_eqBy l m]
theorem hlL_append (l m : List Sh) : hlL (l ++ m) = hlL l ++ hlL m := by
 induction l with
 | nil => rfl
 | cons t l ih => simp only [List.cons_append, hlL, ih, List.append_assoc]
theorem hlL_succ {ks : List Sh} {k : Nat} (h : k < ks.length) : hlL (ks.take (k + 1)) = hlL (ks.take k) ++ ks[k].hl := by
 rw [List.take_succ_eq_append_getElem h, hlL_append]; simp only [hlL, List.append_nil]
mutual
theorem hl_len : ∀ t : Sh, t.hl.length ≤ t.size
 | .mk k n ks => by
   have := hlL_len ks
   simp only [Sh.hl, Sh.size, List.length_append]
   split <;> simp <;> omega
theorem hlL_len : ∀ l : List Sh, (hlL l).length ≤ sizeSL l
 | [] => Nat.le_refl _
 | t :: l => by
   have h1 := hl_len t; have h2 := hlL_len l
   simp only [hlL, sizeSL, List.length_append]; omega
end
theorem it3 : intT Tryz.prog 3 = some .i64 := by kernel_rfl
theorem it5 : intT Tryz.prog 5 = some .u8 := by kernel_rfl
theorem ShSize_ok : ∀ (t : Sh) (v : Value) (E : World) (H : GH) (L : List It), VSh H v t → t.size < 1000000000000 →
   Ok Tryz.prog 54 #[v] E H L fun r H' L' => r = .int .i64 t.size ∧ H = H' ∧ L = L' := by
 intro t
 induction t using Sh.ind with
 | h kd nn ks ih =>
 intro v E H L hv hb
 obtain ⟨At0, ct0, rfl, ht0⟩ := hv
 dsimp only [Sh.kind, Sh.n, Sh.kids] at ht0 ⊢
 simp only [Sh.size] at hb
 have hlen := sh_len_le ks
 refine enter (N := 19) [(0, _)] Tryz.func54 rfl rfl rfl rfl fun a w h => ?_
 refine au [1,2] h ?_
 refine bxA h fun g1 a w h => ?_
 refine au [0,6,0,2,0,6,0,3,0,4,1,2,0,7,0,8,6,0,0,0,0,3,1,5] h ?_; intro a w h
 have h := h.del 0
 refine lp (β := Nat) (fun k a w => ((k ≤ ks.length)) ∧ S E H 19 [] [(2, .int .i64 0), (3, .int .i64 ((1 + sizeSL (ks.take k) : Nat) : Int)), (7, .slice At0 ks.length ct0), (8, .int .i64 (ks.length : Int)), (9, .int .i64 (k : Int))] (L) a w)
  (fun k => ks.length - k) 0 ⟨Nat.zero_le _, (by show S _ _ _ _ _ _ _ _; rw [show (.int .i64 ((1 + sizeSL (ks.take 0) : Nat) : Int) : Value) = .int .i64 1 from Eq.symm (by first | rfl | (simp; done) | (simp; omega) | (congr 1; simp; omega) | (congr 1; omega))]; exact h.to 0 _)⟩ ?_
 rintro k a w ⟨hk, h⟩
 refine au [1,2,6,4,0,3,0,4] h ?_; intro a w h
 refine cdB h (fun c10 => ?_) (fun c10 => ?_)
 ·have d10 : k < ks.length := cd_ c10
  refine au [1,8,1,0,0,4,1,5,1,2] h ?_
  have hj11 : k < ks.length := by first | assumption | omega | (simp; done) | (simp; omega)
  obtain ⟨g11, o11, A11_0, c11_0, e11, hv11, hc11⟩ := HS.get ht0 hj11
  obtain ⟨_, _, q11, hk11_0⟩ := hv11; cases q11
  refine iaE sli29 sz31 rfl hj11 e11 h fun a w h => ?_
  refine ldHN tN31 rfl hc11 h fun a w h => ?_
  refine al zr31 h fun g5 a w h => ?_
  refine au [5,5,0,3,0,5,0,0,3,3] h ?_; intro a w h
  have hz := sh_size_le (List.getElem_mem d10)
  refine cl bod54 (ih _ (List.getElem_mem d10) _ E H _ ⟨A11_0, c11_0, rfl, hk11_0⟩ (by first | assumption | omega)) h (fun r15 H15 L15 a w le15 R h => ?_)
  obtain ⟨rfl, rfl, rfl⟩ := R
  have hts := sh_take_size d10
  have hle := sh_take_le ks (k + 1)
  refine adr (m := ((1 + sizeSL (ks.take k) : Nat) : Int)) (n := (ks[k].size : Int)) ((1 + sizeSL (ks.take (k + 1)) : Nat) : Int) (by rw [w64 (by omega) (by omega)]; omega) h fun a w h => ?_
  refine au [0,6,1,1,1,7,1,0,0,5] h ?_; intro a w h
  refine inc ?_ h fun a w h => ?_
  ·omega
  refine au [0,0,0,3] h ?_; intro a w h
  have h := h.del 0
  exact ⟨(k + 1), ⟨by omega, h.to 0 _⟩, by show _ - (k + 1) < _ - k; omega⟩
 ·have d10 : ks.length ≤ k := cd_ c10
  refine au [2,5,2,2,2,2,2,3,1,0,1,2,0,0,0,6,0,3,1,3] h ?_; intro a w h
  refine fin1 2 0 h LE.rfl ?_
  exact ⟨by rw [show k = ks.length by omega, List.take_length]; rfl, rfl, rfl⟩
theorem IndexFunc_Sh_ok (xs : List Sh) (A : Option Addr) (c : Nat) (q : Sh → Bool) (f : FuncId) (caps : Array Value) (E : World) (H : GH) (L : List It) (hx : HS H A c xs) (hb : xs.length < 1000000000000) (hf : bodT Tryz.prog f = true)
   (hq : ∀ j (hj : j < xs.length) (v : Value), VSh H v xs[j] → Ok Tryz.prog f (#[] ++ [v].toArray ++ caps) E H L fun r H' L' => r = .bool (q xs[j]) ∧ H = H' ∧ L = L') :
   Ok Tryz.prog 144 #[.slice A xs.length c, .func (.func f) #[] caps] E H L fun r H' L' => r = .int .i64 (indexF q xs) ∧ H = H' ∧ L = L' := by
 refine enter (N := 19) [(0, _), (1, _)] Tryz.func144 rfl rfl rfl rfl fun a w h => ?_
 refine au [1,2,0,6,0,3,0,4,1,2,0,0,6,0,0,0,0,3,1,5] h ?_; intro a w h
 refine lp (β := Nat) (fun k a w => ((k ≤ xs.length) ∧ (∀ j (hj : j < xs.length), j < k → q xs[j] = false)) ∧ S E H 19 [] [(0, .slice A xs.length c), (1, .func (.func f) #[] caps), (7, .int .i64 (xs.length : Int)), (8, .int .i64 (k : Int))] (L) a w)
  (fun k => xs.length - k) 0 ⟨⟨Nat.zero_le _, fun _ _ h => absurd h (by omega)⟩, h.to 0 _⟩ ?_
 rintro k a w ⟨⟨hk, hi⟩, h⟩
 refine au [1,2,6,4,0,3,0,4] h ?_; intro a w h
 refine cdB h (fun c9 => ?_) (fun c9 => ?_)
 ·have d9 : k < xs.length := cd_ c9
  refine au [1,8,1,0,0,4,1,5,1,2,0,0,0,6,0,2,0,0,0,0,0,0] h ?_; intro a w h
  have hj14 : k < xs.length := by first | assumption | omega | (simp; done) | (simp; omega)
  obtain ⟨g14, o14, A14_0, c14_0, e14, hv14, hc14⟩ := HS.get hx hj14
  obtain ⟨_, _, q14, hk14_0⟩ := hv14; cases q14
  refine iaE sli29 sz31 rfl hj14 e14 h fun a w h => ?_
  refine ldHN tN31 rfl hc14 h fun a w h => ?_
  refine cl hf (hq k d9 _ ⟨A14_0, c14_0, rfl, hk14_0⟩) h (fun r16 H16 L16 a w le16 R h => ?_)
  obtain ⟨rfl, rfl, rfl⟩ := R
  refine au [0,3] h ?_
  refine cdB h (fun c16 => ?_) (fun c16 => ?_)
  ·refine au [1,2,0,0,0,6,0,3,1,3,1,6,1,4,1,4,1,6,1,4] h ?_; intro a w h
   refine fin1 4 0 h LE.rfl ?_
   exact ⟨by rw [indexF_at d9 hi c16], rfl, rfl⟩
  ·refine au [1,8,1,7,1,0,0,5] h ?_
   refine inc ?_ h fun a w h => ?_
   ·omega
   refine au [0,0,0,3] h ?_; intro a w h
   exact ⟨(k + 1), ⟨⟨by omega, fun j hj h0 => by rcases upto h0 with h0 | rfl; exact hi j hj h0; simpa using c16⟩, h.to 0 _⟩, by show _ - (k + 1) < _ - k; omega⟩
 ·have d9 : xs.length ≤ k := cd_ c9
  refine au [2,5,2,2,2,2,2,3,1,0,1,2,0,6,0,3,1,3] h ?_; intro a w h
  refine fin1 4 0 h LE.rfl ?_
  exact ⟨by rw [indexF_no fun j hj => hi j hj (by omega)], rfl, rfl⟩
theorem ContainsFunc_Sh_ok (xs : List Sh) (A : Option Addr) (c : Nat) (q : Sh → Bool) (f : FuncId) (caps : Array Value) (E : World) (H : GH) (L : List It) (hx : HS H A c xs) (hb : xs.length < 1000000000000) (hf : bodT Tryz.prog f = true)
   (hq : ∀ j (hj : j < xs.length) (v : Value), VSh H v xs[j] → Ok Tryz.prog f (#[] ++ [v].toArray ++ caps) E H L fun r H' L' => r = .bool (q xs[j]) ∧ H = H' ∧ L = L') :
   Ok Tryz.prog 108 #[.slice A xs.length c, .func (.func f) #[] caps] E H L fun r H' L' => r = .bool (xs.any q) ∧ H = H' ∧ L = L' := by
 refine enter (N := 9) [(0, _), (1, _)] Tryz.func108 rfl rfl rfl rfl fun a w h => ?_
 refine au [1,2,0,6,0,2,0,0,0,0] h ?_; intro a w h
 refine cl bod144 (IndexFunc_Sh_ok xs A c q f caps E H _ hx hb hf hq) h (fun r7 H7 L7 a w le7 R h => ?_)
 obtain ⟨rfl, rfl, rfl⟩ := R
 refine au [6,7,0,6,0,3,1,3] h ?_; intro a w h
 refine fin1 4 0 h LE.rfl ?_
 exact ⟨by rw [← indexF_ge], rfl, rfl⟩
theorem EqualFunc_Sh_ok (xs ys : List Sh) (A A' : Option Addr) (c c' : Nat) (q : Sh → Sh → Bool) (f : FuncId) (caps : Array Value) (E : World) (H : GH) (L : List It) (hx : HS H A c xs) (hy : HS H A' c' ys) (hb : xs.length < 1000000000000) (hf : bodT Tryz.prog f = true)
   (hq : ∀ j (hj : j < xs.length) (hj2 : j < ys.length) (v v' : Value) (L : List It), VSh H v xs[j] → VSh H v' ys[j] → Ok Tryz.prog f (#[] ++ [v, v'].toArray ++ caps) E H L fun r H' L' => r = .bool (q xs[j] ys[j]) ∧ H = H' ∧ L = L') :
   Ok Tryz.prog 82 #[.slice A xs.length c, .slice A' ys.length c', .func (.func f) #[] caps] E H L fun r H' L' => r = .bool (eqBy q xs ys) ∧ H = H' ∧ L = L' := by
 refine enter (N := 32) [(0, _), (1, _), (2, _)] Tryz.func82 rfl rfl rfl rfl fun a w h => ?_
 refine au [1,2,0,6,0,3,0,4,1,2,0,0,6,0,0,0,6,0,6,3,0,3] h ?_; intro a w h
 refine cdB h (fun c14 => ?_) (fun c14 => ?_)
 ·have d14 : xs.length ≠ ys.length := cd_ c14
  refine au [1,2,0,6,0,3,1,3,1,4] h ?_; intro a w h
  refine fin1 6 0 h LE.rfl ?_
  exact ⟨by rw [eqBy_len d14], rfl, rfl⟩
 ·have d14 : xs.length = ys.length := cd_ c14
  refine au [1,8,1,0,0,4,1,2,0,0,6,0,0,0,0,3,1,5] h ?_; intro a w h
  refine lp (β := Nat) (fun k a w => ((k ≤ xs.length) ∧ (∀ j (h1 : j < xs.length) (h2 : j < ys.length), j < k → q xs[j] ys[j] = true)) ∧ S E H 32 [] [(1, .slice A' ys.length c'), (2, .func (.func f) #[] caps), (15, .slice A xs.length c), (16, .int .i64 (xs.length : Int)), (17, .int .i64 (k : Int))] (L) a w)
   (fun k => xs.length - k) 0 ⟨⟨Nat.zero_le _, fun _ _ _ h => absurd h (by omega)⟩, h.to 0 _⟩ ?_
  rintro k a w ⟨⟨hk, hi⟩, h⟩
  refine au [1,2,6,4,0,3,0,4] h ?_; intro a w h
  refine cdB h (fun c18 => ?_) (fun c18 => ?_)
  ·have d18 : k < xs.length := cd_ c18
   refine au [1,8,1,0,0,4,1,5,1,2,0,0] h ?_; intro a w h
   have hj20 : k < xs.length := by first | assumption | omega | (simp; done) | (simp; omega)
   obtain ⟨g20, o20, A20_0, c20_0, e20, hv20, hc20⟩ := HS.get hx hj20
   obtain ⟨_, _, q20, hk20_0⟩ := hv20; cases q20
   refine iaE sli29 sz31 rfl hj20 e20 h fun a w h => ?_
   refine ldHN tN31 rfl hc20 h fun a w h => ?_
   refine al zr31 h fun g8 a w h => ?_
   refine au [0,6,5,5,0,2,0,0,0,0] h ?_; intro a w h
   have hj24 : k < ys.length := by first | assumption | omega | (simp; done) | (simp; omega)
   obtain ⟨g24, o24, A24_0, c24_0, e24, hv24, hc24⟩ := HS.get hy hj24
   obtain ⟨_, _, q24, hk24_0⟩ := hv24; cases q24
   refine iaE sli29 sz31 rfl hj24 e24 h fun a w h => ?_
   refine ldHN tN31 rfl hc24 h fun a w h => ?_
   refine al zr31 h fun g9 a w h => ?_
   refine au [5,5,0,2,0,0,3,4,3,3] h ?_; intro a w h
   refine cl hf (hq k hj20 hj24 _ _ _ ⟨A20_0, c20_0, rfl, hk20_0⟩ ⟨A24_0, c24_0, rfl, hk24_0⟩) h (fun r29 H29 L29 a w le29 R h => ?_)
   obtain ⟨rfl, rfl, rfl⟩ := R
   refine au [7,1,0,3] h ?_; intro a w h
   refine cdB h (fun c30 => ?_) (fun c30 => ?_)
   ·have d30 : (q xs[k] ys[k]) = false := cd_ c30
    refine au [1,2,0,6,0,3,1,3,1,6,1,4,1,4,1,6,1,4] h ?_; intro a w h
    refine fin1 6 2 h LE.rfl ?_
    exact ⟨by rw [eqBy_at hj20 hj24 (by simpa using c30)], rfl, rfl⟩
   ·have d30 : (q xs[k] ys[k]) = true := cd_ c30
    refine au [1,8,1,7,1,0,0,5] h ?_
    refine inc ?_ h fun a w h => ?_
    ·omega
    refine au [0,0,0,3] h ?_; intro a w h
    have h := h.del 0
    have h := h.del 0
    exact ⟨(k + 1), ⟨⟨by omega, fun j h1 h2 h0 => by rcases upto h0 with h0 | rfl; exact hi j h1 h2 h0; simpa using c30⟩, h.to 0 _⟩, by show _ - (k + 1) < _ - k; omega⟩
  ·have d18 : xs.length ≤ k := cd_ c18
   refine au [2,5,2,2,2,2,2,3,1,0,1,2,0,6,0,3,1,3] h ?_; intro a w h
   refine fin1 6 0 h LE.rfl ?_
   exact ⟨by rw [eqBy_yes d14 fun j h1 h2 => hi j h1 h2 (by omega)], rfl, rfl⟩
theorem IndexFunc_Bd_ok (xs : List Bd) (A : Option Addr) (c : Nat) (q : Bd → Bool) (f : FuncId) (caps : Array Value) (E : World) (H : GH) (L : List It) (hx : BdS H A c xs) (hb : xs.length < 1000000000000) (hf : bodT Tryz.prog f = true)
   (hq : ∀ j (hj : j < xs.length) (v : Value), VBd H v xs[j] → Ok Tryz.prog f (#[] ++ [v].toArray ++ caps) E H L fun r H' L' => r = .bool (q xs[j]) ∧ H = H' ∧ L = L') :
   Ok Tryz.prog 254 #[.slice A xs.length c, .func (.func f) #[] caps] E H L fun r H' L' => r = .int .i64 (indexF q xs) ∧ H = H' ∧ L = L' := by
 refine enter (N := 19) [(0, _), (1, _)] Tryz.func254 rfl rfl rfl rfl fun a w h => ?_
 refine au [1,2,0,6,0,3,0,4,1,2,0,0,6,0,0,0,0,3,1,5] h ?_; intro a w h
 refine lp (β := Nat) (fun k a w => ((k ≤ xs.length) ∧ (∀ j (hj : j < xs.length), j < k → q xs[j] = false)) ∧ S E H 19 [] [(0, .slice A xs.length c), (1, .func (.func f) #[] caps), (7, .int .i64 (xs.length : Int)), (8, .int .i64 (k : Int))] (L) a w)
  (fun k => xs.length - k) 0 ⟨⟨Nat.zero_le _, fun _ _ h => absurd h (by omega)⟩, h.to 0 _⟩ ?_
 rintro k a w ⟨⟨hk, hi⟩, h⟩
 refine au [1,2,6,4,0,3,0,4] h ?_; intro a w h
 refine cdB h (fun c9 => ?_) (fun c9 => ?_)
 ·have d9 : k < xs.length := cd_ c9
  refine au [1,8,1,0,0,4,1,5,1,2,0,0,0,6,0,2,0,0,0,0,0,0] h ?_; intro a w h
  have hj14 : k < xs.length := by first | assumption | omega | (simp; done) | (simp; omega)
  obtain ⟨g14, o14, A14_0, c14_0, e14, hv14, hc14⟩ := BdS.get hx hj14
  obtain ⟨_, _, q14, hk14_0⟩ := hv14; cases q14
  refine iaE sli125 sz307 rfl hj14 e14 h fun a w h => ?_
  refine ldHN tN307 rfl hc14 h fun a w h => ?_
  refine cl hf (hq k d9 _ ⟨A14_0, c14_0, rfl, hk14_0⟩) h (fun r16 H16 L16 a w le16 R h => ?_)
  obtain ⟨rfl, rfl, rfl⟩ := R
  refine au [0,3] h ?_
  refine cdB h (fun c16 => ?_) (fun c16 => ?_)
  ·refine au [1,2,0,0,0,6,0,3,1,3,1,6,1,4,1,4,1,6,1,4] h ?_; intro a w h
   refine fin1 4 0 h LE.rfl ?_
   exact ⟨by rw [indexF_at d9 hi c16], rfl, rfl⟩
  ·refine au [1,8,1,7,1,0,0,5] h ?_
   refine inc ?_ h fun a w h => ?_
   ·omega
   refine au [0,0,0,3] h ?_; intro a w h
   exact ⟨(k + 1), ⟨⟨by omega, fun j hj h0 => by rcases upto h0 with h0 | rfl; exact hi j hj h0; simpa using c16⟩, h.to 0 _⟩, by show _ - (k + 1) < _ - k; omega⟩
 ·have d9 : xs.length ≤ k := cd_ c9
  refine au [2,5,2,2,2,2,2,3,1,0,1,2,0,6,0,3,1,3] h ?_; intro a w h
  refine fin1 4 0 h LE.rfl ?_
  exact ⟨by rw [indexF_no fun j hj => hi j hj (by omega)], rfl, rfl⟩
theorem ContainsFunc_Bd_ok (xs : List Bd) (A : Option Addr) (c : Nat) (q : Bd → Bool) (f : FuncId) (caps : Array Value) (E : World) (H : GH) (L : List It) (hx : BdS H A c xs) (hb : xs.length < 1000000000000) (hf : bodT Tryz.prog f = true)
   (hq : ∀ j (hj : j < xs.length) (v : Value), VBd H v xs[j] → Ok Tryz.prog f (#[] ++ [v].toArray ++ caps) E H L fun r H' L' => r = .bool (q xs[j]) ∧ H = H' ∧ L = L') :
   Ok Tryz.prog 260 #[.slice A xs.length c, .func (.func f) #[] caps] E H L fun r H' L' => r = .bool (xs.any q) ∧ H = H' ∧ L = L' := by
 refine enter (N := 9) [(0, _), (1, _)] Tryz.func260 rfl rfl rfl rfl fun a w h => ?_
 refine au [1,2,0,6,0,2,0,0,0,0] h ?_; intro a w h
 refine cl bod254 (IndexFunc_Bd_ok xs A c q f caps E H _ hx hb hf hq) h (fun r7 H7 L7 a w le7 R h => ?_)
 obtain ⟨rfl, rfl, rfl⟩ := R
 refine au [6,7,0,6,0,3,1,3] h ?_; intro a w h
 refine fin1 4 0 h LE.rfl ?_
 exact ⟨by rw [← indexF_ge], rfl, rfl⟩
theorem IndexFunc_Int_ok (xs : List Int) (A : Option Addr) (c : Nat) (q : Int → Bool) (f : FuncId) (caps : Array Value) (E : World) (H : GH) (L : List It) (hx : IS H A c xs) (hb : xs.length < 1000000000000) (hf : bodT Tryz.prog f = true)
   (hq : ∀ j (hj : j < xs.length) (v : Value), v = .int .i64 xs[j] → Ok Tryz.prog f (#[] ++ [v].toArray ++ caps) E H L fun r H' L' => r = .bool (q xs[j]) ∧ H = H' ∧ L = L') :
   Ok Tryz.prog 253 #[.slice A xs.length c, .func (.func f) #[] caps] E H L fun r H' L' => r = .int .i64 (indexF q xs) ∧ H = H' ∧ L = L' := by
 refine enter (N := 19) [(0, _), (1, _)] Tryz.func253 rfl rfl rfl rfl fun a w h => ?_
 refine au [1,2,0,6,0,3,0,4,1,2,0,0,6,0,0,0,0,3,1,5] h ?_; intro a w h
 refine lp (β := Nat) (fun k a w => ((k ≤ xs.length) ∧ (∀ j (hj : j < xs.length), j < k → q xs[j] = false)) ∧ S E H 19 [] [(0, .slice A xs.length c), (1, .func (.func f) #[] caps), (7, .int .i64 (xs.length : Int)), (8, .int .i64 (k : Int))] (L) a w)
  (fun k => xs.length - k) 0 ⟨⟨Nat.zero_le _, fun _ _ h => absurd h (by omega)⟩, h.to 0 _⟩ ?_
 rintro k a w ⟨⟨hk, hi⟩, h⟩
 refine au [1,2,6,4,0,3,0,4] h ?_; intro a w h
 refine cdB h (fun c9 => ?_) (fun c9 => ?_)
 ·have d9 : k < xs.length := cd_ c9
  refine au [1,8,1,0,0,4,1,5,1,2,0,0,0,6,0,2,0,0,0,0,0,0] h ?_; intro a w h
  have hj14 : k < xs.length := by first | assumption | omega | (simp; done) | (simp; omega)
  obtain ⟨g14, o14, e14, hc14⟩ := IS.get hx hj14
  refine iaE sli146 sz3 rfl hj14 e14 h fun a w h => ?_
  refine ldH t1_3 (hc14) h fun a w h => ?_
  refine cl hf (hq k d9 _ rfl) h (fun r16 H16 L16 a w le16 R h => ?_)
  obtain ⟨rfl, rfl, rfl⟩ := R
  refine au [0,3] h ?_
  refine cdB h (fun c16 => ?_) (fun c16 => ?_)
  ·refine au [1,2,0,0,0,6,0,3,1,3,1,6,1,4,1,4,1,6,1,4] h ?_; intro a w h
   refine fin1 4 0 h LE.rfl ?_
   exact ⟨by rw [indexF_at d9 hi c16], rfl, rfl⟩
  ·refine au [1,8,1,7,1,0,0,5] h ?_
   refine inc ?_ h fun a w h => ?_
   ·omega
   refine au [0,0,0,3] h ?_; intro a w h
   exact ⟨(k + 1), ⟨⟨by omega, fun j hj h0 => by rcases upto h0 with h0 | rfl; exact hi j hj h0; simpa using c16⟩, h.to 0 _⟩, by show _ - (k + 1) < _ - k; omega⟩
 ·have d9 : xs.length ≤ k := cd_ c9
  refine au [2,5,2,2,2,2,2,3,1,0,1,2,0,6,0,3,1,3] h ?_; intro a w h
  refine fin1 4 0 h LE.rfl ?_
  exact ⟨by rw [indexF_no fun j hj => hi j hj (by omega)], rfl, rfl⟩
theorem ContainsFunc_Int_ok (xs : List Int) (A : Option Addr) (c : Nat) (q : Int → Bool) (f : FuncId) (caps : Array Value) (E : World) (H : GH) (L : List It) (hx : IS H A c xs) (hb : xs.length < 1000000000000) (hf : bodT Tryz.prog f = true)
   (hq : ∀ j (hj : j < xs.length) (v : Value), v = .int .i64 xs[j] → Ok Tryz.prog f (#[] ++ [v].toArray ++ caps) E H L fun r H' L' => r = .bool (q xs[j]) ∧ H = H' ∧ L = L') :
   Ok Tryz.prog 203 #[.slice A xs.length c, .func (.func f) #[] caps] E H L fun r H' L' => r = .bool (xs.any q) ∧ H = H' ∧ L = L' := by
 refine enter (N := 9) [(0, _), (1, _)] Tryz.func203 rfl rfl rfl rfl fun a w h => ?_
 refine au [1,2,0,6,0,2,0,0,0,0] h ?_; intro a w h
 refine cl bod253 (IndexFunc_Int_ok xs A c q f caps E H _ hx hb hf hq) h (fun r7 H7 L7 a w le7 R h => ?_)
 obtain ⟨rfl, rfl, rfl⟩ := R
 refine au [6,7,0,6,0,3,1,3] h ?_; intro a w h
 refine fin1 4 0 h LE.rfl ?_
 exact ⟨by rw [← indexF_ge], rfl, rfl⟩
theorem any_eq_contains (xs : List Int) (z : Int) : (xs.any fun x => z == x) = xs.contains z := by
 rw [Bool.eq_iff_iff, List.any_eq_true, List.contains_iff_mem]
 constructor
 · rintro ⟨x, hx, e⟩; rw [eq_of_beq e]; exact hx
 · intro h; exact ⟨z, h, by simp⟩
theorem IndexInt_ok (xs : List Int) (z : Int) (A : Option Addr) (c : Nat) (E : World) (H : GH) (L : List It) (hx : IS H A c xs) (hb : xs.length < 1000000000000) :
   Ok Tryz.prog 298 #[.slice A xs.length c, .int .i64 z] E H L fun r H' L' => r = .int .i64 (indexF (fun x => z == x) xs) ∧ H = H' ∧ L = L' := by
 refine enter (N := 19) [(0, _), (1, _)] Tryz.func298 rfl rfl rfl rfl fun a w h => ?_
 refine au [1,2,0,6,0,3,0,4,1,2,0,0,6,0,0,0,0,3,1,5] h ?_; intro a w h
 refine lp (β := Nat) (fun k a w => ((k ≤ xs.length) ∧ (∀ j (hj : j < xs.length), j < k → (z == xs[j]) = false)) ∧ S E H 19 [] [(0, .slice A xs.length c), (1, .int .i64 z), (7, .int .i64 (xs.length : Int)), (8, .int .i64 (k : Int))] (L) a w)
  (fun k => xs.length - k) 0 ⟨⟨Nat.zero_le _, fun _ _ h => absurd h (by omega)⟩, h.to 0 _⟩ ?_
 rintro k a w ⟨⟨hk, hi⟩, h⟩
 refine au [1,2,6,4,0,3,0,4] h ?_; intro a w h
 refine cdB h (fun c9 => ?_) (fun c9 => ?_)
 ·have d9 : k < xs.length := cd_ c9
  refine au [1,8,1,0,0,4,1,5,1,2,0,0,0,6,0,2,0,0,0,0,0,0] h ?_; intro a w h
  have hj14 : k < xs.length := by first | assumption | omega | (simp; done) | (simp; omega)
  obtain ⟨g14, o14, e14, hc14⟩ := IS.get hx hj14
  refine iaE sli146 sz3 rfl hj14 e14 h fun a w h => ?_
  refine ldH t1_3 (hc14) h fun a w h => ?_
  refine au [6,2,0,3] h ?_; intro a w h
  refine cdB h (fun c16 => ?_) (fun c16 => ?_)
  ·have d16 : z = xs[k] := cd_ c16
   refine au [1,2,0,0,0,6,0,3,1,3,1,6,1,4,1,4,1,6,1,4] h ?_; intro a w h
   refine fin1 4 0 h LE.rfl ?_
   exact ⟨by rw [indexF_at (q := fun x => z == x) d9 hi c16], rfl, rfl⟩
  ·have d16 : z ≠ xs[k] := cd_ c16
   refine au [1,8,1,7,1,0,0,5] h ?_
   refine inc ?_ h fun a w h => ?_
   ·omega
   refine au [0,0,0,3] h ?_; intro a w h
   exact ⟨(k + 1), ⟨⟨by omega, fun j hj h0 => by rcases upto h0 with h0 | rfl; exact hi j hj h0; simpa using c16⟩, h.to 0 _⟩, by show _ - (k + 1) < _ - k; omega⟩
 ·have d9 : xs.length ≤ k := cd_ c9
  refine au [2,5,2,2,2,2,2,3,1,0,1,2,0,6,0,3,1,3] h ?_; intro a w h
  refine fin1 4 0 h LE.rfl ?_
  exact ⟨by rw [indexF_no (q := fun x => z == x) fun j hj => hi j hj (by omega)], rfl, rfl⟩
theorem ContainsInt_ok (xs : List Int) (z : Int) (A : Option Addr) (c : Nat) (E : World) (H : GH) (L : List It) (hx : IS H A c xs) (hb : xs.length < 1000000000000) :
   Ok Tryz.prog 256 #[.slice A xs.length c, .int .i64 z] E H L fun r H' L' => r = .bool (xs.contains z) ∧ H = H' ∧ L = L' := by
 refine enter (N := 9) [(0, _), (1, _)] Tryz.func256 rfl rfl rfl rfl fun a w h => ?_
 refine au [1,2,0,6,0,2,0,0,0,0] h ?_; intro a w h
 refine cl bod298 (IndexInt_ok xs z _ _ E H _ hx (by first | assumption | omega)) h (fun r7 H7 L7 a w le7 R h => ?_)
 obtain ⟨rfl, rfl, rfl⟩ := R
 refine au [6,7,0,6,0,3,1,3] h ?_; intro a w h
 refine fin1 4 0 h LE.rfl ?_
 exact ⟨by rw [← any_eq_contains, ← indexF_ge], rfl, rfl⟩
theorem mappedSh_ok (xs : List Sh) (A : Option Addr) (c : Nat) (g : Sh → Sh) (f : FuncId) (caps : Array Value) (E : World) (H : GH) (L : List It) (hx : HS H A c xs) (hb : xs.length < 1000000000000) (hf : bodT Tryz.prog f = true)
   (hq : ∀ j (hj : j < xs.length) (v : Value) (H1 : GH) (L1 : List It), LE H H1 → VSh H1 v xs[j] → Ok Tryz.prog f (#[] ++ [v].toArray ++ caps) E H1 L1 fun r H' L' => VSh H' r (g xs[j]) ∧ L1 = L') :
   Ok Tryz.prog 262 #[.slice A xs.length c, .func (.func f) #[] caps] E H L fun r H' L' => (∃ A c, r = .slice A (xs.map g).length c ∧ HS H' A c (xs.map g)) ∧ L = L' := by
 refine enter (N := 22) [(0, _), (1, _)] Tryz.func262 rfl rfl rfl rfl fun a w h => ?_
 refine au [1,2,0,6,0,2,0,6,0,3,0,4,1,2,0,0,6,0,0,0,0,3,1,5] h ?_; intro a w h
 have h := h.row (e := 31) (sz := 3)
 refine lp (β := Nat × GH × (Option Addr) × Nat × (List Value)) (fun x a w => match x with | (k, HL0, Br5, pr5, xr5) => ((k ≤ xs.length) ∧ (LE H HL0) ∧ (RowR RSh 3 HL0 xr5 ((xs.take k).map g))) ∧ S E HL0 22 [] [(1, .func (.func f) #[] caps), (4, .slice none 0 0), (5, .slice Br5 (((xs.take k).map g).length) pr5), (8, .slice A xs.length c), (9, .int .i64 (xs.length : Int)), (10, .int .i64 (k : Int))] (.row (.slice Br5 (((xs.take k).map g).length) pr5) 31 3 (((xs.take k).map g).length) xr5 :: L) a w)
  (fun x => match x with | (k, HL0, Br5, pr5, xr5) => xs.length - k) (0, H, none, 0, []) ⟨⟨Nat.zero_le _, LE.rfl, (RowR.nil : RowR RSh 3 H [] ([] : List Sh))⟩, h.to 0 _⟩ ?_
 rintro ⟨k, HL0, Br5, pr5, xr5⟩ a w ⟨⟨hk, leHL0, hrr5⟩, h⟩
 refine au [1,2,6,4,0,3,0,4] h ?_; intro a w h
 refine cdB h (fun c11 => ?_) (fun c11 => ?_)
 ·have d11 : k < xs.length := cd_ c11
  refine au [1,8,1,0,0,4,1,5,1,2] h ?_
  have hj12 : k < xs.length := by first | assumption | omega | (simp; done) | (simp; omega)
  obtain ⟨g12, o12, A12_0, c12_0, e12, hv12, hc12⟩ := HS.get (HS.up hx leHL0) hj12
  obtain ⟨_, _, q12, hk12_0⟩ := hv12; cases q12
  refine iaE sli29 sz31 rfl hj12 e12 h fun a w h => ?_
  refine ldHN tN31 rfl hc12 h fun a w h => ?_
  refine al zr31 h fun g7 a w h => ?_
  refine au [5,5,0,3,0,5,0,0,0,0,3,3] h ?_; intro a w h
  refine cl hf (hq k d11 _ HL0 _ leHL0 ⟨A12_0, c12_0, rfl, hk12_0⟩) h (fun r17 H17 L17 a w le17 R h => ?_)
  obtain ⟨⟨A17_0, c17_0, rfl, hk17_0⟩, rfl⟩ := R
  refine bsl bs29 h fun g18 a w h => ?_
  refine apn (n := (((xs.take k).map g).length)) (m := 1) 2 0 (L' := fun i => _ :: _ :: i :: _) [_, _, _] ((((xs.take k).map g) ++ [(g xs[k])]).length) (by first | (simp; done) | (simp; omega)) row29 h (by first | omega | (simp; done) | (simp; omega) | (simp; omega)) (by first | omega | (simp; done) | (simp; omega) | (simp; omega)) fun v19 a w hone19 h => ?_
  obtain ⟨B19, cp19, rfl⟩ := h.rowv 2
  have hr19 : RowR RSh 3 H17 (xr5 ++ [.int .i64 ((g xs[k]).kind), .int .i64 ((g xs[k]).n), .slice A17_0 ((g xs[k]).kids).length c17_0]) (((xs.take k).map g) ++ [(g xs[k])]) := (hrr5.mono fun cs y _ hr => RSh.mono le17 y hr).snoc rfl (rsh_of_v (cs := [_, _, _]) ⟨_, _, rfl, hk17_0⟩)
  refine au [0,6,1,1,1,7,1,0,0,5] h ?_; intro a w h
  refine inc ?_ h fun a w h => ?_
  ·omega
  refine au [0,0,0,3] h ?_; intro a w h
  have h := h.del 0
  have h := h.del 0
  have l_H_H17 : LE H H17 := leHL0.trans le17
  exact ⟨((k + 1), H17, B19, cp19, _), ⟨⟨by omega, l_H_H17, (by have q := hr19; rwa [show (((xs.take k).map g) ++ [(g xs[k])]) = ((xs.take (k + 1)).map g) from by rw [map_take_succ d11]] at q)⟩, (by show S _ _ _ _ _ _ _ _; rw [show (((xs.take (k + 1)).map g).length) = (((xs.take k).map g) ++ [(g xs[k])]).length from Eq.symm (by rw [map_take_succ d11])]; exact h.to 0 _)⟩, by show _ - (k + 1) < _ - k; omega⟩
 ·have d11 : xs.length ≤ k := cd_ c11
  refine au [2,5,2,2,2,2,2,3,1,0,1,2,0,0,0,6,0,3,1,3] h ?_; intro a w h
  have e9 : (xs.take k).map g = xs.map g := by rw [List.take_of_length_le (by omega)]
  obtain ⟨Hrr5, leHrr5, h, hsHrr5⟩ := h.frw 0 hrr5 rfl (fun _ l cs y _ hr => RSh.mono l y hr)
  have l_H_Hrr5 : LE H Hrr5 := leHL0.trans leHrr5
  refine fin1 4 0 h l_H_Hrr5 ?_
  exact ⟨by rw [e9] at hsHrr5 ⊢; exact ⟨_, _, rfl, hsHrr5⟩, rfl⟩
def DoOk (g : Int → Option Sh) (fd : FuncId) (caps : Array Value) (E : World) (H : GH) : Prop := bodT Tryz.prog fd = true ∧ ∀ (n : Int) (ks : List Sh) (v : Value) (H1 : GH) (L1 : List It), LE H H1 → VSh H1 v (.mk 4 n ks) → Ok Tryz.prog fd (#[] ++ [v].toArray ++ caps) E H1 L1 fun r H' L' => VSh H' r ((g n).getD (.mk 4 n ks)) ∧ L1 = L'
theorem DoOk.up {g : Int → Option Sh} {fd : FuncId} {caps : Array Value} {E : World} {H H1 : GH} (h : DoOk g fd caps E H) (l : LE H H1) : DoOk g fd caps E H1 := ⟨h.1, fun n ks v H2 L2 l2 hv => h.2 n ks v H2 L2 (l.trans l2) hv⟩
def TurnOk (t : Sh) : Prop := ∀ (g : Int → Option Sh) (fd : FuncId) (caps : Array Value) (v : Value) (E : World) (H : GH) (L : List It), DoOk g fd caps E H → VSh H v t → t.size < 1000000000000 →
   Ok Tryz.prog 207 #[v, .func (.func fd) #[] caps] E H L fun r H' L' => VSh H' r (t.ap g) ∧ L = L'
theorem kidT_ok (x : Sh) (hx : TurnOk x) (g : Int → Option Sh) (fd : FuncId) (caps : Array Value) (g3 : Nat) (v : Value) (E : World) (H : GH) (L : List It) (hdo : DoOk g fd caps E H) (h3 : Hc H g3 0 (.func (.func fd) #[] caps)) (hv : VSh H v x) (hb : x.size < 1000000000000) :
   Ok Tryz.prog 263 #[v, .pointer (some ⟨g3, 0, none⟩)] E H L fun r H' L' => VSh H' r (x.ap g) ∧ L = L' := by
 obtain ⟨Ax0, cx0, rfl, hx0⟩ := hv
 refine enter (N := 7) [(0, _), (1, _)] Tryz.func263 rfl rfl rfl rfl fun a w h => ?_
 refine au [1,2] h ?_
 refine bxA h fun g2 a w h => ?_
 refine al zr31 h fun g3 a w h => ?_
 refine au [0,2,3,4] h ?_; intro a w h
 refine ldH t1_233 (h3) h fun a w h => ?_
 refine cl bod207 (hx g fd caps _ E H _ (hdo.up LE.rfl) ⟨Ax0, cx0, rfl, hx0⟩ hb) h (fun r6 H6 L6 a w le6 R h => ?_)
 obtain ⟨⟨A6_0, c6_0, rfl, hk6_0⟩, rfl⟩ := R
 refine au [5,5,0,3,1,3] h ?_; intro a w h
 exact fin (rs := [.cell 3 31]) (vs := [.agg #[_, _, _]]) h rfl (.agg (k0 := 0) tN31 rfl rfl rfl .nil) rfl le6 ⟨LE.rfl, h.st.drop 2⟩ ⟨⟨_, _, rfl, hk6_0⟩, rfl⟩
theorem turned_ok : ∀ t : Sh, TurnOk t := by
 intro t
 induction t using Sh.ind with
 | h kd nn ks ih =>
 intro g fd caps v E H L hdo hv hb
 obtain ⟨At0, ct0, rfl, ht0⟩ := hv
 dsimp only [Sh.kind, Sh.n, Sh.kids] at ht0 ⊢
 simp only [Sh.size] at hb
 have hlen := sh_len_le ks
 refine enter (N := 20) [(0, _), (1, _)] Tryz.func207 rfl rfl rfl rfl fun a w h => ?_
 refine au [1,2] h ?_
 refine bxA h fun g2 a w h => ?_
 refine bx1 h fun g3 a w h => ?_
 refine al zr31 h fun g4 a w h => ?_
 refine au [0,3,0,4,1,2,0,7,3,0,6,2,0,3] h ?_; intro a w h
 refine cdB h (fun c7 => ?_) (fun c7 => ?_)
 ·have d7 : kd = 4 := cd_ c7
  subst d7
  refine au [1,2,2,8,3,5] h ?_; intro a w h
  refine cl hdo.1 (hdo.2 nn ks _ H _ LE.rfl ⟨At0, ct0, rfl, ht0⟩) h (fun r10 H10 L10 a w le10 R h => ?_)
  obtain ⟨⟨A10_0, c10_0, rfl, hk10_0⟩, rfl⟩ := R
  refine au [5,5,0,3,1,3,1,4] h ?_; intro a w h
  exact fin (rs := [.cell 4 31]) (vs := [.agg #[_, _, _]]) h rfl (.agg (k0 := 0) tN31 rfl rfl rfl .nil) rfl le10 ⟨LE.rfl, h.st.drop 3⟩ ⟨by simp only [Sh.ap]; exact ⟨_, _, rfl, hk10_0⟩, rfl⟩
 ·have d7 : kd ≠ 4 := cd_ c7
  refine au [1,8,1,0,0,4] h ?_
  obtain ⟨Hg3, leHg3, h, hfg3⟩ := h.frz 1
  refine rgd [1] [_] [2, 0] [1, 3, 5] 1 mix (by kernel_rfl) h (fun a w h => ?_)
  refine au [0,7,4,2,0,7,4,2,0,7,4,2,7,3] h ?_; intro a w h
  refine cl bod262 (mappedSh_ok ks _ _ (Sh.ap g) 263 #[.pointer (some ⟨g3, 0, none⟩)] E Hg3 _ (HS.up ht0 leHg3) (by omega) bod263 (fun j hj v H1 L1 l1 hv => kidT_ok _ (ih _ (List.getElem_mem hj)) g fd caps g3 v E H1 L1 (hdo.up (leHg3.trans l1)) ((Hc.of hfg3 rfl).mono l1) hv (by have := sh_size_le (List.getElem_mem hj); omega))) h (fun r18 H18 L18 a w le18 R h => ?_)
  obtain ⟨⟨A18, c18, rfl, hk18⟩, rfl⟩ := R
  refine au [7,5,5,5,0,3,1,3] h ?_; intro a w h
  have l_H_H18 : LE H H18 := leHg3.trans le18
  exact fin (rs := [.cell 4 31]) (vs := [.agg #[_, _, _]]) h rfl (.agg (k0 := 0) tN31 rfl rfl rfl .nil) rfl l_H_H18 ⟨LE.rfl, h.st.drop 2⟩ ⟨by simp only [Sh.ap]; rw [if_neg (by simpa using d7), apL_map]; exact ⟨_, _, rfl, hk18⟩, rfl⟩
theorem notRight_ok (x : Sh) (hx : ∀ (v : Value) (E : World) (H : GH) (L : List It), VSh H v x → x.size < 1000000000000 → Ok Tryz.prog 55 #[v] E H L fun r H' L' => r = .bool x.right ∧ H = H' ∧ L = L')
   (v : Value) (E : World) (H : GH) (L : List It) (hv : VSh H v x) (hb : x.size < 1000000000000) :
   Ok Tryz.prog 109 #[v] E H L fun r H' L' => r = .bool (!x.right) ∧ H = H' ∧ L = L' := by
 obtain ⟨Ax0, cx0, rfl, hx0⟩ := hv
 refine enter (N := 6) [(0, _)] Tryz.func109 rfl rfl rfl rfl fun a w h => ?_
 refine au [1,2] h ?_
 refine bxA h fun g1 a w h => ?_
 refine au [0,6,0,2,3,3] h ?_; intro a w h
 refine cl bod55 (hx _ E H _ ⟨Ax0, cx0, rfl, hx0⟩ hb) h (fun r4 H4 L4 a w le4 R h => ?_)
 obtain ⟨rfl, rfl, rfl⟩ := R
 refine au [7,1,0,6,0,3,1,3] h ?_; intro a w h
 refine fin1 2 1 h LE.rfl ?_
 exact ⟨rfl, rfl, rfl⟩
theorem RightSh_ok : ∀ (t : Sh) (v : Value) (E : World) (H : GH) (L : List It), VSh H v t → t.size < 1000000000000 →
   Ok Tryz.prog 55 #[v] E H L fun r H' L' => r = .bool t.right ∧ H = H' ∧ L = L' := by
 intro t
 induction t using Sh.ind with
 | h kd nn ks ih =>
 intro v E H L hv hb
 obtain ⟨At0, ct0, rfl, ht0⟩ := hv
 dsimp only [Sh.kind, Sh.n, Sh.kids] at ht0 ⊢
 simp only [Sh.size] at hb
 have hlen := sh_len_le ks
 refine enter (N := 41) [(0, _)] Tryz.func55 rfl rfl rfl rfl fun a w h => ?_
 refine au [1,2] h ?_
 refine bxA h fun g1 a w h => ?_
 refine au [0,6,0,2,0,6,0,3,0,4,1,2,0,7,0,8,6,2,0,3] h ?_; intro a w h
 refine cdB h (fun c6 => ?_) (fun c6 => ?_)
 ·have d6 : kd = 3 := cd_ c6
  refine au [0,5,0,6,0,3,0,4] h ?_; intro a w h
  refine sqc (fun a w => S E H 41 [] [(1, .pointer (some ⟨g1, 0, none⟩)), (2, .bool false), (36, .bool ((decide (kd < 1)) || ((decide ((4 : Int) < kd)) || ((decide (nn < 0)) || (bif ((nn : Int) != 0) then (((kd : Int) != 4) || (((ks.length : Int) : Int) != 2)) else ((ks.length : Int) : Int) != 2)))))] (.obj g1 (.cells #[.int .i64 kd, .int .i64 nn, .slice At0 ks.length ct0] 31 (0, 0)) :: L) a w) ?_ ?_
  ·refine au [0,5,0,7,0,8,6,4] h ?_; intro a w h
   refine h.spl (fun c9 h => ?_) (fun c9 h => ?_)
   ·have d9 : kd < 1 := cd_ c9
    refine au [0,0,0,1,0,1,0,1,4,8,0,0,0,1,0,1,0,1,4,8,0,0,0,1,0,1,0,1,0,1,0,1,0,1,0,1,0,1,4,8,0,0,0,1,0,1,0,1,0,1,0,1,4,8,0,3] h ?_; intro a w h
    exact (by show S _ _ _ _ _ _ _ _; rw [show (.bool ((decide (kd < 1)) || ((decide ((4 : Int) < kd)) || ((decide (nn < 0)) || (bif ((nn : Int) != 0) then (((kd : Int) != 4) || (((ks.length : Int) : Int) != 2)) else ((ks.length : Int) : Int) != 2)))) : Value) = .bool true from Eq.symm (by first | ((try rw [c9]) <;> (try simp only [Bool.true_or, Bool.or_true, Bool.false_or, Bool.or_false, Bool.true_and, Bool.and_true, Bool.false_and, Bool.and_false, Bool.not_true, Bool.not_false, cond_true, cond_false]); done) | (exfalso; omega))]; exact h.to 0 _)
   ·have d9 : 1 ≤ kd := cd_ c9
    refine au [0,0,0,7,0,8,6,6,5,0] h ?_; intro a w h
    refine h.spl (fun c14 h => ?_) (fun c14 h => ?_)
    ·have d14 : 4 < kd := cd_ c14
     refine au [0,0,0,1,0,1,0,1,4,8,0,0,0,1,0,1,0,1,0,1,0,1,0,1,0,1,0,1,4,8,0,0,0,1,0,1,0,1,0,1,0,1,4,8,0,3] h ?_; intro a w h
     exact (by show S _ _ _ _ _ _ _ _; rw [show (.bool ((decide (kd < 1)) || ((decide ((4 : Int) < kd)) || ((decide (nn < 0)) || (bif ((nn : Int) != 0) then (((kd : Int) != 4) || (((ks.length : Int) : Int) != 2)) else ((ks.length : Int) : Int) != 2)))) : Value) = .bool true from Eq.symm (by first | ((try rw [c9]) <;> (try rw [c14]) <;> (try simp only [Bool.true_or, Bool.or_true, Bool.false_or, Bool.or_false, Bool.true_and, Bool.and_true, Bool.false_and, Bool.and_false, Bool.not_true, Bool.not_false, cond_true, cond_false]); done) | (exfalso; omega))]; exact h.to 0 _)
    ·have d14 : kd ≤ 4 := cd_ c14
     refine au [0,0,0,7,0,8,6,4,5,0] h ?_; intro a w h
     refine h.spl (fun c19 h => ?_) (fun c19 h => ?_)
     ·have d19 : nn < 0 := cd_ c19
      refine au [0,0,0,1,0,1,0,1,0,1,0,1,0,1,0,1,0,1,4,8,0,0,0,1,0,1,0,1,0,1,0,1,4,8,0,3] h ?_; intro a w h
      exact (by show S _ _ _ _ _ _ _ _; rw [show (.bool ((decide (kd < 1)) || ((decide ((4 : Int) < kd)) || ((decide (nn < 0)) || (bif ((nn : Int) != 0) then (((kd : Int) != 4) || (((ks.length : Int) : Int) != 2)) else ((ks.length : Int) : Int) != 2)))) : Value) = .bool true from Eq.symm (by first | ((try rw [c9]) <;> (try rw [c14]) <;> (try rw [c19]) <;> (try simp only [Bool.true_or, Bool.or_true, Bool.false_or, Bool.or_false, Bool.true_and, Bool.and_true, Bool.false_and, Bool.and_false, Bool.not_true, Bool.not_false, cond_true, cond_false]); done) | (exfalso; omega))]; exact h.to 0 _)
     ·have d19 : 0 ≤ nn := cd_ c19
      refine au [0,0,0,7,0,8,6,3] h ?_; intro a w h
      refine h.spl (fun c23 h => ?_) (fun c23 h => ?_)
      ·have d23 : nn ≠ 0 := cd_ c23
       refine au [0,0,0,7,0,8,6,3,4,8,5,0] h ?_; intro a w h
       refine h.spl (fun c29 h => ?_) (fun c29 h => ?_)
       ·have d29 : kd ≠ 4 := cd_ c29
        refine au [0,0,0,1,0,1,0,1,0,1,0,1,4,8,0,3] h ?_; intro a w h
        exact (by show S _ _ _ _ _ _ _ _; rw [show (.bool ((decide (kd < 1)) || ((decide ((4 : Int) < kd)) || ((decide (nn < 0)) || (bif ((nn : Int) != 0) then (((kd : Int) != 4) || (((ks.length : Int) : Int) != 2)) else ((ks.length : Int) : Int) != 2)))) : Value) = .bool true from Eq.symm (by first | ((try rw [c9]) <;> (try rw [c14]) <;> (try rw [c19]) <;> (try rw [c23]) <;> (try rw [c29]) <;> (try simp only [Bool.true_or, Bool.or_true, Bool.false_or, Bool.or_false, Bool.true_and, Bool.and_true, Bool.false_and, Bool.and_false, Bool.not_true, Bool.not_false, cond_true, cond_false]); done) | (exfalso; omega))]; exact h.to 0 _)
       ·have d29 : kd = 4 := cd_ c29
        refine au [0,0,0,7,0,8,6,0,0,0,6,3,5,0,0,3] h ?_; intro a w h
        exact (by show S _ _ _ _ _ _ _ _; rw [show (.bool ((decide (kd < 1)) || ((decide ((4 : Int) < kd)) || ((decide (nn < 0)) || (bif ((nn : Int) != 0) then (((kd : Int) != 4) || (((ks.length : Int) : Int) != 2)) else ((ks.length : Int) : Int) != 2)))) : Value) = .bool (((ks.length : Int) : Int) != 2) from Eq.symm (by first | ((try rw [c9]) <;> (try rw [c14]) <;> (try rw [c19]) <;> (try rw [c23]) <;> (try rw [c29]) <;> (try simp only [Bool.true_or, Bool.or_true, Bool.false_or, Bool.or_false, Bool.true_and, Bool.and_true, Bool.false_and, Bool.and_false, Bool.not_true, Bool.not_false, cond_true, cond_false]); done) | (exfalso; omega))]; exact h.to 0 _)
      ·have d23 : nn = 0 := cd_ c23
       refine au [0,0,0,1,0,1,0,1,5,0,5,0,0,0,0,7,0,8,6,0,0,0,6,3,5,0,0,3] h ?_; intro a w h
       exact (by show S _ _ _ _ _ _ _ _; rw [show (.bool ((decide (kd < 1)) || ((decide ((4 : Int) < kd)) || ((decide (nn < 0)) || (bif ((nn : Int) != 0) then (((kd : Int) != 4) || (((ks.length : Int) : Int) != 2)) else ((ks.length : Int) : Int) != 2)))) : Value) = .bool (((ks.length : Int) : Int) != 2) from Eq.symm (by first | ((try rw [c9]) <;> (try rw [c14]) <;> (try rw [c19]) <;> (try rw [c23]) <;> (try simp only [Bool.true_or, Bool.or_true, Bool.false_or, Bool.or_false, Bool.true_and, Bool.and_true, Bool.false_and, Bool.and_false, Bool.not_true, Bool.not_false, cond_true, cond_false]); done) | (exfalso; omega))]; exact h.to 0 _)
  ·rintro a w h
   refine cdB h (fun c36 => ?_) (fun c36 => ?_)
   ·refine au [1,2,0,6,0,3,1,3,1,4] h ?_; intro a w h
    refine fin1 2 1 h LE.rfl ?_
    exact ⟨by simp only [Sh.right]; rw [nodeSh_c3 d6 c36]; rfl, rfl, rfl⟩
   ·refine au [1,8,1,0,1,2,0,7,0,8] h ?_; intro a w h
    refine cl bod108 (ContainsFunc_Sh_ok ks _ _ (fun t => !t.right) 109 #[] E H _ ht0 (by omega) bod109 (fun j hj v hv => notRight_ok _ (ih _ (List.getElem_mem hj)) v E _ _ hv (by have := sh_size_le (List.getElem_mem hj); omega))) h (fun r39 H39 L39 a w le39 R h => ?_)
    obtain ⟨rfl, rfl, rfl⟩ := R
    refine au [7,1,0,6,0,3,1,3] h ?_; intro a w h
    refine fin1 2 1 h LE.rfl ?_
    exact ⟨by simp only [Sh.right]; rw [nodeSh_c3 d6 c36]; rw [rightSL_not]; rfl, rfl, rfl⟩
 ·have d6 : kd ≠ 3 := cd_ c6
  refine au [1,8,1,0,0,4] h ?_
  refine sqc (fun a w => S E H 41 [] [(1, .pointer (some ⟨g1, 0, none⟩)), (2, .bool false), (36, .bool ((decide (kd < 1)) || ((decide ((4 : Int) < kd)) || ((decide (nn < 0)) || (bif ((nn : Int) != 0) then (((kd : Int) != 4) || (((ks.length : Int) : Int) != 0)) else ((ks.length : Int) : Int) != 0)))))] (.obj g1 (.cells #[.int .i64 kd, .int .i64 nn, .slice At0 ks.length ct0] 31 (0, 0)) :: L) a w) ?_ ?_
  ·refine au [0,5,0,7,0,8,6,4] h ?_; intro a w h
   refine h.spl (fun c9 h => ?_) (fun c9 h => ?_)
   ·have d9 : kd < 1 := cd_ c9
    refine au [0,0,0,1,0,1,0,1,4,8,0,0,0,1,0,1,0,1,4,8,0,0,0,1,0,1,0,1,0,1,0,1,0,1,0,1,0,1,4,8,0,0,0,1,0,1,0,1,0,1,0,1,4,8,0,3] h ?_; intro a w h
    exact (by show S _ _ _ _ _ _ _ _; rw [show (.bool ((decide (kd < 1)) || ((decide ((4 : Int) < kd)) || ((decide (nn < 0)) || (bif ((nn : Int) != 0) then (((kd : Int) != 4) || (((ks.length : Int) : Int) != 0)) else ((ks.length : Int) : Int) != 0)))) : Value) = .bool true from Eq.symm (by first | ((try rw [c9]) <;> (try simp only [Bool.true_or, Bool.or_true, Bool.false_or, Bool.or_false, Bool.true_and, Bool.and_true, Bool.false_and, Bool.and_false, Bool.not_true, Bool.not_false, cond_true, cond_false]); done) | (exfalso; omega))]; exact h.to 0 _)
   ·have d9 : 1 ≤ kd := cd_ c9
    refine au [0,0,0,7,0,8,6,6,5,0] h ?_; intro a w h
    refine h.spl (fun c14 h => ?_) (fun c14 h => ?_)
    ·have d14 : 4 < kd := cd_ c14
     refine au [0,0,0,1,0,1,0,1,4,8,0,0,0,1,0,1,0,1,0,1,0,1,0,1,0,1,0,1,4,8,0,0,0,1,0,1,0,1,0,1,0,1,4,8,0,3] h ?_; intro a w h
     exact (by show S _ _ _ _ _ _ _ _; rw [show (.bool ((decide (kd < 1)) || ((decide ((4 : Int) < kd)) || ((decide (nn < 0)) || (bif ((nn : Int) != 0) then (((kd : Int) != 4) || (((ks.length : Int) : Int) != 0)) else ((ks.length : Int) : Int) != 0)))) : Value) = .bool true from Eq.symm (by first | ((try rw [c9]) <;> (try rw [c14]) <;> (try simp only [Bool.true_or, Bool.or_true, Bool.false_or, Bool.or_false, Bool.true_and, Bool.and_true, Bool.false_and, Bool.and_false, Bool.not_true, Bool.not_false, cond_true, cond_false]); done) | (exfalso; omega))]; exact h.to 0 _)
    ·have d14 : kd ≤ 4 := cd_ c14
     refine au [0,0,0,7,0,8,6,4,5,0] h ?_; intro a w h
     refine h.spl (fun c19 h => ?_) (fun c19 h => ?_)
     ·have d19 : nn < 0 := cd_ c19
      refine au [0,0,0,1,0,1,0,1,0,1,0,1,0,1,0,1,0,1,4,8,0,0,0,1,0,1,0,1,0,1,0,1,4,8,0,3] h ?_; intro a w h
      exact (by show S _ _ _ _ _ _ _ _; rw [show (.bool ((decide (kd < 1)) || ((decide ((4 : Int) < kd)) || ((decide (nn < 0)) || (bif ((nn : Int) != 0) then (((kd : Int) != 4) || (((ks.length : Int) : Int) != 0)) else ((ks.length : Int) : Int) != 0)))) : Value) = .bool true from Eq.symm (by first | ((try rw [c9]) <;> (try rw [c14]) <;> (try rw [c19]) <;> (try simp only [Bool.true_or, Bool.or_true, Bool.false_or, Bool.or_false, Bool.true_and, Bool.and_true, Bool.false_and, Bool.and_false, Bool.not_true, Bool.not_false, cond_true, cond_false]); done) | (exfalso; omega))]; exact h.to 0 _)
     ·have d19 : 0 ≤ nn := cd_ c19
      refine au [0,0,0,7,0,8,6,3] h ?_; intro a w h
      refine h.spl (fun c23 h => ?_) (fun c23 h => ?_)
      ·have d23 : nn ≠ 0 := cd_ c23
       refine au [0,0,0,7,0,8,6,3,4,8,5,0] h ?_; intro a w h
       refine h.spl (fun c29 h => ?_) (fun c29 h => ?_)
       ·have d29 : kd ≠ 4 := cd_ c29
        refine au [0,0,0,1,0,1,0,1,0,1,0,1,4,8,0,3] h ?_; intro a w h
        exact (by show S _ _ _ _ _ _ _ _; rw [show (.bool ((decide (kd < 1)) || ((decide ((4 : Int) < kd)) || ((decide (nn < 0)) || (bif ((nn : Int) != 0) then (((kd : Int) != 4) || (((ks.length : Int) : Int) != 0)) else ((ks.length : Int) : Int) != 0)))) : Value) = .bool true from Eq.symm (by first | ((try rw [c9]) <;> (try rw [c14]) <;> (try rw [c19]) <;> (try rw [c23]) <;> (try rw [c29]) <;> (try simp only [Bool.true_or, Bool.or_true, Bool.false_or, Bool.or_false, Bool.true_and, Bool.and_true, Bool.false_and, Bool.and_false, Bool.not_true, Bool.not_false, cond_true, cond_false]); done) | (exfalso; omega))]; exact h.to 0 _)
       ·have d29 : kd = 4 := cd_ c29
        refine au [0,0,0,7,0,8,6,0,0,0,6,3,5,0,0,3] h ?_; intro a w h
        exact (by show S _ _ _ _ _ _ _ _; rw [show (.bool ((decide (kd < 1)) || ((decide ((4 : Int) < kd)) || ((decide (nn < 0)) || (bif ((nn : Int) != 0) then (((kd : Int) != 4) || (((ks.length : Int) : Int) != 0)) else ((ks.length : Int) : Int) != 0)))) : Value) = .bool (((ks.length : Int) : Int) != 0) from Eq.symm (by first | ((try rw [c9]) <;> (try rw [c14]) <;> (try rw [c19]) <;> (try rw [c23]) <;> (try rw [c29]) <;> (try simp only [Bool.true_or, Bool.or_true, Bool.false_or, Bool.or_false, Bool.true_and, Bool.and_true, Bool.false_and, Bool.and_false, Bool.not_true, Bool.not_false, cond_true, cond_false]); done) | (exfalso; omega))]; exact h.to 0 _)
      ·have d23 : nn = 0 := cd_ c23
       refine au [0,0,0,1,0,1,0,1,5,0,5,0,0,0,0,7,0,8,6,0,0,0,6,3,5,0,0,3] h ?_; intro a w h
       exact (by show S _ _ _ _ _ _ _ _; rw [show (.bool ((decide (kd < 1)) || ((decide ((4 : Int) < kd)) || ((decide (nn < 0)) || (bif ((nn : Int) != 0) then (((kd : Int) != 4) || (((ks.length : Int) : Int) != 0)) else ((ks.length : Int) : Int) != 0)))) : Value) = .bool (((ks.length : Int) : Int) != 0) from Eq.symm (by first | ((try rw [c9]) <;> (try rw [c14]) <;> (try rw [c19]) <;> (try rw [c23]) <;> (try simp only [Bool.true_or, Bool.or_true, Bool.false_or, Bool.or_false, Bool.true_and, Bool.and_true, Bool.false_and, Bool.and_false, Bool.not_true, Bool.not_false, cond_true, cond_false]); done) | (exfalso; omega))]; exact h.to 0 _)
  ·rintro a w h
   refine cdB h (fun c36 => ?_) (fun c36 => ?_)
   ·refine au [1,2,0,6,0,3,1,3,1,4] h ?_; intro a w h
    refine fin1 2 1 h LE.rfl ?_
    exact ⟨by simp only [Sh.right]; rw [nodeSh_c0 d6 c36]; rfl, rfl, rfl⟩
   ·refine au [1,8,1,0,1,2,0,7,0,8] h ?_; intro a w h
    refine cl bod108 (ContainsFunc_Sh_ok ks _ _ (fun t => !t.right) 109 #[] E H _ ht0 (by omega) bod109 (fun j hj v hv => notRight_ok _ (ih _ (List.getElem_mem hj)) v E _ _ hv (by have := sh_size_le (List.getElem_mem hj); omega))) h (fun r39 H39 L39 a w le39 R h => ?_)
    obtain ⟨rfl, rfl, rfl⟩ := R
    refine au [7,1,0,6,0,3,1,3] h ?_; intro a w h
    refine fin1 2 1 h LE.rfl ?_
    exact ⟨by simp only [Sh.right]; rw [nodeSh_c0 d6 c36]; rw [rightSL_not]; rfl, rfl, rfl⟩
theorem isAt_ok (b : Bd) (n : Int) (g1 : Nat) (v : Value) (E : World) (H : GH) (L : List It) (hv : VBd H v b) (h1 : Hc H g1 0 (.int .i64 n)) :
   Ok Tryz.prog 255 #[v, .pointer (some ⟨g1, 0, none⟩)] E H L fun r H' L' => r = .bool (b.n == n) ∧ H = H' ∧ L = L' := by
 obtain ⟨Ab0, cb0, rfl, hb0⟩ := hv
 refine enter (N := 8) [(0, _), (1, _)] Tryz.func255 rfl rfl rfl rfl fun a w h => ?_
 refine au [1,2] h ?_
 refine bxA h fun g2 a w h => ?_
 refine au [0,6,0,2,0,7,0,8] h ?_; intro a w h
 refine ldH t1_3 (h1) h fun a w h => ?_
 refine au [6,2,0,6,0,3,1,3] h ?_; intro a w h
 refine fin1 3 1 h LE.rfl ?_
 exact ⟨rfl, rfl, rfl⟩
theorem place_ok (l : List Bd) (n : Int) (A : Option Addr) (c : Nat) (E : World) (H : GH) (L : List It) (hl : BdS H A c l) (hb : l.length < 1000000000000) :
   Ok Tryz.prog 205 #[.slice A l.length c, .int .i64 n] E H L fun r H' L' => r = .int .i64 (indexF (fun b : Bd => b.n == n) l) ∧ H = H' ∧ L = L' := by
 refine enter (N := 8) [(0, _), (1, _)] Tryz.func205 rfl rfl rfl rfl fun a w h => ?_
 refine au [1,2] h ?_
 refine bx1 h fun g3 a w h => ?_
 refine au [0,6,0,3,0,4] h ?_; intro a w h
 obtain ⟨Hg3, leHg3, h, hfg3⟩ := h.frz 0
 refine au [0,5,0,0,7,3] h ?_; intro a w h
 refine cl bod254 (IndexFunc_Bd_ok l _ _ (fun b => b.n == n) 255 #[.pointer (some ⟨g3, 0, none⟩)] E Hg3 _ (BdS.up hl leHg3) hb bod255 (fun j hj v hv => isAt_ok _ n g3 v E _ _ hv (Hc.of hfg3 rfl))) h (fun r7 H7 L7 a w le7 R h => ?_)
 obtain ⟨rfl, rfl, rfl⟩ := R
 refine au [0,6,0,3,1,3] h ?_; intro a w h
 refine fin1 4 0 (h.less leHg3) LE.rfl ?_
 exact ⟨rfl, rfl, rfl⟩
theorem SameSh_ok : ∀ (t u : Sh) (v v2 : Value) (E : World) (H : GH) (L : List It), VSh H v t → VSh H v2 u → t.size < 1000000000000 →
   Ok Tryz.prog 36 #[v, v2] E H L fun r H' L' => r = .bool (t.same u) ∧ H = H' ∧ L = L' := by
 intro t
 induction t using Sh.ind with
 | h kd nn ks ih =>
 intro u v v2 E H L hv hv2 hb
 obtain ⟨kd2, nn2, ks2⟩ := u
 obtain ⟨At0, ct0, rfl, ht0⟩ := hv
 dsimp only [Sh.kind, Sh.n, Sh.kids] at ht0 ⊢
 obtain ⟨Au0, cu0, rfl, hu0⟩ := hv2
 dsimp only [Sh.kind, Sh.n, Sh.kids] at hu0 ⊢
 simp only [Sh.size] at hb
 have hlen := sh_len_le ks
 refine enter (N := 24) [(0, _), (1, _)] Tryz.func36 rfl rfl rfl rfl fun a w h => ?_
 refine au [1,2] h ?_
 refine bxA h fun g2 a w h => ?_
 refine bxA h fun g3 a w h => ?_
 refine au [0,6,0,3] h ?_; intro a w h
 refine sqc (fun a w => S E H 24 [] [(4, .bool (((kd : Int) == kd2) && (((nn : Int) == nn2) && (eqBy Sh.same ks ks2))))] (.obj g3 (.cells #[.int .i64 kd2, .int .i64 nn2, .slice Au0 ks2.length cu0] 31 (0, 0)) :: .obj g2 (.cells #[.int .i64 kd, .int .i64 nn, .slice At0 ks.length ct0] 31 (0, 0)) :: L) a w) ?_ ?_
 ·refine au [0,5,0,7,2,8,0,7,0,8,6,2] h ?_; intro a w h
  refine h.spl (fun c9 h => ?_) (fun c9 h => ?_)
  ·have d9 : kd = kd2 := cd_ c9
   refine au [0,0,0,7,2,8,0,7,0,8,6,2,4,8] h ?_; intro a w h
   refine h.spl (fun c16 h => ?_) (fun c16 h => ?_)
   ·have d16 : nn = nn2 := cd_ c16
    refine au [0,0,0,7,2,8,0,7,0,8] h ?_; intro a w h
    refine cl bod82 (EqualFunc_Sh_ok ks ks2 _ _ _ _ Sh.same 36 #[] E H _ ht0 hu0 (by omega) bod36 (fun j hj hj2 v v2 L2 hv hv2 => ih _ (List.getElem_mem hj) _ v v2 E _ L2 hv hv2 (by have := sh_size_le (List.getElem_mem hj); omega))) h (fun r22 H22 L22 a w le22 R h => ?_)
    obtain ⟨rfl, rfl, rfl⟩ := R
    refine au [4,8,0,6,0,3] h ?_; intro a w h
    exact (by show S _ _ _ _ _ _ _ _; rw [show (.bool (((kd : Int) == kd2) && (((nn : Int) == nn2) && (eqBy Sh.same ks ks2))) : Value) = .bool (eqBy Sh.same ks ks2) from Eq.symm (by first | ((try rw [c9]) <;> (try rw [c16]) <;> (try simp only [Bool.true_or, Bool.or_true, Bool.false_or, Bool.or_false, Bool.true_and, Bool.and_true, Bool.false_and, Bool.and_false, Bool.not_true, Bool.not_false, cond_true, cond_false]); done) | (exfalso; omega))]; exact h.to 0 _)
   ·have d16 : nn ≠ nn2 := cd_ c16
    refine au [0,0,0,1,0,1,0,1,0,1,0,1,5,0,0,6,0,3] h ?_; intro a w h
    exact (by show S _ _ _ _ _ _ _ _; rw [show (.bool (((kd : Int) == kd2) && (((nn : Int) == nn2) && (eqBy Sh.same ks ks2))) : Value) = .bool false from Eq.symm (by first | ((try rw [c9]) <;> (try rw [c16]) <;> (try simp only [Bool.true_or, Bool.or_true, Bool.false_or, Bool.or_false, Bool.true_and, Bool.and_true, Bool.false_and, Bool.and_false, Bool.not_true, Bool.not_false, cond_true, cond_false]); done) | (exfalso; omega))]; exact h.to 0 _)
  ·have d9 : kd ≠ kd2 := cd_ c9
   refine au [0,0,0,1,0,1,0,1,0,1,0,1,5,0,0,0,0,1,0,1,0,1,0,1,0,1,5,0,0,6,0,3] h ?_; intro a w h
   exact (by show S _ _ _ _ _ _ _ _; rw [show (.bool (((kd : Int) == kd2) && (((nn : Int) == nn2) && (eqBy Sh.same ks ks2))) : Value) = .bool false from Eq.symm (by first | ((try rw [c9]) <;> (try simp only [Bool.true_or, Bool.or_true, Bool.false_or, Bool.or_false, Bool.true_and, Bool.and_true, Bool.false_and, Bool.and_false, Bool.not_true, Bool.not_false, cond_true, cond_false]); done) | (exfalso; omega))]; exact h.to 0 _)
 ·rintro a w h
  refine ret_ ?_
  refine fin1 4 2 h LE.rfl ?_
  exact ⟨by simp only [Sh.same]; rw [← sameSL_eqBy], rfl, rfl⟩
theorem doApply_ok (l : List Bd) (A : Option Addr) (c : Nat) (g1 : Nat) (nn : Int) (ks : List Sh) (v : Value) (E : World) (H : GH) (L : List It) (hl : BdS H A c l) (hb : l.length < 1000000000000) (h1 : Hc H g1 0 (.slice A l.length c)) (hv : VSh H v (.mk 4 nn ks)) :
   Ok Tryz.prog 208 #[v, .pointer (some ⟨g1, 0, none⟩)] E H L fun r H' L' => VSh H' r ((look l nn).getD (.mk 4 nn ks)) ∧ L = L' := by
 obtain ⟨At0, ct0, rfl, ht0⟩ := hv
 dsimp only [Sh.kind, Sh.n, Sh.kids] at ht0 ⊢
 refine enter (N := 17) [(0, _), (1, _)] Tryz.func208 rfl rfl rfl rfl fun a w h => ?_
 refine au [1,2] h ?_
 refine bxA h fun g2 a w h => ?_
 refine al zr31 h fun g3 a w h => ?_
 refine au [0,3,0,4,1,2] h ?_
 refine ldH t1_125 (h1) h fun a w h => ?_
 refine au [0,7,2,8] h ?_; intro a w h
 refine cl bod205 (place_ok l nn _ _ E H _ hl (by first | assumption | omega)) h (fun r8 H8 L8 a w le8 R h => ?_)
 obtain ⟨rfl, rfl, rfl⟩ := R
 refine au [0,6,0,2,0,0,6,7,0,3] h ?_; intro a w h
 refine cdB h (fun c10 => ?_) (fun c10 => ?_)
 ·have d10 : 0 ≤ (indexF (fun b : Bd => b.n == nn) l) := cd_ c10
  obtain ⟨j, hj, ej, el⟩ := look_hit c10
  rw [ej] at h
  refine au [1,2] h ?_
  refine ldH t1_125 (h1) h fun a w h => ?_
  refine mv h fun a w h => ?_
  have hj13 : j < l.length := by first | assumption | omega | (simp; done) | (simp; omega)
  obtain ⟨g13, o13, A13_0, c13_0, e13, hv13, hc13⟩ := BdS.get hl hj13
  obtain ⟨_, _, q13, hk13_0⟩ := hv13; cases q13
  refine iaE sli125 sz307 rfl hj13 e13 h fun a w h => ?_
  refine fa fl307_1 (r := o13 + j * 4 + 1) h fun a w h => ?_
  refine ldHN (l := [_, _, _]) tN31 rfl (sbL 1 3 hc13) h fun a w h => ?_
  refine au [5,5,0,3,1,3,1,4] h ?_; intro a w h
  exact fin (rs := [.cell 3 31]) (vs := [.agg #[_, _, _]]) h rfl (.agg (k0 := 0) tN31 rfl rfl rfl .nil) rfl LE.rfl ⟨LE.rfl, h.st.drop 2⟩ ⟨by rw [el]; exact ⟨_, _, rfl, hk13_0⟩, rfl⟩
 ·have d10 : (indexF (fun b : Bd => b.n == nn) l) < 0 := cd_ c10
  have el := look_miss c10
  refine au [1,8,1,0,1,2,3,4,5,5,0,3,1,3] h ?_; intro a w h
  exact fin (rs := [.cell 3 31]) (vs := [.agg #[_, _, _]]) h rfl (.agg (k0 := 0) tN31 rfl rfl rfl .nil) rfl LE.rfl ⟨LE.rfl, h.st.drop 2⟩ ⟨by rw [el]; exact ⟨_, _, rfl, HS.up ht0 LE.rfl⟩, rfl⟩
theorem Apply_ok (l : List Bd) (t : Sh) (A : Option Addr) (c : Nat) (v : Value) (E : World) (H : GH) (L : List It) (hl : BdS H A c l) (hv : VSh H v t) (hb : l.length < 1000000000000) (hbt : t.size < 1000000000000) :
   Ok Tryz.prog 169 #[.slice A l.length c, v] E H L fun r H' L' => VSh H' r (t.ap (look l)) ∧ L = L' := by
 obtain ⟨At0, ct0, rfl, ht0⟩ := hv
 refine enter (N := 8) [(0, _), (1, _)] Tryz.func169 rfl rfl rfl rfl fun a w h => ?_
 refine au [1,2] h ?_
 refine bx1 h fun g2 a w h => ?_
 refine bxA h fun g3 a w h => ?_
 refine al zr31 h fun g4 a w h => ?_
 refine au [0,3,0,4] h ?_
 obtain ⟨Hg2, leHg2, h, hfg2⟩ := h.frz 2
 refine au [0,5,3,4,7,3] h ?_; intro a w h
 refine cl bod207 (turned_ok t (look l) 208 #[.pointer (some ⟨g2, 0, none⟩)] _ E Hg2 _ ⟨bod208, fun n ks v H1 L1 l1 hv => doApply_ok l _ _ g2 n ks v E H1 L1 (BdS.up hl (leHg2.trans l1)) hb ((Hc.of hfg2 rfl).mono l1) hv⟩ ⟨At0, ct0, rfl, (HS.up ht0 leHg2)⟩ hbt) h (fun r7 H7 L7 a w le7 R h => ?_)
 obtain ⟨⟨A7_0, c7_0, rfl, hk7_0⟩, rfl⟩ := R
 refine au [5,5,0,3,1,3] h ?_; intro a w h
 have l_H_H7 : LE H H7 := leHg2.trans le7
 exact fin (rs := [.cell 4 31]) (vs := [.agg #[_, _, _]]) h rfl (.agg (k0 := 0) tN31 rfl rfl rfl .nil) rfl l_H_H7 ⟨LE.rfl, h.st.drop 2⟩ ⟨⟨_, _, rfl, hk7_0⟩, rfl⟩
theorem doGround_ok (t : Sh) (v : Value) (E : World) (H : GH) (L : List It) (hv : VSh H v t) :
   Ok Tryz.prog 209 #[v] E H L fun r H' L' => VSh H' r (.mk 1 0 []) ∧ L = L' := by
 obtain ⟨At0, ct0, rfl, ht0⟩ := hv
 refine enter (N := 4) [(0, _)] Tryz.func209 rfl rfl rfl rfl fun a w h => ?_
 refine au [1,2] h ?_
 refine bxA h fun g1 a w h => ?_
 refine al zr31 h fun g2 a w h => ?_
 refine au [0,2,7,5,5,5,0,3,1,3] h ?_; intro a w h
 exact fin (rs := [.cell 2 31]) (vs := [.agg #[_, _, _]]) h rfl (.agg (k0 := 0) tN31 rfl rfl rfl .nil) rfl LE.rfl ⟨LE.rfl, h.st.drop 2⟩ ⟨⟨_, _, rfl, RS.nil _ _ _⟩, rfl⟩
theorem Ground_ok (t : Sh) (v : Value) (E : World) (H : GH) (L : List It) (hv : VSh H v t) (hbt : t.size < 1000000000000) :
   Ok Tryz.prog 170 #[v] E H L fun r H' L' => VSh H' r (t.ap (fun _ => some (.mk 1 0 []))) ∧ L = L' := by
 obtain ⟨At0, ct0, rfl, ht0⟩ := hv
 refine enter (N := 5) [(0, _)] Tryz.func170 rfl rfl rfl rfl fun a w h => ?_
 refine au [1,2] h ?_
 refine bxA h fun g1 a w h => ?_
 refine al zr31 h fun g2 a w h => ?_
 refine au [0,2,3,4] h ?_; intro a w h
 refine cl bod207 (turned_ok t (fun _ => some (.mk 1 0 [])) 209 #[] _ E H _ ⟨bod209, fun n ks v H1 L1 l1 hv => doGround_ok _ v E H1 L1 hv⟩ ⟨At0, ct0, rfl, ht0⟩ hbt) h (fun r4 H4 L4 a w le4 R h => ?_)
 obtain ⟨⟨A4_0, c4_0, rfl, hk4_0⟩, rfl⟩ := R
 refine au [5,5,0,3,1,3] h ?_; intro a w h
 exact fin (rs := [.cell 2 31]) (vs := [.agg #[_, _, _]]) h rfl (.agg (k0 := 0) tN31 rfl rfl rfl .nil) rfl le4 ⟨LE.rfl, h.st.drop 2⟩ ⟨⟨_, _, rfl, hk4_0⟩, rfl⟩
open Go.Proofs Go.RowKit Go.Shelf Go.Sort
abbrev encI : Int → Value := fun n => .int .i64 n
theorem undInt : Tryz.prog.underlying 3 = some (.int .i64) := by kernel_rfl
theorem keyI : KeyLaw Tryz.prog 3 encI (.int .i64) := keyInt undInt
theorem mapII : mapT Tryz.prog 197 = some (3, 3) := by kernel_rfl
theorem keysI_ok (b : Nat) (E : World) (H : GH) (L : List It) : Ok Tryz.prog 107 #[.map (some b)] E H L fun r H' L' => ∃ g, r = .func (.func 143) #[] #[.pointer (some ⟨g, 0, none⟩)] ∧ H = H' ∧ L' = .obj g (.cells #[.map (some b)] 197 (0, 0)) :: L := fun w hw =>
 (callsIn_wide.1 (AnyZI.keys_in Tryz.keys107 Fence.wide 5 trivial rfl (some b) w)).mono fun e w' ⟨he, hw'⟩ => ⟨_, H, _, he, LE.rfl, by subst hw'; exact hw.alloc _, _, rfl, rfl, rfl⟩
theorem sortsI (m : Nat) : AnyZI.SortsIn Tryz.prog Tryz.sorted106_ren Fence.wide m :=
 ⟨fun blk off cap ss W hH hblk hsz => callsIn_wide.2 (Tryz.slices_Sort_int blk off cap ss W hH hblk hsz), fun p cap W => callsIn_wide.2 (Tryz.slices_Sort_int_none p cap W)⟩
theorem subI_len : ∀ {l m : List Int}, l.Nodup → (∀ x ∈ l, x ∈ m) → l.length ≤ m.length
 | [], _, _, _ => Nat.zero_le _
 | a :: l, m, hd, hs => by
   rw [List.nodup_cons] at hd
   have hm := hs a (List.mem_cons_self ..)
   have := subI_len (l := l) (m := m.erase a) hd.2 fun x hx => (List.mem_erase_of_ne (fun e => by subst e; exact hd.1 hx)).2 (hs x (List.mem_cons_of_mem _ hx))
   rw [List.length_erase_of_mem hm] at this
   have := List.length_pos_of_mem hm
   simp only [List.length_cons]; omega
theorem sortedI_ok (b g : Nat) (f : Int → Option Value) (k0 : Nat) (E : World) (H : GH) (L : List It) (hg : L[0]? = some (.obj g (.cells #[.map (some b)] 197 (0, 0)))) (hb : L[k0]? = some (.blk b (IsMap encI f)))
   (hwf : ∀ x, (f x).isSome = true → (Lit.int .i64 x).wf = true) (hcnt : ∀ l : List Int, l.Nodup → (∀ x ∈ l, (f x).isSome = true) → l.length < 1000000000000) :
   Ok Tryz.prog 106 #[.func (.func 143) #[] #[.pointer (some ⟨g, 0, none⟩)]] E H L fun r H' L' => ∃ (A : Option Addr) (c : Nat) (ss : List Int), r = .slice A ss.length c ∧ H = H' ∧ L' = .row (.slice A ss.length c) 3 1 ss.length (ss.map encI) :: L ∧ ss.length < 1000000000000 ∧ ∀ x, x ∈ ss ↔ (f x).isSome = true := fun w hw => by
 obtain ⟨o, ho, es, clock, m, rfl, hst, h1, h2, h3⟩ := item_at hw.sees hb
 have hcell : w.heap[g]? = some (.cells #[.map (some b)] 197 (0, 0)) := item_at hw.sees hg
 have hmem : ∀ k, (k ∈ m.map (·.1)) ↔ (f k).isSome = true := fun k => by
   rw [← h3 k]; exact (lk_some k m).symm
 have hml : m.length < 1000000000000 := by
   have := hcnt (m.map (·.1)) h2 (fun x hx => (hmem x).1 hx)
   simpa using this
 have hel : es.size = m.length := by simpa using congrArg List.length h1
 let R : Value → Option (DataW Unit × List MemPlace) := fun _ => some (.nil, [])
 have hkey : ∀ (s : Int), (Lit.int .i64 s).wf = true → keyOf Tryz.prog 3 (.int .i64 s) = some (.int .i64 s) := fun s hs => by
   unfold keyOf
   simp [mapKey, undInt, hs]
 have hread : ∀ x ∈ es.toList, ∃ s : Int, s ∈ m.map (·.1) ∧ x.key = .int .i64 s ∧ WideElems.rd Tryz.prog 3 R x = some (.int .i64 s, .nil) := fun x hx => by
   have : (x.key, x.val) ∈ m.map (fun p => (encI p.1, p.2)) := by rw [← h1]; exact List.mem_map.2 ⟨x, hx, rfl⟩
   obtain ⟨p, hp, hpe⟩ := List.mem_map.1 this
   have he : x.key = .int .i64 p.1 := (congrArg Prod.fst hpe).symm
   have hpm : p.1 ∈ m.map (·.1) := List.mem_map.2 ⟨p, hp, rfl⟩
   refine ⟨p.1, hpm, he, ?_⟩
   have hk := hkey p.1 (hwf _ ((hmem _).1 hpm))
   unfold WideElems.rd
   rw [he, hk]; rfl
 have hown : w.ownsMap Tryz.prog 3 R b es.size (.map ((es.toList.map (WideElems.rg Tryz.prog 3 R)).foldr DataW.insert [])) :=
   ⟨es, clock, ho, ⟨by rw [hel]; simp only [maxLen]; omega, hst, fun x hx => let ⟨s, _, _, h⟩ := hread x hx; ⟨_, h⟩⟩, Nat.le_refl _, rfl⟩
 have hD : intKeys (.map ((es.toList.map (WideElems.rg Tryz.prog 3 R)).foldr DataW.insert []) : DataW Unit) = (((es.toList.map (WideElems.rg Tryz.prog 3 R)).foldr DataW.insert [])).map fun p => Go.intOf p.1 := rfl
 have hperm : (intKeys (.map ((es.toList.map (WideElems.rg Tryz.prog 3 R)).foldr DataW.insert []) : DataW Unit)).Perm (m.map (·.1)) := by
   rw [hD]
   refine ((WideShapes.sorted_perm _).map _).trans (.of_eq ?_)
   rw [List.map_map]
   have e2 : m.map (·.1) = es.toList.map (fun x => match x.key with | .int _ s => s | _ => 0) := by
     have := congrArg (List.map (fun q : Value × Value => match q.1 with | .int _ s => s | _ => 0)) h1
     rw [List.map_map, List.map_map] at this
     rw [show m.map (·.1) = m.map ((fun q : Value × Value => match q.1 with | .int _ s => s | _ => 0) ∘ fun p => (encI p.1, p.2)) from List.map_congr_left fun p _ => by simp, ← this]
     rfl
   rw [e2]
   refine List.map_congr_left fun x hx => ?_
   obtain ⟨s, _, hk, hr⟩ := hread x hx
   simp only [Function.comp, WideElems.rg_of hr, hk]
   try simp [Go.intOf]
 have hseq : SeqGives Fence.wide 2 Tryz.prog 143 #[.pointer (some ⟨g, 0, none⟩)] encZ (fun ss => ss.Perm (intKeys (.map ((es.toList.map (WideElems.rg Tryz.prog 3 R)).foldr DataW.insert []) : DataW Unit))) _ w :=
   AnyZI.keys_gives (ρ := Tryz.keys107_ren) { Tryz.keys107 with } Fence.wide _ trivial rfl (by omega) g b es.size _ w (Array.getElem?_eq_some_iff.1 hcell).1 (by simp [World.cell?, hcell]) hown
 have hsz : Maps.size (.map ((es.toList.map (WideElems.rg Tryz.prog 3 R)).foldr DataW.insert []) : DataW Unit) = m.length := by
   have := hperm.length_eq
   rw [hD, List.length_map, List.length_map] at this
   exact this
 refine (callsIn_wide.1 (AnyZI.sorted_in Tryz.sorted106 Fence.wide 5 trivial trivial trivial trivial rfl (by omega) (sortsI _) (enters_of Tryz.func142 (by kernel_rfl) rfl) 143 #[.pointer (some ⟨g, 0, none⟩)] trivial (enters_of Tryz.func143 (by kernel_rfl) rfl) _ _ (by rw [hsz]; simp only [maxLen]; omega) (by rw [hsz]; omega) w hseq)).mono ?_
 rintro e w' ⟨v, ss, he, hS, hrow, hnil, hbel⟩
 have hlen' : (ss.mergeSort fun x y => decide (x ≤ y)).length = ss.length := List.length_mergeSort ..
 have hpm : (ss.mergeSort fun x y => decide (x ≤ y)).Perm (m.map (·.1)) := (List.mergeSort_perm ..).trans (hS.trans hperm)
 have hv : ∃ A c, v = .slice A (ss.mergeSort fun x y => decide (x ≤ y)).length c := by
   rw [hlen']
   rcases hrow.2 with ⟨rfl, e⟩ | ⟨_, cap, _, rfl, _⟩
   · exact ⟨none, 0, by rw [e]⟩
   · exact ⟨_, _, rfl⟩
 obtain ⟨Ad, c, rfl⟩ := hv
 rw [← hlen'] at hrow
 refine ⟨_, H, _, he, LE.rfl, St.belowRow hw hbel hrow, Ad, c, ss.mergeSort fun x y => decide (x ≤ y), rfl, rfl, rfl, ?_, fun x => (hpm.mem_iff).trans (hmem x)⟩
 have := hpm.length_eq
 rw [List.length_map] at this
 omega
theorem holesW_ok : ∀ (t : Sh) (v : Value) (E : World) (H : GH) (L : List It) (gmc gwc gm : Nat) (fm : Int → Option Value), VSh H v t → t.size < 1000000000000 →
   (∀ x u, fm x = some u → ∃ n : Int, u = .int .i64 n) → Hc H gmc 0 (.map (some gm)) → Hc H gwc 0 (.func (.func 105) #[] #[.pointer (some ⟨gmc, 0, none⟩), .pointer (some ⟨gwc, 0, none⟩)]) →
   Ok Tryz.prog 105 #[v, .pointer (some ⟨gmc, 0, none⟩), .pointer (some ⟨gwc, 0, none⟩)] E H (.blk gm (IsMap encI fm) :: L) fun r H' L' => r = .tuple #[] ∧ H = H' ∧ ∃ fm', L' = .blk gm (IsMap encI fm') :: L ∧
     (∀ x, (fm' x).isSome = ((fm x).isSome || t.hl.contains x)) ∧ (∀ x u, fm' x = some u → ∃ n : Int, u = .int .i64 n) := by
 intro t
 induction t using Sh.ind with
 | h kd nn ks ih =>
 intro v E H L gmc gwc gm fm hv hb hmi hmc hwc
 obtain ⟨A, c, rfl, hks⟩ := hv
 have hks : HS H A c ks := hks
 dsimp only [Sh.kind, Sh.n, Sh.kids]
 simp only [Sh.size] at hb
 have hlen := sh_len_le ks
 refine enter (N := 25) [(0, _), (1, _), (2, _)] Tryz.func105 rfl rfl rfl rfl fun a w h => ?_
 refine au [1,2] h ?_
 refine bxA h fun g3 a w h => ?_
 refine au [0,3] h ?_
 obtain ⟨Hf, leHf, h, hf3⟩ := h.frz 0
 have l_H_Hf : LE H Hf := leHf
 have hL := HS.up hks l_H_Hf
 refine sqc (fun a w => ∃ fm1, S E Hf 25 [] [(1, .pointer (some ⟨gmc, 0, none⟩)), (2, .pointer (some ⟨gwc, 0, none⟩)), (3, .pointer (some ⟨g3, 0, none⟩))] (.blk gm (IsMap encI fm1) :: L) a w ∧ (∀ x, (fm1 x).isSome = ((fm x).isSome || (if kd == 4 then [nn] else []).contains x)) ∧ (∀ x u, fm1 x = some u → ∃ n : Int, u = .int .i64 n)) ?_ ?_
 ·refine au [1,2,0,7] h ?_; intro a w h
  refine ldH t1_3 (Hc.of (LE.rfl _ _ hf3) rfl) h fun a w h => ?_
  refine au [6,2,0,3] h ?_; intro a w h
  refine cdB h (fun c8 => ?_) (fun c8 => ?_)
  ·refine rg0 ?_
   refine ldH t1_197 (hmc.mono l_H_Hf) h fun a w h => ?_
   refine fa fl31_1 (r := 1) h fun a w h => ?_
   refine ldH t1_3 (Hc.of (LE.rfl _ _ hf3) rfl) h fun a w h => ?_
   refine lk1 (f := fm) (q := nn) 0 keyI mapII zr3 h fun a w h => ?_
   obtain ⟨n0, hn0⟩ : ∃ n : Int, (fm nn).getD (.int .i64 0) = .int .i64 n := by
    cases hx : fm nn with
    | none => exact ⟨0, rfl⟩
    | some u => obtain ⟨n, rfl⟩ := hmi _ _ hx; exact ⟨n, rfl⟩
   rw [hn0] at h
   refine add h fun a w h => ?_
   refine mu 0 keyI mapII h fun a w h => ?_
   have h : S _ _ _ _ _ (.blk _ (IsMap encI (upd fm nn (some _))) :: _) _ _ := h
   refine au [0,3] h ?_
   refine ⟨_, h.to 0 _, fun x => ?_, fun x u hu => ?_⟩
   ·rw [if_pos c8]; unfold upd; by_cases e : x = nn <;> simp [e]
   ·unfold upd at hu; split at hu; exact ⟨_, (Option.some.inj hu).symm⟩; exact hmi x u hu
  ·refine au [1,8,1,0] h ?_
   refine ⟨fm, h.to 0 _, fun x => ?_, hmi⟩
   rw [c8]; simp
 ·rintro a w ⟨fm1, h, hm1, hi1⟩
  refine au [1,2,0,7] h ?_; intro a w h
  refine ldH t1_29 (Hc.of (LE.rfl _ _ hf3) rfl) h fun a w h => ?_
  refine au [6,0,0,0,0,3,1,5] h ?_; intro a w h
  refine lp (β := Nat × (Int → Option Value)) (fun x a w => match x with | (k, fm2) => (k ≤ ks.length ∧ (∀ x, (fm2 x).isSome = ((fm x).isSome || ((if kd == 4 then [nn] else []).contains x || (hlL (ks.take k)).contains x))) ∧ (∀ x u, fm2 x = some u → ∃ n : Int, u = .int .i64 n)) ∧ S E Hf 25 [] [(1, .pointer (some ⟨gmc, 0, none⟩)), (2, .pointer (some ⟨gwc, 0, none⟩)), (3, .pointer (some ⟨g3, 0, none⟩)), (17, .int .i64 (k : Int)), (16, .int .i64 (ks.length : Int)), (15, .slice A ks.length c)] (.blk gm (IsMap encI fm2) :: L) a w)
   (fun x => match x with | (k, fm2) => ks.length - k) (0, fm1) ⟨⟨Nat.zero_le _, fun x => by rw [hm1 x, List.take_zero]; simp [hlL], hi1⟩, h.to 0 _⟩ ?_
  rintro ⟨k, fm2⟩ a w ⟨pre, h⟩
  obtain ⟨hk, hm2, hi2⟩ := pre
  refine au [1,2,6,4,0,3,0,4] h ?_; intro a w h
  refine cdB h (fun c18 => ?_) (fun c18 => ?_)
  ·have c18 : k < ks.length := by simpa using c18
   obtain ⟨g, off, A2, c2, rfl, hvt, hcell⟩ := HS.get hL c18
   have hsz := sh_size_le (List.getElem_mem c18)
   refine au [1,8,1,0,0,4,1,5,1,2] h ?_
   refine ia sli29 sz31 rfl c18 h fun a w h => ?_
   refine ldHN tN31 rfl hcell h fun a w h => ?_
   refine al zr31 h fun g5 a w h => ?_
   refine au [5,5,0,3,0,5] h ?_; intro a w h
   refine ldH t1_198 (hwc.mono l_H_Hf) h fun a w h => ?_
   refine ldW 0 tN31 h fun a w h => ?_
   have h := h.pull 1 rfl rfl
   refine cl bod105 (ih _ (List.getElem_mem c18) _ E Hf _ gmc gwc gm fm2 hvt (by omega) hi2 (hmc.mono l_H_Hf) (hwc.mono l_H_Hf)) h fun r23 H23 L23 a w le23 R h => ?_
   obtain ⟨rfl, rfl, fm3, rfl, hm3, hi3⟩ := R
   refine au [1,1,1,7,1,0,0,5] h ?_
   have h := h.del 1
   refine inc ?_ h fun a w h => ?_
   ·omega
   refine au [0,0,0,3] h ?_; intro a w h
   exact ⟨(k + 1, fm3), ⟨⟨by omega, fun x => by rw [hm3 x, hm2 x, hlL_succ c18, List.contains_append]; simp only [Bool.or_assoc], hi3⟩, h.to 0 _⟩, by show _ - (k + 1) < _ - k; omega⟩
  ·have hkk : k = ks.length := by simp at c18; omega
   refine au [2,5,2,2,2,2,2,3] h ?_
   refine finN0 0 (h.less l_H_Hf) LE.rfl ?_
   refine ⟨rfl, rfl, fm2, rfl, fun x => ?_, hi2⟩
   rw [hm2 x, hkk, List.take_length]; simp only [Sh.hl, List.contains_append]
theorem HolesR_ok (t : Sh) (v : Value) (E : World) (H : GH) (L : List It) (hv : VSh H v t) (hwf : ∀ x ∈ t.hl, (Lit.int .i64 x).wf = true) (hsz : t.size < 1000000000000) :
   Ok Tryz.prog 53 #[v] E H L fun r H' L' => ∃ (A : Option Addr) (c : Nat) (ss : List Int), r = .slice A ss.length c ∧ H = H' ∧ L' = .row (.slice A ss.length c) 3 1 ss.length (ss.map encI) :: L ∧ ss.length < 1000000000000 ∧ ∀ x, x ∈ ss ↔ x ∈ t.hl := by
 have hv0 := hv
 obtain ⟨A, c, rfl, hks⟩ := hv
 have hv := hv0
 refine enter (N := 13) [(0, _)] Tryz.func53 rfl rfl rfl rfl fun a w h => ?_
 refine au [1,2] h ?_
 refine bxA h fun g1 a w h => ?_
 refine au [0,6,0,2] h ?_; intro a w h
 refine mk0 (enc := encI) h fun m5 a w h => ?_
 refine al zr197 h fun g3 a w h => ?_
 refine au [5,1,0,2] h ?_; intro a w h
 refine al zr198 h fun g4 a w h => ?_
 refine au [0,2,7,3,5,1,0,2] h ?_; intro a w h
 obtain ⟨H1, leH1, h, hfw⟩ := h.frz 0
 have l_H_H1 : LE H H1 := leH1
 obtain ⟨H2, leH2, h, hfm⟩ := h.frz 0
 have l_H_H2 : LE H H2 := l_H_H1.trans leH2
 have l_H1_H2 : LE H1 H2 := leH2
 have qm : Hc H2 g3 0 (.map (some m5)) := Hc.of hfm rfl
 have qw : Hc H2 g4 0 (.func (.func 105) #[] #[.pointer (some ⟨g3, 0, none⟩), .pointer (some ⟨g4, 0, none⟩)]) := Hc.of (l_H1_H2 _ _ hfw) rfl
 refine ldH t1_198 (Hc.of (l_H1_H2 _ _ hfw) rfl) h fun a w h => ?_
 refine ldW 1 tN31 h fun a w h => ?_
 refine cl bod105 (holesW_ok t _ E H2 _ g3 g4 m5 (fun _ => none) (hv.mono l_H_H2) hsz (fun _ _ h => by cases h) qm qw) h fun r9 H9 L9 a w le9 R h => ?_
 obtain ⟨rfl, rfl, fm1, rfl, hm1, hi1⟩ := R
 have hm2 : ∀ x, (fm1 x).isSome = t.hl.contains x := fun x => by rw [hm1 x]; rfl
 refine au [0,2] h ?_
 refine ldH t1_197 (Hc.of (LE.rfl _ _ hfm) rfl) h fun a w h => ?_
 refine cl bod107 (keysI_ok m5 E H2 _) h fun r11 H11 L11 a w le11 R h => ?_
 obtain ⟨g11, rfl, rfl, rfl⟩ := R
 refine cl bod106 (sortedI_ok m5 g11 fm1 1 E H2 _ rfl rfl (fun x hx => hwf x (by rw [hm2] at hx; simpa using hx)) (fun l hl hs => by have := subI_len (m := t.hl) hl (fun x hx => by have := hs x hx; rw [hm2] at this; simpa using this); have := hl_len t; omega)) h fun r12 H12 L12 a w le12 R h => ?_
 obtain ⟨A12, c12, ss, rfl, rfl, rfl, hln, hset⟩ := R
 refine au [0,6,0,3,1,3] h ?_; intro a w h
 have h := h.del 3
 have h := h.del 2
 have h := h.del 1
 refine fin1 2 0 (h.less l_H_H2) LE.rfl ?_
 exact ⟨A12, c12, ss, rfl, rfl, rfl, hln, fun x => by rw [hset x, hm2 x]; simp⟩
def OrdAt (l : List Bd) (k : Nat) : Prop := ∀ hk : k < l.length, 0 ≤ l[k].n ∧ (0 < k → l[k - 1].n < l[k].n) ∧ l[k].s.right = true ∧ l[k].s.size ≤ 100 ∧ ∀ x ∈ l[k].s.hl, look l x = none
open Classical in
noncomputable def ordB (l : List Bd) : Bool := decide (Ord l)
theorem ord_at {l : List Bd} (h : Ord l) (k : Nat) : OrdAt l k := fun hk =>
 ⟨h.nn _ (List.getElem_mem hk), fun h0 => List.pairwise_iff_getElem.1 h.inc (k - 1) k (by omega) hk (by omega), h.right _ (List.getElem_mem hk), h.small _ (List.getElem_mem hk), h.idem _ (List.getElem_mem hk)⟩
theorem ord_of {l : List Bd} (h : ∀ k, k < l.length → OrdAt l k) : Ord l := by
 have hp : ∀ (j i : Nat) (hi : i < l.length) (hj : j < l.length), i < j → l[i].n < l[j].n := by
   intro j
   induction j with
   | zero => intro i _ _ h0; omega
   | succ j ih =>
     intro i hi hj h0
     have h1 := (h (j + 1) hj hj).2.1 (by omega)
     have e : j + 1 - 1 = j := by omega
     simp only [e] at h1
     rcases Nat.lt_or_ge i j with h2 | h2
     · exact Int.lt_trans (ih i hi (by omega) h2) h1
     · have : i = j := by omega
       subst this; exact h1
 have hm : ∀ b ∈ l, ∃ k, ∃ hk : k < l.length, l[k] = b := fun b hb => by
   obtain ⟨k, hk, e⟩ := List.getElem_of_mem hb; exact ⟨k, hk, e⟩
 refine ⟨List.pairwise_iff_getElem.2 fun i j hi hj h0 => hp j i hi hj h0, fun b hb => ?_, fun b hb => ?_, fun b hb => ?_, fun b hb => ?_⟩ <;> obtain ⟨k, hk, rfl⟩ := hm b hb
 · exact (h k hk hk).1
 · exact (h k hk hk).2.2.1
 · exact (h k hk hk).2.2.2.1
 · exact (h k hk hk).2.2.2.2
open Classical in
theorem ordB_no {l : List Bd} {k : Nat} (h : ¬OrdAt l k) : ordB l = false := by
 unfold ordB; exact decide_eq_false fun ho => h (ord_at ho k)
open Classical in
theorem ordB_yes {l : List Bd} (h : ∀ k, k < l.length → OrdAt l k) : ordB l = true := by
 unfold ordB; exact decide_eq_true (ord_of h)
open Classical in
theorem ordB_iff {l : List Bd} : ordB l = true ↔ Ord l := ⟨fun h => by unfold ordB at h; exact of_decide_eq_true h, fun h => by unfold ordB; exact decide_eq_true h⟩
theorem ordC_bad {l : List Bd} {k : Nat} (hk : k < l.length) (e : ((decide (l[k].n < 0)) || (bif (decide ((0 : Int) < (k : Int))) then ((decide (l[k].n ≤ (l[k - 1]).n)) || ((!l[k].s.right) || decide (100 < (l[k].s.size : Int)))) else ((!l[k].s.right) || decide (100 < (l[k].s.size : Int))))) = true) : ¬OrdAt l k := fun h => by
 obtain ⟨h1, h2, h3, h4, _⟩ := h hk
 by_cases h0 : (0 : Int) < (k : Int)
 · have h2 := h2 (by omega)
   rw [h3] at e; simp only [h0, decide_true, decide_false, cond_true, cond_false, Bool.not_true, Bool.false_or, Bool.or_eq_true, decide_eq_true_eq] at e; omega
 · rw [h3] at e; simp only [h0, decide_true, decide_false, cond_true, cond_false, Bool.not_true, Bool.false_or, Bool.or_eq_true, decide_eq_true_eq] at e; omega
theorem ordC_good {l : List Bd} {k : Nat} (hk : k < l.length) (e : ((decide (l[k].n < 0)) || (bif (decide ((0 : Int) < (k : Int))) then ((decide (l[k].n ≤ (l[k - 1]).n)) || ((!l[k].s.right) || decide (100 < (l[k].s.size : Int)))) else ((!l[k].s.right) || decide (100 < (l[k].s.size : Int))))) = false)
   (h : ∀ x ∈ l[k].s.hl, look l x = none) : OrdAt l k := fun _ => by
 by_cases h0 : (0 : Int) < (k : Int)
 · simp only [h0, decide_true, decide_false, cond_true, cond_false, Bool.not_true, Bool.false_or, Bool.or_eq_false_iff, decide_eq_false_iff_not, Bool.not_eq_false'] at e
   exact ⟨by omega, fun _ => by omega, e.2.2.1, by omega, h⟩
 · simp only [h0, decide_true, decide_false, cond_true, cond_false, Bool.not_true, Bool.false_or, Bool.or_eq_false_iff, decide_eq_false_iff_not, Bool.not_eq_false'] at e
   exact ⟨by omega, fun _ => by omega, e.2.1, by omega, h⟩
theorem any_bound {l : List Bd} {ss : List Int} {s : Sh} (hs : ∀ x, x ∈ ss ↔ x ∈ s.hl) (e : (ss.any fun x => decide ((0 : Int) ≤ indexF (fun b : Bd => b.n == x) l)) = false) : ∀ x ∈ s.hl, look l x = none := fun x hx => by
 rw [List.any_eq_false] at e
 exact look_miss (by simpa using e x ((hs x).2 hx))
theorem any_bound_bad {l : List Bd} {ss : List Int} {k : Nat} (hk : k < l.length) (hs : ∀ x, x ∈ ss ↔ x ∈ l[k].s.hl) (e : (ss.any fun x => decide ((0 : Int) ≤ indexF (fun b : Bd => b.n == x) l)) = true) : ¬OrdAt l k := fun h => by
 rw [List.any_eq_true] at e
 obtain ⟨x, hx, e⟩ := e
 obtain ⟨j, hj, _, el⟩ := look_hit e
 rw [(h hk).2.2.2.2 x ((hs x).1 hx)] at el
 cases el
theorem isBound_ok (l : List Bd) (x : Int) (A : Option Addr) (c g1 : Nat) (E : World) (H : GH) (L : List It) (hl : BdS H A c l) (hb : l.length < 1000000000000) (h1 : Hc H g1 0 (.slice A l.length c)) :
   Ok Tryz.prog 204 #[.int .i64 x, .pointer (some ⟨g1, 0, none⟩)] E H L fun r H' L' => r = .bool (decide (0 ≤ indexF (fun b : Bd => b.n == x) l)) ∧ H = H' ∧ L = L' := by
 refine enter (N := 8) [(0, _), (1, _)] Tryz.func204 rfl rfl rfl rfl fun a w h => ?_
 refine au [1,2,0,6,0,2] h ?_; intro a w h
 refine ldH t1_125 (h1) h fun a w h => ?_
 refine mv h fun a w h => ?_
 refine cl bod205 (place_ok l x _ _ E H _ hl (by first | assumption | omega)) h (fun r6 H6 L6 a w le6 R h => ?_)
 obtain ⟨rfl, rfl, rfl⟩ := R
 refine au [6,7,0,6,0,3,1,3] h ?_; intro a w h
 refine fin1 3 0 h LE.rfl ?_
 exact ⟨rfl, rfl, rfl⟩
theorem ordered_ok (l : List Bd) (A : Option Addr) (c : Nat) (E : World) (H : GH) (L : List It) (hl : BdS H A c l) (hb : l.length < 1000000000000) (hsz : ∀ b ∈ l, b.s.size < 1000000000000) (hwf : ∀ b ∈ l, ∀ x ∈ b.s.hl, (Lit.int .i64 x).wf = true) :
   Ok Tryz.prog 167 #[.slice A l.length c] E H L fun r H' L' => r = .bool (ordB l) ∧ L = L' := by
 refine enter (N := 48) [(0, _)] Tryz.func167 rfl rfl rfl rfl fun a w h => ?_
 refine au [1,2] h ?_
 refine bx1 h fun g1 a w h => ?_
 refine au [0,6,0,3,0,4,0,4] h ?_; intro a w h
 obtain ⟨Hg1, leHg1, h, hfg1⟩ := h.frz 0
 refine rg0 ?_
 refine ldH t1_125 (Hc.of (LE.rfl _ _ hfg1) rfl) h fun a w h => ?_
 refine au [6,0,0,0,0,3,1,5] h ?_; intro a w h
 refine lp (β := Nat) (fun k a w => ((k ≤ l.length) ∧ (∀ j, j < k → OrdAt l j)) ∧ S E Hg1 48 [] [(1, .pointer (some ⟨g1, 0, none⟩)), (5, .slice A l.length c), (6, .int .i64 (l.length : Int)), (7, .int .i64 (k : Int))] (L) a w)
  (fun k => l.length - k) 0 ⟨⟨Nat.zero_le _, fun _ h => absurd h (by omega)⟩, h.to 0 _⟩ ?_
 rintro k a w ⟨⟨hk, hi⟩, h⟩
 refine au [1,2,6,4,0,3,0,4] h ?_; intro a w h
 refine cdB h (fun c8 => ?_) (fun c8 => ?_)
 ·have d8 : k < l.length := cd_ c8
  have hz := hsz _ (List.getElem_mem d8)
  refine au [1,8,1,0,0,4,1,5,1,2,0,0] h ?_; intro a w h
  have hj10 : k < l.length := by first | assumption | omega | (simp; done) | (simp; omega)
  obtain ⟨g10, o10, A10_0, c10_0, e10, hv10, hc10⟩ := BdS.get (BdS.up hl leHg1) hj10
  obtain ⟨_, _, q10, hk10_0⟩ := hv10; cases q10
  refine iaE sli125 sz307 rfl hj10 e10 h fun a w h => ?_
  refine ldHN tN307 rfl hc10 h fun a w h => ?_
  refine al zr307 h fun g4 a w h => ?_
  refine au [0,6,5,5,0,3,0,4] h ?_; intro a w h
  refine sqc (fun a w => S E Hg1 48 [] [(1, .pointer (some ⟨g1, 0, none⟩)), (5, .slice A l.length c), (6, .int .i64 (l.length : Int)), (7, .int .i64 (k : Int)), (8, .bool (decide (((k : Int) : Int) < (l.length : Int)))), (9, .int .i64 (k : Int)), (11, .agg #[.int .i64 l[k].n, .int .i64 l[k].s.kind, .int .i64 l[k].s.n, .slice A10_0 l[k].s.kids.length c10_0]), (4, .pointer (some ⟨g4, 0, none⟩)), (3, .int .i64 (k : Int)), (12, .pointer (some ⟨g4, 0, none⟩)), (13, .int .i64 l[k].n), (14, .bool (decide (l[k].n < 0))), (15, .bool (decide (l[k].n < 0))), (29, .bool ((decide (l[k].n < 0)) || ((decide ((0 : Int) < (k : Int))) && (decide (l[k].n ≤ (l[(k - 1)]).n))))), (30, .bool ((decide (l[k].n < 0)) || ((decide ((0 : Int) < (k : Int))) && (decide (l[k].n ≤ (l[(k - 1)]).n))))), (35, .bool ((decide (l[k].n < 0)) || (bif (decide ((0 : Int) < (k : Int))) then ((decide (l[k].n ≤ (l[(k - 1)]).n)) || (!l[k].s.right)) else (!l[k].s.right)))), (36, .bool ((decide (l[k].n < 0)) || (bif (decide ((0 : Int) < (k : Int))) then ((decide (l[k].n ≤ (l[(k - 1)]).n)) || (!l[k].s.right)) else (!l[k].s.right)))), (41, .bool ((decide (l[k].n < 0)) || (bif (decide ((0 : Int) < (k : Int))) then ((decide (l[k].n ≤ (l[(k - 1)]).n)) || ((!l[k].s.right) || (decide ((100 : Int) < (l[k].s.size : Int))))) else ((!l[k].s.right) || (decide ((100 : Int) < (l[k].s.size : Int)))))))] (.obj g4 (.cells #[.int .i64 l[k].n, .int .i64 l[k].s.kind, .int .i64 l[k].s.n, .slice A10_0 l[k].s.kids.length c10_0] 307 (0, 0)) :: L) a w) ?_ ?_
  ·refine rgd [0] [_] [8, 2] [1, 8, 9, 14, 20, 26] 0 mix (by kernel_rfl) h (fun a w h => ?_)
   refine au [0,7,4,2,6,4] h ?_; intro a w h
   refine h.spl (fun c14 h => ?_) (fun c14 h => ?_)
   ·have d14 : l[k].n < 0 := cd_ c14
    refine au [0,0,0,1,0,1,0,1,0,1,0,1,0,1,0,1,0,1,0,1,0,1,0,1,0,1,0,1,4,8,0,0,0,1,0,1,0,1,0,1,4,8,0,0,0,1,0,1,0,1,0,1,4,8,0,3] h ?_; intro a w h
    exact (by show S _ _ _ _ _ _ _ _; rw [show (.bool (decide (l[k].n < 0)) : Value) = .bool true from Eq.symm (by first | ((try rw [c14]) <;> (try simp only [Bool.true_or, Bool.or_true, Bool.false_or, Bool.or_false, Bool.true_and, Bool.and_true, Bool.false_and, Bool.and_false, Bool.not_true, Bool.not_false, cond_true, cond_false]); done) | (exfalso; omega)), show (.bool ((decide (l[k].n < 0)) || ((decide ((0 : Int) < (k : Int))) && (decide (l[k].n ≤ (l[(k - 1)]).n)))) : Value) = .bool true from Eq.symm (by first | ((try rw [c14]) <;> (try simp only [Bool.true_or, Bool.or_true, Bool.false_or, Bool.or_false, Bool.true_and, Bool.and_true, Bool.false_and, Bool.and_false, Bool.not_true, Bool.not_false, cond_true, cond_false]); done) | (exfalso; omega)), show (.bool ((decide (l[k].n < 0)) || (bif (decide ((0 : Int) < (k : Int))) then ((decide (l[k].n ≤ (l[(k - 1)]).n)) || (!l[k].s.right)) else (!l[k].s.right))) : Value) = .bool true from Eq.symm (by first | ((try rw [c14]) <;> (try simp only [Bool.true_or, Bool.or_true, Bool.false_or, Bool.or_false, Bool.true_and, Bool.and_true, Bool.false_and, Bool.and_false, Bool.not_true, Bool.not_false, cond_true, cond_false]); done) | (exfalso; omega)), show (.bool ((decide (l[k].n < 0)) || (bif (decide ((0 : Int) < (k : Int))) then ((decide (l[k].n ≤ (l[(k - 1)]).n)) || ((!l[k].s.right) || (decide ((100 : Int) < (l[k].s.size : Int))))) else ((!l[k].s.right) || (decide ((100 : Int) < (l[k].s.size : Int)))))) : Value) = .bool true from Eq.symm (by first | ((try rw [c14]) <;> (try simp only [Bool.true_or, Bool.or_true, Bool.false_or, Bool.or_false, Bool.true_and, Bool.and_true, Bool.false_and, Bool.and_false, Bool.not_true, Bool.not_false, cond_true, cond_false]); done) | (exfalso; omega))]; exact h.to 0 _)
   ·have d14 : 0 ≤ l[k].n := cd_ c14
    refine au [0,0,0,0,6,6] h ?_; intro a w h
    refine h.spl (fun c17 h => ?_) (fun c17 h => ?_)
    ·have d17 : 0 < k := cd_ c17
     refine au [0,0,0,7,4,2] h ?_; intro a w h
     refine ldHD t1_125 (Hc.of (LE.rfl _ _ hfg1) rfl) h fun a w h => ?_
     refine mv h fun a w h => ?_
     refine sbr ((k - 1 : Nat) : Int) ?_ h fun a w h => ?_
     ·rw [w64 (by omega) (by omega)]; omega
     have hj24 : (k - 1) < l.length := by first | assumption | omega | (simp; done) | (simp; omega)
     obtain ⟨g24, o24, A24_0, c24_0, e24, hv24, hc24⟩ := BdS.get (BdS.up hl leHg1) hj24
     obtain ⟨_, _, q24, hk24_0⟩ := hv24; cases q24
     refine iaE sli125 sz307 rfl hj24 e24 h fun a w h => ?_
     refine fa fl307_0 (r := o24 + (k - 1) * 4 + 0) h fun a w h => ?_
     refine ldHD t1_3 (hc24 0 _ rfl) h fun a w h => ?_
     refine au [6,5,4,8,5,0] h ?_; intro a w h
     refine h.spl (fun c29 h => ?_) (fun c29 h => ?_)
     ·have d29 : l[k].n ≤ (l[(k - 1)]).n := cd_ c29
      refine au [0,0,0,1,0,1,0,1,0,1,4,8,0,0,0,1,0,1,0,1,0,1,4,8,0,3] h ?_; intro a w h
      exact (by show S _ _ _ _ _ _ _ _; rw [show (.bool (decide (l[k].n < 0)) : Value) = .bool false from Eq.symm (by first | ((try rw [c14]) <;> (try rw [c17]) <;> (try rw [c29]) <;> (try simp only [Bool.true_or, Bool.or_true, Bool.false_or, Bool.or_false, Bool.true_and, Bool.and_true, Bool.false_and, Bool.and_false, Bool.not_true, Bool.not_false, cond_true, cond_false]); done) | (exfalso; omega)), show (.bool ((decide (l[k].n < 0)) || ((decide ((0 : Int) < (k : Int))) && (decide (l[k].n ≤ (l[(k - 1)]).n)))) : Value) = .bool true from Eq.symm (by first | ((try rw [c14]) <;> (try rw [c17]) <;> (try rw [c29]) <;> (try simp only [Bool.true_or, Bool.or_true, Bool.false_or, Bool.or_false, Bool.true_and, Bool.and_true, Bool.false_and, Bool.and_false, Bool.not_true, Bool.not_false, cond_true, cond_false]); done) | (exfalso; omega)), show (.bool ((decide (l[k].n < 0)) || (bif (decide ((0 : Int) < (k : Int))) then ((decide (l[k].n ≤ (l[(k - 1)]).n)) || (!l[k].s.right)) else (!l[k].s.right))) : Value) = .bool true from Eq.symm (by first | ((try rw [c14]) <;> (try rw [c17]) <;> (try rw [c29]) <;> (try simp only [Bool.true_or, Bool.or_true, Bool.false_or, Bool.or_false, Bool.true_and, Bool.and_true, Bool.false_and, Bool.and_false, Bool.not_true, Bool.not_false, cond_true, cond_false]); done) | (exfalso; omega)), show (.bool ((decide (l[k].n < 0)) || (bif (decide ((0 : Int) < (k : Int))) then ((decide (l[k].n ≤ (l[(k - 1)]).n)) || ((!l[k].s.right) || (decide ((100 : Int) < (l[k].s.size : Int))))) else ((!l[k].s.right) || (decide ((100 : Int) < (l[k].s.size : Int)))))) : Value) = .bool true from Eq.symm (by first | ((try rw [c14]) <;> (try rw [c17]) <;> (try rw [c29]) <;> (try simp only [Bool.true_or, Bool.or_true, Bool.false_or, Bool.or_false, Bool.true_and, Bool.and_true, Bool.false_and, Bool.and_false, Bool.not_true, Bool.not_false, cond_true, cond_false]); done) | (exfalso; omega))]; exact h.to 0 _)
     ·have d29 : (l[(k - 1)]).n < l[k].n := cd_ c29
      refine au [0,0,0,7] h ?_; intro a w h
      refine ldND (l := [_, _, _]) 0 tN31 h fun a w h => ?_
      refine cl bod55 (RightSh_ok l[k].s _ E Hg1 _ ⟨A10_0, c10_0, rfl, hk10_0⟩ (by first | assumption | omega)) h (fun r33 H33 L33 a w le33 R h => ?_)
      obtain ⟨rfl, rfl, rfl⟩ := R
      refine au [7,1,5,0] h ?_; intro a w h
      refine h.spl (fun c35 h => ?_) (fun c35 h => ?_)
      ·have d35 : l[k].s.right = false := cd_ c35
       refine au [0,0,0,1,0,1,0,1,0,1,4,8,0,3] h ?_; intro a w h
       exact (by show S _ _ _ _ _ _ _ _; rw [show (.bool (decide (l[k].n < 0)) : Value) = .bool false from Eq.symm (by first | ((try rw [c14]) <;> (try rw [c17]) <;> (try rw [c29]) <;> (try rw [c35]) <;> (try simp only [Bool.true_or, Bool.or_true, Bool.false_or, Bool.or_false, Bool.true_and, Bool.and_true, Bool.false_and, Bool.and_false, Bool.not_true, Bool.not_false, cond_true, cond_false]); done) | (exfalso; omega)), show (.bool ((decide (l[k].n < 0)) || ((decide ((0 : Int) < (k : Int))) && (decide (l[k].n ≤ (l[(k - 1)]).n)))) : Value) = .bool false from Eq.symm (by first | ((try rw [c14]) <;> (try rw [c17]) <;> (try rw [c29]) <;> (try rw [c35]) <;> (try simp only [Bool.true_or, Bool.or_true, Bool.false_or, Bool.or_false, Bool.true_and, Bool.and_true, Bool.false_and, Bool.and_false, Bool.not_true, Bool.not_false, cond_true, cond_false]); done) | (exfalso; omega)), show (.bool ((decide (l[k].n < 0)) || (bif (decide ((0 : Int) < (k : Int))) then ((decide (l[k].n ≤ (l[(k - 1)]).n)) || (!l[k].s.right)) else (!l[k].s.right))) : Value) = .bool true from Eq.symm (by first | ((try rw [c14]) <;> (try rw [c17]) <;> (try rw [c29]) <;> (try rw [c35]) <;> (try simp only [Bool.true_or, Bool.or_true, Bool.false_or, Bool.or_false, Bool.true_and, Bool.and_true, Bool.false_and, Bool.and_false, Bool.not_true, Bool.not_false, cond_true, cond_false]); done) | (exfalso; omega)), show (.bool ((decide (l[k].n < 0)) || (bif (decide ((0 : Int) < (k : Int))) then ((decide (l[k].n ≤ (l[(k - 1)]).n)) || ((!l[k].s.right) || (decide ((100 : Int) < (l[k].s.size : Int))))) else ((!l[k].s.right) || (decide ((100 : Int) < (l[k].s.size : Int)))))) : Value) = .bool true from Eq.symm (by first | ((try rw [c14]) <;> (try rw [c17]) <;> (try rw [c29]) <;> (try rw [c35]) <;> (try simp only [Bool.true_or, Bool.or_true, Bool.false_or, Bool.or_false, Bool.true_and, Bool.and_true, Bool.false_and, Bool.and_false, Bool.not_true, Bool.not_false, cond_true, cond_false]); done) | (exfalso; omega))]; exact h.to 0 _)
      ·have d35 : l[k].s.right = true := cd_ c35
       refine au [0,0,0,7] h ?_; intro a w h
       refine ldND (l := [_, _, _]) 0 tN31 h fun a w h => ?_
       refine cl bod54 (ShSize_ok l[k].s _ E Hg1 _ ⟨A10_0, c10_0, rfl, hk10_0⟩ (by first | assumption | omega)) h (fun r39 H39 L39 a w le39 R h => ?_)
       obtain ⟨rfl, rfl, rfl⟩ := R
       refine au [6,6,5,0,0,3] h ?_; intro a w h
       exact (by show S _ _ _ _ _ _ _ _; rw [show (.bool (decide (l[k].n < 0)) : Value) = .bool false from Eq.symm (by first | ((try rw [c14]) <;> (try rw [c17]) <;> (try rw [c29]) <;> (try rw [c35]) <;> (try simp only [Bool.true_or, Bool.or_true, Bool.false_or, Bool.or_false, Bool.true_and, Bool.and_true, Bool.false_and, Bool.and_false, Bool.not_true, Bool.not_false, cond_true, cond_false]); done) | (exfalso; omega)), show (.bool ((decide (l[k].n < 0)) || ((decide ((0 : Int) < (k : Int))) && (decide (l[k].n ≤ (l[(k - 1)]).n)))) : Value) = .bool false from Eq.symm (by first | ((try rw [c14]) <;> (try rw [c17]) <;> (try rw [c29]) <;> (try rw [c35]) <;> (try simp only [Bool.true_or, Bool.or_true, Bool.false_or, Bool.or_false, Bool.true_and, Bool.and_true, Bool.false_and, Bool.and_false, Bool.not_true, Bool.not_false, cond_true, cond_false]); done) | (exfalso; omega)), show (.bool ((decide (l[k].n < 0)) || (bif (decide ((0 : Int) < (k : Int))) then ((decide (l[k].n ≤ (l[(k - 1)]).n)) || (!l[k].s.right)) else (!l[k].s.right))) : Value) = .bool false from Eq.symm (by first | ((try rw [c14]) <;> (try rw [c17]) <;> (try rw [c29]) <;> (try rw [c35]) <;> (try simp only [Bool.true_or, Bool.or_true, Bool.false_or, Bool.or_false, Bool.true_and, Bool.and_true, Bool.false_and, Bool.and_false, Bool.not_true, Bool.not_false, cond_true, cond_false]); done) | (exfalso; omega)), show (.bool ((decide (l[k].n < 0)) || (bif (decide ((0 : Int) < (k : Int))) then ((decide (l[k].n ≤ (l[(k - 1)]).n)) || ((!l[k].s.right) || (decide ((100 : Int) < (l[k].s.size : Int))))) else ((!l[k].s.right) || (decide ((100 : Int) < (l[k].s.size : Int)))))) : Value) = .bool (decide ((100 : Int) < (l[k].s.size : Int))) from Eq.symm (by first | ((try rw [c14]) <;> (try rw [c17]) <;> (try rw [c29]) <;> (try rw [c35]) <;> (try simp only [Bool.true_or, Bool.or_true, Bool.false_or, Bool.or_false, Bool.true_and, Bool.and_true, Bool.false_and, Bool.and_false, Bool.not_true, Bool.not_false, cond_true, cond_false]); done) | (exfalso; omega))]; exact h.to 0 _)
    ·have d17 : k ≤ 0 := cd_ c17
     refine au [0,0,0,1,0,1,0,1,0,1,0,1,0,1,0,1,0,1,0,1,5,0,5,0,0,0,0,7] h ?_; intro a w h
     refine ldND (l := [_, _, _]) 0 tN31 h fun a w h => ?_
     refine cl bod55 (RightSh_ok l[k].s _ E Hg1 _ ⟨A10_0, c10_0, rfl, hk10_0⟩ (by first | assumption | omega)) h (fun r33 H33 L33 a w le33 R h => ?_)
     obtain ⟨rfl, rfl, rfl⟩ := R
     refine au [7,1,5,0] h ?_; intro a w h
     refine h.spl (fun c35 h => ?_) (fun c35 h => ?_)
     ·have d35 : l[k].s.right = false := cd_ c35
      refine au [0,0,0,1,0,1,0,1,0,1,4,8,0,3] h ?_; intro a w h
      exact (by show S _ _ _ _ _ _ _ _; rw [show (.bool (decide (l[k].n < 0)) : Value) = .bool false from Eq.symm (by first | ((try rw [c14]) <;> (try rw [c17]) <;> (try rw [c35]) <;> (try simp only [Bool.true_or, Bool.or_true, Bool.false_or, Bool.or_false, Bool.true_and, Bool.and_true, Bool.false_and, Bool.and_false, Bool.not_true, Bool.not_false, cond_true, cond_false]); done) | (exfalso; omega)), show (.bool ((decide (l[k].n < 0)) || ((decide ((0 : Int) < (k : Int))) && (decide (l[k].n ≤ (l[(k - 1)]).n)))) : Value) = .bool false from Eq.symm (by first | ((try rw [c14]) <;> (try rw [c17]) <;> (try rw [c35]) <;> (try simp only [Bool.true_or, Bool.or_true, Bool.false_or, Bool.or_false, Bool.true_and, Bool.and_true, Bool.false_and, Bool.and_false, Bool.not_true, Bool.not_false, cond_true, cond_false]); done) | (exfalso; omega)), show (.bool ((decide (l[k].n < 0)) || (bif (decide ((0 : Int) < (k : Int))) then ((decide (l[k].n ≤ (l[(k - 1)]).n)) || (!l[k].s.right)) else (!l[k].s.right))) : Value) = .bool true from Eq.symm (by first | ((try rw [c14]) <;> (try rw [c17]) <;> (try rw [c35]) <;> (try simp only [Bool.true_or, Bool.or_true, Bool.false_or, Bool.or_false, Bool.true_and, Bool.and_true, Bool.false_and, Bool.and_false, Bool.not_true, Bool.not_false, cond_true, cond_false]); done) | (exfalso; omega)), show (.bool ((decide (l[k].n < 0)) || (bif (decide ((0 : Int) < (k : Int))) then ((decide (l[k].n ≤ (l[(k - 1)]).n)) || ((!l[k].s.right) || (decide ((100 : Int) < (l[k].s.size : Int))))) else ((!l[k].s.right) || (decide ((100 : Int) < (l[k].s.size : Int)))))) : Value) = .bool true from Eq.symm (by first | ((try rw [c14]) <;> (try rw [c17]) <;> (try rw [c35]) <;> (try simp only [Bool.true_or, Bool.or_true, Bool.false_or, Bool.or_false, Bool.true_and, Bool.and_true, Bool.false_and, Bool.and_false, Bool.not_true, Bool.not_false, cond_true, cond_false]); done) | (exfalso; omega))]; exact h.to 0 _)
     ·have d35 : l[k].s.right = true := cd_ c35
      refine au [0,0,0,7] h ?_; intro a w h
      refine ldND (l := [_, _, _]) 0 tN31 h fun a w h => ?_
      refine cl bod54 (ShSize_ok l[k].s _ E Hg1 _ ⟨A10_0, c10_0, rfl, hk10_0⟩ (by first | assumption | omega)) h (fun r39 H39 L39 a w le39 R h => ?_)
      obtain ⟨rfl, rfl, rfl⟩ := R
      refine au [6,6,5,0,0,3] h ?_; intro a w h
      exact (by show S _ _ _ _ _ _ _ _; rw [show (.bool (decide (l[k].n < 0)) : Value) = .bool false from Eq.symm (by first | ((try rw [c14]) <;> (try rw [c17]) <;> (try rw [c35]) <;> (try simp only [Bool.true_or, Bool.or_true, Bool.false_or, Bool.or_false, Bool.true_and, Bool.and_true, Bool.false_and, Bool.and_false, Bool.not_true, Bool.not_false, cond_true, cond_false]); done) | (exfalso; omega)), show (.bool ((decide (l[k].n < 0)) || ((decide ((0 : Int) < (k : Int))) && (decide (l[k].n ≤ (l[(k - 1)]).n)))) : Value) = .bool false from Eq.symm (by first | ((try rw [c14]) <;> (try rw [c17]) <;> (try rw [c35]) <;> (try simp only [Bool.true_or, Bool.or_true, Bool.false_or, Bool.or_false, Bool.true_and, Bool.and_true, Bool.false_and, Bool.and_false, Bool.not_true, Bool.not_false, cond_true, cond_false]); done) | (exfalso; omega)), show (.bool ((decide (l[k].n < 0)) || (bif (decide ((0 : Int) < (k : Int))) then ((decide (l[k].n ≤ (l[(k - 1)]).n)) || (!l[k].s.right)) else (!l[k].s.right))) : Value) = .bool false from Eq.symm (by first | ((try rw [c14]) <;> (try rw [c17]) <;> (try rw [c35]) <;> (try simp only [Bool.true_or, Bool.or_true, Bool.false_or, Bool.or_false, Bool.true_and, Bool.and_true, Bool.false_and, Bool.and_false, Bool.not_true, Bool.not_false, cond_true, cond_false]); done) | (exfalso; omega)), show (.bool ((decide (l[k].n < 0)) || (bif (decide ((0 : Int) < (k : Int))) then ((decide (l[k].n ≤ (l[(k - 1)]).n)) || ((!l[k].s.right) || (decide ((100 : Int) < (l[k].s.size : Int))))) else ((!l[k].s.right) || (decide ((100 : Int) < (l[k].s.size : Int)))))) : Value) = .bool (decide ((100 : Int) < (l[k].s.size : Int))) from Eq.symm (by first | ((try rw [c14]) <;> (try rw [c17]) <;> (try rw [c35]) <;> (try simp only [Bool.true_or, Bool.or_true, Bool.false_or, Bool.or_false, Bool.true_and, Bool.and_true, Bool.false_and, Bool.and_false, Bool.not_true, Bool.not_false, cond_true, cond_false]); done) | (exfalso; omega))]; exact h.to 0 _)
  ·rintro a w h
   refine cdB h (fun c41 => ?_) (fun c41 => ?_)
   ·refine au [1,2,0,6,0,3,1,3,1,4,1,6,1,4,1,4,1,6,1,4] h ?_; intro a w h
    refine fin1 2 1 h leHg1 ?_
    exact ⟨by rw [ordB_no (ordC_bad d8 c41)], rfl⟩
   ·refine au [1,8,1,0,1,2,0,7] h ?_; intro a w h
    refine ldN (l := [_, _, _]) 0 tN31 h fun a w h => ?_
    refine cl bod53 (HolesR_ok l[k].s _ E Hg1 _ ⟨A10_0, c10_0, rfl, hk10_0⟩ (by first | assumption | (first | exact hwf _ (List.getElem_mem (by assumption)))) (by first | assumption | omega)) h fun r44 H44 L44 a w le44 R h => ?_
    obtain ⟨A44, c44, ss44, rfl, rfl, rfl, hsl44, hsm44⟩ := R
    obtain ⟨Hf44, leHf44, h, hks44⟩ := h.frw 0 (rint_row ss44) rfl (fun _ _ _ _ _ hr => hr)
    have hks44 : IS Hf44 A44 c44 ss44 := hks44
    refine mf h fun a w h => ?_
    have l_H_Hf44 : LE H Hf44 := leHg1.trans leHf44
    refine cl bod203 (ContainsFunc_Int_ok ss44 _ _ (fun x => decide ((0 : Int) ≤ indexF (fun b : Bd => b.n == x) l)) 204 #[.pointer (some ⟨g1, 0, none⟩)] E Hf44 _ hks44 (by omega) bod204 (fun j hj v hv => by subst hv; exact isBound_ok l _ A c g1 E _ _ (BdS.up hl l_H_Hf44) hb (Hc.of (by first | exact hfg1 | exact leHf44 _ _ hfg1) rfl))) h (fun r46 H46 L46 a w le46 R h => ?_)
    obtain ⟨rfl, rfl, rfl⟩ := R
    refine au [0,3] h ?_
    refine cdB h (fun c46 => ?_) (fun c46 => ?_)
    ·refine au [1,2,0,6,0,3,1,3,1,6,1,4,1,4,1,6,1,4] h ?_; intro a w h
     refine fin1 2 1 h l_H_Hf44 ?_
     exact ⟨by rw [ordB_no (any_bound_bad d8 hsm44 c46)], rfl⟩
    ·refine au [1,8,1,7,1,0,0,5] h ?_
     refine inc ?_ h fun a w h => ?_
     ·omega
     refine au [0,0,0,3] h ?_; intro a w h
     have h := h.less leHf44
     have h := h.del 0
     exact ⟨(k + 1), ⟨⟨by omega, fun j h0 => by rcases upto h0 with h0 | rfl; exact hi j h0; exact ordC_good d8 c41 (any_bound hsm44 c46)⟩, h.to 0 _⟩, by show _ - (k + 1) < _ - k; omega⟩
 ·have d8 : l.length ≤ k := cd_ c8
  refine au [2,5,2,2,2,2,2,3,1,0,1,2,0,6,0,3,1,3] h ?_; intro a w h
  refine fin1 2 0 h leHg1 ?_
  exact ⟨by rw [ordB_yes fun j hj => hi j (by omega)], rfl⟩
end Go.Proofs.YthnhddjlgjecdaaGreatDoor
namespace Go.Proofs.YthnhddjlgjecdaaGreatDoor.X
open Go
theorem sli_und {P : Program} {t e : TypeId} (hs : sliT P t = some e) : P.underlying t = some (.slice e) := by
 unfold sliT at hs; split at hs
 · rename_i e' he; cases hs; exact he
 · cases hs
theorem run_copyN {P : Program} (w : World) (dT sT ty elem : TypeId) (sz g o dLen dCap : Nat) (a : Addr) (sLen sCap : Nat) (cur : Array Value) (t : TypeId) (cs : List Value)
   (hu : P.underlying dT = some (.slice elem)) (hs : (P.info? elem).map (·.size) = some sz)
   (hg : w.heap[g]? = some (.cells cur t (0, 0))) (hn : cs.length = Nat.min sLen dLen * sz)
   (hsrc : ∀ j v, cs[j]? = some v → w.cell? (a.add j) = some v) (hfit : o + cs.length ≤ cur.size) (h1 : ∀ v ∈ cs, v.oneCell' = true) :
   (Builtin.copy_ #[dT, sT] ty #[.slice (some ⟨g, o, none⟩) dLen dCap, .slice (some a) sLen sCap]).run P w =
     .ok (goInt (Nat.min sLen dLen)) (w.setRow g (cur.toList.take o ++ cs ++ cur.toList.drop (o + cs.length)).toArray) := by
 have hl := run_loadCells_list (P := P) w a cs hsrc
 have hst := run_storeCells_at P g o t cs 0 cur w hg (by simpa using hfit) h1
 cases hq : P.info? elem with
 | none => simp [hq] at hs
 | some i =>
   have hi : i.size = sz := by simpa [hq] using hs
   simp [Builtin.copy_, run_underlying hu, Builtin.lenOf, Builtin.firstCells, sizeOf, typeInfo, hq, hi, ← hn, hl, hst]
section
variable {P : Program} {ops : Array Oper} {Q : Exit → Act → World → Prop} {γ : Gd P ops Q} {rest : List Oper} {o : Oper} {E w : World} {H : GH} {N : Nat} {D : List Deferred} {F : List (Nat × Value)} {L : List It} {a : Act}
variable {t u t' : TypeId} {x y : Operand} {d : Nat} {v : Value} {g off : Nat} {kd : IntKind}
theorem S.close (k0 : Nat) {e sz n cap : Nat} {xs : List Value} {cur : Array Value} (h : S E H N D F L a w) (hk : L[k0]? = some (.obj g (.cells cur e (0, 0)))) (h1 : n ≤ cap) (h2 : cap ≤ maxLen) (h3 : cur.size = cap * sz) (h4 : cur.toList.take (n * sz) = xs) :
   S E H N D F (L.set k0 (.row (.slice (some ⟨g, 0, none⟩) n cap) e sz n xs)) a w := by
 have hg : w.heap[g]? = some (.cells cur e (0, 0)) := item_at h.st.sees hk
 refine ⟨h.ag, h.st.set hk ?_ (fun x hx => .inl (by simpa [It.own, Value.ownBlock] using hx)) rfl rfl rfl (fun _ _ _ => rfl)⟩
 refine ⟨?_, .inr ⟨g, cap, cur, rfl, Nat.zero_le _, hg, h1, h2, h3, h4⟩⟩
 rw [← h4, List.length_take, Array.length_toList, h3, Nat.min_eq_left (Nat.mul_le_mul_right _ h1)]
theorem S.rowc (k0 : Nat) {e sz n : Nat} {xs : List Value} (h : S E H N D F L a w) (hk : L[k0]? = some (.row v e sz n xs) := by rfl) : ∃ A c, v = .slice A n c ∧ n ≤ c := by
 have hown : w.ownsRow 0 e sz v n xs := item_at h.st.sees hk
 rcases hown.2 with ⟨rfl, rfl⟩ | ⟨g, cap, cur, rfl, _, _, h1, _⟩
 · exact ⟨_, _, rfl, Nat.le_refl _⟩
 · exact ⟨_, _, rfl, h1⟩
theorem slo {e sz n c : Nat} {A : Option Addr} (lo : Nat) (hs : sliT P t = some e) (hz : szT P e sz = true) (h1 : lo ≤ n) (h2 : n ≤ c) (h : S E H N D F L a w)
   (k : ∀ a w, S E H N D ((d, .slice (if c = lo then A else A.map (·.add (lo * sz))) (n - lo) (c - lo)) :: F) L a w → γ.G rest a w)
   (ho : o.op = .slice t x (some y) none none := by rfl) (hx : ev F x = some (.slice A n c) := by rfl) (hy : ev F y = some (.int .i64 (lo : Int)) := by rfl)
   (hw : wn ops F o = some true := by rfl) (hd : o.dst = some d := by rfl) (hN : Nat.blt d N = true := by rfl) : γ.G (o :: rest) a w :=
 sl (l := lo) (h' := n) (m := c) hs hz (fun w => by simp [Instr.sliceBounds, h.ag.ev hy, asIntOf, Instr.sliceBound, h1]) h k ho hx hw hd hN
theorem slo1 {e sz n c : Nat} (lo : Nat) (hs : sliT P t = some e) (hz : szT P e sz = true) (h1 : lo ≤ n) (h2 : n ≤ c) (h3 : lo < c) (h : S E H N D F L a w)
   (k : ∀ a w, S E H N D ((d, .slice (some ⟨g, lo * sz, none⟩) (n - lo) (c - lo)) :: F) L a w → γ.G rest a w)
   (ho : o.op = .slice t x (some y) none none := by rfl) (hx : ev F x = some (.slice (some ⟨g, 0, none⟩) n c) := by rfl) (hy : ev F y = some (.int .i64 (lo : Int)) := by rfl)
   (hw : wn ops F o = some true := by rfl) (hd : o.dst = some d := by rfl) (hN : Nat.blt d N = true := by rfl) : γ.G (o :: rest) a w := by
 refine slo lo hs hz h1 h2 h (fun a w h => ?_) ho hx hy hw hd hN
 rw [if_neg (by omega)] at h
 have e : (some (⟨g, 0, none⟩ : Addr)).map (·.add (lo * sz)) = some ⟨g, lo * sz, none⟩ := by simp [Addr.add]; try omega
 rw [e] at h
 exact k a w h
theorem cpc {e n c : Nat} {A : Option Addr} (hs : sliT P t = some e) (h : S E H N D F L a w) (k : ∀ a w, S E H N D ((d, .int .i64 (c : Int)) :: F) L a w → γ.G rest a w)
   (ho : o.op = .call { callee := .builtin .cap, args := #[x], argTypes := #[t] } := by rfl) (hx : ev F x = some (.slice A n c) := by rfl)
   (hw : wn ops F o = some true := by rfl) (hd : o.dst = some d := by rfl) (hN : Nat.blt d N = true := by rfl) : γ.G (o :: rest) a w :=
 pv h (fun w => by simp [execOp, ho, resolve, invoke, builtin, Builtin.cap_, h.ag.ev hx, run_underlying (sli_und hs), goInt]) k hw hd hN
theorem cpy (k0 : Nat) {e sz o' dl dc sl sc : Nat} {b : Addr} {cur : Array Value} {ct : TypeId} (cs : List Value) (new : Array Value) (hs : sliT P t = some e) (hz : szT P e sz = true) (h : S E H N D F L a w)
   (hn : cs.length = Nat.min sl dl * sz) (hsrc : ∀ w, Sees H L w → ∀ j u, cs[j]? = some u → w.cell? (b.add j) = some u) (hfit : o' + cs.length ≤ cur.size) (h1 : ∀ u ∈ cs, u.oneCell' = true)
   (hnew : (cur.toList.take o' ++ cs ++ cur.toList.drop (o' + cs.length)).toArray = new)
   (k : ∀ a w, S E H N D ((d, .int .i64 (Nat.min sl dl : Nat)) :: F) (L.set k0 (.obj g (.cells new ct (0, 0)))) a w → γ.G rest a w)
   (hk : L[k0]? = some (.obj g (.cells cur ct (0, 0))) := by rfl)
   (ho : o.op = .call { callee := .builtin .copy, args := #[x, y], argTypes := #[t, t'] } := by rfl) (hx : ev F x = some (.slice (some ⟨g, o', none⟩) dl dc) := by rfl) (hy : ev F y = some (.slice (some b) sl sc) := by rfl)
   (hw : wn ops F o = some true := by rfl) (hd : o.dst = some d := by rfl) (hN : Nat.blt d N = true := by rfl) (hE : γ.isE rest.length = true := by rfl)
   (hS : γ.isN rest.length = true → ∀ w, St E H (L.set k0 (.obj g (.cells new ct (0, 0)))) w → γ.S w := by first | exact fun e => Bool.noConfusion (show false = true from e) | exact fun _ _ hw => hw.sees' LE.rfl (by simp) | exact fun _ _ hw => hw.sees' (by assumption) (by simp)) : γ.G (o :: rest) a w := by
 obtain ⟨i, hi, hsz⟩ := szT_of hz
 have hg : w.heap[g]? = some (.cells cur ct (0, 0)) := item_at h.st.sees hk
 have hrun := run_copyN (P := P) w t t' o.type e sz g o' dl dc b sl sc cur ct cs (sli_und hs) (by rw [hi]; simp [hsz]) hg hn (hsrc w h.st.sees) hfit h1
 rw [hnew] at hrun
 refine val h hw hd hN hE hS (w' := w.setRow g new) ?_ (h.st.set hk (setRow_heap w g cur new ct (0, 0) hg) (fun x hx => .inl (by simpa [It.own] using hx)) rfl rfl rfl (fun b hb hn => setRow_other w g b new (fun e => hn (by simp [It.own, e])))) k
 simp [execOp, ho, resolve, invoke, builtin, h.ag.ev hx, h.ag.ev hy, hrun, goInt]
theorem apz {e sz by_ n c m : Nat} {b : Addr} {q : TypeId} (olds : List Value) (ht : rowT P t e sz by_ = true) (hq : intT P q = some .i64) (h : S E H N D F L a w)
   (hl : olds.length = n * sz) (hsrc : ∀ w, Sees H L w → ∀ j u, olds[j]? = some u → w.cell? (b.add j) = some u) (h0 : 0 < m) (hg : c < n + m) (hb : (n + m) * by_ ≤ 140737488355328) (h63 : n + m ≤ 4611686018427387904)
   (k : ∀ g cap cur a w, n + m ≤ cap → cap ≤ maxLen → cur.size = cap * sz → cur.toList.take (n * sz) = olds → S E H N D ((d, .slice (some ⟨g, 0, none⟩) (n + m) cap) :: F) (.obj g (.cells cur e (0, 0)) :: L) a w → γ.G rest a w)
   (ho : o.op = .call { callee := .builtin .append, args := #[x, y], argTypes := #[t, q] } := by rfl) (hx : ev F x = some (.slice (some b) n c) := by rfl) (hy : ev F y = some (.int .i64 (m : Int)) := by rfl)
   (hw : wn ops F o = some true := by rfl) (hd : o.dst = some d := by rfl) (hN : Nat.blt d N = true := by rfl) (hE : γ.isE rest.length = true := by rfl)
   (hS : γ.isN rest.length = true → ∀ g cur w, St E H (.obj g (.cells cur e (0, 0)) :: L) w → γ.S w := by first | exact fun e => Bool.noConfusion (show false = true from e) | exact fun _ _ _ _ hw => hw.sees' LE.rfl (by simp) | exact fun _ _ _ _ hw => hw.sees' (by assumption) (by simp)) : γ.G (o :: rest) a w := by
 obtain ⟨hu, i, z, hi, hz, hs, hby, hzs, hsz0⟩ := row_of ht
 have hst := h.st.drew (w.drawn + 1)
 have hold : (Builtin.firstCells i.size n (.slice (some b) n c)).run P w.drew = .ok olds.toArray w.drew :=
   run_firstCells_some w.drew i.size n b n c olds (by rw [hl, hs]) (hsrc w.drew hst.sees)
 have hrun := Lib.run_append_grow_zeros (P := P) w t q o.type e i z .i64 .i64 hu (und_int hq) hi hz (some b) n c olds hold m h0 (by omega) hg (by omega) (by rw [hby]; have : m * by_ ≤ (n + m) * by_ := Nat.mul_le_mul_right _ (by omega); omega) (by rw [hby]; exact growslice_fits hg hb)
 have hge := grownCap_ge w (n + m) c e
 have hlm := grownCap_le_maxLen w (n + m) c e (by simp only [maxLen]; omega)
 obtain ⟨G, hG⟩ : ∃ G, G = grownCap w (n + m) c e := ⟨_, rfl⟩
 rw [← hG] at hrun hge hlm
 obtain ⟨cur, hcur⟩ : ∃ cur, cur = olds.toArray ++ Builtin.zeroCells z.cells m ++ Builtin.zeroCells z.cells (G - (n + m)) := ⟨_, rfl⟩
 rw [← hcur] at hrun
 have hsz : cur.size = G * sz := by
   rw [hcur]
   simp only [Array.size_append, List.size_toArray, Builtin.zeroCells, Array.size_map, Array.size_range, hl, hzs, hs]
   rw [← Nat.add_mul, ← Nat.add_mul]; congr 1; omega
 have htk : cur.toList.take (n * sz) = olds := by
   rw [hcur, ← hl]; simp
 refine val h hw hd hN hE (fun e w hw => hS e _ cur w hw) (v := .slice (some ⟨w.heap.size, 0, none⟩) (n + m) G) (w' := w.drew.alloc (.cells cur e)) ?_ (hst.alloc (.cells cur e (0, 0))) (fun a w' hS' => k w.heap.size G cur a w' hge hlm hsz htk hS')
 simp [execOp, ho, resolve, invoke, builtin, h.ag.ev hx, h.ag.ev hy, hrun]
theorem ovl {z : Operand} {f : FuncId} {fn : Func} {e sz g1 g2 o1 o2 l1 c1 l2 c2 : Nat} {k1 k2 : Nat} {ts : Array TypeId} {tR t1 t2 : TypeId} {cur1 cur2 : Array Value} (hs : sliT P t = some e) (hz : szT P e sz = true) (hf : P.funcs[f]? = some fn) (hne : g1 ≠ g2)
   (hh : (!(fn.name == "runtime.NumGoroutine") && fn.body.isNone && (Extern.findNext fn).isNone) = true) (hfi : Extern.find fn = some (Extern.SlicesOverlaps.overlaps #[t, t] #[tR])) (hsz : cur2.size ≠ 0) (h : S E H N D F L a w)
   (hk1 : L[k1]? = some (.obj g1 (.cells cur1 t1 (0, 0)))) (hk2 : L[k2]? = some (.obj g2 (.cells cur2 t2 (0, 0))))
   (k : ∀ a w, S E H N D ((d, .bool false) :: F) L a w → γ.G rest a w)
   (ho : o.op = .call { callee := .value z, args := #[x, y], argTypes := ts } := by rfl) (hv : ev F z = some (.func (.func f) #[] #[]) := by rfl) (hx : ev F x = some (.slice (some ⟨g1, o1, none⟩) l1 c1) := by rfl) (hy : ev F y = some (.slice (some ⟨g2, o2, none⟩) l2 c2) := by rfl)
   (hw : wn ops F o = some true := by rfl) (hd : o.dst = some d := by rfl) (hN : Nat.blt d N = true := by rfl) (hE : γ.isE rest.length = true := by rfl)
   (hS : γ.isN rest.length = true → ∀ w, St E H L w → γ.S w := by first | exact fun e => Bool.noConfusion (show false = true from e) | exact fun _ _ hw => hw.sees' LE.rfl (by simp) | exact fun _ _ hw => hw.sees' (by assumption) (by simp)) : γ.G (o :: rest) a w := by
 obtain ⟨i, hi, hsz'⟩ := szT_of hz
 have hg1 : w.heap[g1]? = some (.cells cur1 t1 (0, 0)) := item_at h.st.sees hk1
 have hg2 : w.heap[g2]? = some (.cells cur2 t2 (0, 0)) := item_at h.st.sees hk2
 simp only [Bool.and_eq_true, Bool.not_eq_true', Option.isNone_iff_eq_none] at hh
 have hrun : (callFunc f #[.slice (some ⟨g1, o1, none⟩) l1 c1, .slice (some ⟨g2, o2, none⟩) l2 c2]).run P w = .ok (.value (.bool false)) w := by
   rw [run_callFunc_extern hf hh.1.1 (by simpa using hh.1.2) hh.2 hfi,
     Lib.run_overlaps_apart w t tR e (sli_und hs) sz (fun w => by simp [sizeOf, typeInfo, hi, hsz']) ⟨g1, o1, none⟩ ⟨g2, o2, none⟩ l1 c1 l2 c2 hne t1 t2 cur1.size cur2.size (by simp [World.shape?, hg1]) (by simp [World.shape?, hg2]) hsz (by simp [World.frozen?, hg1]) (by simp [World.frozen?, hg1])]
   rfl
 refine val h hw hd hN hE hS (w' := w) ?_ h.st k
 simp [execOp, ho, resolve, Deferred.ofValue, invoke, h.ag.ev hv, h.ag.ev hx, h.ag.ev hy, hrun]
theorem ldWB {H1 : GH} {L1 : List It} {K : Act → World → Prop} {nd : Bool} {cs : Array Value} {ty : TypeId} (k0 : Nat) {z : Nat × Nat} {n : Nat} (ht : tyN P t n = true) (h : S E H N D F L a w) (k : ∀ a w, S E H N D ((d, .agg cs) :: F) L a w → (gb P ops Q (Sees H1 L1) nd K).G rest a w)
   (ho : o.op = .load t x := by rfl) (hx : ev F x = some (.pointer (some ⟨g, 0, none⟩)) := by rfl) (hk : L[k0]? = some (.obj g (.cells cs ty z)) := by rfl) (hn : cs.size = n := by rfl)
   (hw : wn ops F o = some true := by rfl) (hd : o.dst = some d := by rfl) (hN : Nat.blt d N = true := by rfl) (hSub : ∀ i ∈ L1, i ∈ L := by simp) (hLe : LE H1 H := by first | exact LE.rfl | assumption) : (gb P ops Q (Sees H1 L1) nd K).G (o :: rest) a w :=
 ldWX (H1 := H) (L1 := L) k0 ht h rfl (h.st.sees' hLe hSub) (fun w' e => e ▸ h.st.sees) k ho hx hk hn hw hd hN
end
end Go.Proofs.YthnhddjlgjecdaaGreatDoor.X
namespace Go.Proofs.YthnhddjlgjecdaaGreatDoor
open Go X
theorem ins_grow {α : Type} {c xs cs : List α} {p q m r : Nat} (hc : c.take p = xs.take p) (hp : p ≤ xs.length) (hq : q = p + cs.length) (hm : m = xs.length - p) (hr : r = q + m) (hl : r ≤ c.length) :
   ((c.take p ++ cs ++ c.drop q).take q ++ xs.drop p ++ (c.take p ++ cs ++ c.drop q).drop r).take r = xs.take p ++ cs ++ xs.drop p := by
 have hpc : (c.take p).length = p := by rw [hc, List.length_take]; omega
 have e1 : (c.take p ++ cs ++ c.drop q).take q = xs.take p ++ cs := by
   rw [List.take_left' (by rw [List.length_append, hpc, hq]), hc]
 rw [e1]
 exact List.take_left' (by simp only [List.length_append, List.length_take, List.length_drop]; omega)
theorem ins_shift {α : Type} {c xs cs : List α} {p q m r n : Nat} (hc : c.take n = xs) (hn : n = xs.length) (hnc : n ≤ c.length) (hp : p ≤ n) (hq : q = p + cs.length) (hm : m = n - p) (hr : r = q + m) (hl : r ≤ c.length) :
   ((c.take q ++ xs.drop p ++ c.drop r).take p ++ cs ++ (c.take q ++ xs.drop p ++ c.drop r).drop q).take r = xs.take p ++ cs ++ xs.drop p := by
 have hqc : (c.take q).length = q := by rw [List.length_take]; omega
 have e1 : (c.take q ++ xs.drop p ++ c.drop r).take p = xs.take p := by
   rw [List.append_assoc, List.take_append_of_le_length (by omega), List.take_take, Nat.min_eq_left (by omega), ← hc, List.take_take, Nat.min_eq_left hp]
 have e2 : (c.take q ++ xs.drop p ++ c.drop r).drop q = xs.drop p ++ c.drop r := by
   rw [List.append_assoc, List.drop_left' hqc]
 rw [e1, e2, ← List.append_assoc]
 exact List.take_left' (by simp only [List.length_append, List.length_take, List.length_drop]; omega)
end Go.Proofs.YthnhddjlgjecdaaGreatDoor
