/- Parts of the proof: W10, W11, W12, Iter, W13, W14, W15, W16, W17, W18, W19, P2, T9, T10, R0, R1, W40, W41. -/
import Derived.Test.YtdabamobjciidaaGreatDoorZt2
import Derived.Shelf.SlIter.Nil
import Derived.Shelf.SortM.Plain
import Derived.Shelf.SortM.SortNone
import Derived.Ground.GgzProg
import Derived.Ground.SlgmProg
import Derived.Shelf.Spec.SlicesGrow
import Derived.Ground.Names7Prog
import Derived.Test.YtdabamobjciidaaGreatDoorProg
import Derived.Maps.Own
import Derived.Lib.ItoaLen
set_option autoImplicit false
set_option linter.unnecessarySimpa false
set_option linter.unusedSectionVars false
set_option linter.unusedSimpArgs false
set_option linter.unusedVariables false
set_option maxHeartbeats 8000000
set_option maxRecDepth 100000
set_option relaxedAutoImplicit false
namespace Go.Proofs.YtdabamobjciidaaGreatDoor
open Go X
theorem toks_ok : ∀ (t : Tm), t.wrong = false → t.size ≤ 100000 → ToksOk t := by
 intro t
 induction t using Tm.ind with
 | h kd nm nn ks ih =>
 intro hwr hsz v E H L hv hL
 obtain ⟨A, c, rfl, hks⟩ := hv
 obtain ⟨hnode, hkw⟩ := right_of hwr
 obtain ⟨_, _, _, hn0, hn1⟩ := kids_of_node hnode
 have htl := toks_len (.mk kd nm nn ks)
 simp only [Tm.size] at hsz htl
 have hwi : ∀ x ∈ ks, WithinOk x := fun x hx => within_ok x (ih x hx (hkw x hx) (by have := size_le_sizeL hx; omega)) (by have := toks_len x; have := size_le_sizeL hx; omega)
 have hks : KS H A c ks := hks
 refine enter (N := 153) [(0, _)] Tryz.func71 rfl rfl rfl rfl fun a w h => ?_
 refine au [1,2] h ?_
 refine bxA h fun g1 a w h => ?_
 refine au [0,6,0,2] h ?_; intro a w h
 obtain ⟨Hf, leHf, h, hf1⟩ := h.frz 0
 have l_H_Hf : LE H Hf := leHf
 refine au [7,3,0,6,0,2,0,7] h ?_; intro a w h
 refine ldH t1_9 (Hc.of (LE.rfl _ _ hf1) rfl) h fun a w h => ?_
 refine au [0,6,0,3,0,4,1,2,0,7] h ?_; intro a w h
 refine ldH t1_3 (Hc.of (LE.rfl _ _ hf1) rfl) h fun a w h => ?_
 refine au [0,3,1,5,1,2,6,2,0,6,0,3] h ?_; intro a w h
 refine cdB h (fun c10 => ?_) (fun c10 => ?_)
 ·have ek : kd = 1 := eq_of_beq c10
  have etk := (toks_k hnode).1 ek
  refine sq ?_
  refine rgx [] [] [1, 4] 8 mix h (fun a w h => ?_)
  refine au [8,0,0,7,2,6,8,1] h ?_; intro a w h
  refine ldHT t1_2 (Hc.of (LE.rfl _ _ hf1) rfl) h fun a w h => ?_
  refine au [2,6,8,3,0,7,2,6,8,4] h ?_; intro a w h
  refine ldHT t1_2 (Hc.of (LE.rfl _ _ hf1) rfl) h fun a w h => ?_
  refine tk0 ?_
  refine brl1 2 true (by kernel_rfl) (by kernel_rfl) (fun _ => h.st.sees' (by first | exact LE.rfl | assumption) (by simp)) ?_
  refine cl bod54 (FormatInt_ok nn E Hf _ (hL.up l_H_Hf) (by omega) (by omega)) h fun r14 H14 L14 a w le14 R h => ?_
  obtain ⟨rfl, rfl, rfl⟩ := R
  refine au [2,7,8,5,7,5,2,6] h ?_; intro a w h
  refine brl1 6 true (by kernel_rfl) (by kernel_rfl) (fun _ => h.st.sees' (by first | exact LE.rfl | assumption) (by simp)) ?_
  refine bsl bs124 h fun g18 a w h => ?_
  refine au [2,7,8,7,0,6,2,6] h ?_; intro a w h
  refine en (by kernel_rfl) ?_
  refine au [1,0,1,3,1,6,1,4] h ?_
  have h := h.asRow (sz := 3) (n := 1)
  refine fin1 2 0 h l_H_Hf ?_
  unfold RowTk
  rw [etk]
  exact ⟨_, _, _, rfl, rfl, .one rfl rfl⟩
 ·have ne1 : kd ≠ 1 := ne_of_beq_false c10
  refine au [1,2,6,2,0,6,0,3] h ?_; intro a w h
  refine cdB h (fun c19 => ?_) (fun c19 => ?_)
  ·have ek : kd = 2 := eq_of_beq c19
   have etk := (toks_k hnode).2.1 ek
   refine au [1,2,0,0,7,6] h ?_; intro a w h
   refine bsl bs185 h fun g23 a w h => ?_
   obtain ⟨Hl23, leHl23, h, hp23⟩ := h.fsl (α := Pt) (R := RPt) 0 (ys := [.name nm]) (.cons1 rfl .nil) (fun _ l _ _ _ hr => rpt_up l hr)
   have l_H_Hl23 : LE H Hl23 := l_H_Hf.trans leHl23
   have l_Hf_Hl23 : LE Hf Hl23 := leHl23
   refine cl bod94 (laid_ok [.name nm] _ E Hl23 _ hp23 (hL.up l_H_Hl23) (fun t ht => by simp at ht) (by simp only [List.length_cons, List.length_nil]; omega) (by rw [← etk]; omega)) h fun r24 H24 L24 a w le24 R h => ?_
   obtain ⟨A24, c24, xs24, rfl, rfl, hr24⟩ := R
   have l_H_H24 : LE H H24 := l_H_Hl23.trans le24
   have l_Hf_H24 : LE Hf H24 := l_Hf_Hl23.trans le24
   have l_Hl23_H24 : LE Hl23 H24 := le24
   refine au [0,6,0,3,1,3,1,6,1,4] h ?_; intro a w h
   refine fin1 2 0 h l_H_H24 ?_
   unfold RowTk
   rw [etk]
   exact ⟨_, _, _, rfl, rfl, hr24⟩
  ·have ne2 : kd ≠ 2 := ne_of_beq_false c19
   refine au [1,2,6,2,0,6,0,3] h ?_; intro a w h
   refine cdB h (fun c25 => ?_) (fun c25 => ?_)
   ·have ek : kd = 3 := eq_of_beq c25
    obtain ⟨hkl, etk⟩ := (toks_k hnode).2.2.1 ek
    refine au [1,2,7,6,0,0,7,6,7,6,0,0] h ?_; intro a w h
    refine cl bod93 (kid_ok ks 0 (by omega) A c g1 E Hf _ (hks.up l_H_Hf) ((Hc.of hf1 rfl).mono LE.rfl)) h (fun r32 H32 L32 a w le32 R h => ?_)
    obtain ⟨A32, c32, rfl, hk32, rfl, rfl⟩ := R
    refine mi cnc146 h fun a w h => ?_
    refine bsl bs185 h fun g34 a w h => ?_
    obtain ⟨Hl34, leHl34, h, hp34⟩ := h.fsl (α := Pt) (R := RPt) 0 (ys := [.word [102, 117, 110], .name nm, .mark [61, 62], .kid (ks[0]'(by omega))]) (.cons1 rfl (.cons1 rfl (.cons1 rfl (.cons1 ⟨A32, c32, rfl, hk32.up LE.rfl⟩ .nil)))) (fun _ l _ _ _ hr => rpt_up l hr)
    have l_H_Hl34 : LE H Hl34 := l_H_Hf.trans leHl34
    have l_Hf_Hl34 : LE Hf Hl34 := leHl34
    refine cl bod94 (laid_ok [.word [102, 117, 110], .name nm, .mark [61, 62], .kid (ks[0]'(by omega))] _ E Hl34 _ hp34 (hL.up l_H_Hl34) (fun t ht => by simp at ht; subst ht; exact hwi _ (List.getElem_mem _)) (by simp only [List.length_cons, List.length_nil]; omega) (by rw [← etk]; omega)) h fun r35 H35 L35 a w le35 R h => ?_
    obtain ⟨A35, c35, xs35, rfl, rfl, hr35⟩ := R
    have l_H_H35 : LE H H35 := l_H_Hl34.trans le35
    have l_Hf_H35 : LE Hf H35 := l_Hf_Hl34.trans le35
    have l_Hl34_H35 : LE Hl34 H35 := le35
    refine au [0,6,0,3,1,3,1,6,1,4] h ?_; intro a w h
    refine fin1 2 0 h l_H_H35 ?_
    unfold RowTk
    rw [etk]
    exact ⟨_, _, _, rfl, rfl, hr35⟩
   ·have ne3 : kd ≠ 3 := ne_of_beq_false c25
    refine au [1,2,6,2,0,6,0,3] h ?_; intro a w h
    refine cdB h (fun c36 => ?_) (fun c36 => ?_)
    ·have ek : kd = 4 := eq_of_beq c36
     obtain ⟨hkl, etk⟩ := (toks_k hnode).2.2.2.1 ek
     refine au [1,2,0,0] h ?_; intro a w h
     refine cl bod93 (kid_ok ks 0 (by omega) A c g1 E Hf _ (hks.up l_H_Hf) ((Hc.of hf1 rfl).mono LE.rfl)) h (fun r39 H39 L39 a w le39 R h => ?_)
     obtain ⟨A39, c39, rfl, hk39, rfl, rfl⟩ := R
     refine au [7,6,0,0] h ?_; intro a w h
     refine cl bod93 (kid_ok ks 1 (by omega) A c g1 E Hf _ (hks.up l_H_Hf) ((Hc.of hf1 rfl).mono LE.rfl)) h (fun r42 H42 L42 a w le42 R h => ?_)
     obtain ⟨A42, c42, rfl, hk42, rfl, rfl⟩ := R
     refine mi cnc146 h fun a w h => ?_
     refine bsl bs185 h fun g44 a w h => ?_
     obtain ⟨Hl44, leHl44, h, hp44⟩ := h.fsl (α := Pt) (R := RPt) 0 (ys := [.kid (ks[0]'(by omega)), .kid (ks[1]'(by omega))]) (.cons1 ⟨A39, c39, rfl, hk39.up LE.rfl⟩ (.cons1 ⟨A42, c42, rfl, hk42.up LE.rfl⟩ .nil)) (fun _ l _ _ _ hr => rpt_up l hr)
     have l_H_Hl44 : LE H Hl44 := l_H_Hf.trans leHl44
     have l_Hf_Hl44 : LE Hf Hl44 := leHl44
     refine cl bod94 (laid_ok [.kid (ks[0]'(by omega)), .kid (ks[1]'(by omega))] _ E Hl44 _ hp44 (hL.up l_H_Hl44) (fun t ht => by simp at ht; rcases ht with rfl | rfl <;> exact hwi _ (List.getElem_mem _)) (by simp only [List.length_cons, List.length_nil]; omega) (by rw [← etk]; omega)) h fun r45 H45 L45 a w le45 R h => ?_
     obtain ⟨A45, c45, xs45, rfl, rfl, hr45⟩ := R
     have l_H_H45 : LE H H45 := l_H_Hl44.trans le45
     have l_Hf_H45 : LE Hf H45 := l_Hf_Hl44.trans le45
     have l_Hl44_H45 : LE Hl44 H45 := le45
     refine au [0,6,0,3,1,3,1,6,1,4] h ?_; intro a w h
     refine fin1 2 0 h l_H_H45 ?_
     unfold RowTk
     rw [etk]
     exact ⟨_, _, _, rfl, rfl, hr45⟩
    ·have ne4 : kd ≠ 4 := ne_of_beq_false c36
     refine au [1,2,6,2,0,6,0,3] h ?_; intro a w h
     refine cdB h (fun c46 => ?_) (fun c46 => ?_)
     ·have ek : kd = 5 := eq_of_beq c46
      obtain ⟨hkl, etk⟩ := (toks_k hnode).2.2.2.2.1 ek
      refine au [1,2,7,6,0,0,7,6,7,6,0,0] h ?_; intro a w h
      refine cl bod93 (kid_ok ks 0 (by omega) A c g1 E Hf _ (hks.up l_H_Hf) ((Hc.of hf1 rfl).mono LE.rfl)) h (fun r53 H53 L53 a w le53 R h => ?_)
      obtain ⟨A53, c53, rfl, hk53, rfl, rfl⟩ := R
      refine au [7,6,7,6,0,0] h ?_; intro a w h
      refine cl bod93 (kid_ok ks 1 (by omega) A c g1 E Hf _ (hks.up l_H_Hf) ((Hc.of hf1 rfl).mono LE.rfl)) h (fun r57 H57 L57 a w le57 R h => ?_)
      obtain ⟨A57, c57, rfl, hk57, rfl, rfl⟩ := R
      refine mi cnc146 h fun a w h => ?_
      refine bsl bs185 h fun g59 a w h => ?_
      obtain ⟨Hl59, leHl59, h, hp59⟩ := h.fsl (α := Pt) (R := RPt) 0 (ys := [.word [108, 101, 116], .name nm, .mark [61], .kid (ks[0]'(by omega)), .word [105, 110], .kid (ks[1]'(by omega))]) (.cons1 rfl (.cons1 rfl (.cons1 rfl (.cons1 ⟨A53, c53, rfl, hk53.up LE.rfl⟩ (.cons1 rfl (.cons1 ⟨A57, c57, rfl, hk57.up LE.rfl⟩ .nil)))))) (fun _ l _ _ _ hr => rpt_up l hr)
      have l_H_Hl59 : LE H Hl59 := l_H_Hf.trans leHl59
      have l_Hf_Hl59 : LE Hf Hl59 := leHl59
      refine cl bod94 (laid_ok [.word [108, 101, 116], .name nm, .mark [61], .kid (ks[0]'(by omega)), .word [105, 110], .kid (ks[1]'(by omega))] _ E Hl59 _ hp59 (hL.up l_H_Hl59) (fun t ht => by simp at ht; rcases ht with rfl | rfl <;> exact hwi _ (List.getElem_mem _)) (by simp only [List.length_cons, List.length_nil]; omega) (by rw [← etk]; omega)) h fun r60 H60 L60 a w le60 R h => ?_
      obtain ⟨A60, c60, xs60, rfl, rfl, hr60⟩ := R
      have l_H_H60 : LE H H60 := l_H_Hl59.trans le60
      have l_Hf_H60 : LE Hf H60 := l_Hf_Hl59.trans le60
      have l_Hl59_H60 : LE Hl59 H60 := le60
      refine au [0,6,0,3,1,3,1,6,1,4] h ?_; intro a w h
      refine fin1 2 0 h l_H_H60 ?_
      unfold RowTk
      rw [etk]
      exact ⟨_, _, _, rfl, rfl, hr60⟩
     ·have ne5 : kd ≠ 5 := ne_of_beq_false c46
      refine au [1,2,6,2,0,6,0,3] h ?_; intro a w h
      refine cdB h (fun c61 => ?_) (fun c61 => ?_)
      ·have ek : kd = 6 := eq_of_beq c61
       obtain ⟨hkl, etk⟩ := (toks_k hnode).2.2.2.2.2.1 ek
       refine au [1,2,7,6,0,0] h ?_; intro a w h
       refine cl bod93 (kid_ok ks 0 (by omega) A c g1 E Hf _ (hks.up l_H_Hf) ((Hc.of hf1 rfl).mono LE.rfl)) h (fun r65 H65 L65 a w le65 R h => ?_)
       obtain ⟨A65, c65, rfl, hk65, rfl, rfl⟩ := R
       refine au [7,6,7,6,0,0] h ?_; intro a w h
       refine cl bod93 (kid_ok ks 1 (by omega) A c g1 E Hf _ (hks.up l_H_Hf) ((Hc.of hf1 rfl).mono LE.rfl)) h (fun r69 H69 L69 a w le69 R h => ?_)
       obtain ⟨A69, c69, rfl, hk69, rfl, rfl⟩ := R
       refine au [7,6,7,6,0,0] h ?_; intro a w h
       refine cl bod93 (kid_ok ks 2 (by omega) A c g1 E Hf _ (hks.up l_H_Hf) ((Hc.of hf1 rfl).mono LE.rfl)) h (fun r73 H73 L73 a w le73 R h => ?_)
       obtain ⟨A73, c73, rfl, hk73, rfl, rfl⟩ := R
       refine mi cnc146 h fun a w h => ?_
       refine bsl bs185 h fun g75 a w h => ?_
       obtain ⟨Hl75, leHl75, h, hp75⟩ := h.fsl (α := Pt) (R := RPt) 0 (ys := [.word [105, 102], .kid (ks[0]'(by omega)), .word [116, 104, 101, 110], .kid (ks[1]'(by omega)), .word [101, 108, 115, 101], .kid (ks[2]'(by omega))]) (.cons1 rfl (.cons1 ⟨A65, c65, rfl, hk65.up LE.rfl⟩ (.cons1 rfl (.cons1 ⟨A69, c69, rfl, hk69.up LE.rfl⟩ (.cons1 rfl (.cons1 ⟨A73, c73, rfl, hk73.up LE.rfl⟩ .nil)))))) (fun _ l _ _ _ hr => rpt_up l hr)
       have l_H_Hl75 : LE H Hl75 := l_H_Hf.trans leHl75
       have l_Hf_Hl75 : LE Hf Hl75 := leHl75
       refine cl bod94 (laid_ok [.word [105, 102], .kid (ks[0]'(by omega)), .word [116, 104, 101, 110], .kid (ks[1]'(by omega)), .word [101, 108, 115, 101], .kid (ks[2]'(by omega))] _ E Hl75 _ hp75 (hL.up l_H_Hl75) (fun t ht => by simp at ht; rcases ht with rfl | rfl | rfl <;> exact hwi _ (List.getElem_mem _)) (by simp only [List.length_cons, List.length_nil]; omega) (by rw [← etk]; omega)) h fun r76 H76 L76 a w le76 R h => ?_
       obtain ⟨A76, c76, xs76, rfl, rfl, hr76⟩ := R
       have l_H_H76 : LE H H76 := l_H_Hl75.trans le76
       have l_Hf_H76 : LE Hf H76 := l_Hf_Hl75.trans le76
       have l_Hl75_H76 : LE Hl75 H76 := le76
       refine au [0,6,0,3,1,3,1,6,1,4] h ?_; intro a w h
       refine fin1 2 0 h l_H_H76 ?_
       unfold RowTk
       rw [etk]
       exact ⟨_, _, _, rfl, rfl, hr76⟩
      ·have ne6 : kd ≠ 6 := ne_of_beq_false c61
       refine au [1,2,6,2,0,6,0,3] h ?_; intro a w h
       refine cdB h (fun c77 => ?_) (fun c77 => ?_)
       ·have ek : kd = 7 := eq_of_beq c77
        obtain ⟨hkl, etk⟩ := (toks_k hnode).2.2.2.2.2.2.1 ek
        refine au [1,2,7,6,0,0] h ?_; intro a w h
        refine cl bod93 (kid_ok ks 0 (by omega) A c g1 E Hf _ (hks.up l_H_Hf) ((Hc.of hf1 rfl).mono LE.rfl)) h (fun r81 H81 L81 a w le81 R h => ?_)
        obtain ⟨A81, c81, rfl, hk81, rfl, rfl⟩ := R
        refine au [7,6,7,6,0,0] h ?_; intro a w h
        refine cl bod93 (kid_ok ks 1 (by omega) A c g1 E Hf _ (hks.up l_H_Hf) ((Hc.of hf1 rfl).mono LE.rfl)) h (fun r85 H85 L85 a w le85 R h => ?_)
        obtain ⟨A85, c85, rfl, hk85, rfl, rfl⟩ := R
        refine mi cnc146 h fun a w h => ?_
        refine bsl bs185 h fun g87 a w h => ?_
        obtain ⟨Hl87, leHl87, h, hp87⟩ := h.fsl (α := Pt) (R := RPt) 0 (ys := [.word [119, 104, 105, 108, 101], .kid (ks[0]'(by omega)), .word [100, 111], .kid (ks[1]'(by omega))]) (.cons1 rfl (.cons1 ⟨A81, c81, rfl, hk81.up LE.rfl⟩ (.cons1 rfl (.cons1 ⟨A85, c85, rfl, hk85.up LE.rfl⟩ .nil)))) (fun _ l _ _ _ hr => rpt_up l hr)
        have l_H_Hl87 : LE H Hl87 := l_H_Hf.trans leHl87
        have l_Hf_Hl87 : LE Hf Hl87 := leHl87
        refine cl bod94 (laid_ok [.word [119, 104, 105, 108, 101], .kid (ks[0]'(by omega)), .word [100, 111], .kid (ks[1]'(by omega))] _ E Hl87 _ hp87 (hL.up l_H_Hl87) (fun t ht => by simp at ht; rcases ht with rfl | rfl <;> exact hwi _ (List.getElem_mem _)) (by simp only [List.length_cons, List.length_nil]; omega) (by rw [← etk]; omega)) h fun r88 H88 L88 a w le88 R h => ?_
        obtain ⟨A88, c88, xs88, rfl, rfl, hr88⟩ := R
        have l_H_H88 : LE H H88 := l_H_Hl87.trans le88
        have l_Hf_H88 : LE Hf H88 := l_Hf_Hl87.trans le88
        have l_Hl87_H88 : LE Hl87 H88 := le88
        refine au [0,6,0,3,1,3,1,6,1,4] h ?_; intro a w h
        refine fin1 2 0 h l_H_H88 ?_
        unfold RowTk
        rw [etk]
        exact ⟨_, _, _, rfl, rfl, hr88⟩
       ·have ne7 : kd ≠ 7 := ne_of_beq_false c77
        refine au [1,2,6,2,0,6,0,3] h ?_; intro a w h
        refine cdB h (fun c89 => ?_) (fun c89 => ?_)
        ·have ek : kd = 8 := eq_of_beq c89
         obtain ⟨hkl, etk⟩ := (toks_k hnode).2.2.2.2.2.2.2.1 ek
         refine au [1,2,7,6,0,0] h ?_; intro a w h
         refine cl bod93 (kid_ok ks 0 (by omega) A c g1 E Hf _ (hks.up l_H_Hf) ((Hc.of hf1 rfl).mono LE.rfl)) h (fun r93 H93 L93 a w le93 R h => ?_)
         obtain ⟨A93, c93, rfl, hk93, rfl, rfl⟩ := R
         refine mi cnc146 h fun a w h => ?_
         refine bsl bs185 h fun g95 a w h => ?_
         obtain ⟨Hl95, leHl95, h, hp95⟩ := h.fsl (α := Pt) (R := RPt) 0 (ys := [.word [114, 97, 105, 115, 101], .kid (ks[0]'(by omega))]) (.cons1 rfl (.cons1 ⟨A93, c93, rfl, hk93.up LE.rfl⟩ .nil)) (fun _ l _ _ _ hr => rpt_up l hr)
         have l_H_Hl95 : LE H Hl95 := l_H_Hf.trans leHl95
         have l_Hf_Hl95 : LE Hf Hl95 := leHl95
         refine cl bod94 (laid_ok [.word [114, 97, 105, 115, 101], .kid (ks[0]'(by omega))] _ E Hl95 _ hp95 (hL.up l_H_Hl95) (fun t ht => by simp at ht; subst ht; exact hwi _ (List.getElem_mem _)) (by simp only [List.length_cons, List.length_nil]; omega) (by rw [← etk]; omega)) h fun r96 H96 L96 a w le96 R h => ?_
         obtain ⟨A96, c96, xs96, rfl, rfl, hr96⟩ := R
         have l_H_H96 : LE H H96 := l_H_Hl95.trans le96
         have l_Hf_H96 : LE Hf H96 := l_Hf_Hl95.trans le96
         have l_Hl95_H96 : LE Hl95 H96 := le96
         refine au [0,6,0,3,1,3,1,6,1,4] h ?_; intro a w h
         refine fin1 2 0 h l_H_H96 ?_
         unfold RowTk
         rw [etk]
         exact ⟨_, _, _, rfl, rfl, hr96⟩
        ·have ne8 : kd ≠ 8 := ne_of_beq_false c89
         refine au [1,2,6,2,0,6,0,3] h ?_; intro a w h
         refine cdB h (fun c97 => ?_) (fun c97 => ?_)
         ·have ek : kd = 9 := eq_of_beq c97
          obtain ⟨hkl, etk⟩ := (toks_k hnode).2.2.2.2.2.2.2.2.1 ek
          refine au [1,2,7,6,0,0] h ?_; intro a w h
          refine cl bod93 (kid_ok ks 0 (by omega) A c g1 E Hf _ (hks.up l_H_Hf) ((Hc.of hf1 rfl).mono LE.rfl)) h (fun r101 H101 L101 a w le101 R h => ?_)
          obtain ⟨A101, c101, rfl, hk101, rfl, rfl⟩ := R
          refine au [7,6,7,6,0,0,7,6,7,6,0,0] h ?_; intro a w h
          refine cl bod93 (kid_ok ks 1 (by omega) A c g1 E Hf _ (hks.up l_H_Hf) ((Hc.of hf1 rfl).mono LE.rfl)) h (fun r108 H108 L108 a w le108 R h => ?_)
          obtain ⟨A108, c108, rfl, hk108, rfl, rfl⟩ := R
          refine mi cnc146 h fun a w h => ?_
          refine bsl bs185 h fun g110 a w h => ?_
          obtain ⟨Hl110, leHl110, h, hp110⟩ := h.fsl (α := Pt) (R := RPt) 0 (ys := [.word [116, 114, 121], .kid (ks[0]'(by omega)), .word [119, 105, 116, 104], .name nm, .mark [61, 62], .kid (ks[1]'(by omega))]) (.cons1 rfl (.cons1 ⟨A101, c101, rfl, hk101.up LE.rfl⟩ (.cons1 rfl (.cons1 rfl (.cons1 rfl (.cons1 ⟨A108, c108, rfl, hk108.up LE.rfl⟩ .nil)))))) (fun _ l _ _ _ hr => rpt_up l hr)
          have l_H_Hl110 : LE H Hl110 := l_H_Hf.trans leHl110
          have l_Hf_Hl110 : LE Hf Hl110 := leHl110
          refine cl bod94 (laid_ok [.word [116, 114, 121], .kid (ks[0]'(by omega)), .word [119, 105, 116, 104], .name nm, .mark [61, 62], .kid (ks[1]'(by omega))] _ E Hl110 _ hp110 (hL.up l_H_Hl110) (fun t ht => by simp at ht; rcases ht with rfl | rfl <;> exact hwi _ (List.getElem_mem _)) (by simp only [List.length_cons, List.length_nil]; omega) (by rw [← etk]; omega)) h fun r111 H111 L111 a w le111 R h => ?_
          obtain ⟨A111, c111, xs111, rfl, rfl, hr111⟩ := R
          have l_H_H111 : LE H H111 := l_H_Hl110.trans le111
          have l_Hf_H111 : LE Hf H111 := l_Hf_Hl110.trans le111
          have l_Hl110_H111 : LE Hl110 H111 := le111
          refine au [0,6,0,3,1,3,1,6,1,4] h ?_; intro a w h
          refine fin1 2 0 h l_H_H111 ?_
          unfold RowTk
          rw [etk]
          exact ⟨_, _, _, rfl, rfl, hr111⟩
         ·have ne9 : kd ≠ 9 := ne_of_beq_false c97
          refine au [1,2,6,2,0,6,0,3] h ?_; intro a w h
          refine cdB h (fun c112 => ?_) (fun c112 => ?_)
          ·have ek : kd = 10 := eq_of_beq c112
           obtain ⟨hkl, etk⟩ := (toks_k hnode).2.2.2.2.2.2.2.2.2.1 ek
           refine au [1,2,7,6,0,0] h ?_; intro a w h
           refine cl bod93 (kid_ok ks 0 (by omega) A c g1 E Hf _ (hks.up l_H_Hf) ((Hc.of hf1 rfl).mono LE.rfl)) h (fun r116 H116 L116 a w le116 R h => ?_)
           obtain ⟨A116, c116, rfl, hk116, rfl, rfl⟩ := R
           refine mi cnc146 h fun a w h => ?_
           refine bsl bs185 h fun g118 a w h => ?_
           obtain ⟨Hl118, leHl118, h, hp118⟩ := h.fsl (α := Pt) (R := RPt) 0 (ys := [.mark [33], .kid (ks[0]'(by omega))]) (.cons1 rfl (.cons1 ⟨A116, c116, rfl, hk116.up LE.rfl⟩ .nil)) (fun _ l _ _ _ hr => rpt_up l hr)
           have l_H_Hl118 : LE H Hl118 := l_H_Hf.trans leHl118
           have l_Hf_Hl118 : LE Hf Hl118 := leHl118
           refine cl bod94 (laid_ok [.mark [33], .kid (ks[0]'(by omega))] _ E Hl118 _ hp118 (hL.up l_H_Hl118) (fun t ht => by simp at ht; subst ht; exact hwi _ (List.getElem_mem _)) (by simp only [List.length_cons, List.length_nil]; omega) (by rw [← etk]; omega)) h fun r119 H119 L119 a w le119 R h => ?_
           obtain ⟨A119, c119, xs119, rfl, rfl, hr119⟩ := R
           have l_H_H119 : LE H H119 := l_H_Hl118.trans le119
           have l_Hf_H119 : LE Hf H119 := l_Hf_Hl118.trans le119
           have l_Hl118_H119 : LE Hl118 H119 := le119
           refine au [0,6,0,3,1,3,1,6,1,4] h ?_; intro a w h
           refine fin1 2 0 h l_H_H119 ?_
           unfold RowTk
           rw [etk]
           exact ⟨_, _, _, rfl, rfl, hr119⟩
          ·have ne10 : kd ≠ 10 := ne_of_beq_false c112
           refine au [1,2,6,2,0,6,0,3] h ?_; intro a w h
           refine cdB h (fun c120 => ?_) (fun c120 => ?_)
           ·have ek : kd = 11 := eq_of_beq c120
            obtain ⟨hkl, etk⟩ := (toks_k hnode).2.2.2.2.2.2.2.2.2.2.1 ek
            refine au [1,2,0,0] h ?_; intro a w h
            refine cl bod93 (kid_ok ks 0 (by omega) A c g1 E Hf _ (hks.up l_H_Hf) ((Hc.of hf1 rfl).mono LE.rfl)) h (fun r123 H123 L123 a w le123 R h => ?_)
            obtain ⟨A123, c123, rfl, hk123, rfl, rfl⟩ := R
            refine au [7,6,7,6,0,0] h ?_; intro a w h
            refine cl bod93 (kid_ok ks 1 (by omega) A c g1 E Hf _ (hks.up l_H_Hf) ((Hc.of hf1 rfl).mono LE.rfl)) h (fun r127 H127 L127 a w le127 R h => ?_)
            obtain ⟨A127, c127, rfl, hk127, rfl, rfl⟩ := R
            refine mi cnc146 h fun a w h => ?_
            refine bsl bs185 h fun g129 a w h => ?_
            obtain ⟨Hl129, leHl129, h, hp129⟩ := h.fsl (α := Pt) (R := RPt) 0 (ys := [.kid (ks[0]'(by omega)), .mark [58, 61], .kid (ks[1]'(by omega))]) (.cons1 ⟨A123, c123, rfl, hk123.up LE.rfl⟩ (.cons1 rfl (.cons1 ⟨A127, c127, rfl, hk127.up LE.rfl⟩ .nil))) (fun _ l _ _ _ hr => rpt_up l hr)
            have l_H_Hl129 : LE H Hl129 := l_H_Hf.trans leHl129
            have l_Hf_Hl129 : LE Hf Hl129 := leHl129
            refine cl bod94 (laid_ok [.kid (ks[0]'(by omega)), .mark [58, 61], .kid (ks[1]'(by omega))] _ E Hl129 _ hp129 (hL.up l_H_Hl129) (fun t ht => by simp at ht; rcases ht with rfl | rfl <;> exact hwi _ (List.getElem_mem _)) (by simp only [List.length_cons, List.length_nil]; omega) (by rw [← etk]; omega)) h fun r130 H130 L130 a w le130 R h => ?_
            obtain ⟨A130, c130, xs130, rfl, rfl, hr130⟩ := R
            have l_H_H130 : LE H H130 := l_H_Hl129.trans le130
            have l_Hf_H130 : LE Hf H130 := l_Hf_Hl129.trans le130
            have l_Hl129_H130 : LE Hl129 H130 := le130
            refine au [0,6,0,3,1,3,1,6,1,4] h ?_; intro a w h
            refine fin1 2 0 h l_H_H130 ?_
            unfold RowTk
            rw [etk]
            exact ⟨_, _, _, rfl, rfl, hr130⟩
           ·have ne11 : kd ≠ 11 := ne_of_beq_false c120
            refine au [1,2,6,2,0,6,0,3] h ?_; intro a w h
            refine cdB h (fun c131 => ?_) (fun c131 => ?_)
            ·have ek : kd = 12 := eq_of_beq c131
             obtain ⟨hkl, etk⟩ := (toks_k hnode).2.2.2.2.2.2.2.2.2.2.2.1 ek
             refine sq ?_
             refine rgx [] [] [4] 12 mix h (fun a w h => ?_)
             refine au [8,0,0,0,2,6,8,3,0,7,2,6,8,4] h ?_; intro a w h
             refine ldHT t1_9 (Hc.of (LE.rfl _ _ hf1) rfl) h fun a w h => ?_
             refine au [2,6,8,5,7,6,2,6,8,6,0,0,2,6] h ?_; intro a w h
             refine brl1 1 true (by kernel_rfl) (by kernel_rfl) (fun _ => h.st.sees' (by first | exact LE.rfl | assumption) (by simp)) ?_
             refine cl bod93 (kid_ok ks 0 (by omega) A c g1 E Hf _ (hks.up l_H_Hf) ((Hc.of hf1 rfl).mono LE.rfl)) h (fun r134 H134 L134 a w le134 R h => ?_) (hS := fun _ _ _ _ _ le R hw => by obtain ⟨_, _, _, _, rfl, rfl⟩ := R; exact hw.sees' (by first | exact le | exact LE.trans (by assumption) le) (by simp))
             obtain ⟨A134, c134, rfl, hk134, rfl, rfl⟩ := R
             refine au [2,7,8,2,7,6,2,6] h ?_; intro a w h
             refine brl1 7 true (by kernel_rfl) (by kernel_rfl) (fun _ => h.st.sees' (by first | exact LE.rfl | assumption) (by simp)) ?_
             refine cl bod93 (kid_ok ks 1 (by omega) A c g1 E Hf _ (hks.up l_H_Hf) ((Hc.of hf1 rfl).mono LE.rfl)) h (fun r140 H140 L140 a w le140 R h => ?_) (hS := fun _ _ _ _ _ le R hw => by obtain ⟨_, _, _, _, rfl, rfl⟩ := R; exact hw.sees' (by first | exact le | exact LE.trans (by assumption) le) (by simp))
             obtain ⟨A140, c140, rfl, hk140, rfl, rfl⟩ := R
             refine au [2,7,8,8,7,6,2,6] h ?_; intro a w h
             refine brl1 9 true (by kernel_rfl) (by kernel_rfl) (fun _ => h.st.sees' (by first | exact LE.rfl | assumption) (by simp)) ?_
             refine bsl bs185 h fun g142 a w h => ?_
             refine br0 ?_
             refine brl1 10 true (by kernel_rfl) (by kernel_rfl) (fun _ => h.st.sees' (by first | exact LE.rfl | assumption) (by simp)) ?_
             obtain ⟨Hl142, leHl142, h, hp142⟩ := h.fsl (α := Pt) (R := RPt) 0 (ys := [.kid (ks[0]'(by omega)), .mark nm, .kid (ks[1]'(by omega))]) (.cons1 ⟨A134, c134, rfl, hk134.up LE.rfl⟩ (.cons1 rfl (.cons1 ⟨A140, c140, rfl, hk140.up LE.rfl⟩ .nil))) (fun _ l _ _ _ hr => rpt_up l hr)
             have l_H_Hl142 : LE H Hl142 := l_H_Hf.trans leHl142
             have l_Hf_Hl142 : LE Hf Hl142 := leHl142
             refine cl bod94 (laid_ok [.kid (ks[0]'(by omega)), .mark nm, .kid (ks[1]'(by omega))] _ E Hl142 _ hp142 (hL.up l_H_Hl142) (fun t ht => by simp at ht; rcases ht with rfl | rfl <;> exact hwi _ (List.getElem_mem _)) (by simp only [List.length_cons, List.length_nil]; omega) (by rw [← etk]; omega)) h fun r143 H143 L143 a w le143 R h => ?_
             obtain ⟨A143, c143, xs143, rfl, rfl, hr143⟩ := R
             have l_H_H143 : LE H H143 := l_H_Hl142.trans le143
             have l_Hf_H143 : LE Hf H143 := l_Hf_Hl142.trans le143
             have l_Hl142_H143 : LE Hl142 H143 := le143
             refine au [2,7,8,11,0,6,2,6] h ?_; intro a w h
             refine en (by kernel_rfl) ?_
             refine au [1,0,1,3,1,6,1,4] h ?_
             refine fin1 2 0 h l_H_H143 ?_
             unfold RowTk
             rw [etk]
             exact ⟨_, _, _, rfl, rfl, hr143⟩
            ·have ne12 : kd ≠ 12 := ne_of_beq_false c131
             refine au [1,8,1,7,1,0,1,2] h ?_
             obtain ⟨hkl, etk⟩ := (toks_k hnode).2.2.2.2.2.2.2.2.2.2.2.2 ne1 ne2 ne3 ne4 ne5 ne6 ne7 ne8 ne9 ne10 ne11 ne12
             refine mv h fun a w h => ?_
             refine cl bod93 (kid_ok ks 0 (by omega) A c g1 E Hf _ (hks.up l_H_Hf) ((Hc.of hf1 rfl).mono LE.rfl)) h (fun r145 H145 L145 a w le145 R h => ?_)
             obtain ⟨A145, c145, rfl, hk145, rfl, rfl⟩ := R
             refine au [7,6,7,6,0,0] h ?_; intro a w h
             refine cl bod93 (kid_ok ks 1 (by omega) A c g1 E Hf _ (hks.up l_H_Hf) ((Hc.of hf1 rfl).mono LE.rfl)) h (fun r149 H149 L149 a w le149 R h => ?_)
             obtain ⟨A149, c149, rfl, hk149, rfl, rfl⟩ := R
             refine mi cnc146 h fun a w h => ?_
             refine bsl bs185 h fun g151 a w h => ?_
             obtain ⟨Hl151, leHl151, h, hp151⟩ := h.fsl (α := Pt) (R := RPt) 0 (ys := [.kid (ks[0]'(by omega)), .mark [59], .kid (ks[1]'(by omega))]) (.cons1 ⟨A145, c145, rfl, hk145.up LE.rfl⟩ (.cons1 rfl (.cons1 ⟨A149, c149, rfl, hk149.up LE.rfl⟩ .nil))) (fun _ l _ _ _ hr => rpt_up l hr)
             have l_H_Hl151 : LE H Hl151 := l_H_Hf.trans leHl151
             have l_Hf_Hl151 : LE Hf Hl151 := leHl151
             refine cl bod94 (laid_ok [.kid (ks[0]'(by omega)), .mark [59], .kid (ks[1]'(by omega))] _ E Hl151 _ hp151 (hL.up l_H_Hl151) (fun t ht => by simp at ht; rcases ht with rfl | rfl <;> exact hwi _ (List.getElem_mem _)) (by simp only [List.length_cons, List.length_nil]; omega) (by rw [← etk]; omega)) h fun r152 H152 L152 a w le152 R h => ?_
             obtain ⟨A152, c152, xs152, rfl, rfl, hr152⟩ := R
             have l_H_H152 : LE H H152 := l_H_Hl151.trans le152
             have l_Hf_H152 : LE Hf H152 := l_Hf_Hl151.trans le152
             have l_Hl151_H152 : LE Hl151 H152 := le152
             refine au [0,6,0,3,1,3] h ?_; intro a w h
             refine fin1 2 0 h l_H_H152 ?_
             unfold RowTk
             rw [etk]
             exact ⟨_, _, _, rfl, rfl, hr152⟩
theorem right_iff {t : Tm} (h : t.right = true) : t.depth ≤ 200 ∧ t.size ≤ 10000 ∧ t.wrong = false := by
 unfold Tm.right at h
 simp only [Bool.and_eq_true, decide_eq_true_eq, Bool.not_eq_true'] at h
 exact ⟨by omega, by omega, h.2.2⟩
theorem Show_ok (t : Tm) (v : Value) (E : World) (H : GH) (L : List It) (hv : VT H v t) (hL : Laid H) (hlg : t.long < 1000000000000) (hsz : t.size < 1000000000000) (hjoin : t.right = true → (Lib.join (t.toks.map (·.text)) [32]).length ≤ 140737488355328) : Ok Tryz.prog 55 #[v] E H L fun r H' L' => r = str t.show' ∧ H = H' ∧ L = L' := by
 have hv0 := hv
 obtain ⟨A, c, rfl, hks⟩ := hv
 have hv := hv0
 refine enter (N := 9) [(0, _)] Tryz.func55 rfl rfl rfl rfl fun a w h => ?_
 refine au [1,2] h ?_
 refine bxA h fun g1 a w h => ?_
 refine au [0,6,0,3,0,4,1,2,3,3] h ?_; intro a w h
 refine cl bod69 (Right_ok t _ E H _ hv hL hlg hsz) h fun r4 H4 L4 a w le4 R h => ?_
 obtain ⟨rfl, rfl, rfl⟩ := R
 refine au [7,1,0,3] h ?_; intro a w h
 refine cdB h (fun c5 => ?_) (fun c5 => ?_)
 ·have c4 : t.right = false := by simpa using c5
  refine au [1,2,0,6,0,3,1,3,1,4] h ?_; intro a w h
  have h := h.del 0
  refine fin1 2 0 (h.less LE.rfl) LE.rfl ?_
  unfold Tm.show'
  exact ⟨by rw [c4]; rfl, rfl, rfl⟩
 ·have c4 : t.right = true := by simpa using c5
  obtain ⟨hs1, hs2, hs3⟩ := right_iff c4
  have htl := toks_len t
  have hjl := hjoin c4
  refine au [1,8,1,0,1,2,3,3] h ?_; intro a w h
  refine cl bod71 (toks_ok t hs3 (by omega) _ E H _ (hv.mono LE.rfl) (hL.up LE.rfl)) h fun r7 H7 L7 a w le7 R h => ?_
  obtain ⟨A7, c7, xs7, rfl, rfl, hr7⟩ := R
  have l_H_H7 : LE H H7 := le7
  obtain ⟨Hs, leHs, h, hrs⟩ := h.frw 0 (n := t.toks.length) hr7 rfl (fun _ _ _ _ _ h => h)
  have l_H_Hs : LE H Hs := l_H_H7.trans leHs
  have l_H7_Hs : LE H7 Hs := leHs
  refine cl bod70 (Print_ok t.toks _ E Hs _ hrs (by omega) hjl) h fun r8 H8 L8 a w le8 R h => ?_
  obtain ⟨rfl, rfl, rfl⟩ := R
  refine au [0,6,0,3,1,3] h ?_; intro a w h
  have h := h.del 0
  refine fin1 2 0 (h.less l_H_Hs) LE.rfl ?_
  unfold Tm.show'
  exact ⟨by rw [c4]; rfl, rfl, rfl⟩
def apd (a b : Bs) : Bs := match b with
 | [] => a
 | _ => a ++ b
theorem apd_eq (a b : Bs) : apd a b = a ++ b := by cases b <;> simp [apd]
theorem catB {P : Program} {ops : Array Oper} {Q : Exit → Act → World → Prop} {γ : Gd P ops Q} {rest : List Oper} {o : Oper} {E w : World} {H : GH} {N : Nat} {D : List Deferred} {F : List (Nat × Value)} {L : List It} {a : Act}
   {t u : TypeId} {x y : Operand} {d : Nat} {s s' : List UInt8} (h : S E H N D F L a w) (hl : s.length + s'.length ≤ 100000000000000) (k : ∀ a w, S E H N D ((d, .string ⟨(s ++ s').toArray⟩) :: F) L a w → γ.G rest a w)
   (ho : o.op = .binOp .add t x y u := by rfl) (hx : ev F x = some (.string ⟨s.toArray⟩) := by rfl) (hy : ev F y = some (.string ⟨s'.toArray⟩) := by rfl)
   (hw : wn ops F o = some true := by rfl) (hd : o.dst = some d := by rfl) (hN : Nat.blt d N = true := by rfl) : γ.G (o :: rest) a w := cat h k hl ho hx hy hw hd hN
theorem PrintP_ok (p : Pg) (v : Value) (E : World) (H : GH) (L : List It) (hv : VP H v p) (hL : Laid H) (hb : Mild p) : Ok Tryz.prog 42 #[v] E H L fun r H' L' => r = str p.print ∧ H = H' ∧ L = L' := by
 have hv0 := hv
 obtain ⟨A1, c1, A2, c2, A3, c3, A4, c4, rfl, hi, hc, hd, hk⟩ := hv
 have hv := hv0
 refine enter (N := 83) [(0, _)] Tryz.func42 rfl rfl rfl rfl fun a w h => ?_
 refine au [1,2] h ?_
 refine bxA h fun g1 a w h => ?_
 refine au [0,6,0,3,0,4,1,2] h ?_; intro a w h
 obtain ⟨Hf, leHf, h, hf1⟩ := h.frz 0
 have l_H_Hf : LE H Hf := leHf
 have hL := hL.up l_H_Hf
 have hv := hv.mono l_H_Hf
 have hi := hi.up l_H_Hf
 have hc := hc.up l_H_Hf
 have hd := hd.up l_H_Hf
 have hk := hk.up l_H_Hf
 refine ldHN tN28 rfl (Hc.all (LE.rfl _ _ hf1)) h fun a w h => ?_
 refine cl bod53 (fits_ok p _ E Hf _ hv hL hb) h fun r11 H11 L11 a w le11 R h => ?_
 obtain ⟨rfl, rfl, rfl⟩ := R
 refine au [7,1,0,3] h ?_; intro a w h
 refine cdB h (fun c12 => ?_) (fun c12 => ?_)
 ·have hfit : p.fits = false := by simpa using c12
  have e0 : p.print = [] := by unfold Pg.print; rw [if_neg (by rw [hfit]; simp)]
  refine au [1,2,0,6,0,3,1,3,1,4] h ?_; intro a w h
  refine fin1 2 0 (h.less l_H_Hf) LE.rfl ?_
  exact ⟨by first | (rw [e0]; done) | (rw [e0]; rfl), rfl, rfl⟩
 ·have hfit : p.fits = true := by simpa using c12
  obtain ⟨hl1, hl2, hl3, hw1, hw2, hw3, hbr⟩ := fits_of hfit
  have q1 := flat_take_len (f := Dc.inL) (fun d hd => inL_len (hw1 d hd).1) hl1
  have q2 := flat_take_len (f := Dc.cellL) (fun d hd => cellL_len (hw2 d hd)) hl2
  have q3 := flat_take_len (f := Df.line) (fun d hd => line_len (hw3 d hd)) hl3
  have q1a := q1 p.inputs.length
  have q2a := q2 p.cells.length
  have q3a := q3 p.defs.length
  rw [List.take_length] at q1a q2a q3a
  have q4 := show'_le p.body
  refine au [1,8,1,0,1,2,0,6,0,3,0,4,1,2,0,7] h ?_; intro a w h
  refine ldH t1_25 (Hc.of (LE.rfl _ _ hf1) rfl) h fun a w h => ?_
  refine au [6,0,0,0,0,3,1,5] h ?_; intro a w h
  refine lp (β := Nat) (fun k a w => (k ≤ p.inputs.length) ∧ S E Hf 83 [] [(16, .int .i64 (k : Int)), (15, .int .i64 (p.inputs.length : Int)), (14, .slice A1 p.inputs.length c1), (3, str (apd [] ((p.inputs.take k).flatMap Dc.inL))), (1, .pointer (some ⟨g1, 0, none⟩))] (L) a w)
   (fun k => p.inputs.length - k) 0 ⟨Nat.zero_le _, h.to 0 _⟩ ?_
  rintro k a w ⟨pre, h⟩
  refine au [1,2,6,4,0,3,0,4] h ?_; intro a w h
  refine cdB h (fun c17 => ?_) (fun c17 => ?_)
  ·have c17 : k < p.inputs.length := by simpa using c17
   obtain ⟨g, off, rfl, hvt, hcell⟩ := CS.get hi c17
   obtain ⟨d1, d2, _, _⟩ := dc_len (hw1 _ (List.getElem_mem c17)).1
   have qk := q1 k
   rw [apd_eq] at h
   refine au [1,8,1,0,0,4,1,5,1,2] h ?_
   refine ia sli25 sz59 rfl c17 h fun a w h => ?_
   refine ldHN tN59 rfl hcell h fun a w h => ?_
   refine al zr59 h fun g5 a w h => ?_
   refine au [5,5,0,3,0,5,0,0,0,7,0,8] h ?_; intro a w h
   refine catB h ?_ fun a w h => ?_
   ·(try simp only [List.length_append, List.length_cons, List.length_nil]); omega
   refine catB h ?_ fun a w h => ?_
   ·(try simp only [List.length_append, List.length_cons, List.length_nil]); omega
   refine au [0,7,0,8] h ?_; intro a w h
   refine catB h ?_ fun a w h => ?_
   ·(try simp only [List.length_append, List.length_cons, List.length_nil]); omega
   refine catB h ?_ fun a w h => ?_
   ·(try simp only [List.length_append, List.length_cons, List.length_nil]); omega
   refine catB h ?_ fun a w h => ?_
   ·(try simp only [List.length_append, List.length_cons, List.length_nil]); omega
   have ea : ∀ z, z = Dc.inL p.inputs[k] → ([] ++ (p.inputs.take k).flatMap Dc.inL) ++ z = apd [] ((p.inputs.take (k + 1)).flatMap Dc.inL) := by intro z hz; rw [hz, apd_eq, flat_take c17, List.append_assoc]
   rw [ea _ ?hz] at h
   case hz => rfl
   refine au [0,6,1,1,1,7,1,0,0,5] h ?_; intro a w h
   refine inc ?_ h fun a w h => ?_
   ·omega
   refine au [0,0,0,3] h ?_; intro a w h
   exact ⟨(k + 1), ⟨by omega, h.to 1 _⟩, by show _ - (k + 1) < _ - k; omega⟩
  ·have hk0 : k = p.inputs.length := by simp at c17; omega
   rw [apd_eq, hk0, List.take_length] at h
   rw [List.nil_append] at h
   refine au [2,5,2,2,2,2,2,3,1,0,0,4,1,2,0,7] h ?_; intro a w h
   refine ldH t1_25 (Hc.of (LE.rfl _ _ hf1) rfl) h fun a w h => ?_
   refine au [6,0,0,0,0,3,1,5] h ?_; intro a w h
   refine lp (β := Nat) (fun k a w => (k ≤ p.cells.length) ∧ S E Hf 83 [] [(34, .int .i64 (k : Int)), (33, .int .i64 (p.cells.length : Int)), (32, .slice A2 p.cells.length c2), (3, str (apd (p.inputs.flatMap Dc.inL) ((p.cells.take k).flatMap Dc.cellL))), (1, .pointer (some ⟨g1, 0, none⟩))] (L) a w)
    (fun k => p.cells.length - k) 0 ⟨Nat.zero_le _, h.to 0 _⟩ ?_
   rintro k a w ⟨pre, h⟩
   refine au [1,2,6,4,0,3,0,4] h ?_; intro a w h
   refine cdB h (fun c35 => ?_) (fun c35 => ?_)
   ·have c35 : k < p.cells.length := by simpa using c35
    obtain ⟨g, off, rfl, hvt, hcell⟩ := CS.get hc c35
    obtain ⟨d1, d2, d3, d4⟩ := dc_len (hw2 _ (List.getElem_mem c35))
    have qk := q2 k
    rw [apd_eq] at h
    have d5 := Lib.itoa_length_le p.cells[k].n (by omega) (by omega)
    refine au [1,8,1,0,0,4,1,5,1,2] h ?_
    refine ia sli25 sz59 rfl c35 h fun a w h => ?_
    refine ldHN tN59 rfl hcell h fun a w h => ?_
    refine al zr59 h fun g7 a w h => ?_
    refine au [5,5,0,3] h ?_; intro a w h
    refine rgd [0] [_] [4] [2, 6, 10] 1 mix (by kernel_rfl) h (fun a w h => ?_)
    refine au [0,0,0,7,4,2] h ?_; intro a w h
    refine catB h ?_ fun a w h => ?_
    ·(try simp only [List.length_append, List.length_cons, List.length_nil]); omega
    refine catB h ?_ fun a w h => ?_
    ·(try simp only [List.length_append, List.length_cons, List.length_nil]); omega
    refine au [0,7,4,2] h ?_; intro a w h
    refine catB h ?_ fun a w h => ?_
    ·(try simp only [List.length_append, List.length_cons, List.length_nil]); omega
    refine catB h ?_ fun a w h => ?_
    ·(try simp only [List.length_append, List.length_cons, List.length_nil]); omega
    refine au [0,7,4,2] h ?_; intro a w h
    refine cl bod54 (FormatInt_ok p.cells[k].n E Hf _ hL (by omega) (by omega)) h fun r49 H49 L49 a w le49 R h => ?_
    obtain ⟨rfl, rfl, rfl⟩ := R
    refine catB h ?_ fun a w h => ?_
    ·(try simp only [List.length_append, List.length_cons, List.length_nil]); omega
    refine catB h ?_ fun a w h => ?_
    ·(try simp only [List.length_append, List.length_cons, List.length_nil]); omega
    refine catB h ?_ fun a w h => ?_
    ·(try simp only [List.length_append, List.length_cons, List.length_nil]); omega
    have ea : ∀ z, z = Dc.cellL p.cells[k] → ((p.inputs.flatMap Dc.inL) ++ (p.cells.take k).flatMap Dc.cellL) ++ z = apd (p.inputs.flatMap Dc.inL) ((p.cells.take (k + 1)).flatMap Dc.cellL) := by intro z hz; rw [hz, apd_eq, flat_take c35, List.append_assoc]
    rw [ea _ ?hz] at h
    case hz => rfl
    refine au [0,6,1,1,1,7,1,0,0,5] h ?_; intro a w h
    refine inc ?_ h fun a w h => ?_
    ·omega
    refine au [0,0,0,3] h ?_; intro a w h
    exact ⟨(k + 1), ⟨by omega, h.to 1 _⟩, by show _ - (k + 1) < _ - k; omega⟩
   ·have hk0 : k = p.cells.length := by simp at c35; omega
    rw [apd_eq, hk0, List.take_length] at h
    refine au [2,5,2,2,2,2,2,3,1,0,0,4,1,2,0,7] h ?_; intro a w h
    refine ldH t1_26 (Hc.of (LE.rfl _ _ hf1) rfl) h fun a w h => ?_
    refine au [6,0,0,0,0,3,1,5] h ?_; intro a w h
    refine lp (β := Nat) (fun k a w => (k ≤ p.defs.length) ∧ S E Hf 83 [] [(57, .int .i64 (k : Int)), (56, .int .i64 (p.defs.length : Int)), (55, .slice A3 p.defs.length c3), (3, str (apd ((p.inputs.flatMap Dc.inL) ++ p.cells.flatMap Dc.cellL) ((p.defs.take k).flatMap Df.line))), (1, .pointer (some ⟨g1, 0, none⟩))] (L) a w)
     (fun k => p.defs.length - k) 0 ⟨Nat.zero_le _, h.to 0 _⟩ ?_
    rintro k a w ⟨pre, h⟩
    refine au [1,2,6,4,0,3,0,4] h ?_; intro a w h
    refine cdB h (fun c58 => ?_) (fun c58 => ?_)
    ·have c58 : k < p.defs.length := by simpa using c58
     obtain ⟨g, off, A5, c5, rfl, hvt, hcell⟩ := FS.get hd c58
     obtain ⟨d1, d2⟩ := df_len (hw3 _ (List.getElem_mem c58))
     have d3 := show'_le p.defs[k].t
     have qk := q3 k
     rw [apd_eq] at h
     obtain ⟨A6, c6, e6, hkt⟩ := hvt
     cases e6
     refine au [1,8,1,0,0,4,1,5,1,2] h ?_
     refine ia sli26 sz61 rfl c58 h fun a w h => ?_
     refine ldHN tN61 rfl hcell h fun a w h => ?_
     refine al zr61 h fun g9 a w h => ?_
     refine au [5,5,0,3] h ?_; intro a w h
     refine rgd [0] [_] [4] [2, 6] 1 mix (by kernel_rfl) h (fun a w h => ?_)
     refine au [0,0,0,7,4,2] h ?_; intro a w h
     refine catB h ?_ fun a w h => ?_
     ·(try simp only [List.length_append, List.length_cons, List.length_nil]); omega
     refine catB h ?_ fun a w h => ?_
     ·(try simp only [List.length_append, List.length_cons, List.length_nil]); omega
     refine fa fl61_1 (r := 1) h fun a w h => ?_
     refine ldND 0 tN24 h fun a w h => ?_
     refine cl bod55 (Show_ok p.defs[k].t _ E Hf _ (VDf.t hkt) hL (hb.f _ (List.getElem_mem c58)).2.1 (hb.f _ (List.getElem_mem c58)).2.2 (fun hr => by have := show_le hr; unfold showL at this; omega)) h fun r68 H68 L68 a w le68 R h => ?_
     obtain ⟨rfl, rfl, rfl⟩ := R
     refine catB h ?_ fun a w h => ?_
     ·(try simp only [List.length_append, List.length_cons, List.length_nil]); omega
     refine catB h ?_ fun a w h => ?_
     ·(try simp only [List.length_append, List.length_cons, List.length_nil]); omega
     refine catB h ?_ fun a w h => ?_
     ·(try simp only [List.length_append, List.length_cons, List.length_nil]); omega
     have ea : ∀ z, z = Df.line p.defs[k] → (((p.inputs.flatMap Dc.inL) ++ p.cells.flatMap Dc.cellL) ++ (p.defs.take k).flatMap Df.line) ++ z = apd ((p.inputs.flatMap Dc.inL) ++ p.cells.flatMap Dc.cellL) ((p.defs.take (k + 1)).flatMap Df.line) := by intro z hz; rw [hz, apd_eq, flat_take c58, List.append_assoc]
     rw [ea _ ?hz] at h
     case hz => rfl
     refine au [0,6,1,1,1,7,1,0,0,5] h ?_; intro a w h
     refine inc ?_ h fun a w h => ?_
     ·omega
     refine au [0,0,0,3] h ?_; intro a w h
     exact ⟨(k + 1), ⟨by omega, h.to 1 _⟩, by show _ - (k + 1) < _ - k; omega⟩
    ·have hk0 : k = p.defs.length := by simp at c58; omega
     rw [apd_eq, hk0, List.take_length] at h
     refine au [2,5,2,2,2,2,2,3,1,0,1,2,0,0,0,7] h ?_; intro a w h
     refine ldHN (l := [_, _, _, _]) tN24 rfl (Hc.sub 3 4 (LE.rfl _ _ hf1)) h fun a w h => ?_
     refine cl bod55 (Show_ok p.body _ E Hf _ ⟨A4, c4, rfl, hk⟩ hL hb.b1 hb.b2 (fun hr => by have := show_le hr; unfold showL at this; omega)) h fun r76 H76 L76 a w le76 R h => ?_
     obtain ⟨rfl, rfl, rfl⟩ := R
     refine catB h ?_ fun a w h => ?_
     ·(try simp only [List.length_append, List.length_cons, List.length_nil]); omega
     refine catB h ?_ fun a w h => ?_
     ·(try simp only [List.length_append, List.length_cons, List.length_nil]); omega
     refine au [0,6,0,3,0,4,1,2,0,0,6,1,6,6,0,3] h ?_; intro a w h
     refine cdB h (fun c81 => ?_) (fun c81 => ?_)
     ·have e0 : p.print = [] := by unfold Pg.print; rw [if_pos hfit, if_pos (show decide (65536 < (p.text.length : Int)) = true from c81)]
      refine au [1,2,0,6,0,3,1,3,1,4] h ?_; intro a w h
      refine fin1 2 0 (h.less l_H_Hf) LE.rfl ?_
      exact ⟨by first | (rw [e0]; done) | (rw [e0]; rfl), rfl, rfl⟩
     ·have e0 : p.print = p.text := by unfold Pg.print; rw [if_pos hfit, if_neg (by rw [show decide (65536 < (p.text.length : Int)) = false from c81]; simp)]
      refine au [1,8,1,0,1,2,0,0,0,6,0,3,1,3] h ?_; intro a w h
      refine fin1 2 0 (h.less l_H_Hf) LE.rfl ?_
      exact ⟨by first | (rw [e0]; done) | (rw [e0]; rfl), rfl, rfl⟩
theorem RightP_ok (p : Pg) (v : Value) (E : World) (H : GH) (L : List It) (hv : VP H v p) (hL : Laid H) (hb : Mild p) : Ok Tryz.prog 23 #[v] E H L fun r H' L' => r = .bool p.right ∧ H = H' ∧ L = L' := by
 have hv0 := hv
 obtain ⟨A1, c1, A2, c2, A3, c3, A4, c4, rfl, hi, hc, hd, hk⟩ := hv
 have hv := hv0
 refine enter (N := 6) [(0, _)] Tryz.func23 rfl rfl rfl rfl fun a w h => ?_
 refine au [1,2] h ?_
 refine bxA h fun g1 a w h => ?_
 refine au [0,6,0,2,3,3] h ?_; intro a w h
 refine cl bod42 (PrintP_ok p _ E H _ hv hL hb) h fun r4 H4 L4 a w le4 R h => ?_
 obtain ⟨rfl, rfl, rfl⟩ := R
 refine au [7,0,0,6,0,3,1,3] h ?_; intro a w h
 refine fin1 2 1 h LE.rfl ?_
 exact ⟨rfl, rfl, rfl⟩
end Go.Proofs.YtdabamobjciidaaGreatDoor
/-
  DERIVED: THE SHELF's CONTRACTS AT THIS DUMP, IN PLAIN WORDS (tools/lay-plain.mjs out of 'TryzIter.lean', which tools/lay-shelf.mjs wrote): THE SAME DECLARATIONS UNDER THE SAME NAMES: 'import', 'namespace', 'open', 'def', 'theorem' AND NOTHING ELSE: no command of the shelf's: FOR A HAND-IN. Each laying: the table of numbers ('.._ren') and one theorem, a field a fact of the dump's own or the kernel's comparison; each contract: ONE APPLICATION.
-/
namespace Go.Proofs
open Go.Shelf
def Tryz.keys47_ren : Go.Shelf.Ren := ⟨fun | 7 => 47 | 10 => 58 | n => n, fun | 23 => 103 | 26 => 9 | 3 => 3 | 28 => 107 | 0 => 0 | 27 => 106 | 33 => 82 | 4 => 4 | n => n, fun | n => n⟩
theorem Tryz.keys47 : Go.Proofs.SlLaysZ.n7 Tryz.prog Tryz.keys47_ren := {
 mixed := by kernel_rfl
 f7 := ⟨Tryz.f47.name, by decide, Tryz.func47.trans (congrArg some (by kernel_rfl))⟩
 f10 := ⟨Tryz.f58.name, by decide, Tryz.func58.trans (congrArg some (by kernel_rfl))⟩
 t0 := Tryz.underlying0
 a0 := Tryz.isAgg0
 z0 := Tryz.sizeOf0
 v0 := Tryz.zeroValue0
 t4 := Tryz.underlying4
 a4 := Tryz.isAgg4
 z4 := Tryz.sizeOf4
 v4 := Tryz.zeroValue4
 t23 := Tryz.underlying103
 a23 := Tryz.isAgg103
 z23 := Tryz.sizeOf103
 v23 := Tryz.zeroValue103
 t26 := Tryz.underlying9
 a26 := Tryz.isAgg9
 z26 := Tryz.sizeOf9
 v26 := Tryz.zeroValue9
 t27 := Tryz.underlying106
 a27 := Tryz.isAgg106
 z27 := Tryz.sizeOf106
 v27 := Tryz.zeroValue106
 t28 := Tryz.underlying107
 a28 := Tryz.isAgg107
 z28 := Tryz.sizeOf107
 v28 := Tryz.zeroValue107
 t33 := Tryz.underlying82
 a33 := Tryz.isAgg82
 z33 := Tryz.sizeOf82
 v33 := Tryz.zeroValue82 }
def Tryz.sorted46_ren : Go.Shelf.Ren := ⟨fun | 6 => 46 | 8 => 56 | 9 => 57 | 11 => 72 | 13 => 74 | 12 => 73 | 23 => 104 | 24 => 105 | 14 => 95 | 15 => 96 | 16 => 97 | 17 => 98 | 18 => 99 | 19 => 100 | 20 => 101 | 21 => 102 | 22 => 103 | 25 => 127 | 26 => 128 | 27 => 129 | 28 => 130 | 29 => 131 | 30 => 132 | 31 => 140 | n => n, fun | 26 => 9 | 28 => 107 | 24 => 70 | 0 => 0 | 3 => 3 | 37 => 129 | 48 => 162 | 50 => 111 | 4 => 4 | 40 => 154 | 39 => 153 | 45 => 159 | 5 => 5 | 9 => 9 | 51 => 188 | 55 => 192 | 57 => 197 | 58 => 198 | 33 => 82 | n => n, fun | n => n⟩
theorem Tryz.sorted46 : Go.Proofs.SlLaysZ.n6 Tryz.prog Tryz.sorted46_ren := {
 mixed := by kernel_rfl
 f6 := ⟨Tryz.f46.name, by decide, Tryz.func46.trans (congrArg some (by kernel_rfl))⟩
 f8 := ⟨Tryz.f56.name, by decide, Tryz.func56.trans (congrArg some (by kernel_rfl))⟩
 f11 := ⟨Tryz.f72.name, by decide, Tryz.func72.trans (congrArg some (by kernel_rfl))⟩
 t0 := Tryz.underlying0
 a0 := Tryz.isAgg0
 z0 := Tryz.sizeOf0
 v0 := Tryz.zeroValue0
 t24 := Tryz.underlying70
 a24 := Tryz.isAgg70
 z24 := Tryz.sizeOf70
 v24 := Tryz.zeroValue70
 t26 := Tryz.underlying9
 a26 := Tryz.isAgg9
 z26 := Tryz.sizeOf9
 v26 := Tryz.zeroValue9
 t28 := Tryz.underlying107
 a28 := Tryz.isAgg107
 z28 := Tryz.sizeOf107
 v28 := Tryz.zeroValue107
 i26 := by kernel_rfl }
def Tryz.sort57_ren : Go.Shelf.Ren := ⟨fun | 6 => 57 | 8 => 74 | 9 => 73 | 19 => 104 | 20 => 105 | 21 => 95 | 22 => 96 | 23 => 97 | 24 => 98 | 25 => 99 | 26 => 100 | 27 => 101 | 28 => 102 | 29 => 103 | 36 => 127 | 31 => 128 | 32 => 129 | 37 => 130 | 38 => 131 | 39 => 132 | 41 => 140 | n => n, fun | 27 => 70 | 29 => 9 | 3 => 3 | 32 => 129 | 26 => 70 | 0 => 0 | 44 => 162 | 46 => 111 | 4 => 4 | 36 => 154 | 35 => 153 | 41 => 159 | 5 => 5 | 9 => 9 | 53 => 188 | 57 => 192 | 63 => 197 | 64 => 198 | n => n, fun | n => n⟩
theorem Tryz.sort57 : Go.Proofs.SlLaysM.n6 Tryz.prog Tryz.sort57_ren := {
 mixed := by kernel_rfl
 f6 := ⟨Tryz.f57.name, by decide, Tryz.func57.trans (congrArg some (by kernel_rfl))⟩
 f8 := Tryz.func74.trans (congrArg some (by kernel_rfl))
 f9 := ⟨Tryz.f73.name, by decide, Tryz.func73.trans (congrArg some (by kernel_rfl))⟩
 f19 := Tryz.func104.trans (congrArg some (by kernel_rfl))
 f20 := Tryz.func105.trans (congrArg some (by kernel_rfl))
 f21 := ⟨Tryz.f95.name, by decide, Tryz.func95.trans (congrArg some (by kernel_rfl))⟩
 f22 := ⟨Tryz.f96.name, by decide, Tryz.func96.trans (congrArg some (by kernel_rfl))⟩
 f23 := ⟨Tryz.f97.name, by decide, Tryz.func97.trans (congrArg some (by kernel_rfl))⟩
 f24 := ⟨Tryz.f98.name, by decide, Tryz.func98.trans (congrArg some (by kernel_rfl))⟩
 f25 := ⟨Tryz.f99.name, by decide, Tryz.func99.trans (congrArg some (by kernel_rfl))⟩
 f26 := ⟨Tryz.f100.name, by decide, Tryz.func100.trans (congrArg some (by kernel_rfl))⟩
 f27 := ⟨Tryz.f101.name, by decide, Tryz.func101.trans (congrArg some (by kernel_rfl))⟩
 f28 := ⟨Tryz.f102.name, by decide, Tryz.func102.trans (congrArg some (by kernel_rfl))⟩
 f29 := ⟨Tryz.f103.name, by decide, Tryz.func103.trans (congrArg some (by kernel_rfl))⟩
 f31 := Tryz.func128.trans (congrArg some (by kernel_rfl))
 f32 := Tryz.func129.trans (congrArg some (by kernel_rfl))
 f36 := ⟨Tryz.f127.name, by decide, Tryz.func127.trans (congrArg some (by kernel_rfl))⟩
 f37 := ⟨Tryz.f130.name, by decide, Tryz.func130.trans (congrArg some (by kernel_rfl))⟩
 f38 := ⟨Tryz.f131.name, by decide, Tryz.func131.trans (congrArg some (by kernel_rfl))⟩
 f39 := ⟨Tryz.f132.name, by decide, Tryz.func132.trans (congrArg some (by kernel_rfl))⟩
 f41 := ⟨Tryz.f140.name, by decide, Tryz.func140.trans (congrArg some (by kernel_rfl))⟩
 t0 := Tryz.underlying0
 a0 := Tryz.isAgg0
 z0 := Tryz.sizeOf0
 v0 := Tryz.zeroValue0
 t3 := Tryz.underlying3
 a3 := Tryz.isAgg3
 z3 := Tryz.sizeOf3
 v3 := Tryz.zeroValue3
 t4 := Tryz.underlying4
 a4 := Tryz.isAgg4
 z4 := Tryz.sizeOf4
 v4 := Tryz.zeroValue4
 t5 := Tryz.underlying5
 a5 := Tryz.isAgg5
 z5 := Tryz.sizeOf5
 v5 := Tryz.zeroValue5
 t9 := Tryz.underlying9
 a9 := Tryz.isAgg9
 z9 := Tryz.sizeOf9
 v9 := Tryz.zeroValue9
 t26 := Tryz.underlying70
 a26 := Tryz.isAgg70
 z26 := Tryz.sizeOf70
 v26 := Tryz.zeroValue70
 t27 := Tryz.underlying70
 a27 := Tryz.isAgg70
 z27 := Tryz.sizeOf70
 v27 := Tryz.zeroValue70
 t29 := Tryz.underlying9
 a29 := Tryz.isAgg9
 z29 := Tryz.sizeOf9
 v29 := Tryz.zeroValue9
 t32 := Tryz.underlying129
 a32 := Tryz.isAgg129
 z32 := Tryz.sizeOf129
 v32 := Tryz.zeroValue129
 t35 := Tryz.underlying153
 a35 := Tryz.isAgg153
 z35 := Tryz.sizeOf153
 v35 := Tryz.zeroValue153
 t36 := Tryz.underlying154
 a36 := Tryz.isAgg154
 z36 := Tryz.sizeOf154
 v36 := Tryz.zeroValue154
 t41 := Tryz.underlying159
 a41 := Tryz.isAgg159
 z41 := Tryz.sizeOf159
 v41 := Tryz.zeroValue159
 t44 := Tryz.underlying162
 a44 := Tryz.isAgg162
 z44 := Tryz.sizeOf162
 v44 := Tryz.zeroValue162
 t46 := Tryz.underlying111
 a46 := Tryz.isAgg111
 z46 := Tryz.sizeOf111
 v46 := Tryz.zeroValue111
 t53 := Tryz.underlying188
 a53 := Tryz.isAgg188
 z53 := Tryz.sizeOf188
 v53 := Tryz.zeroValue188
 t57 := Tryz.underlying192
 a57 := Tryz.isAgg192
 z57 := Tryz.sizeOf192
 v57 := Tryz.zeroValue192
 t63 := Tryz.underlying197
 a63 := Tryz.isAgg197
 z63 := Tryz.sizeOf197
 v63 := Tryz.zeroValue197
 t64 := Tryz.underlying198
 a64 := Tryz.isAgg198
 z64 := Tryz.sizeOf198
 v64 := Tryz.zeroValue198 }
def Tryz.grow43_ren : Go.Shelf.Ren := ⟨fun | 4 => 43 | n => n, fun | 22 => 25 | 25 => 59 | 3 => 3 | 4 => 4 | 9 => 9 | 20 => 20 | 0 => 0 | n => n, fun | n => n⟩
theorem Tryz.grow43 : Go.Proofs.Lays8.n4 Tryz.prog Tryz.grow43_ren := {
 mixed := by kernel_rfl
 f4 := ⟨Tryz.f43.name, by decide, Tryz.func43.trans (congrArg some (by kernel_rfl))⟩
 t0 := Tryz.underlying0
 a0 := Tryz.isAgg0
 z0 := Tryz.sizeOf0
 v0 := Tryz.zeroValue0
 t3 := Tryz.underlying3
 a3 := Tryz.isAgg3
 z3 := Tryz.sizeOf3
 v3 := Tryz.zeroValue3
 t4 := Tryz.underlying4
 a4 := Tryz.isAgg4
 z4 := Tryz.sizeOf4
 v4 := Tryz.zeroValue4
 t9 := Tryz.underlying9
 a9 := Tryz.isAgg9
 z9 := Tryz.sizeOf9
 v9 := Tryz.zeroValue9
 t20 := Tryz.underlying20
 a20 := Tryz.isAgg20
 z20 := Tryz.sizeOf20
 v20 := Tryz.zeroValue20
 t22 := Tryz.underlying25
 a22 := Tryz.isAgg25
 z22 := Tryz.sizeOf25
 v22 := Tryz.zeroValue25 }
end Go.Proofs
namespace Go.Proofs.YtdabamobjciidaaGreatDoor
open Go X
open Go.Proofs Go.RowKit Go.Shelf Go.Sort
abbrev encS : Bs → Value := fun s => str s
theorem keyS : KeyLaw Tryz.prog 9 encS .string := keyStr (und_str str9)
theorem mapSI : mapT Tryz.prog 103 = some (9, 3) := by kernel_rfl
theorem St.belowRow {E w w' : World} {H : GH} {L : List It} {v : Value} {e : TypeId} {sz n : Nat} {xs : List Value} (h : St E H L w) (hb : Below w.heap.size w w') (hrow : w'.ownsRow w.heap.size e sz v n xs) : St E H (.row v e sz n xs :: L) w' := by
 have h' := h.below hb
 have h0 : w'.ownsRow 0 e sz v n xs := ⟨hrow.1, hrow.2.imp id fun ⟨g, cap, cur, h1, h2, h3⟩ => ⟨g, cap, cur, h1, Nat.zero_le _, h3⟩⟩
 have hge : ∀ g ∈ (It.row v e sz n xs).own, w.heap.size ≤ g := by
   intro g hg
   rcases hrow.2 with ⟨rfl, _⟩ | ⟨g', cap, cur, rfl, h2, _⟩
   · simp [It.own, Value.ownBlock] at hg
   · simp [It.own, Value.ownBlock] at hg; omega
 refine ⟨h'.os, h'.tape, h'.output, h'.fro, fun i hi => ?_, fun i hi g hg => ?_, List.pairwise_cons.2 ⟨fun i hi g hg hgi => ?_, h'.apart⟩⟩
 · cases hi with
   | head => exact h0
   | tail _ hi => exact h'.holds i hi
 · cases hi with
   | head =>
     cases hH : H g with
     | none => rfl
     | some o => exact absurd (h.size_le hH) (by have := hge g hg; omega)
   | tail _ hi => exact h'.off i hi g hg
 · have := hge g hg
   have := It.lt (h.holds i hi) hgi
   omega
theorem keys_ok (b : Nat) (E : World) (H : GH) (L : List It) : Ok Tryz.prog 47 #[.map (some b)] E H L fun r H' L' => ∃ g, r = .func (.func 58) #[] #[.pointer (some ⟨g, 0, none⟩)] ∧ H = H' ∧ L' = .obj g (.cells #[.map (some b)] 103 (0, 0)) :: L := fun w hw =>
 (callsIn_wide.1 (AnyZ.keys_in Tryz.keys47 Fence.wide 5 trivial rfl (some b) w)).mono fun e w' ⟨he, hw'⟩ => ⟨_, H, _, he, LE.rfl, by subst hw'; exact hw.alloc _, _, rfl, rfl, rfl⟩
theorem sortsK (m : Nat) : AnyZ.SortsIn Tryz.prog Tryz.sorted46_ren Fence.wide m :=
 ⟨fun blk off cap ss W hH hblk hsz => callsIn_wide.2 (AnyM.slices_Sort_string Tryz.sort57 blk off cap ss W hH hblk hsz), fun p cap W => callsIn_wide.2 (AnyM.slices_Sort_string_none Tryz.sort57 p cap W)⟩
theorem sub_len : ∀ {l m : List Bs}, l.Nodup → (∀ x ∈ l, x ∈ m) → l.length ≤ m.length
 | [], _, _, _ => Nat.zero_le _
 | a :: l, m, hd, hs => by
   rw [List.nodup_cons] at hd
   have hm := hs a (List.mem_cons_self ..)
   have := sub_len (l := l) (m := m.erase a) hd.2 fun x hx => (List.mem_erase_of_ne (fun e => by subst e; exact hd.1 hx)).2 (hs x (List.mem_cons_of_mem _ hx))
   rw [List.length_erase_of_mem hm] at this
   have := List.length_pos_of_mem hm
   simp only [List.length_cons]; omega
theorem lk_some {κ : Type} [DecidableEq κ] (k : κ) : ∀ m : List (κ × Value), (m.lookup k).isSome = true ↔ k ∈ m.map (·.1)
 | [] => by simp [List.lookup]
 | (a, v) :: l => by
   simp only [List.lookup, List.map_cons, List.mem_cons]
   by_cases e : k = a
   · subst e; simp
   · have : (k == a) = false := by simpa using e
     simp only [this, e, false_or]
     exact lk_some k l
theorem sorted_ok (b g : Nat) (f : Bs → Option Value) (k0 : Nat) (E : World) (H : GH) (L : List It) (hg : L[0]? = some (.obj g (.cells #[.map (some b)] 103 (0, 0)))) (hb : L[k0]? = some (.blk b (IsMap encS f)))
   (hlen : ∀ x, (f x).isSome = true → x.length < 1000000000000) (hcnt : ∀ l : List Bs, l.Nodup → (∀ x ∈ l, (f x).isSome = true) → l.length < 1000000000000) :
   Ok Tryz.prog 46 #[.func (.func 58) #[] #[.pointer (some ⟨g, 0, none⟩)]] E H L fun r H' L' => ∃ A c ss, r = .slice A ss.length c ∧ H = H' ∧ L' = .row (.slice A ss.length c) 9 1 ss.length (ss.map encS) :: L ∧ IsSet ss (fun x => (f x).isSome) := fun w hw => by
 obtain ⟨o, ho, es, clock, m, rfl, hst, h1, h2, h3⟩ := item_at hw.sees hb
 have hcell : w.heap[g]? = some (.cells #[.map (some b)] 103 (0, 0)) := item_at hw.sees hg
 have hmem : ∀ k, (k ∈ m.map (·.1)) ↔ (f k).isSome = true := fun k => by
   rw [← h3 k]; exact (lk_some k m).symm
 have hml : m.length < 1000000000000 := by
   have := hcnt (m.map (·.1)) h2 (fun x hx => (hmem x).1 hx)
   simpa using this
 have hel : es.size = m.length := by simpa using congrArg List.length h1
 let R : Value → Option (DataW Unit × List MemPlace) := fun _ => some (.nil, [])
 have hkey : ∀ (s : Bs) , s.length < 1000000000000 → keyOf Tryz.prog 9 (str s) = some (.string s) := fun s hs => by
   unfold keyOf
   rw [und_str str9]
   have hsz : (⟨s.toArray⟩ : ByteArray).size = s.length := by simp [ByteArray.size]
   simp [mapKey, und_str str9, hsz, maxLen]
   try omega
 have hread : ∀ x ∈ es.toList, ∃ s : Bs, s ∈ m.map (·.1) ∧ x.key = str s ∧ WideElems.rd Tryz.prog 9 R x = some (.string s, .nil) := fun x hx => by
   have : (x.key, x.val) ∈ m.map (fun p => (encS p.1, p.2)) := by rw [← h1]; exact List.mem_map.2 ⟨x, hx, rfl⟩
   obtain ⟨p, hp, hpe⟩ := List.mem_map.1 this
   have he : x.key = str p.1 := (congrArg Prod.fst hpe).symm
   have hpm : p.1 ∈ m.map (·.1) := List.mem_map.2 ⟨p, hp, rfl⟩
   refine ⟨p.1, hpm, he, ?_⟩
   have hk := hkey p.1 (hlen _ ((hmem _).1 hpm))
   unfold WideElems.rd
   rw [he, hk]; rfl
 have hown : w.ownsMap Tryz.prog 9 R b es.size (.map ((es.toList.map (WideElems.rg Tryz.prog 9 R)).foldr DataW.insert [])) :=
   ⟨es, clock, ho, ⟨by rw [hel]; simp only [maxLen]; omega, hst, fun x hx => let ⟨s, _, _, h⟩ := hread x hx; ⟨_, h⟩⟩, Nat.le_refl _, rfl⟩
 have hD : strKeys (.map ((es.toList.map (WideElems.rg Tryz.prog 9 R)).foldr DataW.insert []) : DataW Unit) = (((es.toList.map (WideElems.rg Tryz.prog 9 R)).foldr DataW.insert [])).map fun p => strOf p.1 := rfl
 have hperm : (strKeys (.map ((es.toList.map (WideElems.rg Tryz.prog 9 R)).foldr DataW.insert []) : DataW Unit)).Perm (m.map (·.1)) := by
   rw [hD]
   refine ((WideShapes.sorted_perm _).map _).trans (.of_eq ?_)
   rw [List.map_map]
   have e2 : m.map (·.1) = es.toList.map (fun x => match x.key with | .string s => s.data.toList | _ => []) := by
     have := congrArg (List.map (fun q : Value × Value => match q.1 with | .string s => s.data.toList | _ => [])) h1
     rw [List.map_map, List.map_map] at this
     rw [show m.map (·.1) = m.map ((fun q : Value × Value => match q.1 with | .string s => s.data.toList | _ => []) ∘ fun p => (encS p.1, p.2)) from List.map_congr_left fun p _ => by simp, ← this]
     rfl
   rw [e2]
   refine List.map_congr_left fun x hx => ?_
   obtain ⟨s, _, hk, hr⟩ := hread x hx
   simp only [Function.comp, WideElems.rg_of hr, hk]
   simp [strOf]
 have hseq : SeqGives Fence.wide 2 Tryz.prog 58 #[.pointer (some ⟨g, 0, none⟩)] encStr (fun ss => ss.Perm (strKeys (.map ((es.toList.map (WideElems.rg Tryz.prog 9 R)).foldr DataW.insert []) : DataW Unit))) _ w :=
   AnyZ.keys_gives (ρ := Tryz.keys47_ren) { Tryz.keys47 with } Fence.wide _ trivial rfl (by omega) g b es.size _ w (Array.getElem?_eq_some_iff.1 hcell).1 (by simp [World.cell?, hcell]) hown
 have hsz : Maps.size (.map ((es.toList.map (WideElems.rg Tryz.prog 9 R)).foldr DataW.insert []) : DataW Unit) = m.length := by
   have := hperm.length_eq
   rw [hD, List.length_map, List.length_map] at this
   exact this
 refine (callsIn_wide.1 (AnyZ.sorted_in Tryz.sorted46 Fence.wide 5 trivial trivial trivial trivial rfl (by omega) (sortsK _) (enters_of Tryz.func57 (by kernel_rfl) rfl) 58 #[.pointer (some ⟨g, 0, none⟩)] trivial (enters_of Tryz.func58 (by kernel_rfl) rfl) _ _ (by rw [hsz]; simp only [maxLen]; omega) (by rw [hsz]; omega) w hseq)).mono ?_
 rintro e w' ⟨v, ss, he, hS, hrow, hnil, hbel⟩
 have hlen' : (ss.mergeSort fun x y => decide (x ≤ y)).length = ss.length := List.length_mergeSort ..
 have hpm : (ss.mergeSort fun x y => decide (x ≤ y)).Perm (m.map (·.1)) := (List.mergeSort_perm ..).trans (hS.trans hperm)
 have hv : ∃ A c, v = .slice A (ss.mergeSort fun x y => decide (x ≤ y)).length c := by
   rw [hlen']
   rcases hrow.2 with ⟨rfl, e⟩ | ⟨_, cap, _, rfl, _⟩
   · exact ⟨none, 0, by rw [e]⟩
   · exact ⟨_, _, rfl⟩
 obtain ⟨Ad, c, rfl⟩ := hv
 rw [← hlen'] at hrow
 refine ⟨_, H, _, he, LE.rfl, St.belowRow hw hbel hrow, Ad, c, ss.mergeSort fun x y => decide (x ≤ y), rfl, rfl, rfl, hpm.nodup_iff.2 h2, fun x => (hpm.mem_iff).trans (hmem x), ?_⟩
 have hsorted := List.pairwise_mergeSort (le := fun x y : Bs => decide (x ≤ y)) (fun a b c h1 h2 => by simp at *; exact List.le_trans h1 h2) (fun a b => by simp; exact List.le_total a b) ss
 exact hsorted.imp fun h => by simpa using h
theorem walk_ok : ∀ (t : Tm) (v : Value) (E : World) (H : GH) (L : List It) (gbc gmc gwc gb gm : Nat) (fb fm : Bs → Option Value) (b : Bs → Nat), VT H v t → (∀ x, (fb x).getD (.int .i64 0) = .int .i64 ((b x : Nat) : Int)) → (∀ x, b x + t.size < 1000000000000) →
   (∀ x u, fm x = some u → ∃ n : Int, u = .int .i64 n) → Hc H gbc 0 (.map (some gb)) → Hc H gmc 0 (.map (some gm)) → Hc H gwc 0 (.func (.func 45) #[] #[.pointer (some ⟨gbc, 0, none⟩), .pointer (some ⟨gmc, 0, none⟩), .pointer (some ⟨gwc, 0, none⟩)]) →
   Ok Tryz.prog 45 #[v, .pointer (some ⟨gbc, 0, none⟩), .pointer (some ⟨gmc, 0, none⟩), .pointer (some ⟨gwc, 0, none⟩)] E H (.blk gb (IsMap encS fb) :: .blk gm (IsMap encS fm) :: L) fun r H' L' => r = .tuple #[] ∧ H = H' ∧ ∃ fb' fm', L' = .blk gb (IsMap encS fb') :: .blk gm (IsMap encS fm') :: L ∧
     (∀ x, (fb' x).getD (.int .i64 0) = .int .i64 ((b x : Nat) : Int)) ∧ (∀ x, (fm' x).isSome = ((fm x).isSome || t.fr b x)) ∧ (∀ x u, fm' x = some u → ∃ n : Int, u = .int .i64 n) := by
 intro t
 induction t using Tm.ind with
 | h kd nm nn ks ih =>
 intro v E H L gbc gmc gwc gb gm fb fm b hv hb hbs hmi hbc hmc hwc
 obtain ⟨A, c, rfl, hks⟩ := hv
 have hks : KS H A c ks := hks
 simp only [Tm.size] at hbs
 have hlen := length_le_sizeL ks
 have hb0 := hbs []
 refine enter (N := 57) [(0, _), (1, _), (2, _), (3, _)] Tryz.func45 rfl rfl rfl rfl fun a w h => ?_
 refine au [1,2] h ?_
 refine bxA h fun g4 a w h => ?_
 refine au [0,3] h ?_
 obtain ⟨Hf, leHf, h, hf4⟩ := h.frz 0
 have l_H_Hf : LE H Hf := leHf
 have hL := hks.up l_H_Hf
 refine sqc (fun a w => ∃ fm1, S E Hf 57 [] [(1, .pointer (some ⟨gbc, 0, none⟩)), (2, .pointer (some ⟨gmc, 0, none⟩)), (3, .pointer (some ⟨gwc, 0, none⟩)), (4, .pointer (some ⟨g4, 0, none⟩))] (.blk gb (IsMap encS fb) :: .blk gm (IsMap encS fm1) :: L) a w ∧ (∀ x, (fm1 x).isSome = ((fm x).isSome || ((kd == 2 && decide (b nm = 0)) && decide (x = nm)))) ∧ (∀ x u, fm1 x = some u → ∃ n : Int, u = .int .i64 n)) ?_ ?_
 ·refine au [1,2,0,7] h ?_; intro a w h
  refine ldH t1_3 (Hc.of (LE.rfl _ _ hf4) rfl) h fun a w h => ?_
  refine eqi h fun a w h => ?_
  refine h.spl (fun c10 h => ?_) (fun c10 h => ?_)
  ·refine mv h fun a w h => ?_
   refine ldH t1_103 (hbc.mono l_H_Hf) h fun a w h => ?_
   refine fa fl24_1 (r := 1) h fun a w h => ?_
   refine ldH t1_9 (Hc.of (LE.rfl _ _ hf4) rfl) h fun a w h => ?_
   refine lk1 (f := fb) (q := nm) 0 keyS mapSI zr3 h fun a w h => ?_
   rw [hb nm] at h
   refine au [6,2,4,8,0,3] h ?_; intro a w h
   refine cdB h (fun c17 => ?_) (fun c17 => ?_)
   ·refine rg0 ?_
    refine ldH t1_103 (hmc.mono l_H_Hf) h fun a w h => ?_
    refine fa fl24_1 (r := 1) h fun a w h => ?_
    refine ldH t1_9 (Hc.of (LE.rfl _ _ hf4) rfl) h fun a w h => ?_
    refine lk1 (f := fm) (q := nm) 1 keyS mapSI zr3 h fun a w h => ?_
    obtain ⟨n0, hn0⟩ : ∃ n : Int, (fm nm).getD (.int .i64 0) = .int .i64 n := by
     cases hx : fm nm with
     | none => exact ⟨0, rfl⟩
     | some u => obtain ⟨n, rfl⟩ := hmi _ _ hx; exact ⟨n, rfl⟩
    rw [hn0] at h
    refine add h fun a w h => ?_
    have h := h.pull 1 rfl rfl
    refine mu 0 keyS mapSI h fun a w h => ?_
    have h : S _ _ _ _ _ (.blk _ (IsMap encS (upd fm nm (some _))) :: _) _ _ := h
    refine au [0,3] h ?_
    have h := h.pull 1 rfl rfl
    have k2 : kd = 2 := eq_of_beq c10
    have b0 : b nm = 0 := by have := eq_of_beq c17; omega
    refine ⟨_, h.to 0 _, fun x => ?_, fun x u hu => ?_⟩
    ·unfold upd; rw [k2, b0]; by_cases e : x = nm <;> simp [e]
    ·unfold upd at hu; split at hu; exact ⟨_, (Option.some.inj hu).symm⟩; exact hmi x u hu
   ·refine au [1,8,1,0] h ?_
    have h := h.pull 1 rfl rfl
    have h := h.pull 1 rfl rfl
    refine ⟨fm, h.to 0 _, fun x => ?_, hmi⟩
    have b0 : b nm ≠ 0 := by have := ne_of_beq_false c17; omega
    simp [b0]
  ·refine au [0,0,0,1,0,1,0,1,0,1,0,1,5,0,0,3,2,1,1,8,1,0] h ?_; intro a w h
   have h := h.pull 1 rfl rfl
   have h := h.pull 1 rfl rfl
   refine ⟨fm, h.to 0 _, fun x => ?_, hmi⟩
   have k2 : kd ≠ 2 := ne_of_beq_false c10
   simp [k2]
 ·rintro a w ⟨fm1, h, hm1, hi1⟩
  refine au [1,2,0,7] h ?_; intro a w h
  refine ldH t1_22 (Hc.of (LE.rfl _ _ hf4) rfl) h fun a w h => ?_
  refine au [6,0,0,0,0,3,1,5] h ?_; intro a w h
  refine lp (β := Nat × (Bs → Option Value) × (Bs → Option Value)) (fun x a w => match x with | (k, fb1, fm2) => (k ≤ ks.length ∧ (∀ x, (fb1 x).getD (.int .i64 0) = .int .i64 ((b x : Nat) : Int)) ∧ (∀ x, (fm2 x).isSome = ((fm x).isSome || (((kd == 2 && decide (b nm = 0)) && decide (x = nm)) || frT (bnd kd) nm ks k b x))) ∧ (∀ x u, fm2 x = some u → ∃ n : Int, u = .int .i64 n)) ∧ S E Hf 57 [] [(1, .pointer (some ⟨gbc, 0, none⟩)), (2, .pointer (some ⟨gmc, 0, none⟩)), (3, .pointer (some ⟨gwc, 0, none⟩)), (4, .pointer (some ⟨g4, 0, none⟩)), (26, .int .i64 (k : Int)), (25, .int .i64 (ks.length : Int)), (24, .slice A ks.length c)] (.blk gb (IsMap encS fb1) :: .blk gm (IsMap encS fm2) :: L) a w)
   (fun x => match x with | (k, fb1, fm2) => ks.length - k) (0, fb, fm1) ⟨⟨Nat.zero_le _, hb, fun x => by rw [hm1 x, frT_zero, Bool.or_false], hi1⟩, h.to 0 _⟩ ?_
  rintro ⟨k, fb1, fm2⟩ a w ⟨pre, h⟩
  obtain ⟨hk, hb1, hm2, hi2⟩ := pre
  refine au [1,2,6,4,0,3,0,4] h ?_; intro a w h
  refine cdB h (fun c27 => ?_) (fun c27 => ?_)
  ·have c27 : k < ks.length := by simpa using c27
   obtain ⟨g, off, A2, c2, rfl, hvt, hcell⟩ := KS.get hL c27
   have hsz := size_get_le c27
   refine au [1,8,1,0,0,4,1,5,1,2,0,0] h ?_; intro a w h
   refine ia sli22 sz24 rfl c27 h fun a w h => ?_
   refine ldHN tN24 rfl hcell h fun a w h => ?_
   refine al zr24 h fun g6 a w h => ?_
   refine au [0,6,5,5,0,2] h ?_; intro a w h
   refine ldHN tN24 rfl (Hc.all (LE.rfl _ _ hf4)) h fun a w h => ?_
   refine cl bod20 (Binder_ok _ _ _ _ E Hf _) h fun r32 H32 L32 a w le32 R h => ?_
   obtain ⟨rfl, rfl, rfl⟩ := R
   refine h.spl (fun c32 h => ?_) (fun c32 h => ?_)
   ·refine au [0,0,0,0,0,7] h ?_; intro a w h
    refine ldH t1_22 (Hc.of (LE.rfl _ _ hf4) rfl) h fun a w h => ?_
    refine ln sli22 h fun a w h => ?_
    refine sbr ((ks.length : Int) - 1) (w64 (by omega) (by omega)) h fun a w h => ?_
    refine au [6,2,4,8,0,6,0,3,0,4,1,2,0,0,0,3] h ?_; intro a w h
    refine cdB h (fun c41 => ?_) (fun c41 => ?_)
    ·refine rg0 ?_
     refine ldH t1_103 (hbc.mono l_H_Hf) h fun a w h => ?_
     refine fa fl24_1 (r := 1) h fun a w h => ?_
     refine ldH t1_9 (Hc.of (LE.rfl _ _ hf4) rfl) h fun a w h => ?_
     refine lk1 (f := fb1) (q := nm) 1 keyS mapSI zr3 h fun a w h => ?_
     rw [hb1 nm] at h
     have hbn := hbs nm
     refine adr ((b nm + 1 : Nat) : Int) ?_ h fun a w h => ?_
     ·rw [w64 (by omega) (by omega)]; omega
     have h := h.pull 1 rfl rfl
     refine mu 0 keyS mapSI h fun a w h => ?_
     have h : S _ _ _ _ _ (.blk _ (IsMap encS (upd fb1 nm (some (.int .i64 ((b nm + 1 : Nat) : Int))))) :: _) _ _ := h
     obtain ⟨fb2, hfb2⟩ : ∃ f, f = upd fb1 nm (some (.int .i64 ((b nm + 1 : Nat) : Int))) := ⟨_, rfl⟩
     rw [← hfb2] at h
     have hb2 : ∀ x, (fb2 x).getD (.int .i64 0) = .int .i64 ((inc1 b nm x : Nat) : Int) := fun x => by rw [hfb2]; unfold upd inc1; split; (rename_i e; subst e; rfl); exact hb1 x
     refine au [0,2] h ?_
     refine ldH t1_104 (hwc.mono l_H_Hf) h fun a w h => ?_
     refine ldW 1 tN24 h fun a w h => ?_
     have h := h.pull 2 rfl rfl
     have h := h.pull 1 rfl rfl
     refine cl bod45 (ih _ (List.getElem_mem c27) _ E Hf _ gbc gmc gwc gb gm fb2 fm2 (inc1 b nm) hvt hb2 (fun x => ?_) hi2 (hbc.mono l_H_Hf) (hmc.mono l_H_Hf) (hwc.mono l_H_Hf)) h fun r49 H49 L49 a w le49 R h => ?_
     ·have := hbs x; unfold inc1; split <;> omega
     obtain ⟨rfl, rfl, fb4, fm3, rfl, hb4, hm3, hi3⟩ := R
     refine au [0,2,0,0,0,3] h ?_; intro a w h
     refine cdB h (fun c50 => ?_) (fun c50 => ?_)
     ·refine rg0 ?_
      refine ldH t1_103 (hbc.mono l_H_Hf) h fun a w h => ?_
      refine fa fl24_1 (r := 1) h fun a w h => ?_
      refine ldH t1_9 (Hc.of (LE.rfl _ _ hf4) rfl) h fun a w h => ?_
      refine lk1 (f := fb4) (q := nm) 0 keyS mapSI zr3 h fun a w h => ?_
      have e4 : (fb4 nm).getD (.int .i64 0) = .int .i64 ((b nm + 1 : Nat) : Int) := by rw [hb4 nm]; unfold inc1; rw [if_pos rfl]
      rw [e4] at h
      refine sbr ((b nm : Nat) : Int) ?_ h fun a w h => ?_
      ·have hbn := hbs nm; rw [w64 (by omega) (by omega)]; omega
      refine mu 0 keyS mapSI h fun a w h => ?_
      have h : S _ _ _ _ _ (.blk _ (IsMap encS (upd fb4 nm (some (.int .i64 ((b nm : Nat) : Int))))) :: _) _ _ := h
      obtain ⟨fb5, hfb5⟩ : ∃ f, f = upd fb4 nm (some (.int .i64 ((b nm : Nat) : Int))) := ⟨_, rfl⟩
      rw [← hfb5] at h
      refine au [1,1,1,7,1,0,0,5] h ?_
      have h := h.pull 1 rfl rfl
      have h := h.pull 1 rfl rfl
      have h := h.del 2
      have hin : (bnd kd && k + 1 == ks.length) = true := by rw [show bnd kd = true from c32]; have := eq_of_beq c41; simp; omega
      have hb3 : ∀ x, (fb5 x).getD (.int .i64 0) = .int .i64 ((b x : Nat) : Int) := fun x => by
       rw [hfb5]; unfold X.upd; split
       ·rename_i e; subst e; rfl
       ·rename_i e; have := hb4 x; unfold inc1 at this; rw [if_neg e] at this; exact this
      obtain ⟨fb3, hfb3⟩ : ∃ f, f = fb5 := ⟨_, rfl⟩
      rw [← hfb3] at h hb3
      refine inc ?_ h fun a w h => ?_
      ·omega
      refine au [0,0,0,3] h ?_; intro a w h
      exact ⟨(k + 1, fb3, fm3), ⟨⟨by omega, hb3, fun x => by rw [hm3 x, hm2 x, frT_succ _ _ _ _ _ c27, hin]; simp only [Bool.or_assoc]; rfl, hi3⟩, h.to 0 _⟩, by show _ - (k + 1) < _ - k; omega⟩
     ·exact absurd (c41.symm.trans c50) (by decide)
    ·refine au [1,8,1,0,1,2] h ?_
     refine ldH t1_104 (hwc.mono l_H_Hf) h fun a w h => ?_
     refine ldW 0 tN24 h fun a w h => ?_
     have h := h.pull 2 rfl rfl
     have h := h.pull 2 rfl rfl
     refine cl bod45 (ih _ (List.getElem_mem c27) _ E Hf _ gbc gmc gwc gb gm fb1 fm2 b hvt hb1 (fun x => ?_) hi2 (hbc.mono l_H_Hf) (hmc.mono l_H_Hf) (hwc.mono l_H_Hf)) h fun r49 H49 L49 a w le49 R h => ?_
     ·have := hbs x; omega
     obtain ⟨rfl, rfl, fb4, fm3, rfl, hb4, hm3, hi3⟩ := R
     refine au [0,2,0,0,0,3] h ?_; intro a w h
     refine cdB h (fun c50 => ?_) (fun c50 => ?_)
     ·exact absurd (c41.symm.trans c50) (by decide)
     ·refine au [1,8,1,7,1,0,0,5] h ?_
      have h := h.pull 1 rfl rfl
      have h := h.pull 1 rfl rfl
      have h := h.del 2
      have hin : (bnd kd && k + 1 == ks.length) = false := by rw [show bnd kd = true from c32]; have := ne_of_beq_false c41; simp; omega
      have fb3E := hb4
      obtain ⟨fb3, hfb3⟩ : ∃ f, f = fb4 := ⟨_, rfl⟩
      rw [← hfb3] at h
      have hb3 : ∀ x, (fb3 x).getD (.int .i64 0) = .int .i64 ((b x : Nat) : Int) := by rw [hfb3]; exact hb4
      refine inc ?_ h fun a w h => ?_
      ·omega
      refine au [0,0,0,3] h ?_; intro a w h
      exact ⟨(k + 1, fb3, fm3), ⟨⟨by omega, hb3, fun x => by rw [hm3 x, hm2 x, frT_succ _ _ _ _ _ c27, hin]; simp only [Bool.or_assoc]; rfl, hi3⟩, h.to 0 _⟩, by show _ - (k + 1) < _ - k; omega⟩
   ·refine au [0,0,0,1,0,1,0,1,0,1,0,1,0,1,5,0,0,6,0,3,0,4,1,2,0,0,0,3,2,1,1,8,1,0,1,2] h ?_; intro a w h
    refine ldH t1_104 (hwc.mono l_H_Hf) h fun a w h => ?_
    refine ldW 0 tN24 h fun a w h => ?_
    have h := h.pull 2 rfl rfl
    have h := h.pull 2 rfl rfl
    refine cl bod45 (ih _ (List.getElem_mem c27) _ E Hf _ gbc gmc gwc gb gm fb1 fm2 b hvt hb1 (fun x => ?_) hi2 (hbc.mono l_H_Hf) (hmc.mono l_H_Hf) (hwc.mono l_H_Hf)) h fun r49 H49 L49 a w le49 R h => ?_
    ·have := hbs x; omega
    obtain ⟨rfl, rfl, fb4, fm3, rfl, hb4, hm3, hi3⟩ := R
    refine au [0,2,0,0,0,3,2,1,1,8,1,7,1,0,0,5] h ?_; intro a w h
    have h := h.pull 1 rfl rfl
    have h := h.pull 1 rfl rfl
    have h := h.del 2
    have hin : (bnd kd && k + 1 == ks.length) = false := by rw [show bnd kd = false from c32]; rfl
    have fb3E := hb4
    obtain ⟨fb3, hfb3⟩ : ∃ f, f = fb4 := ⟨_, rfl⟩
    rw [← hfb3] at h
    have hb3 : ∀ x, (fb3 x).getD (.int .i64 0) = .int .i64 ((b x : Nat) : Int) := by rw [hfb3]; exact hb4
    refine inc ?_ h fun a w h => ?_
    ·omega
    refine au [0,0,0,3] h ?_; intro a w h
    exact ⟨(k + 1, fb3, fm3), ⟨⟨by omega, hb3, fun x => by rw [hm3 x, hm2 x, frT_succ _ _ _ _ _ c27, hin]; simp only [Bool.or_assoc]; rfl, hi3⟩, h.to 0 _⟩, by show _ - (k + 1) < _ - k; omega⟩
  ·have hkk : k = ks.length := by simp at c27; omega
   refine au [2,5,2,2,2,2,2,3] h ?_
   refine finN0 0 (h.less l_H_Hf) LE.rfl ?_
   refine ⟨rfl, rfl, fb1, fm2, rfl, hb1, fun x => ?_, hi2⟩
   rw [hm2 x, hkk, frT_all]; simp only [Tm.fr]
theorem Free_ok (t : Tm) (v : Value) (E : World) (H : GH) (L : List It) (hv : VT H v t) (hlg : t.long < 1000000000000) (hsz : t.size < 1000000000000) :
   Ok Tryz.prog 29 #[v] E H L fun r H' L' => ∃ A c ss, r = .slice A ss.length c ∧ H = H' ∧ L' = .row (.slice A ss.length c) 9 1 ss.length (ss.map encS) :: L ∧ IsSet ss (t.fr none0) := by
 have hv0 := hv
 obtain ⟨A, c, rfl, hks⟩ := hv
 have hv := hv0
 refine enter (N := 15) [(0, _)] Tryz.func29 rfl rfl rfl rfl fun a w h => ?_
 refine au [1,2] h ?_
 refine bxA h fun g1 a w h => ?_
 refine au [0,6,0,2] h ?_; intro a w h
 refine mk0 (enc := encS) h fun m6 a w h => ?_
 refine al zr103 h fun g3 a w h => ?_
 refine au [5,1,0,2] h ?_; intro a w h
 refine mk0 (enc := encS) h fun m7 a w h => ?_
 refine al zr103 h fun g4 a w h => ?_
 refine au [5,1,0,2] h ?_; intro a w h
 refine al zr104 h fun g5 a w h => ?_
 refine au [0,2,7,3,5,1,0,2] h ?_; intro a w h
 obtain ⟨H1, leH1, h, hfw⟩ := h.frz 0
 have l_H_H1 : LE H H1 := leH1
 obtain ⟨H2, leH2, h, hfb⟩ := h.frz 0
 have l_H_H2 : LE H H2 := l_H_H1.trans leH2
 have l_H1_H2 : LE H1 H2 := leH2
 obtain ⟨H3, leH3, h, hfm⟩ := h.frz 1
 have l_H_H3 : LE H H3 := l_H_H2.trans leH3
 have l_H1_H3 : LE H1 H3 := l_H1_H2.trans leH3
 have l_H2_H3 : LE H2 H3 := leH3
 have qb : Hc H3 g4 0 (.map (some m7)) := Hc.of (l_H2_H3 _ _ hfb) rfl
 have qm : Hc H3 g3 0 (.map (some m6)) := Hc.of hfm rfl
 have qw : Hc H3 g5 0 (.func (.func 45) #[] #[.pointer (some ⟨g4, 0, none⟩), .pointer (some ⟨g3, 0, none⟩), .pointer (some ⟨g5, 0, none⟩)]) := Hc.of (l_H1_H3 _ _ hfw) rfl
 refine ldH t1_104 (Hc.of (l_H1_H3 _ _ hfw) rfl) h fun a w h => ?_
 refine ldW 2 tN24 h fun a w h => ?_
 refine cl bod45 (walk_ok t _ E H3 _ g4 g3 g5 m7 m6 (fun _ => none) (fun _ => none) none0 (hv.mono l_H_H3) (fun _ => rfl) (fun x => by unfold none0; omega) (fun _ _ h => by cases h) qb qm qw) h fun r11 H11 L11 a w le11 R h => ?_
 obtain ⟨rfl, rfl, fb1, fm1, rfl, hb1, hm1, hi1⟩ := R
 have hm2 : ∀ x, (fm1 x).isSome = t.fr none0 x := fun x => by rw [hm1 x]; rfl
 refine au [0,2] h ?_
 refine ldH t1_103 (Hc.of (LE.rfl _ _ hfm) rfl) h fun a w h => ?_
 refine cl bod47 (keys_ok m6 E H3 _) h fun r13 H13 L13 a w le13 R h => ?_
 obtain ⟨g13, rfl, rfl, rfl⟩ := R
 refine cl bod46 (sorted_ok m6 g13 fm1 2 E H3 _ rfl rfl (fun x hx => by have := names_long t x (fr_names t _ x (by rw [← hm2]; exact hx)); omega) (fun l hl hs => by have := sub_len (m := t.names) hl (fun x hx => fr_names t _ x (by rw [← hm2]; exact hs x hx)); rw [names_len] at this; omega)) h fun r14 H14 L14 a w le14 R h => ?_
 obtain ⟨A14, c14, ss, rfl, rfl, rfl, hset⟩ := R
 refine au [0,6,0,3,1,3] h ?_; intro a w h
 have h := h.del 4
 have h := h.del 3
 have h := h.del 2
 have h := h.del 1
 refine fin1 2 0 (h.less l_H_H3) LE.rfl ?_
 exact ⟨A14, c14, ss, rfl, rfl, rfl, by rw [show (fun x => (fm1 x).isSome) = t.fr none0 from funext hm2] at hset; exact hset⟩
open Go.Proofs
theorem mapSS : mapT Tryz.prog 63 = some (9, 9) := by kernel_rfl
def RenOk (t : Tm) : Prop := ∀ (v : Value) (E : World) (H : GH) (L : List It) (gr gt : Nat) (σ : Bs → Option Bs) (f : Bs → Option Value) (n : Int), VT H v t → Laid H → (∀ x, f x = (σ x).map encS) → In64 n →
   Ok Tryz.prog 18 #[.pointer (some ⟨gr, 0, none⟩), v] E H (.obj gr (.cells #[.map (some gt), .int .i64 n] 65 (0, 0)) :: .blk gt (IsMap encS f) :: L) fun r H' L' => VT H' r (t.ren σ n).1 ∧ L' = .obj gr (.cells #[.map (some gt), .int .i64 (t.ren σ n).2] 65 (0, 0)) :: .blk gt (IsMap encS f) :: L
theorem kidr_ok (ks : List Tm) (k : Nat) (hk : k < ks.length) (hr : RenOk ks[k]) (A : Option Addr) (c p2 p3 p9 gr gt : Nat) (σ : Bs → Option Bs) (f : Bs → Option Value) (n : Int) (E : World) (H : GH) (L : List It) (hks : KS H A c ks) (h2 : Hc H p2 0 (.pointer (some ⟨gr, 0, none⟩)))
   (h3 : Hc H p3 3 (.slice A ks.length c)) (h9 : Hc H p9 0 (.int .i64 (k : Int))) (hL : Laid H) (hf : ∀ x, f x = (σ x).map encS) (hn : In64 n) : Ok Tryz.prog 38 #[.pointer (some ⟨p2, 0, none⟩), .pointer (some ⟨p3, 0, none⟩), .pointer (some ⟨p9, 0, none⟩)] E H (.obj gr (.cells #[.map (some gt), .int .i64 n] 65 (0, 0)) :: .blk gt (IsMap encS f) :: L)
     fun r H' L' => VT H' r (ks[k].ren σ n).1 ∧ L' = .obj gr (.cells #[.map (some gt), .int .i64 (ks[k].ren σ n).2] 65 (0, 0)) :: .blk gt (IsMap encS f) :: L := by
 obtain ⟨g, off, A2, c2, rfl, hvt, hcell⟩ := KS.get hks hk
 refine enter (N := 11) [(0, _), (1, _), (2, _)] Tryz.func38 rfl rfl rfl rfl fun a w h => ?_
 refine au [1,2] h ?_
 refine al zr24 h fun g3 a w h => ?_
 refine au [0,3,0,4] h ?_
 refine rgd [] [] [1, 0] [0, 2, 3, 5] 1 mix (by kernel_rfl) h (fun a w h => ?_)
 refine ldHD t1_62 (h2) h fun a w h => ?_
 refine fa fl24_3 (r := 3) h fun a w h => ?_
 refine ldHD t1_22 (h3) h fun a w h => ?_
 refine ldHD t1_3 (h9) h fun a w h => ?_
 refine ia sli22 sz24 rfl hk h fun a w h => ?_
 refine ldHND tN24 rfl hcell h fun a w h => ?_
 have h := h.pull 2 rfl rfl
 have h := h.pull 2 rfl rfl
 refine cl bod18 (hr _ E H _ gr gt σ f n hvt hL hf hn) h fun r10 H10 L10 a w le10 R h => ?_
 obtain ⟨⟨A10, c10, rfl, hk10⟩, rfl⟩ := R
 have l_H_H10 : LE H H10 := le10
 refine au [5,7,0,3,1,3] h ?_; intro a w h
 exact fin (rs := [.cell 3 24]) (vs := [.agg #[_, _, _, _]]) h rfl (.agg (k0 := 2) tN24 rfl rfl rfl .nil) rfl le10 ⟨LE.rfl, (h.del 2).st⟩ ⟨⟨A10, c10, rfl, hk10⟩, rfl⟩
theorem dfr_ok (hd : Bool) (old nm : Bs) (p10 p9 p4 p5 gr gt : Nat) (f : Bs → Option Value) (n : Int) (E : World) (H : GH) (L : List It) (h10 : Hc H p10 0 (.bool hd)) (h9 : Hc H p9 0 (str old)) (h4 : Hc H p4 0 (.pointer (some ⟨gr, 0, none⟩))) (h5 : Hc H p5 0 (str nm)) :
   OkD Tryz.prog 51 #[.pointer (some ⟨p10, 0, none⟩), .pointer (some ⟨p9, 0, none⟩), .pointer (some ⟨p4, 0, none⟩), .pointer (some ⟨p5, 0, none⟩)] E H (.obj gr (.cells #[.map (some gt), .int .i64 n] 65 (0, 0)) :: .blk gt (IsMap encS f) :: L) fun r H' L' => H = H' ∧ L' = .obj gr (.cells #[.map (some gt), .int .i64 n] 65 (0, 0)) :: .blk gt (IsMap encS (upd f nm (if hd then some (str old) else none))) :: L := by
 refine enterR (N := 16) [(0, _), (1, _), (2, _), (3, _)] Tryz.func51 rfl rfl rfl rfl fun a w h => ?_
 refine au [1,2] h ?_
 refine ldH t1_4 (h10) h fun a w h => ?_
 refine au [0,3] h ?_
 refine cdB h (fun c4 => ?_) (fun c4 => ?_)
 ·refine rgd [0] [_] [0] [0, 3, 4, 5] 1 mix (by kernel_rfl) h (fun a w h => ?_)
  refine ldHD t1_62 (h4) h fun a w h => ?_
  refine au [7,2,0,7,4,2] h ?_; intro a w h
  refine ldHD t1_9 (h5) h fun a w h => ?_
  refine ldHD t1_9 (h9) h fun a w h => ?_
  have h := h.pull 1 rfl rfl
  refine mu 0 keyS mapSS h fun a w h => ?_
  refine nl0 ?_
  have h := h.pull 1 rfl rfl
  refine finN0 0 h LE.rfl ?_
  exact ⟨rfl, by rw [show hd = true from c4]; rfl⟩
 ·refine rgd [0] [_] [0] [0, 3, 4] 0 mix (by kernel_rfl) h (fun a w h => ?_)
  refine ldHD t1_62 (h4) h fun a w h => ?_
  refine au [7,2,0,7,4,2] h ?_; intro a w h
  refine ldHD t1_9 (h5) h fun a w h => ?_
  have h := h.pull 1 rfl rfl
  refine dl 0 keyS mapSS h fun a w h => ?_
  refine nl0 ?_
  have h := h.pull 1 rfl rfl
  refine finN0 0 h LE.rfl ?_
  exact ⟨rfl, by rw [show hd = false from c4]; rfl⟩
theorem bind_ok (nm to : Bs) (fd : FuncId) (caps : Array Value) (gr gt : Nat) (σ : Bs → Option Bs) (f : Bs → Option Value) (n n' : Int) (u : Tm) (E : World) (H : GH) (L : List It) (hf : ∀ x, f x = (σ x).map encS) (hbod : bodT Tryz.prog fd = true)
   (hdo : ∀ (H1 : GH) (L1 : List It), LE H H1 → Ok Tryz.prog fd (#[] ++ [].toArray ++ caps) E H1 (.obj gr (.cells #[.map (some gt), .int .i64 n] 65 (0, 0)) :: .blk gt (IsMap encS (upd f nm (some (str to)))) :: L1) fun r H' L' => VT H' r u ∧ L' = .obj gr (.cells #[.map (some gt), .int .i64 n'] 65 (0, 0)) :: .blk gt (IsMap encS (upd f nm (some (str to)))) :: L1) :
   Ok Tryz.prog 39 #[.pointer (some ⟨gr, 0, none⟩), str nm, str to, .func (.func fd) #[] caps] E H (.obj gr (.cells #[.map (some gt), .int .i64 n] 65 (0, 0)) :: .blk gt (IsMap encS f) :: L) fun r H' L' => VT H' r u ∧ L' = .obj gr (.cells #[.map (some gt), .int .i64 n'] 65 (0, 0)) :: .blk gt (IsMap encS f) :: L := by
 obtain ⟨old, hold⟩ : ∃ old, (f nm).getD (.string ⟨#[]⟩) = str old := by
   rw [hf nm]; cases σ nm with
   | none => exact ⟨[], rfl⟩
   | some u => exact ⟨u, rfl⟩
 have hback : upd (upd f nm (some (str to))) nm (if (f nm).isSome then some (str old) else none) = f := by
   funext x
   unfold X.upd
   by_cases e : x = nm
   · subst e
     rw [if_pos rfl]
     rw [hf x] at hold ⊢
     cases hs : σ x with
     | none => rfl
     | some u => rw [hs] at hold; simp at hold ⊢; exact hold.symm
   · rw [if_neg e, if_neg e]
 refine enterD (N := 29) [(0, _), (1, _), (2, _), (3, _)] Tryz.func39 rfl rfl rfl rfl fun a w h => ?_
 refine au [1,2] h ?_
 refine bx1 h fun g4 a w h => ?_
 refine bx1 h fun g5 a w h => ?_
 refine al zr24 h fun g8 a w h => ?_
 refine au [0,3,0,4] h ?_
 obtain ⟨H1, leH1, h, hf4⟩ := h.frz 2
 have l_H_H1 : LE H H1 := leH1
 obtain ⟨H2, leH2, h, hf5⟩ := h.frz 1
 have l_H_H2 : LE H H2 := l_H_H1.trans leH2
 have l_H1_H2 : LE H1 H2 := leH2
 refine rgxF [1, 2] [_, _] [0, 3, 4, 5] 13 mix h (fun a w h => ?_)
 refine tkl 0 true (by kernel_rfl) ?_ (hQ := fun _ _ _ _ _ h => False.elim h)
 refine ldHT t1_62 (Hc.of (l_H1_H2 _ _ hf4) rfl) h fun a w h => ?_
 refine tk0 ?_
 refine tkl 1 false (by kernel_rfl) ?_ (hQ := fun _ _ _ _ _ h => False.elim h)
 refine au [7,2,2,6] h ?_; intro a w h
 refine tkl 2 false (by kernel_rfl) ?_ (hQ := fun _ _ _ _ _ h => False.elim h)
 refine au [0,7,2,6] h ?_; intro a w h
 refine tkl 3 true (by kernel_rfl) ?_ (hQ := fun _ _ _ _ _ h => False.elim h)
 refine au [3,8,2,6] h ?_; intro a w h
 refine tkl 4 true (by kernel_rfl) ?_ (hQ := fun _ _ _ _ _ h => False.elim h)
 refine ldHT t1_9 (Hc.of (LE.rfl _ _ hf5) rfl) h fun a w h => ?_
 refine tk0 ?_
 refine tkl 5 true (by kernel_rfl) ?_ (hQ := fun _ _ _ _ _ h => False.elim h)
 refine lkT (f := f) (q := nm) 1 keyS mapSS zr9 h fun a w h => ?_
 rw [hold] at h
 refine tk0 ?_
 refine tkl 6 false (by kernel_rfl) ?_ (hQ := fun _ _ _ _ _ h => False.elim h)
 refine au [0,0,2,6] h ?_; intro a w h
 refine tkl 7 false (by kernel_rfl) ?_ (hQ := fun _ _ _ _ _ h => False.elim h)
 refine au [4,7,2,6] h ?_; intro a w h
 refine tkl 8 false (by kernel_rfl) ?_ (hQ := fun _ _ _ _ _ h => False.elim h)
 refine au [4,7,2,6] h ?_; intro a w h
 refine brl2 9 10 true true (by kernel_rfl) (by kernel_rfl) (by kernel_rfl) (fun _ => h.st.sees' (by first | exact LE.rfl | assumption) (by simp)) ?_ ?_
 ·refine al zr9 h fun g9 a w h => ?_
  refine br0 ?_
  refine brl1 10 true (by kernel_rfl) (by kernel_rfl) (fun _ => h.st.sees' (by first | exact LE.rfl | assumption) (by simp)) ?_
  refine al zr4 h fun g10 a w h => ?_
  refine br0 ?_
  refine brl1 11 false (by kernel_rfl) (by kernel_rfl) (fun _ => h.st.sees' (by first | exact LE.rfl | assumption) (by simp)) ?_
  refine au [5,2,2,7] h ?_; intro a w h
  refine brl1 12 false (by kernel_rfl) (by kernel_rfl) (fun _ => h.st.sees' (by first | exact LE.rfl | assumption) (by simp)) ?_
  refine au [5,1,2,7] h ?_; intro a w h
  refine en (by kernel_rfl) ?_
  refine npN ?_
  refine au [1,0,0,4] h ?_
  obtain ⟨H3, leH3, h, hf9⟩ := h.frz 1
  have l_H_H3 : LE H H3 := l_H_H2.trans leH3
  have l_H1_H3 : LE H1 H3 := l_H1_H2.trans leH3
  have l_H2_H3 : LE H2 H3 := leH3
  obtain ⟨H4, leH4, h, hf10⟩ := h.frz 0
  have l_H_H4 : LE H H4 := l_H_H3.trans leH4
  have l_H1_H4 : LE H1 H4 := l_H1_H3.trans leH4
  have l_H2_H4 : LE H2 H4 := l_H2_H3.trans leH4
  have l_H3_H4 : LE H3 H4 := leH4
  refine au [0,5,7,3] h ?_; intro a w h
  refine df h fun a w h => ?_
  refine au [0,3,0,4] h ?_
  refine rgdF [1] [_] [0] [0, 3, 4] 1 mix (by kernel_rfl) h (fun a w h => ?_)
  refine ldHD t1_62 (Hc.of (l_H1_H4 _ _ hf4) rfl) h fun a w h => ?_
  refine au [7,2,0,7,4,2] h ?_; intro a w h
  refine ldHD t1_9 (Hc.of (l_H2_H4 _ _ hf5) rfl) h fun a w h => ?_
  refine mv h fun a w h => ?_
  have h := h.pull 2 rfl rfl
  refine mu 0 keyS mapSS h fun a w h => ?_
  refine nl0 ?_
  refine npN ?_
  refine au [1,0,1,2,0,0] h ?_; intro a w h
  have h := h.pull 2 rfl rfl
  refine cl hbod (hdo H4 _ l_H_H4) h fun r28 H28 L28 a w le28 R h => ?_
  obtain ⟨⟨A28, c28, rfl, hk28⟩, rfl⟩ := R
  have l_H_H28 : LE H H28 := l_H_H4.trans le28
  have l_H1_H28 : LE H1 H28 := l_H1_H4.trans le28
  have l_H2_H28 : LE H2 H28 := l_H2_H4.trans le28
  have l_H3_H28 : LE H3 H28 := l_H3_H4.trans le28
  have l_H4_H28 : LE H4 H28 := le28
  refine au [5,7,0,3,1,3] h ?_; intro a w h
  have h := h.pull 1 rfl rfl
  have h := h.pull 1 rfl rfl
  refine finD h bod51 (dfr_ok (f nm).isSome old nm g10 g9 g4 g5 gr gt _ n' E H28 _ (Hc.of (l_H4_H28 _ _ hf10) rfl) (Hc.of (l_H3_H28 _ _ hf9) rfl) (Hc.of (l_H1_H28 _ _ hf4) rfl) (Hc.of (l_H2_H28 _ _ hf5) rfl)) l_H_H28 fun r0 H0 L0 w' le0 R hS => ?_
  obtain ⟨rfl, rfl⟩ := R
  rw [hback] at hS
  exact ⟨_, _, _, run_results (rs := [.cell 8 24]) (vs := [.agg #[_, _, _, _]]) rfl (.agg (k0 := 2) tN24 rfl rfl rfl .nil) hS, l_H_H28, (hS.del 2).st, ⟨⟨A28, c28, rfl, hk28⟩, rfl⟩⟩
 ·refine al zr4 h fun g10 a w h => ?_
  refine br0 ?_
  refine brl1 9 true (by kernel_rfl) (by kernel_rfl) (fun _ => h.st.sees' (by first | exact LE.rfl | assumption) (by simp)) ?_
  refine al zr9 h fun g9 a w h => ?_
  refine br0 ?_
  refine brl1 11 false (by kernel_rfl) (by kernel_rfl) (fun _ => h.st.sees' (by first | exact LE.rfl | assumption) (by simp)) ?_
  refine au [5,1,2,7] h ?_; intro a w h
  refine brl1 12 false (by kernel_rfl) (by kernel_rfl) (fun _ => h.st.sees' (by first | exact LE.rfl | assumption) (by simp)) ?_
  refine au [5,2,2,7] h ?_; intro a w h
  refine en (by kernel_rfl) ?_
  refine npN ?_
  refine au [1,0,0,4] h ?_
  obtain ⟨H3, leH3, h, hf9⟩ := h.frz 0
  have l_H_H3 : LE H H3 := l_H_H2.trans leH3
  have l_H1_H3 : LE H1 H3 := l_H1_H2.trans leH3
  have l_H2_H3 : LE H2 H3 := leH3
  obtain ⟨H4, leH4, h, hf10⟩ := h.frz 0
  have l_H_H4 : LE H H4 := l_H_H3.trans leH4
  have l_H1_H4 : LE H1 H4 := l_H1_H3.trans leH4
  have l_H2_H4 : LE H2 H4 := l_H2_H3.trans leH4
  have l_H3_H4 : LE H3 H4 := leH4
  refine au [0,5,7,3] h ?_; intro a w h
  refine df h fun a w h => ?_
  refine au [0,3,0,4] h ?_
  refine rgdF [1] [_] [0] [0, 3, 4] 1 mix (by kernel_rfl) h (fun a w h => ?_)
  refine ldHD t1_62 (Hc.of (l_H1_H4 _ _ hf4) rfl) h fun a w h => ?_
  refine au [7,2,0,7,4,2] h ?_; intro a w h
  refine ldHD t1_9 (Hc.of (l_H2_H4 _ _ hf5) rfl) h fun a w h => ?_
  refine mv h fun a w h => ?_
  have h := h.pull 2 rfl rfl
  refine mu 0 keyS mapSS h fun a w h => ?_
  refine nl0 ?_
  refine npN ?_
  refine au [1,0,1,2,0,0] h ?_; intro a w h
  have h := h.pull 2 rfl rfl
  refine cl hbod (hdo H4 _ l_H_H4) h fun r28 H28 L28 a w le28 R h => ?_
  obtain ⟨⟨A28, c28, rfl, hk28⟩, rfl⟩ := R
  have l_H_H28 : LE H H28 := l_H_H4.trans le28
  have l_H1_H28 : LE H1 H28 := l_H1_H4.trans le28
  have l_H2_H28 : LE H2 H28 := l_H2_H4.trans le28
  have l_H3_H28 : LE H3 H28 := l_H3_H4.trans le28
  have l_H4_H28 : LE H4 H28 := le28
  refine au [5,7,0,3,1,3] h ?_; intro a w h
  have h := h.pull 1 rfl rfl
  have h := h.pull 1 rfl rfl
  refine finD h bod51 (dfr_ok (f nm).isSome old nm g10 g9 g4 g5 gr gt _ n' E H28 _ (Hc.of (l_H4_H28 _ _ hf10) rfl) (Hc.of (l_H3_H28 _ _ hf9) rfl) (Hc.of (l_H1_H28 _ _ hf4) rfl) (Hc.of (l_H2_H28 _ _ hf5) rfl)) l_H_H28 fun r0 H0 L0 w' le0 R hS => ?_
  obtain ⟨rfl, rfl⟩ := R
  rw [hback] at hS
  exact ⟨_, _, _, run_results (rs := [.cell 8 24]) (vs := [.agg #[_, _, _, _]]) rfl (.agg (k0 := 2) tN24 rfl rfl rfl .nil) hS, l_H_H28, (hS.del 2).st, ⟨⟨A28, c28, rfl, hk28⟩, rfl⟩⟩
theorem sub1 {σ : Bs → Option Bs} {f : Bs → Option Value} {nm old : Bs} (hf : ∀ x, f x = (σ x).map encS) (hold : (f nm).getD (.string ⟨#[]⟩) = str old) (hs : (f nm).isSome = true) : σ nm = some old := by
 rw [hf nm] at hold hs
 cases h : σ nm with
 | none => rw [h] at hs; cases hs
 | some u => rw [h] at hold; simp at hold; rw [hold]
theorem sub0 {σ : Bs → Option Bs} {f : Bs → Option Value} {nm : Bs} (hf : ∀ x, f x = (σ x).map encS) (hs : (f nm).isSome = false) : σ nm = none := by
 rw [hf nm] at hs
 cases h : σ nm with
 | none => rfl
 | some u => rw [h] at hs; cases hs
theorem vt_of {H : GH} {B : Option Addr} {k cp : Nat} {ys : List Tm} {kd : Int} {s : Bs} {n : Int} (hk : k = ys.length) (h : RS RT 4 H (.slice B k cp) ys) : VT H (.agg #[.int .i64 kd, str s, .int .i64 n, .slice B k cp]) (.mk kd s n ys) := by
 subst hk; exact ⟨B, cp, rfl, h⟩
theorem ren_ok : ∀ t : Tm, t.size < 1000000000000 → RenOk t := by
 intro t
 induction t using Tm.ind with
 | h kd nm nn ks ih =>
 intro hsz v E H L gr gt σ f n hv hL hf hn
 obtain ⟨A, c, rfl, hks⟩ := hv
 have hks : KS H A c ks := hks
 simp only [Tm.size] at hsz
 have hlen := length_le_sizeL ks
 obtain ⟨old, hold⟩ : ∃ old, (f nm).getD (.string ⟨#[]⟩) = str old := by
   rw [hf nm]; cases σ nm with
   | none => exact ⟨[], rfl⟩
   | some u => exact ⟨u, rfl⟩
 refine enter (N := 89) [(0, _), (1, _)] Tryz.func18 rfl rfl rfl rfl fun a w h => ?_
 refine au [1,2] h ?_
 refine bx1 h fun g2 a w h => ?_
 refine bxA h fun g3 a w h => ?_
 refine al zr24 h fun g4 a w h => ?_
 refine au [0,3,0,4] h ?_
 obtain ⟨H1, leH1, h, hf2⟩ := h.frz 2
 have l_H_H1 : LE H H1 := leH1
 obtain ⟨H2, leH2, h, hf3⟩ := h.frz 1
 have l_H_H2 : LE H H2 := l_H_H1.trans leH2
 have l_H1_H2 : LE H1 H2 := leH2
 have q2 : Hc H2 g2 0 (.pointer (some ⟨gr, 0, none⟩)) := Hc.of (l_H1_H2 _ _ hf2) rfl
 have q3 : Hc H2 g3 3 (.slice A ks.length c) := Hc.of hf3 rfl
 have hks2 := hks.up l_H_H2
 have hL2 := hL.up l_H_H2
 refine au [0,5,0,7] h ?_; intro a w h
 refine ldH t1_3 (Hc.of (LE.rfl _ _ hf3) rfl) h fun a w h => ?_
 refine fa fl24_1 (r := 1) h fun a w h => ?_
 refine ldH t1_9 (Hc.of (LE.rfl _ _ hf3) rfl) h fun a w h => ?_
 refine fa fl24_2 (r := 2) h fun a w h => ?_
 refine ldH t1_2 (Hc.of (LE.rfl _ _ hf3) rfl) h fun a w h => ?_
 refine bdl lay24 zr24 h fun a w h => ?_
 refine al zr24 h fun g5 a w h => ?_
 refine au [5,5,0,3] h ?_; intro a w h
 refine sqc (fun a w => S E H2 89 [] [(2, .pointer (some ⟨g2, 0, none⟩)), (3, .pointer (some ⟨g3, 0, none⟩)), (4, .pointer (some ⟨g4, 0, none⟩)), (5, .pointer (some ⟨g5, 0, none⟩))] (.obj g5 (.cells #[.int .i64 kd, str (if kd == 2 then (σ nm).getD nm else nm), .int .i64 nn, .slice none 0 0] 24 (0, 0)) :: .obj g4 (.cells #[.int .i64 0, .string ⟨#[]⟩, .int .i64 0, .slice none 0 0] 24 (0, 0)) :: .obj gr (.cells #[.map (some gt), .int .i64 n] 65 (0, 0)) :: .blk gt (IsMap encS f) :: L) a w) ?_ ?_
 ·refine sq ?_
  refine rgd [2, 3] [_, _] [] [0, 3, 5, 6] 2 mix (by kernel_rfl) h (fun a w h => ?_)
  refine ldHD t1_62 (Hc.of (l_H1_H2 _ _ hf2) rfl) h fun a w h => ?_
  refine au [7,2,0,7,4,2,0,7] h ?_; intro a w h
  refine ldHD t1_9 (Hc.of (LE.rfl _ _ hf3) rfl) h fun a w h => ?_
  refine lkD (f := f) (q := nm) 1 keyS mapSS zr9 h fun a w h => ?_
  rw [hold] at h
  refine au [0,0,4,7,4,7,0,6,0,6,0,2,0,0] h ?_; intro a w h
  refine h.spl (fun c28 h => ?_) (fun c28 h => ?_)
  ·refine au [0,0,0,7] h ?_; intro a w h
   refine ldH t1_3 (Hc.of (LE.rfl _ _ hf3) rfl) h fun a w h => ?_
   refine au [6,2,4,8,0,3] h ?_; intro a w h
   refine cdB h (fun c33 => ?_) (fun c33 => ?_)
   ·refine au [0,5,0,0,0,7,5,1,0,3] h ?_; intro a w h
    have h := h.pull 3 rfl rfl
    have h := h.pull 3 rfl rfl
    have h := h.pull 3 rfl rfl
    have h := h.pull 3 rfl rfl
    have e1 : (if kd == 2 then (σ nm).getD nm else nm) = old := by rw [if_pos (show (kd == 2) = true from c33), sub1 hf hold c28, Option.getD_some]
    rw [e1]
    exact h.to 0 _
   ·refine au [1,8,1,0] h ?_
    have h := h.pull 3 rfl rfl
    have h := h.pull 3 rfl rfl
    have h := h.pull 3 rfl rfl
    have h := h.pull 3 rfl rfl
    have e1 : (if kd == 2 then (σ nm).getD nm else nm) = nm := if_neg (by rw [show (kd == 2) = false from c33]; simp)
    rw [e1]
    exact h.to 0 _
  ·refine au [0,0,0,1,0,1,0,1,5,0,0,3,2,1,1,8,1,0] h ?_; intro a w h
   have h := h.pull 3 rfl rfl
   have h := h.pull 3 rfl rfl
   have h := h.pull 3 rfl rfl
   have h := h.pull 3 rfl rfl
   have e1 : (if kd == 2 then (σ nm).getD nm else nm) = nm := by rw [sub0 hf c28]; split <;> rfl
   rw [e1]
   exact h.to 0 _
 ·rintro a w h
  refine au [1,2] h ?_
  refine ldHN tN24 rfl (Hc.all (LE.rfl _ _ hf3)) h fun a w h => ?_
  refine cl bod20 (Binder_ok _ _ _ _ E H2 _) h fun r37 H37 L37 a w le37 R h => ?_
  obtain ⟨rfl, rfl, rfl⟩ := R
  refine au [0,6,0,3] h ?_; intro a w h
  obtain ⟨s', hs'⟩ : ∃ s', s' = renN kd nm σ n := ⟨_, rfl⟩
  obtain ⟨n1, hn1⟩ : ∃ n1, n1 = if bnd kd then nx n else n := ⟨_, rfl⟩
  refine sqc (fun a w => S E H2 89 [] [(2, .pointer (some ⟨g2, 0, none⟩)), (3, .pointer (some ⟨g3, 0, none⟩)), (4, .pointer (some ⟨g4, 0, none⟩)), (5, .pointer (some ⟨g5, 0, none⟩)), (8, .bool (bnd kd))] (.obj g5 (.cells #[.int .i64 kd, str s', .int .i64 nn, .slice none 0 0] 24 (0, 0)) :: .obj g4 (.cells #[.int .i64 0, .string ⟨#[]⟩, .int .i64 0, .slice none 0 0] 24 (0, 0)) :: .obj gr (.cells #[.map (some gt), .int .i64 n1] 65 (0, 0)) :: .blk gt (IsMap encS f) :: L) a w) ?_ ?_
  ·refine au [1,2,0,0,0,3] h ?_; intro a w h
   refine cdB h (fun c38 => ?_) (fun c38 => ?_)
   ·refine au [1,2] h ?_
    refine ldH t1_62 (Hc.of (l_H1_H2 _ _ hf2) rfl) h fun a w h => ?_
    refine au [7,2,0,7,3,0] h ?_; intro a w h
    refine cl bod37 (Itoa_ok n E H2 _ hL2 hn.1 hn.2) h fun r43 H43 L43 a w le43 R h => ?_
    obtain ⟨rfl, rfl, rfl⟩ := R
    refine au [0,7,5,1,0,3,0,5] h ?_; intro a w h
    refine ldH t1_62 (Hc.of (l_H1_H2 _ _ hf2) rfl) h fun a w h => ?_
    refine au [7,2,0,7,3,0] h ?_; intro a w h
    refine adr (nx n) rfl h fun a w h => ?_
    refine au [7,2,0,7,5,3,0,3] h ?_; intro a w h
    have h := h.pull 3 rfl rfl
    have h := h.pull 3 rfl rfl
    have h := h.pull 3 rfl rfl
    have h := h.pull 3 rfl rfl
    rw [hs', hn1]
    unfold renN
    have hb : bnd kd = true := c38
    rw [if_pos hb, if_pos hb]
    exact h.to 0 _
   ·refine au [1,8,1,0] h ?_
    have h := h.pull 3 rfl rfl
    have h := h.pull 3 rfl rfl
    have h := h.pull 3 rfl rfl
    have h := h.pull 3 rfl rfl
    rw [hs', hn1]
    unfold renN
    have hb : ¬ (bnd kd = true) := by rw [show bnd kd = false from c38]; simp
    rw [if_neg hb, if_neg hb]
    exact h.to 0 _
  ·rintro a w h
   refine au [0,4,0,4] h ?_
   have hn1i : In64 n1 := by rw [hn1]; split; exact nx_in n; exact hn
   have h := h.row (e := 24) (sz := 4)
   refine au [0,5,0,7] h ?_; intro a w h
   refine ldH t1_22 (Hc.of (LE.rfl _ _ hf3) rfl) h fun a w h => ?_
   refine au [6,0,0,0,0,3,1,5] h ?_; intro a w h
   refine lp (β := Nat × GH × Option Addr × Nat × List Value) (fun x a w => match x with | (k, H3, B, cp, xs) => (k ≤ ks.length ∧ LE H2 H3 ∧ RowR RT 4 H3 xs (renT (bnd kd) nm s' ks σ n1 k).1) ∧ S E H3 89 [] [(2, .pointer (some ⟨g2, 0, none⟩)), (3, .pointer (some ⟨g3, 0, none⟩)), (4, .pointer (some ⟨g4, 0, none⟩)), (5, .pointer (some ⟨g5, 0, none⟩)), (8, .bool (bnd kd)), (55, .int .i64 (k : Int)), (54, .int .i64 (ks.length : Int))] (.row (.slice B k cp) 24 4 k xs :: .obj g5 (.cells #[.int .i64 kd, str s', .int .i64 nn, .slice B k cp] 24 (0, 0)) :: .obj g4 (.cells #[.int .i64 0, .string ⟨#[]⟩, .int .i64 0, .slice none 0 0] 24 (0, 0)) :: .obj gr (.cells #[.map (some gt), .int .i64 (renT (bnd kd) nm s' ks σ n1 k).2] 65 (0, 0)) :: .blk gt (IsMap encS f) :: L) a w)
    (fun x => match x with | (k, H3, B, cp, xs) => ks.length - k) (0, H2, none, 0, []) ⟨⟨Nat.zero_le _, LE.rfl, RowR.nil⟩, h.to 0 _⟩ ?_
   rintro ⟨k, H3, B, cp, xs⟩ a w ⟨pre, h⟩
   obtain ⟨hk, l_H2_H3, hrow⟩ := pre
   have l_H_H3 := l_H_H2.trans l_H2_H3
   have l_H1_H3 := l_H1_H2.trans l_H2_H3
   have hnk : In64 (renT (bnd kd) nm s' ks σ n1 k).2 := renT_in hn1i k
   refine au [1,2,6,4,0,3,0,4] h ?_; intro a w h
   refine cdB h (fun c56 => ?_) (fun c56 => ?_)
   ·have c56 : k < ks.length := by simpa using c56
    have hsz := size_get_le c56
    refine au [1,8,1,0,0,4,1,5,1,2,0,0] h ?_; intro a w h
    refine al zr3 h fun g9 a w h => ?_
    refine au [5,1,0,3,0,4] h ?_; intro a w h
    obtain ⟨H4, leH4, h, hf9⟩ := h.frz 0
    have l_H_H4 : LE H H4 := l_H_H3.trans leH4
    have l_H1_H4 : LE H1 H4 := l_H1_H3.trans leH4
    have l_H2_H4 : LE H2 H4 := l_H2_H3.trans leH4
    have l_H3_H4 : LE H3 H4 := leH4
    refine au [0,5,7,3,0,6,0,3,0,4,1,2,0,0] h ?_; intro a w h
    refine h.spl (fun c59 h => ?_) (fun c59 h => ?_)
    ·refine mv h fun a w h => ?_
     refine ldH t1_3 (Hc.of (LE.rfl _ _ hf9) rfl) h fun a w h => ?_
     refine fa fl24_3 (r := 3) h fun a w h => ?_
     refine ldH t1_22 (Hc.of (l_H2_H4 _ _ hf3) rfl) h fun a w h => ?_
     refine ln sli22 h fun a w h => ?_
     refine sbr ((ks.length : Int) - 1) ?_ h fun a w h => ?_
     ·show IntKind.i64.wrap ((ks.length : Int) - 1) = _; exact w64 (by omega) (by omega)
     refine au [6,2,4,8,0,3] h ?_; intro a w h
     refine cdB h (fun c67 => ?_) (fun c67 => ?_)
     ·refine sq ?_
      refine rgx [1] [_] [1, 2, 4, 6] 13 mix h (fun a w h => ?_)
      refine au [8,0,0,7,2,6,8,1,3,8,2,6,8,2] h ?_; intro a w h
      refine ldHT t1_62 (Hc.of (l_H1_H4 _ _ hf2) rfl) h fun a w h => ?_
      refine au [2,6,8,3,0,7,2,6,8,4] h ?_; intro a w h
      refine ldHT t1_9 (Hc.of (l_H2_H4 _ _ hf3) rfl) h fun a w h => ?_
      refine au [2,6,8,5,0,7,2,6,8,6,3,8,2,6,8,7,0,0,2,6] h ?_; intro a w h
      refine brl1 8 true (by kernel_rfl) (by kernel_rfl) (fun _ => h.st.sees' (by first | exact LE.rfl | assumption) (by simp)) ?_
      have h := h.pull 4 rfl rfl
      have h := h.pull 4 rfl rfl
      have hfu : ∀ x, upd f nm (some (str s')) x = (updS σ nm s' x).map encS := fun x => by unfold X.upd updS; split; rfl; exact hf x
      refine cl bod39 (bind_ok nm s' 38 #[.pointer (some ⟨g2, 0, none⟩), .pointer (some ⟨g3, 0, none⟩), .pointer (some ⟨g9, 0, none⟩)] gr gt σ f _ _ _ E H4 _ hf bod38 (fun Hx Lx lx => kidr_ok ks k c56 (ih _ (List.getElem_mem c56) (by omega)) A c g2 g3 g9 gr gt (updS σ nm s') (upd f nm (some (str s'))) _ E Hx _ (hks2.up (l_H2_H4.trans lx)) (q2.mono (l_H2_H4.trans lx)) (q3.mono (l_H2_H4.trans lx)) ((Hc.of hf9 rfl).mono (lx)) (hL2.up (l_H2_H4.trans lx)) hfu hnk)) h (fun r76 H76 L76 a w le76 R h => ?_) (hS := fun _ _ _ _ _ le R hw => by obtain ⟨_, rfl⟩ := R; exact hw.sees' (by first | exact le | exact LE.trans (by assumption) le) (by simp))
      obtain ⟨⟨A76, c76, rfl, hk76⟩, rfl⟩ := R
      have l_H_H76 : LE H H76 := l_H_H4.trans le76
      have l_H1_H76 : LE H1 H76 := l_H1_H4.trans le76
      have l_H2_H76 : LE H2 H76 := l_H2_H4.trans le76
      have l_H3_H76 : LE H3 H76 := l_H3_H4.trans le76
      have l_H4_H76 : LE H4 H76 := le76
      refine br0 ?_
      refine brl1 9 true (by kernel_rfl) (by kernel_rfl) (fun _ => h.st.sees' (by first | exact LE.rfl | assumption) (by simp)) ?_
      refine bsl bs22 h fun g77 a w h => ?_
      refine br0 ?_
      refine brl1 10 true (by kernel_rfl) (by kernel_rfl) (fun _ => h.st.sees' (by first | exact LE.rfl | assumption) (by simp)) ?_
      refine apb 3 0 (L' := fun i => _ :: _ :: _ :: i :: _) [_, _, _, _] row22 h ?_ ?_ fun v78 a w hone h => ?_
      ·omega
      ·omega
      obtain ⟨B2, cp2, rfl⟩ := h.rowv 3
      have hin : (bnd kd && k + 1 == ks.length) = true := by rw [c59]; have := eq_of_beq c67; simp; omega
      have hsucc : (renT (bnd kd) nm s' ks σ n1 (k + 1)) = ((renT (bnd kd) nm s' ks σ n1 k).1 ++ [(ks[k].ren (updS σ nm s') (renT (bnd kd) nm s' ks σ n1 k).2).1], (ks[k].ren (updS σ nm s') (renT (bnd kd) nm s' ks σ n1 k).2).2) := by rw [renT_succ c56, hin]; rfl
      have hrow2 : RowR RT 4 H76 (xs ++ [.int .i64 (ks[k].ren (updS σ nm s') (renT (bnd kd) nm s' ks σ n1 k).2).1.kind, str (ks[k].ren (updS σ nm s') (renT (bnd kd) nm s' ks σ n1 k).2).1.name, .int .i64 (ks[k].ren (updS σ nm s') (renT (bnd kd) nm s' ks σ n1 k).2).1.n, .slice A76 (ks[k].ren (updS σ nm s') (renT (bnd kd) nm s' ks σ n1 k).2).1.kids.length c76]) (renT (bnd kd) nm s' ks σ n1 (k + 1)).1 := by rw [hsucc]; exact (hrow.mono fun cs y _ hr => RT.mono l_H3_H76 y hr).snoc rfl (rt_of_vt (cs := [_, _, _, _]) ⟨A76, c76, rfl, hk76⟩)
      have hnx : (ks[k].ren (updS σ nm s') (renT (bnd kd) nm s' ks σ n1 k).2).2 = (renT (bnd kd) nm s' ks σ n1 (k + 1)).2 := by rw [hsucc]
      rw [hnx] at h
      refine au [2,7,8,11,0,7,2,6] h ?_; intro a w h
      refine brl1 12 false (by kernel_rfl) (by kernel_rfl) (fun _ => h.st.sees' (by first | exact LE.rfl | assumption) (by simp)) ?_
      refine st4 (l := [_, _, _, _]) t1_22 h fun a w h => ?_
      refine br0 ?_
      refine en (by kernel_rfl) ?_
      refine au [1,0,2,5,2,2,2,3,1,0,0,5] h ?_
      have h := h.pull 2 rfl rfl
      have h := h.pull 2 rfl rfl
      have h := h.pull 5 rfl rfl
      have h := h.pull 5 rfl rfl
      have h := h.pull 5 rfl rfl
      have h := h.del 5
      refine inc ?_ h fun a w h => ?_
      ·omega
      refine au [0,0,0,3] h ?_; intro a w h
      exact ⟨(k + 1, H76, B2, cp2, _), ⟨⟨by omega, l_H2_H76, hrow2⟩, h.to 0 _⟩, by show _ - (k + 1) < _ - k; omega⟩
     ·refine au [1,8,1,0] h ?_
      refine rgx [1] [_] [1] 8 mix h (fun a w h => ?_)
      refine au [8,0,0,7,2,6,8,1,3,8,2,6,8,2,0,0,2,6] h ?_; intro a w h
      refine brl1 3 true (by kernel_rfl) (by kernel_rfl) (fun _ => h.st.sees' (by first | exact LE.rfl | assumption) (by simp)) ?_
      have h := h.pull 4 rfl rfl
      have h := h.pull 4 rfl rfl
      refine cl bod38 (kidr_ok ks k c56 (ih _ (List.getElem_mem c56) (by omega)) A c g2 g3 g9 gr gt σ f _ E H4 _ (hks2.up (l_H2_H4.trans LE.rfl)) (q2.mono (l_H2_H4.trans LE.rfl)) (q3.mono (l_H2_H4.trans LE.rfl)) ((Hc.of hf9 rfl).mono (LE.rfl)) (hL2.up (l_H2_H4.trans LE.rfl)) hf hnk) h (fun r83 H83 L83 a w le83 R h => ?_) (hS := fun _ _ _ _ _ le R hw => by obtain ⟨_, rfl⟩ := R; exact hw.sees' (by first | exact le | exact LE.trans (by assumption) le) (by simp))
      obtain ⟨⟨A83, c83, rfl, hk83⟩, rfl⟩ := R
      have l_H_H83 : LE H H83 := l_H_H4.trans le83
      have l_H1_H83 : LE H1 H83 := l_H1_H4.trans le83
      have l_H2_H83 : LE H2 H83 := l_H2_H4.trans le83
      have l_H3_H83 : LE H3 H83 := l_H3_H4.trans le83
      have l_H4_H83 : LE H4 H83 := le83
      refine br0 ?_
      refine brl1 4 true (by kernel_rfl) (by kernel_rfl) (fun _ => h.st.sees' (by first | exact LE.rfl | assumption) (by simp)) ?_
      refine bsl bs22 h fun g84 a w h => ?_
      refine br0 ?_
      refine brl1 5 false (by kernel_rfl) (by kernel_rfl) (fun _ => h.st.sees' (by first | exact LE.rfl | assumption) (by simp)) ?_
      refine apb 3 0 (L' := fun i => _ :: _ :: _ :: i :: _) [_, _, _, _] row22 h ?_ ?_ fun v85 a w hone h => ?_
      ·omega
      ·omega
      obtain ⟨B2, cp2, rfl⟩ := h.rowv 3
      have hin : (bnd kd && k + 1 == ks.length) = false := by rw [c59]; have := ne_of_beq_false c67; simp; omega
      have hsucc : (renT (bnd kd) nm s' ks σ n1 (k + 1)) = ((renT (bnd kd) nm s' ks σ n1 k).1 ++ [(ks[k].ren σ (renT (bnd kd) nm s' ks σ n1 k).2).1], (ks[k].ren σ (renT (bnd kd) nm s' ks σ n1 k).2).2) := by rw [renT_succ c56, hin]; rfl
      have hrow2 : RowR RT 4 H83 (xs ++ [.int .i64 (ks[k].ren σ (renT (bnd kd) nm s' ks σ n1 k).2).1.kind, str (ks[k].ren σ (renT (bnd kd) nm s' ks σ n1 k).2).1.name, .int .i64 (ks[k].ren σ (renT (bnd kd) nm s' ks σ n1 k).2).1.n, .slice A83 (ks[k].ren σ (renT (bnd kd) nm s' ks σ n1 k).2).1.kids.length c83]) (renT (bnd kd) nm s' ks σ n1 (k + 1)).1 := by rw [hsucc]; exact (hrow.mono fun cs y _ hr => RT.mono l_H3_H83 y hr).snoc rfl (rt_of_vt (cs := [_, _, _, _]) ⟨A83, c83, rfl, hk83⟩)
      have hnx : (ks[k].ren σ (renT (bnd kd) nm s' ks σ n1 k).2).2 = (renT (bnd kd) nm s' ks σ n1 (k + 1)).2 := by rw [hsucc]
      rw [hnx] at h
      refine au [2,7,8,6,0,7,2,6] h ?_; intro a w h
      refine brl1 7 false (by kernel_rfl) (by kernel_rfl) (fun _ => h.st.sees' (by first | exact LE.rfl | assumption) (by simp)) ?_
      refine st4 (l := [_, _, _, _]) t1_22 h fun a w h => ?_
      refine br0 ?_
      refine en (by kernel_rfl) ?_
      refine au [1,7,1,0,0,5] h ?_
      have h := h.pull 2 rfl rfl
      have h := h.pull 2 rfl rfl
      have h := h.pull 5 rfl rfl
      have h := h.pull 5 rfl rfl
      have h := h.pull 5 rfl rfl
      have h := h.del 5
      refine inc ?_ h fun a w h => ?_
      ·omega
      refine au [0,0,0,3] h ?_; intro a w h
      exact ⟨(k + 1, H83, B2, cp2, _), ⟨⟨by omega, l_H2_H83, hrow2⟩, h.to 0 _⟩, by show _ - (k + 1) < _ - k; omega⟩
    ·refine au [0,0,0,1,0,1,0,1,0,1,0,1,0,1,5,0,0,3,2,1,1,8,1,0] h ?_; intro a w h
     refine rgx [1] [_] [1] 8 mix h (fun a w h => ?_)
     refine au [8,0,0,7,2,6,8,1,3,8,2,6,8,2,0,0,2,6] h ?_; intro a w h
     refine brl1 3 true (by kernel_rfl) (by kernel_rfl) (fun _ => h.st.sees' (by first | exact LE.rfl | assumption) (by simp)) ?_
     have h := h.pull 4 rfl rfl
     have h := h.pull 4 rfl rfl
     refine cl bod38 (kidr_ok ks k c56 (ih _ (List.getElem_mem c56) (by omega)) A c g2 g3 g9 gr gt σ f _ E H4 _ (hks2.up (l_H2_H4.trans LE.rfl)) (q2.mono (l_H2_H4.trans LE.rfl)) (q3.mono (l_H2_H4.trans LE.rfl)) ((Hc.of hf9 rfl).mono (LE.rfl)) (hL2.up (l_H2_H4.trans LE.rfl)) hf hnk) h (fun r83 H83 L83 a w le83 R h => ?_) (hS := fun _ _ _ _ _ le R hw => by obtain ⟨_, rfl⟩ := R; exact hw.sees' (by first | exact le | exact LE.trans (by assumption) le) (by simp))
     obtain ⟨⟨A83, c83, rfl, hk83⟩, rfl⟩ := R
     have l_H_H83 : LE H H83 := l_H_H4.trans le83
     have l_H1_H83 : LE H1 H83 := l_H1_H4.trans le83
     have l_H2_H83 : LE H2 H83 := l_H2_H4.trans le83
     have l_H3_H83 : LE H3 H83 := l_H3_H4.trans le83
     have l_H4_H83 : LE H4 H83 := le83
     refine br0 ?_
     refine brl1 4 true (by kernel_rfl) (by kernel_rfl) (fun _ => h.st.sees' (by first | exact LE.rfl | assumption) (by simp)) ?_
     refine bsl bs22 h fun g84 a w h => ?_
     refine br0 ?_
     refine brl1 5 false (by kernel_rfl) (by kernel_rfl) (fun _ => h.st.sees' (by first | exact LE.rfl | assumption) (by simp)) ?_
     refine apb 3 0 (L' := fun i => _ :: _ :: _ :: i :: _) [_, _, _, _] row22 h ?_ ?_ fun v85 a w hone h => ?_
     ·omega
     ·omega
     obtain ⟨B2, cp2, rfl⟩ := h.rowv 3
     have hin : (bnd kd && k + 1 == ks.length) = false := by rw [c59]; rfl
     have hsucc : (renT (bnd kd) nm s' ks σ n1 (k + 1)) = ((renT (bnd kd) nm s' ks σ n1 k).1 ++ [(ks[k].ren σ (renT (bnd kd) nm s' ks σ n1 k).2).1], (ks[k].ren σ (renT (bnd kd) nm s' ks σ n1 k).2).2) := by rw [renT_succ c56, hin]; rfl
     have hrow2 : RowR RT 4 H83 (xs ++ [.int .i64 (ks[k].ren σ (renT (bnd kd) nm s' ks σ n1 k).2).1.kind, str (ks[k].ren σ (renT (bnd kd) nm s' ks σ n1 k).2).1.name, .int .i64 (ks[k].ren σ (renT (bnd kd) nm s' ks σ n1 k).2).1.n, .slice A83 (ks[k].ren σ (renT (bnd kd) nm s' ks σ n1 k).2).1.kids.length c83]) (renT (bnd kd) nm s' ks σ n1 (k + 1)).1 := by rw [hsucc]; exact (hrow.mono fun cs y _ hr => RT.mono l_H3_H83 y hr).snoc rfl (rt_of_vt (cs := [_, _, _, _]) ⟨A83, c83, rfl, hk83⟩)
     have hnx : (ks[k].ren σ (renT (bnd kd) nm s' ks σ n1 k).2).2 = (renT (bnd kd) nm s' ks σ n1 (k + 1)).2 := by rw [hsucc]
     rw [hnx] at h
     refine au [2,7,8,6,0,7,2,6] h ?_; intro a w h
     refine brl1 7 false (by kernel_rfl) (by kernel_rfl) (fun _ => h.st.sees' (by first | exact LE.rfl | assumption) (by simp)) ?_
     refine st4 (l := [_, _, _, _]) t1_22 h fun a w h => ?_
     refine br0 ?_
     refine en (by kernel_rfl) ?_
     refine au [1,7,1,0,0,5] h ?_
     have h := h.pull 2 rfl rfl
     have h := h.pull 2 rfl rfl
     have h := h.pull 5 rfl rfl
     have h := h.pull 5 rfl rfl
     have h := h.pull 5 rfl rfl
     have h := h.del 5
     refine inc ?_ h fun a w h => ?_
     ·omega
     refine au [0,0,0,3] h ?_; intro a w h
     exact ⟨(k + 1, H83, B2, cp2, _), ⟨⟨by omega, l_H2_H83, hrow2⟩, h.to 0 _⟩, by show _ - (k + 1) < _ - k; omega⟩
   ·have hkk : k = ks.length := by simp at c56; omega
    refine au [2,5,2,2,2,2,2,3,1,0,1,2,3,4,5,7,0,3,1,3] h ?_; intro a w h
    obtain ⟨H5, le5, h, hrs⟩ := h.frw 0 hrow (renT_length hk).symm (fun H6 l6 cs y _ hr => RT.mono l6 y hr)
    have l_H_H5 : LE H H5 := l_H_H3.trans le5
    have l_H1_H5 : LE H1 H5 := l_H1_H3.trans le5
    have l_H2_H5 : LE H2 H5 := l_H2_H3.trans le5
    have l_H3_H5 : LE H3 H5 := le5
    have h := h.pull 3 rfl rfl
    have h := h.pull 3 rfl rfl
    have h := h.pull 3 rfl rfl
    have h := h.del 3
    have e : ((Tm.mk kd nm nn ks).ren σ n) = (.mk kd s' nn (renT (bnd kd) nm s' ks σ n1 k).1, (renT (bnd kd) nm s' ks σ n1 k).2) := by rw [hkk, renT_all]; simp only [Tm.ren]; rw [← hs', ← hn1]
    exact fin (rs := [.cell 4 24]) (vs := [.agg #[_, _, _, _]]) h rfl (.agg (k0 := 0) tN24 rfl rfl rfl .nil) rfl l_H_H5 ⟨LE.rfl, h.st.drop 1⟩ (by rw [e]; exact ⟨vt_of (renT_length hk).symm hrs, rfl⟩)
def noS : Bs → Option Bs := fun _ => none
theorem Rename_ok (t : Tm) (v : Value) (n : Int) (E : World) (H : GH) (L : List It) (hv : VT H v t) (hL : Laid H) (hn : In64 n) (hsz : t.size < 1000000000000) :
   Ok Tryz.prog 5 #[v, .int .i64 n] E H L fun r H' L' => ∃ v', r = .tuple #[v', .int .i64 (t.ren noS n).2] ∧ VT H' v' (t.ren noS n).1 ∧ L' = L := by
 have hv0 := hv
 obtain ⟨A, c, rfl, hks⟩ := hv
 have hv := hv0
 refine enter (N := 20) [(0, _), (1, _)] Tryz.func5 rfl rfl rfl rfl fun a w h => ?_
 refine au [1,2] h ?_
 refine bxA h fun g2 a w h => ?_
 refine al zr24 h fun g4 a w h => ?_
 refine au [0,6,0,2] h ?_; intro a w h
 refine mk0 (enc := encS) h fun gt a w h => ?_
 refine au [0,0,7,5] h ?_; intro a w h
 refine bxA h fun gr a w h => ?_
 refine au [0,6,0,2,0,0,3,6] h ?_; intro a w h
 have h := h.pull 1 rfl rfl
 have h := h.pull 1 rfl rfl
 refine cl bod18 (ren_ok t hsz _ E H _ gr gt (fun _ => none) (fun _ => none) n hv hL (fun _ => rfl) hn) h fun r14 H14 L14 a w le14 R h => ?_
 obtain ⟨⟨A14, c14, rfl, hk14⟩, rfl⟩ := R
 have l_H_H14 : LE H H14 := le14
 refine al zr24 h fun g7 a w h => ?_
 refine au [5,5,0,3,0,4] h ?_; intro a w h
 refine rgd [0, 1] [_, _] [1] [0, 4] 1 mix (by kernel_rfl) h (fun a w h => ?_)
 refine ldWD 0 tN24 h fun a w h => ?_
 refine au [0,0,7,2,0,7,4,3,5,8,0,6,0,3,1,3] h ?_; intro a w h
 exact fin (rs := [.cell 4 24, .tmp 5]) (vs := [.agg #[_, _, _, _], .int .i64 _]) h rfl (.agg (k0 := 3) tN24 rfl rfl rfl (.tmp rfl .nil)) rfl le14 ⟨LE.rfl, h.st.drop 5⟩ ⟨_, rfl, ⟨A14, c14, rfl, hk14⟩, rfl⟩
open Go.Proofs Go.RowKit Go.Shelf
theorem St.rowNil {E w : World} {H : GH} {L : List It} {e sz : Nat} (h : St E H L w) : St E H (.row (.slice none 0 0) e sz 0 [] :: L) w :=
 ⟨h.os, h.tape, h.output, h.fro, fun i hi => by
   cases hi with
   | head => exact World.ownsRow_nil _ _ _ _
   | tail _ hi => exact h.holds i hi, fun i hi g hg => by
   cases hi with
   | head => simp [It.own, Value.ownBlock] at hg
   | tail _ hi => exact h.off i hi g hg, List.pairwise_cons.2 ⟨fun i hi g hg => by simp [It.own, Value.ownBlock] at hg, h.apart⟩⟩
theorem grow_ok (n : Nat) (hn : n < 1000000000000) (E : World) (H : GH) (L : List It) : Ok Tryz.prog 43 #[.slice none 0 0, .int .i64 (n : Int)] E H L fun r H' L' => ∃ A c, r = .slice A 0 c ∧ H = H' ∧ L' = .row (.slice A 0 c) 59 3 0 [] :: L := fun w hw => by
 rcases Nat.eq_zero_or_pos n with rfl | hpos
 · exact (Any8.slices_Grow_room Tryz.grow43 none 0 0 0 w (by omega) (by omega) (by omega) (by omega)).mono fun e w' ⟨h, hw'⟩ => ⟨_, H, _, h, LE.rfl, by subst hw'; exact St.rowNil hw, none, 0, rfl, rfl, rfl⟩
 · obtain ⟨_, i, z, hi, hz, hs, hb, hzs, h0⟩ := row_of row25
   refine (Any8.slices_Grow_grow Tryz.grow43 i z hi hz (by rw [hs]; omega) none 0 0 n [] w (by omega) (by omega) (by rw [hb]; omega) (by omega) (by simp) (fun _ => rfl) (fun a h => by cases h)).mono fun e w' ⟨h, hw'⟩ => ?_
   have hge := grownCap_ge w (0 + n) 0 59
   have hle := grownCap_le_maxLen w (0 + n) 0 59 (by simp only [maxLen]; omega)
   refine ⟨_, H, _, h, LE.rfl, ?_, _, _, rfl, rfl, rfl⟩
   subst hw'
   have hd : St E H L w.drew := hw.drew _
   refine (hd.alloc _).set (k := 0) (i := .obj _ _) (j := .row (.slice (some ⟨w.heap.size, 0, none⟩) 0 (grownCap w (0 + n) 0 59)) 59 3 0 []) rfl ?_ (fun x hx => .inl (by simpa [It.own, Value.ownBlock] using hx)) rfl rfl rfl (fun _ _ _ => rfl)
   refine ⟨rfl, .inr ⟨w.heap.size, _, _, rfl, Nat.zero_le _, (hd.alloc _).holds _ (List.mem_cons_self ..), Nat.zero_le _, hle, ?_, by simp⟩⟩
   have e25 : Tryz.grow43_ren.t 25 = 59 := rfl
   simp only [Array.size_append, size_zeroCells, hzs, List.size_toArray, List.length_nil, e25]
   omega
def RCS (H : GH) (cs : List Value) (ds : List Dc) : Prop := ∃ A c, cs = [.slice A ds.length c] ∧ CS H A c ds
theorem rdc_one {H : GH} {ds : List Dc} : ∀ cs y, y ∈ ds → RDc H cs y → ∀ u ∈ cs, u.oneCell' = true := by
 intro cs y _ h u hu
 unfold RDc at h; subst h
 simp at hu; rcases hu with rfl | rfl | rfl <;> rfl
def lenS (dss : List (List Dc)) : Nat := (dss.map List.length).sum
theorem lenS_flat : ∀ dss : List (List Dc), dss.flatten.length = lenS dss
 | [] => rfl
 | d :: l => by simp [lenS, lenS_flat l]
theorem lenS_take {dss : List (List Dc)} {k : Nat} (h : k < dss.length) : lenS (dss.take (k + 1)) = lenS (dss.take k) + dss[k].length := by
 unfold lenS; rw [List.take_succ_eq_append_getElem h, List.map_append, List.sum_append]; simp
theorem lenS_le (dss : List (List Dc)) (k : Nat) : lenS (dss.take k) ≤ lenS dss := by
 rw [← lenS_flat, ← lenS_flat]
 conv => rhs; rw [← List.take_append_drop k dss, List.flatten_append, List.length_append]
 omega
theorem flat_take2 {dss : List (List Dc)} {k : Nat} (h : k < dss.length) : (dss.take (k + 1)).flatten = (dss.take k).flatten ++ dss[k] := by
 rw [List.take_succ_eq_append_getElem h, List.flatten_append]; simp
theorem Concat_ok (dss : List (List Dc)) (v : Value) (E : World) (H : GH) (L : List It) (hss : RS RCS 1 H v dss) (hb : lenS dss < 1000000000000) (hb2 : dss.length < 1000000000000) :
   Ok Tryz.prog 24 #[v] E H L fun r H' L' => ∃ B cp xs, r = .slice B dss.flatten.length cp ∧ H = H' ∧ L' = .row (.slice B dss.flatten.length cp) 59 3 dss.flatten.length xs :: L ∧ RowR RDc 3 H xs dss.flatten := by
 obtain ⟨A, c, rfl, hsc⟩ := id hss
 refine enter (N := 36) [(0, _)] Tryz.func24 rfl rfl rfl rfl fun a w h => ?_
 refine au [1,2,0,6,0,2,0,6,0,3,0,4,1,2,0,0,6,0,0,0,0,3,1,5] h ?_; intro a w h
 refine lp (β := Nat) (fun k a w => (k ≤ dss.length) ∧ S E H 36 [] [(11, .int .i64 (k : Int)), (10, .int .i64 (dss.length : Int)), (9, .slice A dss.length c), (0, .slice A dss.length c), (3, .int .i64 ((lenS (dss.take k) : Nat) : Int))] (L) a w)
  (fun k => dss.length - k) 0 ⟨Nat.zero_le _, h.to 0 _⟩ ?_
 rintro k a w ⟨pre, h⟩
 refine au [1,2,6,4,0,3,0,4] h ?_; intro a w h
 refine cdB h (fun c12 => ?_) (fun c12 => ?_)
 ·have c12 : k < dss.length := by simpa using c12
  obtain ⟨g, off, cs, rfl, hl, ⟨A2, c2, rfl, hds⟩, hcell⟩ := RS.at_ hss (List.getElem?_eq_getElem c12)
  have hts := lenS_take c12
  have hls := lenS_le dss (k + 1)
  refine au [1,8,1,0,0,4,1,5,1,2] h ?_
  refine ia sli100 sz25 rfl c12 h fun a w h => ?_
  refine ldH t1_25 (hcell 0 _ rfl) h fun a w h => ?_
  refine au [0,6,0,2,0,0,0,0,6,0] h ?_; intro a w h
  refine adr ((lenS (dss.take (k + 1)) : Nat) : Int) ?_ h fun a w h => ?_
  ·rw [w64 (by omega) (by omega)]; omega
  refine au [0,6,0,2,0,0,6,4,0,3] h ?_; intro a w h
  refine cdB h (fun c20 => ?_) (fun c20 => ?_)
  ·exact absurd (of_decide_eq_true c20) (by omega)
  ·refine au [1,8,1,7,1,0,0,5] h ?_
   refine inc ?_ h fun a w h => ?_
   ·omega
   refine au [0,0,0,3] h ?_; intro a w h
   exact ⟨(k + 1), ⟨by omega, h.to 0 _⟩, by show _ - (k + 1) < _ - k; omega⟩
 ·have hk : k = dss.length := by simp at c12; omega
  rw [hk, List.take_length] at h
  refine au [2,5,2,2,2,2,2,3,1,0,1,2,0,0] h ?_; intro a w h
  refine cl bod43 (grow_ok (lenS dss) hb E H _) h fun r24 H24 L24 a w le24 R h => ?_
  obtain ⟨A24, c24, rfl, rfl, rfl⟩ := R
  refine au [0,6,0,3,0,4,1,2,0,0,6,0,0,0,0,3,1,5] h ?_; intro a w h
  refine lp (β := Nat × Option Addr × Nat × Nat × List Value) (fun x a w => match x with | (k, B, n, cp, xs) => (k ≤ dss.length ∧ n = lenS (dss.take k) ∧ RowR RDc 3 H xs (dss.take k).flatten) ∧ S E H 36 [] [(27, .int .i64 (k : Int)), (26, .int .i64 (dss.length : Int)), (25, .slice A dss.length c), (6, .slice B n cp)] (.row (.slice B n cp) 59 3 n xs :: L) a w)
   (fun x => match x with | (k, B, n, cp, xs) => dss.length - k) (0, A24, 0, c24, []) ⟨⟨Nat.zero_le _, rfl, RowR.nil⟩, h.to 0 _⟩ ?_
  rintro ⟨k, B, n, cp, xs⟩ a w ⟨pre, h⟩
  obtain ⟨hk, hn, hrow⟩ := pre
  refine au [1,2,6,4,0,3,0,4] h ?_; intro a w h
  refine cdB h (fun c28 => ?_) (fun c28 => ?_)
  ·have c28 : k < dss.length := by simpa using c28
   obtain ⟨g, off, cs, rfl, hl, ⟨A2, c2, rfl, hds⟩, hcell⟩ := RS.at_ hss (List.getElem?_eq_getElem c28)
   have hts := lenS_take c28
   have hls := lenS_le dss (k + 1)
   refine au [1,8,1,0,0,4,1,5,1,2] h ?_
   refine ia sli100 sz25 rfl c28 h fun a w h => ?_
   refine ldH t1_25 (hcell 0 _ rfl) h fun a w h => ?_
   refine au [0,6,0,3,0,5,0,0,0,0] h ?_; intro a w h
   refine aps 0 (L' := fun i => i :: _) row25 hds rdc_one h ?_ ?_ fun v33 news a w hone hnews h => ?_
   ·omega
   ·omega
   obtain ⟨B2, cp2, rfl⟩ := h.rowv 0
   have hr2 : RowR RDc 3 H (xs ++ news) (dss.take (k + 1)).flatten := by rw [flat_take2 c28]; exact hrow.app hnews
   refine au [0,6,1,1,1,7,1,0,0,5] h ?_; intro a w h
   refine inc ?_ h fun a w h => ?_
   ·omega
   refine au [0,0,0,3] h ?_; intro a w h
   exact ⟨(k + 1, B2, _, cp2, _), ⟨⟨by omega, by rw [lenS_take c28, ← hn], hr2⟩, h.to 0 _⟩, by show _ - (k + 1) < _ - k; omega⟩
  ·have hkk : k = dss.length := by simp at c28; omega
   rw [hkk, List.take_length] at hrow hn
   rw [← lenS_flat] at hn
   subst hn
   refine au [2,5,2,2,2,2,2,3,1,0,1,2,0,0,0,6,0,3,1,3] h ?_; intro a w h
   refine fin1 2 0 h LE.rfl ?_
   exact ⟨B, cp, xs, rfl, rfl, rfl, hrow⟩
theorem contains_at {ss : List Bs} {s : Bs} {k : Nat} (hk : k < ss.length) (e : ss[k] = s) : ss.contains s = true := by
 rw [List.contains_iff_mem]; exact e ▸ List.getElem_mem hk
theorem contains_no {ss : List Bs} {s : Bs} (h : ∀ j (hj : j < ss.length), ss[j] ≠ s) : ss.contains s = false := by
 rw [Bool.eq_false_iff, ne_eq, List.contains_iff_mem]
 intro hm
 obtain ⟨j, hj, e⟩ := List.getElem_of_mem hm
 exact h j hj e
theorem upto {k j : Nat} (h : j < k + 1) : j < k ∨ j = k := by omega
theorem map_take_succ {α β : Type} {f : α → β} {xs : List α} {k : Nat} (h : k < xs.length) : (xs.take (k + 1)).map f = (xs.take k).map f ++ [f xs[k]] := by
 rw [List.take_succ_eq_append_getElem h, List.map_append]; rfl
theorem take_snoc {α : Type} {xs : List α} {k : Nat} (h : k < xs.length) : xs.take (k + 1) = xs.take k ++ [xs[k]] := List.take_succ_eq_append_getElem h
structure Bn where
 name : Bs
 to : Bs
def RBn (_H : GH) (cs : List Value) (x : Bn) : Prop := cs = [str x.name, str x.to]
theorem RBn.mono {H H' : GH} (hl : LE H H') (x : Bn) {cs : List Value} (h : RBn H cs x) : RBn H' cs x := h
def VBn (_H : GH) (v : Value) (x : Bn) : Prop := v = .agg #[str x.name, str x.to]
theorem rbn_of_v {H : GH} {cs : List Value} {x : Bn} (h : VBn H (.agg cs.toArray) x) : RBn H cs x := by
 unfold VBn at h; unfold RBn
 have := congrArg (fun v => match v with | .agg a => a.toList | _ => []) h
 have t3 := this
 simp at t3
 exact t3
abbrev BnS (H : GH) (A : Option Addr) (c : Nat) (xs : List Bn) : Prop := RS RBn 2 H (.slice A xs.length c) xs
theorem BnS.up {H H' : GH} {A : Option Addr} {c : Nat} {xs : List Bn} (h : BnS H A c xs) (hl : LE H H') : BnS H' A c xs := RS.mono h hl fun _ x _ h => RBn.mono hl x h
theorem BnS.get {H : GH} {A : Option Addr} {c : Nat} {xs : List Bn} (h : BnS H A c xs) {j : Nat} (hj : j < xs.length) :
   ∃ g off, A = some ⟨g, off, none⟩ ∧ VBn H (.agg #[str xs[j].name, str xs[j].to]) xs[j] ∧ ∀ i u, [str xs[j].name, str xs[j].to][i]? = some u → Hc H g (off + j * 2 + i) u := by
 obtain ⟨g, off, cs, hA, hl, hr, hc⟩ := RS.at_ h (List.getElem?_eq_getElem hj)
 unfold RBn at hr; subst hr
 exact ⟨g, off, hA, rfl, hc⟩
structure Tkl where
 l : List Tk
def RTkl (H : GH) (cs : List Value) (x : Tkl) : Prop := ∃ A0 c0, cs = [.slice A0 x.l.length c0] ∧ RS RTk 3 H (.slice A0 x.l.length c0) x.l
theorem rtkl_iff {H : GH} {cs : List Value} {x : Tkl} : RTkl H cs x ↔ ∃ A0 c0, cs = [.slice A0 x.l.length c0] ∧ RS RTk 3 H (.slice A0 x.l.length c0) x.l := Iff.rfl
theorem RTkl.mono {H H' : GH} (hl : LE H H') (x : Tkl) {cs : List Value} (h : RTkl H cs x) : RTkl H' cs x := let ⟨A0, c0, e, h0⟩ := h; ⟨A0, c0, e, h0.mono hl fun _ _ _ hr => id hr⟩
def VTkl (H : GH) (v : Value) (x : Tkl) : Prop := ∃ A0 c0, v = .agg #[.slice A0 x.l.length c0] ∧ RS RTk 3 H (.slice A0 x.l.length c0) x.l
theorem rtkl_of_v {H : GH} {cs : List Value} {x : Tkl} (h : VTkl H (.agg cs.toArray) x) : RTkl H cs x := by
 obtain ⟨A0, c0, e, h0⟩ := h
 rw [rtkl_iff]
 refine ⟨A0, c0, ?_, h0⟩
 have := congrArg (fun v => match v with | .agg a => a.toList | _ => []) e
 have t3 := this
 simp at t3
 exact t3
abbrev TklS (H : GH) (A : Option Addr) (c : Nat) (xs : List Tkl) : Prop := RS RTkl 1 H (.slice A xs.length c) xs
theorem TklS.up {H H' : GH} {A : Option Addr} {c : Nat} {xs : List Tkl} (h : TklS H A c xs) (hl : LE H H') : TklS H' A c xs := RS.mono h hl fun _ x _ h => RTkl.mono hl x h
theorem TklS.get {H : GH} {A : Option Addr} {c : Nat} {xs : List Tkl} (h : TklS H A c xs) {j : Nat} (hj : j < xs.length) :
   ∃ g off A0 c0, A = some ⟨g, off, none⟩ ∧ VTkl H (.agg #[.slice A0 xs[j].l.length c0]) xs[j] ∧ ∀ i u, [.slice A0 xs[j].l.length c0][i]? = some u → Hc H g (off + j * 1 + i) u := by
 obtain ⟨g, off, cs, hA, hl, hr, hc⟩ := RS.at_ h (List.getElem?_eq_getElem hj)
 rw [rtkl_iff] at hr
 obtain ⟨A0, c0, rfl, h0⟩ := hr
 exact ⟨g, off, A0, c0, hA, ⟨A0, c0, rfl, h0⟩, hc⟩
def manyR (k : Int) : Int := if k == 1 || k == 2 then 0 else if k == 3 || (k == 8 || k == 10) then 1 else if k == 4 || (k == 5 || (k == 7 || (k == 9 || (k == 11 || (k == 12 || k == 13))))) then 2 else if k == 6 then 3 else -1
theorem many_eq (k : Int) : manyR k = if k < 1 ∨ 14 ≤ k then -1 else kidsL.getD k.toNat (-1) := by
 by_cases h : k < 1 ∨ 14 ≤ k
 · rw [if_pos h]
   unfold manyR
   have h1 : (k == 1) = false := by simp; omega
   have h2 : (k == 2) = false := by simp; omega
   have h3 : (k == 3) = false := by simp; omega
   have h4 : (k == 4) = false := by simp; omega
   have h5 : (k == 5) = false := by simp; omega
   have h6 : (k == 6) = false := by simp; omega
   have h7 : (k == 7) = false := by simp; omega
   have h8 : (k == 8) = false := by simp; omega
   have h9 : (k == 9) = false := by simp; omega
   have h10 : (k == 10) = false := by simp; omega
   have h11 : (k == 11) = false := by simp; omega
   have h12 : (k == 12) = false := by simp; omega
   have h13 : (k == 13) = false := by simp; omega
   simp [h1, h2, h3, h4, h5, h6, h7, h8, h9, h10, h11, h12, h13]
 · rw [if_neg h]
   have : k = 1 ∨ k = 2 ∨ k = 3 ∨ k = 4 ∨ k = 5 ∨ k = 6 ∨ k = 7 ∨ k = 8 ∨ k = 9 ∨ k = 10 ∨ k = 11 ∨ k = 12 ∨ k = 13 := by omega
   rcases this with rfl | rfl | rfl | rfl | rfl | rfl | rfl | rfl | rfl | rfl | rfl | rfl | rfl <;> rfl
def nodeR (k : Int) (s : Bs) (n : Int) (l : Nat) : Bool :=
 if manyR k != (l : Int) || ((k != 1 && n != 0) || (decide (n < 0) || decide (2147483648 ≤ n))) then false
 else if k == 12 then opsL.contains s else if k == 2 || bnd k then wordB s else decide (s = [])
theorem nodeR_eq (k : Int) (s : Bs) (n : Int) (l : Nat) : nodeR k s n l = nodeB k s n l := by
 unfold nodeR nodeB
 rw [many_eq]
 by_cases h : k < 1 ∨ 14 ≤ k
 · rw [if_pos h]
   have e1 : ((-1 : Int) != (l : Int)) = true := by simp
   have e2 : (decide (k < 1) || decide (14 ≤ k)) = true := by simpa using h
   rw [e1]
   simp only [Bool.true_or, if_true]
   rw [← Bool.or_assoc, e2]; rfl
 · rw [if_neg h]
   have e1 : decide (k < 1) = false := by simp; omega
   have e2 : decide (14 ≤ k) = false := by simp; omega
   rw [e1, e2]
   simp only [Bool.false_or]
   have e3 : ((l : Int) != kidsL.getD k.toNat (-1)) = (kidsL.getD k.toNat (-1) != (l : Int)) := by rw [Bool.eq_iff_iff, bne_iff_ne, bne_iff_ne]; exact ⟨Ne.symm, Ne.symm⟩
   rw [e3]
   by_cases hc : (kidsL.getD k.toNat (-1) != (l : Int)) = true
   · rw [hc]; simp
   · have hc : (kidsL.getD k.toNat (-1) != (l : Int)) = false := by simpa using hc
     rw [hc]
     simp only [Bool.false_or]
     have e4 : ((k != 1 && n != 0) || (decide (n < 0) || decide (2147483648 ≤ n))) = (decide (n < 0) || (decide (2147483648 ≤ n) || (k != 1 && n != 0))) := by
       cases (k != 1 && n != 0) <;> cases decide (n < 0) <;> cases decide (2147483648 ≤ n) <;> rfl
     rw [e4]
     by_cases hd : (decide (n < 0) || (decide (2147483648 ≤ n) || (k != 1 && n != 0))) = true
     · rw [hd]; simp
     · have hd : (decide (n < 0) || (decide (2147483648 ≤ n) || (k != 1 && n != 0))) = false := by simpa using hd
       rw [hd]
       simp only [Bool.not_false, Bool.true_and, Bool.false_eq_true, if_false]
       by_cases h12 : k = 12
       · subst h12; rfl
       · have e5 : (k == 12) = false := by simpa using h12
         rw [e5, Bool.or_comm (k == 2)]
         simp [wordB]
def lettR (c : UInt8) : Bool := (decide ((97 : Int) ≤ (c.toNat : Int)) && decide ((c.toNat : Int) ≤ 122)) || (decide ((65 : Int) ≤ (c.toNat : Int)) && decide ((c.toNat : Int) ≤ 90))
theorem lett_eq (c : UInt8) : letterB c = lettR c := by
 have h : ∀ n : Fin 256, letterB (UInt8.ofNat n.val) = lettR (UInt8.ofNat n.val) := by decide +kernel
 have := h ⟨c.toNat, c.toNat_lt⟩
 simpa using this
theorem ok_eq {s : Bs} {k : Nat} (h : k < s.length) : okAt s k = (lettR s[k] || ((k : Int) != 0 && digitB s[k])) := by
 unfold okAt
 have e : s.getD k 0 = s[k] := by rw [List.getD_eq_getElem?_getD, List.getElem?_eq_getElem h]; rfl
 have e2 : (k != 0) = ((k : Int) != 0) := by rw [Bool.eq_iff_iff]; simp
 rw [e, lett_eq, e2]
theorem nameB_out {s : Bs} (h : (decide (((s.length : Int) : Int) < 1) || decide ((16 : Int) < (s.length : Int))) = true) : nameB s = false := by
 unfold nameB
 have : (decide ((0 : Int) < (s.length : Int)) && decide ((s.length : Int) ≤ 16)) = false := by
   simp only [Bool.or_eq_true, decide_eq_true_eq] at h
   simp only [Bool.and_eq_false_iff, decide_eq_false_iff_not]
   omega
 rw [this, Bool.and_false]
theorem nameB_all {s : Bs} (h : (decide (((s.length : Int) : Int) < 1) || decide ((16 : Int) < (s.length : Int))) = false) (ha : ∀ j, j < s.length → okAt s j = true) : nameB s = true := by
 rw [nameB_yes ha]
 simp only [Bool.or_eq_false_iff, decide_eq_false_iff_not] at h
 simp only [Bool.and_eq_true, decide_eq_true_eq]
 omega
theorem nodes_no {kd : Int} {nm : Bs} {nn : Int} {ks : List Tm} {k : Nat} (hk : k < ks.length) (h : ks[k].wrong = true) : (!(Tm.mk kd nm nn ks).wrong) = false := by
 have : wrongL ks = true := by rw [wrongL_any, List.any_eq_true]; exact ⟨_, List.getElem_mem hk, h⟩
 simp [Tm.wrong, this]
theorem nodes_yes {kd : Int} {nm : Bs} {nn : Int} {ks : List Tm} (h0 : nodeB kd nm nn ks.length = true) (h : ∀ j (hj : j < ks.length), ks[j].wrong = false) : (!(Tm.mk kd nm nn ks).wrong) = true := by
 have : wrongL ks = false := by
   rw [wrongL_any, List.any_eq_false]
   intro x hx
   obtain ⟨j, hj, rfl⟩ := List.getElem_of_mem hx
   rw [h j hj]; simp
 simp [Tm.wrong, this, h0]
theorem same_no {a b : Tm} (h : a ≠ b) : a.same b = false := by
 rw [Bool.eq_false_iff]; exact fun e => h ((same_iff a b).1 e)
theorem same_at {kd kd' n n' : Int} {s s' : Bs} {ks ks' : List Tm} {k : Nat} (h1 : k < ks.length) (h2 : k < ks'.length) (h : ks[k].same ks'[k] = false) : (Tm.mk kd s n ks).same (.mk kd' s' n' ks') = false :=
 same_no fun e => by
   injection e with _ _ _ e
   subst e
   rw [(same_iff _ _).2 rfl] at h; cases h
theorem same_yes {kd n : Int} {s : Bs} {ks ks' : List Tm} (hl : ks.length = ks'.length) (h : ∀ j (h1 : j < ks.length) (h2 : j < ks'.length), ks[j].same ks'[j] = true) : (Tm.mk kd s n ks).same (.mk kd s n ks') = true := by
 rw [same_iff]
 congr 1
 exact List.ext_getElem hl fun j h1 h2 => (same_iff _ _).1 (h j h1 h2)
def lookR (l : List Bn) (x : Bs) : Option Bs := l.foldl (fun a b => if b.name = x then some b.to else a) none
theorem lookR_snoc (l : List Bn) (s s' : Bs) : lookR (l ++ [⟨s, s'⟩]) = updS (lookR l) s s' := by
 funext x
 unfold lookR updS
 rw [List.foldl_append]
 simp only [List.foldl_cons, List.foldl_nil]
 by_cases h : x = s
 · subst h; simp
 · rw [if_neg h, if_neg fun e => h e.symm]
theorem lookR_take {l : List Bn} {k : Nat} (h : k < l.length) (x : Bs) : lookR (l.take (k + 1)) x = if l[k].name = x then some l[k].to else lookR (l.take k) x := by
 unfold lookR
 rw [List.take_add_one, List.getElem?_eq_getElem h, Option.toList_some, List.foldl_append]
 rfl
theorem dec_step {n : Nat} (h : 9 < n) (s : Bs) : Lib.decDigits n ++ s = Lib.decDigits (n / 10) ++ (UInt8.ofNat (48 + n % 10) :: s) := by
 rw [Lib.decDigits, dif_neg (by omega)]
 simp
theorem dec_last {n : Nat} (h : n ≤ 9) : Lib.decDigits n = [UInt8.ofNat (48 + n)] := by
 rw [Lib.decDigits, dif_pos (by omega)]
theorem dec_len {m : Nat} (h : m ≤ 9223372036854775808) : (Lib.decDigits m).length ≤ 20 := by
 rw [Lib.decDigits_length]; exact Lib.nDigits_le20 m (by omega)
theorem dec_pre {m q : Nat} {s : Bs} (hm : m ≤ 9223372036854775808) (h : Lib.decDigits m = Lib.decDigits q ++ s) : s.length ≤ 20 := by
 have h1 := dec_len hm; rw [h, List.length_append] at h1; omega
theorem itoa_nat (n : Nat) : Lib.itoa (n : Int) = Lib.decDigits n := by
 unfold Lib.itoa; rw [if_neg (by omega)]; rfl
theorem itoa_neg {n : Int} (h : n < 0) : Lib.itoa n = [45] ++ Lib.decDigits n.natAbs := by
 unfold Lib.itoa; rw [if_pos h]; rfl
def AddP (l : List Bs) (s : Bs) (r : List Bs) : Prop := (∀ x, x ∈ r ↔ x ∈ l ∨ x = s) ∧ r.length ≤ l.length + 1
theorem add_in {l : List Bs} {s : Bs} {k : Nat} (hk : k < l.length) (h : l[k] = s) : AddP l s l := ⟨fun x => ⟨.inl, fun e => e.elim id fun e => by rw [e, ← h]; exact List.getElem_mem hk⟩, Nat.le_succ _⟩
theorem add_new {l : List Bs} {s : Bs} {k : Nat} (hk : k ≤ l.length) : AddP l s ((l.take k ++ [s]) ++ l.drop k) := by
 refine ⟨fun x => ?_, by simp; omega⟩
 have e : l = l.take k ++ l.drop k := (List.take_append_drop k l).symm
 constructor
 · intro hx
   simp only [List.mem_append, List.mem_singleton] at hx
   rw [e, List.mem_append]
   rcases hx with (hx | hx) | hx
   · exact .inl (.inl hx)
   · exact .inr hx
   · exact .inl (.inr hx)
 · intro hx
   rw [e, List.mem_append] at hx
   simp only [List.mem_append, List.mem_singleton]
   rcases hx with (hx | hx) | hx
   · exact .inl (.inl hx)
   · exact .inr hx
   · exact .inl (.inr hx)
theorem inc1_comm (b : Bs → Nat) (s s' : Bs) : inc1 (inc1 b s) s' = inc1 (inc1 b s') s := by
 funext x
 unfold inc1
 by_cases h : x = s
 · by_cases h' : x = s'
   · rw [if_pos h', if_pos h, if_pos h, if_pos h']
   · rw [if_neg h', if_pos h, if_pos h, if_neg h']
 · by_cases h' : x = s'
   · rw [if_pos h', if_neg h, if_neg h, if_pos h']
   · rw [if_neg h', if_neg h, if_neg h, if_neg h']
mutual
theorem fr_inc : ∀ (t : Tm) (b : Bs → Nat) (s x : Bs), t.fr (inc1 b s) x = (t.fr b x && decide (x ≠ s))
 | .mk k s0 n ks, b, s, x => by
   simp only [Tm.fr]
   rw [frL_inc (bnd k) s0 ks b s x, Bool.and_or_distrib_right]
   congr 1
   by_cases hx : x = s0
   · subst hx
     by_cases hs : x = s
     · subst hs; simp [inc1]
     · simp [inc1, hs]
   · simp [hx]
theorem frL_inc (bd : Bool) (s0 : Bs) : ∀ (l : List Tm) (b : Bs → Nat) (s x : Bs), frL bd s0 l (inc1 b s) x = (frL bd s0 l b x && decide (x ≠ s))
 | [], _, _, _ => by simp [frL]
 | t :: l, b, s, x => by
   simp only [frL]
   rw [frL_inc bd s0 l b s x, Bool.and_or_distrib_right]
   congr 1
   by_cases h : (bd && l.isEmpty) = true
   · rw [if_pos h, if_pos h, inc1_comm, fr_inc t]
   · rw [if_neg h, if_neg h, fr_inc t]
end
theorem frL_iff (bd : Bool) (s x : Bs) (b : Bs → Nat) : ∀ l : List Tm, frL bd s l b x = true ↔ ∃ i, ∃ h : i < l.length, l[i].fr b x = true ∧ ¬ ((bd = true ∧ i + 1 = l.length) ∧ x = s)
 | [] => by simp [frL]
 | t :: l => by
   simp only [frL, Bool.or_eq_true]
   rw [frL_iff bd s x b l]
   have h0 : t.fr (if bd && l.isEmpty then inc1 b s else b) x = true ↔ t.fr b x = true ∧ ¬ ((bd = true ∧ l.length = 0) ∧ x = s) := by
     by_cases h : (bd && l.isEmpty) = true
     · rw [if_pos h, fr_inc]
       simp only [Bool.and_eq_true, List.isEmpty_iff] at h
       obtain ⟨rfl, rfl⟩ := h
       simp
     · rw [if_neg h]
       have : ¬ (bd = true ∧ l.length = 0) := fun ⟨a, c⟩ => h (by rw [a, List.length_eq_zero_iff.1 c]; rfl)
       exact ⟨fun q => ⟨q, fun e => this e.1⟩, fun q => q.1⟩
   rw [h0]
   constructor
   · rintro (⟨h1, h2⟩ | ⟨i, hi, h1, h2⟩)
     · exact ⟨0, by simp, h1, by simpa using h2⟩
     · exact ⟨i + 1, by simpa using hi, by simpa using h1, by simpa using h2⟩
   · rintro ⟨i, hi, h1, h2⟩
     cases i with
     | zero => exact .inl ⟨by simpa using h1, by simpa using h2⟩
     | succ i => exact .inr ⟨i, by simpa using hi, by simpa using h1, by simpa using h2⟩
def FreeK (kd : Int) (s : Bs) (ks : List Tm) (k : Nat) (x : Bs) : Prop := (kd = 2 ∧ x = s) ∨ ∃ i, ∃ h : i < ks.length, i < k ∧ ks[i].fr none0 x = true ∧ ¬ ((bnd kd = true ∧ i + 1 = ks.length) ∧ x = s)
theorem freeK_all (kd : Int) (s : Bs) (n : Int) (ks : List Tm) (x : Bs) : (Tm.mk kd s n ks).fr none0 x = true ↔ FreeK kd s ks ks.length x := by
 simp only [Tm.fr, Bool.or_eq_true, frL_iff, FreeK]
 refine or_congr (by simp [none0]) ⟨fun ⟨i, h, a⟩ => ⟨i, h, h, a⟩, fun ⟨i, h, _, a⟩ => ⟨i, h, a⟩⟩
theorem freeK_zero (kd : Int) (s : Bs) (ks : List Tm) (x : Bs) : FreeK kd s ks 0 x ↔ kd = 2 ∧ x = s := by simp [FreeK]
theorem freeK_succ {kd : Int} {s : Bs} {ks : List Tm} {k : Nat} (hk : k < ks.length) (x : Bs) : FreeK kd s ks (k + 1) x ↔ FreeK kd s ks k x ∨ (ks[k].fr none0 x = true ∧ ¬ ((bnd kd = true ∧ k + 1 = ks.length) ∧ x = s)) := by
 unfold FreeK
 constructor
 · rintro (h | ⟨i, hi, h1, h2⟩)
   · exact .inl (.inl h)
   · by_cases e : i = k
     · subst e; exact .inr h2
     · exact .inl (.inr ⟨i, hi, by omega, h2⟩)
 · rintro ((h | ⟨i, hi, h1, h2⟩) | h)
   · exact .inl h
   · exact .inr ⟨i, hi, by omega, h2⟩
   · exact .inr ⟨k, hk, by omega, h⟩
theorem strange_list {t : Tm} {known fs : List Bs} (h : ∀ x, x ∈ fs ↔ t.fr none0 x = true) : t.strange known = fs.any fun x => !known.contains x := by
 unfold Tm.strange
 rw [Bool.eq_iff_iff, List.any_eq_true, List.any_eq_true]
 constructor
 · rintro ⟨x, _, hx⟩
   simp only [Bool.and_eq_true] at hx
   exact ⟨x, (h x).2 hx.1, hx.2⟩
 · rintro ⟨x, hx, hk⟩
   have hf := (h x).1 hx
   exact ⟨x, fr_names t _ x hf, by simp only [Bool.and_eq_true]; exact ⟨hf, hk⟩⟩
theorem getD_at {l : List Bs} {i : Nat} (h : i < l.length) : l.getD i [] = l[i] := by rw [List.getD_eq_getElem?_getD, List.getElem?_eq_getElem h]; rfl
theorem index_lt {l : List Bs} {i : Nat} (h : i < l.length) : decide (indexL l l[i] < (i : Int)) = (l.take i).contains l[i] := by
 unfold indexL
 cases e : l.findIdx? (· == l[i]) with
 | none =>
   rw [List.findIdx?_eq_none_iff] at e
   have := e l[i] (List.getElem_mem h)
   simp at this
 | some j =>
   rw [List.findIdx?_eq_some_iff_getElem] at e
   obtain ⟨hj, h1, h2⟩ := e
   simp only [beq_iff_eq] at h1
   rw [Bool.eq_iff_iff, decide_eq_true_eq, List.contains_iff_mem]
   constructor
   · intro hlt
     rw [← h1]
     have hlt : (j : Int) < (i : Int) := hlt
     have hlt : j < i := by omega
     rw [show l[j] = (l.take i)[j]'(by simp; omega) by simp]
     exact List.getElem_mem _
   · intro hm
     obtain ⟨q, hq, e⟩ := List.getElem_of_mem hm
     simp at hq
     rcases Nat.lt_or_ge q j with hc | hc
     · have := h2 q hc
       simp at e
       simp [e] at this
     · show (j : Int) < i; omega
theorem twice_eq (p : Pg) : p.twice = (List.range (p.known p.defs.length).length).any fun i => ((p.known p.defs.length).take i).contains ((p.known p.defs.length).getD i []) := by
 unfold Pg.twice
 rw [Bool.eq_iff_iff, List.any_eq_true, List.any_eq_true]
 refine ⟨fun ⟨i, hi, h⟩ => ⟨i, hi, ?_⟩, fun ⟨i, hi, h⟩ => ⟨i, hi, ?_⟩⟩
 · have hi' := List.mem_range.1 hi
   rw [getD_at hi'] at h ⊢
   rw [← index_lt hi']; exact h
 · have hi' := List.mem_range.1 hi
   rw [getD_at hi'] at h ⊢
   rw [index_lt hi']; exact h
theorem twice_t {p : Pg} {i : Nat} (hi : i < (p.known p.defs.length).length) (h : ((p.known p.defs.length).take i).contains (p.known p.defs.length)[i] = true) : p.twice = true := by
 rw [twice_eq, List.any_eq_true]
 exact ⟨i, List.mem_range.2 hi, by rw [getD_at hi]; exact h⟩
theorem twice_f {p : Pg} (h : ∀ i (hi : i < (p.known p.defs.length).length), ((p.known p.defs.length).take i).contains (p.known p.defs.length)[i] = false) : p.twice = false := by
 rw [twice_eq, List.any_eq_false]
 intro i hi
 have hi' := List.mem_range.1 hi
 rw [getD_at hi', h i hi']
 simp
theorem mx3_le (a b c d : Int) : mx3 a b c ≤ d ↔ a ≤ d ∧ b ≤ d ∧ c ≤ d := by
 unfold mx3
 by_cases h : a < b
 · simp only [if_pos h]
   by_cases h2 : b < c
   · rw [if_pos h2]; omega
   · rw [if_neg h2]; omega
 · simp only [if_neg h]
   by_cases h2 : a < c
   · rw [if_pos h2]; omega
   · rw [if_neg h2]; omega
def dcB (most : Int) (d : Dc) : Bool := wordB d.name && (wordB d.label && (decide (0 ≤ d.n) && decide (d.n < most)))
def declsB (l : List Dc) (most : Int) : Bool := l.all (dcB most) && decide ((l.length : Int) ≤ 32)
theorem dc_wrong (d : Dc) : d.wrong = !dcB 2147483648 d := by
 unfold Dc.wrong dcB
 have e1 : decide (d.n < 0) = !decide (0 ≤ d.n) := by rw [Bool.eq_iff_iff]; simp
 have e2 : decide (2147483648 ≤ d.n) = !decide (d.n < 2147483648) := by rw [Bool.eq_iff_iff]; simp
 rw [e1, e2]
 simp [Bool.not_and]
theorem dc_in (d : Dc) : dcB 1 d = (!d.wrong && !(d.n != 0)) := by
 rw [dc_wrong]
 unfold dcB
 rw [Bool.eq_iff_iff]
 cases wordB d.name <;> cases wordB d.label <;> simp <;> omega
theorem fits_eq (p : Pg) : p.fits = (p.defs.all (fun d => !d.wrong) && (declsB p.inputs 1 && (declsB p.cells 2147483648 && (decide ((p.defs.length : Int) ≤ 32) && p.body.right)))) := by
 unfold Pg.fits Pg.bad declsB
 rw [Bool.eq_iff_iff]
 simp only [Bool.and_eq_true, Bool.not_eq_true', Bool.or_eq_false_iff, List.any_eq_false, List.all_eq_true, decide_eq_true_eq, mx3_le, dc_in, dc_wrong]
 constructor
 · rintro ⟨⟨h1, h2, h3, h4⟩, ⟨h5, h6, h7⟩, h8⟩
   exact ⟨fun d hd => by simpa using h4 d hd, ⟨fun d hd => ⟨by simpa using h1 d hd, by simpa using h2 d hd⟩, h5⟩, ⟨fun d hd => by simpa using h3 d hd, h6⟩, h7, h8⟩
 · rintro ⟨h4, ⟨h12, h5⟩, ⟨h3, h6⟩, h7, h8⟩
   exact ⟨⟨fun d hd => by simpa using (h12 d hd).1, fun d hd => by simpa using (h12 d hd).2, fun d hd => by simpa using h3 d hd, fun d hd => by simpa using h4 d hd⟩, ⟨h5, h6, h7⟩, h8⟩
theorem declsB_no {l : List Dc} {most : Int} {k : Nat} (hk : k < l.length) (h : dcB most l[k] = false) : declsB l most = false := by
 have : l.all (dcB most) = false := by rw [List.all_eq_false]; exact ⟨_, List.getElem_mem hk, by simp [h]⟩
 simp [declsB, this]
theorem declsB_yes {l : List Dc} {most : Int} (h : ∀ j (hj : j < l.length), dcB most l[j] = true) : declsB l most = decide ((l.length : Int) ≤ 32) := by
 have : l.all (dcB most) = true := by
   rw [List.all_eq_true]
   intro x hx
   obtain ⟨j, hj, rfl⟩ := List.getElem_of_mem hx
   exact h j hj
 unfold declsB
 rw [this, Bool.true_and]
theorem short_no {p : Pg} {k : Nat} (hk : k < p.defs.length) (h : p.defs[k].wrong = true) : p.fits = false := by
 have : (p.defs.all fun d => !d.wrong) = false := by rw [List.all_eq_false]; exact ⟨_, List.getElem_mem hk, by simp [h]⟩
 rw [fits_eq, this]; rfl
theorem short_yes {p : Pg} (h : ∀ j (hj : j < p.defs.length), p.defs[j].wrong = false) : p.fits = (declsB p.inputs 1 && (declsB p.cells 2147483648 && (decide ((p.defs.length : Int) ≤ 32) && p.body.right))) := by
 have : (p.defs.all fun d => !d.wrong) = true := by
   rw [List.all_eq_true]
   intro x hx
   obtain ⟨j, hj, rfl⟩ := List.getElem_of_mem hx
   rw [h j hj]; rfl
 rw [fits_eq, this, Bool.true_and]
@[inline] def Dc.eqb (x y : Dc) : Bool := decide (x.name = y.name) && (decide (x.label = y.label) && ((x.n == y.n) && true))
@[simp] theorem Dc.eqb_iff {x y : Dc} : Dc.eqb x y = true ↔ x = y := by
 cases x; cases y; simp [Dc.eqb]
@[simp] theorem Dc.eqb_no {x y : Dc} : Dc.eqb x y = false ↔ x ≠ y := by rw [ne_eq, ← Dc.eqb_iff, Bool.not_eq_true]
def Df.same (x y : Df) : Bool := decide (x.name = y.name) && x.t.same y.t
theorem Df.same_iff {x y : Df} : x.same y = true ↔ x = y := by
 cases x; cases y; simp [Df.same, Go.Proofs.YtdabamobjciidaaGreatDoor.same_iff]
instance : DecidableEq Dc := fun x y => decidable_of_iff _ (Dc.eqb_iff (x := x) (y := y))
theorem eqDc_len {xs ys : List Dc} (h : xs.length ≠ ys.length) : decide (xs = ys) = false := by simp; intro e; exact h (by rw [e])
theorem eqDc_at {xs ys : List Dc} {k : Nat} (h1 : k < xs.length) (h2 : k < ys.length) (h : xs[k] ≠ ys[k]) : decide (xs = ys) = false := by simp; intro e; subst e; exact h rfl
theorem eqDc_yes {xs ys : List Dc} (hl : xs.length = ys.length) (h : ∀ j (h1 : j < xs.length) (h2 : j < ys.length), xs[j] = ys[j]) : decide (xs = ys) = true := by simp; exact List.ext_getElem hl h
theorem join_snoc (l : List Bs) (x s : Bs) : Lib.join (l ++ [x]) s = (if l = [] then [] else Lib.join l s ++ s) ++ x := by
 cases l with
 | nil => simp [Lib.join_cons, Lib.joinTail]
 | cons a l =>
   rw [if_neg (by simp)]
   simp only [List.cons_append, Lib.join_cons]
   have : ∀ m : List Bs, Lib.joinTail s (m ++ [x]) = Lib.joinTail s m ++ (s ++ x) := fun m => by simp [Lib.joinTail]
   rw [this]
   simp
theorem showL_take {l : List Tk} {k : Nat} (h : k < l.length) : showL (l.take (k + 1)) = (if k = 0 then [] else showL (l.take k) ++ [32]) ++ l[k].text := by
 unfold showL
 rw [List.take_add_one, List.getElem?_eq_getElem h, Option.toList_some, List.map_append, List.map_cons, List.map_nil, join_snoc]
 congr 1
 cases k with
 | zero => simp
 | succ k =>
   have h1 : ¬ ((l.take (k + 1)).map (·.text) = []) := fun e => by have := congrArg List.length e; rw [List.length_map, List.length_take, List.length_nil] at this; omega
   rw [if_neg h1, if_neg (by omega)]
theorem showL_pre {l : List Tk} {k : Nat} (h : k < l.length) : (showL (l.take k)).length + 1 + l[k].text.length ≤ (showL (l.take (k + 1))).length + (if k = 0 then 1 else 0) := by
 rw [showL_take h]
 by_cases h0 : k = 0
 · subst h0; simp [showL, Lib.join]; omega
 · rw [if_neg h0, if_neg h0]; simp; omega
theorem showL_mono {l : List Tk} : ∀ {j k : Nat}, k ≤ j → j ≤ l.length → (showL (l.take k)).length ≤ (showL (l.take j)).length
 | 0, k, h, _ => by rw [Nat.le_zero.1 h]; exact Nat.le_refl _
 | j + 1, k, h, hj => by
   by_cases e : k = j + 1
   · rw [e]; exact Nat.le_refl _
   · refine Nat.le_trans (showL_mono (j := j) (by omega) (by omega)) ?_
     have := showL_pre (l := l) (k := j) (by omega)
     by_cases h0 : j = 0
     · subst h0; simp [showL, Lib.join]
     · rw [if_neg h0] at this; omega
theorem take_mem {l : List Bs} {k : Nat} (hk : k < l.length) (x : Bs) : x ∈ l.take (k + 1) ↔ x ∈ l.take k ∨ x = l[k] := by
 rw [List.take_add_one, List.getElem?_eq_getElem hk, Option.toList_some, List.mem_append, List.mem_singleton]
theorem free_add {Fk : Bs → Prop} {os fs rs : List Bs} {nm : Bs} {k : Nat} {bq : Bool} (h : ∀ x, x ∈ os ↔ Fk x ∨ (x ∈ fs.take k ∧ ¬ (bq = true ∧ x = nm))) (hk : k < fs.length) (hc : (!bq || !decide (fs[k] = nm)) = true) (ha : ∀ x, x ∈ rs ↔ x ∈ os ∨ x = fs[k]) :
   ∀ x, x ∈ rs ↔ Fk x ∨ (x ∈ fs.take (k + 1) ∧ ¬ (bq = true ∧ x = nm)) := fun x => by
 rw [ha, h, take_mem hk]
 have hn : ¬ (bq = true ∧ fs[k] = nm) := fun ⟨a, b⟩ => by simp [a, b] at hc
 constructor
 · rintro ((a | ⟨a, b⟩) | rfl)
   · exact .inl a
   · exact .inr ⟨.inl a, b⟩
   · exact .inr ⟨.inr rfl, hn⟩
 · rintro (a | ⟨a | rfl, b⟩)
   · exact .inl (.inl a)
   · exact .inl (.inr ⟨a, b⟩)
   · exact .inr rfl
theorem free_skip {Fk : Bs → Prop} {os fs : List Bs} {nm : Bs} {k : Nat} {bq : Bool} (h : ∀ x, x ∈ os ↔ Fk x ∨ (x ∈ fs.take k ∧ ¬ (bq = true ∧ x = nm))) (hk : k < fs.length) (hc : (!bq || !decide (fs[k] = nm)) = false) :
   ∀ x, x ∈ os ↔ Fk x ∨ (x ∈ fs.take (k + 1) ∧ ¬ (bq = true ∧ x = nm)) := fun x => by
 rw [h, take_mem hk]
 simp at hc
 constructor
 · rintro (a | ⟨a, b⟩)
   · exact .inl a
   · exact .inr ⟨.inl a, b⟩
 · rintro (a | ⟨a | rfl, b⟩)
   · exact .inl a
   · exact .inr ⟨a, b⟩
   · exact absurd hc b
theorem free_next {kd : Int} {nm : Bs} {ks : List Tm} {k j : Nat} {os fs : List Bs} {bq : Bool} (hk : k < ks.length) (h : ∀ x, x ∈ os ↔ FreeK kd nm ks k x ∨ (x ∈ fs.take j ∧ ¬ (bq = true ∧ x = nm))) (hj : fs.length ≤ j) (hf : ∀ x, x ∈ fs ↔ ks[k].fr none0 x = true) (hb : bq = true ↔ (bnd kd = true ∧ k + 1 = ks.length)) :
   ∀ x, x ∈ os ↔ FreeK kd nm ks (k + 1) x := fun x => by
 rw [h, freeK_succ hk, List.take_of_length_le hj, hf, hb]
theorem known_no {t : Tm} {fs known : List Bs} {k : Nat} (hf : ∀ x, x ∈ fs ↔ t.fr none0 x = true) (hk : k < fs.length) (h : known.contains fs[k] = false) : (!t.strange known) = false := by
 have : t.strange known = true := by rw [strange_list hf, List.any_eq_true]; exact ⟨_, List.getElem_mem hk, by rw [h]; rfl⟩
 rw [this]; rfl
theorem known_yes {t : Tm} {fs known : List Bs} (hf : ∀ x, x ∈ fs ↔ t.fr none0 x = true) (h : ∀ j (hj : j < fs.length), known.contains fs[j] = true) : (!t.strange known) = true := by
 have : t.strange known = false := by
   rw [strange_list hf, List.any_eq_false]
   intro x hx
   obtain ⟨j, hj, rfl⟩ := List.getElem_of_mem hx
   rw [h j hj]; simp
 rw [this]; rfl
def rnT (kd : Int) (nm : Bs) (ks : List Tm) (σ : Bs → Option Bs) (n : Int) (k : Nat) : List Tm × Int := renT (bnd kd) nm (renN kd nm σ n) ks σ (if bnd kd then nx n else n) k
theorem rnT_zero (kd : Int) (nm : Bs) (ks : List Tm) (σ : Bs → Option Bs) (n : Int) : rnT kd nm ks σ n 0 = ([], if bnd kd then nx n else n) := rfl
theorem rnT_succ {kd : Int} {nm : Bs} {ks : List Tm} {σ τ : Bs → Option Bs} {n : Int} {k : Nat} (h : k < ks.length) (hτ : (if bnd kd && k + 1 == ks.length then updS σ nm (renN kd nm σ n) else σ) = τ) :
   rnT kd nm ks σ n (k + 1) = ((rnT kd nm ks σ n k).1 ++ [(ks[k].ren τ (rnT kd nm ks σ n k).2).1], (ks[k].ren τ (rnT kd nm ks σ n k).2).2) := by
 unfold rnT; rw [renT_succ h, hτ]
theorem rnT_all (kd : Int) (nm : Bs) (m : Int) (ks : List Tm) (σ : Bs → Option Bs) (n : Int) : (Tm.mk kd nm m ks).ren σ n = (.mk kd (renN kd nm σ n) m (rnT kd nm ks σ n ks.length).1, (rnT kd nm ks σ n ks.length).2) := by
 unfold rnT; rw [renT_all]; simp only [Tm.ren]
theorem rnT_in {n : Int} (h : In64 n) (kd : Int) (nm : Bs) (ks : List Tm) (σ : Bs → Option Bs) (k : Nat) : In64 (rnT kd nm ks σ n k).2 := renT_in (by split; exact nx_in _; exact h) k
theorem rnT_len {n : Int} {kd : Int} {nm : Bs} {ks : List Tm} {σ : Bs → Option Bs} {k : Nat} (h : k ≤ ks.length) : (rnT kd nm ks σ n k).1.length = k := renT_length h
theorem RBn_one {H : GH} {ks : List Bn} : ∀ cs y, y ∈ ks → RBn H cs y → ∀ u ∈ cs, u.oneCell' = true := by
 intro cs y _ h u hu
 unfold RBn at h; subst h
 simp at hu; rcases hu with rfl | rfl <;> rfl
theorem flat_pre {α β : Type} {f : α → List β} {l : List α} {k : Nat} (h : k < l.length) : ((l.take k).flatMap f).length + (f l[k]).length ≤ (l.flatMap f).length := by
 have e : l = l.take k ++ (l[k] :: l.drop (k + 1)) := by rw [List.getElem_cons_drop]; exact (List.take_append_drop k l).symm
 have : (l.flatMap f).length = ((l.take k ++ (l[k] :: l.drop (k + 1))).flatMap f).length := by rw [← e]
 rw [this, List.flatMap_append, List.flatMap_cons, List.length_append, List.length_append]; omega
theorem flat_next {α β : Type} {f : α → List β} {l : List α} {k : Nat} (h : k < l.length) : (l.take (k + 1)).flatMap f = (l.take k).flatMap f ++ f l[k] := by
 rw [List.take_add_one, List.getElem?_eq_getElem h, Option.toList_some, List.flatMap_append]; simp
theorem refTerm_ok : ∀ (t : Tm) (v : Value) (E : World) (H : GH) (L : List It), VT H v t → t.size < 1000000000000 →
   Ok Tryz.prog 7 #[v] E H L fun r H' L' => VT H' r t ∧ L = L' := by
 intro t
 induction t using Tm.ind with
 | h kd nm nn ks ih =>
 intro v E H L hv hb
 obtain ⟨At0, ct0, rfl, ht0⟩ := hv
 dsimp only [Tm.kind, Tm.name, Tm.n, Tm.kids] at ht0 ⊢
 simp only [Tm.size] at hb
 have hlen := length_le_sizeL ks
 refine enter (N := 31) [(0, _)] Tryz.func7 rfl rfl rfl rfl fun a w h => ?_
 refine au [1,2] h ?_
 refine bxA h fun g1 a w h => ?_
 refine al zr35 h fun g2 a w h => ?_
 refine au [0,2,0,7,2,8,0,7,2,8,0,7,2,8,7,5] h ?_; intro a w h
 refine al zr35 h fun g3 a w h => ?_
 refine au [5,5,0,3,0,4,1,2,0,6,0,3,1,5] h ?_; intro a w h
 have h := h.row (e := 35) (sz := 4)
 obtain ⟨Hg1, leHg1, h, hfg1⟩ := h.frz 3
 refine lp (β := Nat × GH × (Option Addr) × Nat × (List Value)) (fun x a w => match x with | (k, HL0, Brk, prk, xrk) => ((k ≤ ks.length) ∧ (LE Hg1 HL0) ∧ (RowR RT 4 HL0 xrk (ks.take k))) ∧ S E HL0 31 [] [(1, .pointer (some ⟨g1, 0, none⟩)), (2, .pointer (some ⟨g2, 0, none⟩)), (3, .pointer (some ⟨g3, 0, none⟩)), (4, .int .i64 (k : Int))] (.row (.slice Brk ((ks.take k).length) prk) 35 4 ((ks.take k).length) xrk :: .obj g3 (.cells #[.int .i64 kd, str nm, .int .i64 nn, .slice Brk ((ks.take k).length) prk] 35 (0, 0)) :: .obj g2 (.cells #[.int .i64 0, str [], .int .i64 0, .slice none 0 0] 35 (0, 0)) :: L) a w)
  (fun x => match x with | (k, HL0, Brk, prk, xrk) => ks.length - k) (0, Hg1, none, 0, []) ⟨⟨Nat.zero_le _, LE.rfl, ((RowR.nil : RowR RT 4 H [] ([] : List Tm)).mono fun cs y _ hr => RT.mono leHg1 y hr)⟩, h.to 0 _⟩ ?_
 rintro ⟨k, HL0, Brk, prk, xrk⟩ a w ⟨⟨hk, leHL0, hrrk⟩, h⟩
 refine au [0,4,1,2,0,0,0,7] h ?_; intro a w h
 refine ldH t1_22 (Hc.of (leHL0 _ _ hfg1) rfl) h fun a w h => ?_
 refine au [6,0,6,4,0,3] h ?_; intro a w h
 refine cdB h (fun c16 => ?_) (fun c16 => ?_)
 ·have d16 : k < ks.length := cd_ c16
  refine au [1,8,1,0,0,4,1,5] h ?_
  refine rgd [1] [_] [4, 3, 2, 0] [1, 3, 6] 2 mix (by kernel_rfl) h (fun a w h => ?_)
  refine au [0,7,4,2,0,7] h ?_; intro a w h
  refine ldHD t1_22 (Hc.of (leHL0 _ _ hfg1) rfl) h fun a w h => ?_
  refine mv h fun a w h => ?_
  have l_H_HL0 : LE H HL0 := leHg1.trans leHL0
  have hj24 : k < ks.length := by first | assumption | omega | (simp; done) | (simp; omega)
  obtain ⟨g24, o24, A24_0, c24_0, e24, hv24, hc24⟩ := KS.get (KS.up ht0 l_H_HL0) hj24
  obtain ⟨_, _, q24, hk24_0⟩ := hv24; cases q24
  refine iaE sli22 sz24 rfl hj24 e24 h fun a w h => ?_
  refine ldHND tN24 rfl hc24 h fun a w h => ?_
  have hz := size_get_le d16
  refine clG bod7 (ih _ (List.getElem_mem d16) _ E HL0 _ ⟨A24_0, c24_0, rfl, hk24_0⟩ (by omega)) h (fun r26 H26 L26 a w le26 R h => ?_)
  obtain ⟨⟨A26_0, c26_0, rfl, hk26_0⟩, rfl⟩ := R
  refine bsl bs33 h fun g27 a w h => ?_
  refine apn (n := ((ks.take k).length)) (m := 1) 1 0 (L' := fun i => _ :: i :: _) [_, _, _, _] (((ks.take k) ++ [ks[k]]).length) (by first | (simp; done) | (simp; omega)) row33 h (by first | omega | (simp; done) | (simp; omega) | (simp; omega)) (by first | omega | (simp; done) | (simp; omega) | (simp; omega)) fun v28 a w hone28 h => ?_
  obtain ⟨B28, cp28, rfl⟩ := h.rowv 1
  have hr28 : RowR RT 4 H26 (xrk ++ [.int .i64 ks[k].kind, str ks[k].name, .int .i64 ks[k].n, .slice A26_0 ks[k].kids.length c26_0]) ((ks.take k) ++ [ks[k]]) := (hrrk.mono fun cs y _ hr => RT.mono le26 y hr).snoc rfl (rt_of_vt (cs := [_, _, _, _]) ⟨_, _, rfl, hk26_0⟩)
  refine au [0,7,5,3,1,1,1,7,1,0,0,5,0,0] h ?_; intro a w h
  refine inc ?_ h fun a w h => ?_
  ·omega
  refine au [0,6,0,3] h ?_; intro a w h
  have h := h.del 0
  have l_Hg1_H26 : LE Hg1 H26 := leHL0.trans le26
  exact ⟨((k + 1), H26, B28, cp28, _), ⟨⟨by omega, l_Hg1_H26, (by have q := hr28; rwa [show ((ks.take k) ++ [ks[k]]) = (ks.take (k + 1)) from by rw [take_snoc d16]] at q)⟩, (by show S _ _ _ _ _ _ _ _; rw [show ((ks.take (k + 1)).length) = ((ks.take k) ++ [ks[k]]).length from Eq.symm (by first | rfl | (simp; done) | (simp; omega) | (congr 1; simp; omega) | (congr 1; omega))]; exact h.to 0 _)⟩, by show _ - (k + 1) < _ - k; omega⟩
 ·have d16 : ks.length ≤ k := cd_ c16
  refine au [2,5,2,2,2,2,2,3,1,0,1,2,3,4,5,7,0,3,1,3] h ?_; intro a w h
  obtain ⟨Hrrk, leHrrk, h, hsHrrk⟩ := h.frw 0 hrrk rfl (fun _ l cs y _ hr => RT.mono l y hr)
  have l_H_Hrrk : LE H Hrrk := (leHg1.trans leHL0).trans leHrrk
  exact fin (rs := [.cell 2 35]) (vs := [.agg #[_, _, _, _]]) h rfl (.agg (k0 := 1) tN35 rfl rfl rfl .nil) rfl l_H_Hrrk ⟨LE.rfl, h.st.drop 2⟩ ⟨by have e9 : ks.take k = ks := List.take_of_length_le (by omega); rw [e9] at hsHrrk ⊢; exact ⟨_, _, rfl, hsHrrk⟩, rfl⟩
theorem BinderR_ok (kd : Int) (nm : Bs) (nn : Int) (ks : List Tm) (v : Value) (E : World) (H : GH) (L : List It) (hv : VT H v (Tm.mk kd nm nn ks)) : Ok Tryz.prog 21 #[v] E H L fun r H' L' => r = .bool (bnd kd) ∧ H = H' ∧ L = L' := by
 obtain ⟨At0, ct0, rfl, ht0⟩ := hv
 dsimp only [Tm.kind, Tm.name, Tm.n, Tm.kids] at ht0 ⊢
 refine enter (N := 16) [(0, _)] Tryz.func21 rfl rfl rfl rfl fun a w h => ?_
 refine au [1,2] h ?_
 refine bxA h fun g1 a w h => ?_
 refine au [0,6,0,2,0,7,0,8,6,2] h ?_; intro a w h
 refine h.spl (fun c5 h => ?_) (fun c5 h => ?_)
 ·have d5 : kd = 3 := cd_ c5
  refine au [0,0,0,1,0,1,0,1,4,8,0,0,0,1,0,1,0,1,4,8,0,6,0,3,1,3] h ?_; intro a w h
  refine fin1 2 1 h LE.rfl ?_
  exact ⟨by simp [bnd, *], rfl, rfl⟩
 ·have d5 : kd ≠ 3 := cd_ c5
  refine au [0,0,0,7,0,8,6,2,5,0] h ?_; intro a w h
  refine h.spl (fun c10 h => ?_) (fun c10 h => ?_)
  ·have d10 : kd = 5 := cd_ c10
   refine au [0,0,0,1,0,1,0,1,4,8,0,6,0,3,1,3] h ?_; intro a w h
   refine fin1 2 1 h LE.rfl ?_
   exact ⟨by simp [bnd, *], rfl, rfl⟩
  ·have d10 : kd ≠ 5 := cd_ c10
   refine au [0,0,0,7,0,8,6,2,5,0,0,6,0,3,1,3] h ?_; intro a w h
   refine fin1 2 1 h LE.rfl ?_
   exact ⟨by simp [bnd, *], rfl, rfl⟩
theorem SizeR_ok : ∀ (t : Tm) (v : Value) (E : World) (H : GH) (L : List It), VT H v t → t.size < 1000000000000 →
   Ok Tryz.prog 109 #[v] E H L fun r H' L' => r = .int .i64 (t.size : Int) ∧ H = H' ∧ L = L' := by
 intro t
 induction t using Tm.ind with
 | h kd nm nn ks ih =>
 intro v E H L hv hb
 obtain ⟨At0, ct0, rfl, ht0⟩ := hv
 dsimp only [Tm.kind, Tm.name, Tm.n, Tm.kids] at ht0 ⊢
 simp only [Tm.size] at hb
 have hlen := length_le_sizeL ks
 refine enter (N := 21) [(0, _)] Tryz.func109 rfl rfl rfl rfl fun a w h => ?_
 refine au [1,2] h ?_
 refine bxA h fun g1 a w h => ?_
 refine au [0,6,0,2,0,6,0,3,0,4,1,2,0,6,0,3,1,5] h ?_; intro a w h
 refine lp (β := Nat) (fun k a w => ((k ≤ ks.length)) ∧ S E H 21 [] [(1, .pointer (some ⟨g1, 0, none⟩)), (2, .int .i64 0), (3, .int .i64 ((1 + sizeL (ks.take k) : Nat) : Int)), (4, .int .i64 (k : Int))] (.obj g1 (.cells #[.int .i64 kd, str nm, .int .i64 nn, .slice At0 ks.length ct0] 35 (0, 0)) :: L) a w)
  (fun k => ks.length - k) 0 ⟨Nat.zero_le _, (by show S _ _ _ _ _ _ _ _; rw [show (.int .i64 ((1 + sizeL (ks.take 0) : Nat) : Int) : Value) = .int .i64 1 from Eq.symm (by first | rfl | (simp; done) | (simp; omega) | (congr 1; simp; omega) | (congr 1; omega))]; exact h.to 0 _)⟩ ?_
 rintro k a w ⟨hk, h⟩
 refine au [0,4,1,2,0,0,0,7,0,8,6,0,6,4,0,3] h ?_; intro a w h
 refine cdB h (fun c9 => ?_) (fun c9 => ?_)
 ·have d9 : k < ks.length := cd_ c9
  refine au [1,8,1,0,0,4,1,5,0,5,0,0,0,7,0,8,0,0] h ?_; intro a w h
  have hj16 : k < ks.length := by first | assumption | omega | (simp; done) | (simp; omega)
  obtain ⟨g16, o16, A16_0, c16_0, e16, hv16, hc16⟩ := KS.get ht0 hj16
  obtain ⟨_, _, q16, hk16_0⟩ := hv16; cases q16
  refine iaE sli33 sz35 rfl hj16 e16 h fun a w h => ?_
  refine ldHN tN35 rfl hc16 h fun a w h => ?_
  have hz := size_get_le d9
  refine cl bod109 (ih _ (List.getElem_mem d9) _ E H _ ⟨A16_0, c16_0, rfl, hk16_0⟩ (by omega)) h (fun r18 H18 L18 a w le18 R h => ?_)
  obtain ⟨rfl, rfl, rfl⟩ := R
  have hts := take_size d9
  have hlt := size_take_le ks (k + 1)
  refine adr (m := ((1 + sizeL (ks.take k) : Nat) : Int)) (n := (ks[k].size : Int)) ((((1 + sizeL (ks.take k)) + ks[k].size) : Nat) : Int) (by rw [w64 (by omega) (by omega)]; omega) h fun a w h => ?_
  refine au [0,6,1,1,1,7,1,0,0,5,0,0] h ?_; intro a w h
  refine inc ?_ h fun a w h => ?_
  ·omega
  refine au [0,6,0,3] h ?_; intro a w h
  exact ⟨(k + 1), ⟨by omega, (by show S _ _ _ _ _ _ _ _; rw [show (.int .i64 ((1 + sizeL (ks.take (k + 1)) : Nat) : Int) : Value) = .int .i64 ((((1 + sizeL (ks.take k)) + ks[k].size) : Nat) : Int) from Eq.symm (by first | rfl | (simp; done) | (simp; omega) | (congr 1; simp; omega) | (congr 1; omega))]; exact h.to 0 _)⟩, by show _ - (k + 1) < _ - k; omega⟩
 ·have d9 : ks.length ≤ k := cd_ c9
  refine au [2,5,2,2,2,2,2,3,1,0,1,2,0,0,0,6,0,3,1,3] h ?_; intro a w h
  refine fin1 2 1 h LE.rfl ?_
  exact ⟨by rw [show ks.take k = ks from List.take_of_length_le (by omega)]; rfl, rfl, rfl⟩
theorem DepthR_ok : ∀ (t : Tm) (v : Value) (E : World) (H : GH) (L : List It), VT H v t → t.size < 1000000000000 →
   Ok Tryz.prog 108 #[v] E H L fun r H' L' => r = .int .i64 (t.depth : Int) ∧ H = H' ∧ L = L' := by
 intro t
 induction t using Tm.ind with
 | h kd nm nn ks ih =>
 intro v E H L hv hb
 obtain ⟨At0, ct0, rfl, ht0⟩ := hv
 dsimp only [Tm.kind, Tm.name, Tm.n, Tm.kids] at ht0 ⊢
 simp only [Tm.size] at hb
 have hlen := length_le_sizeL ks
 refine enter (N := 22) [(0, _)] Tryz.func108 rfl rfl rfl rfl fun a w h => ?_
 refine au [1,2] h ?_
 refine bxA h fun g1 a w h => ?_
 refine au [0,6,0,2,0,6,0,3,0,4,1,2,0,6,0,3,1,5] h ?_; intro a w h
 refine lp (β := Nat) (fun k a w => ((k ≤ ks.length)) ∧ S E H 22 [] [(1, .pointer (some ⟨g1, 0, none⟩)), (2, .int .i64 0), (3, .int .i64 ((depthL (ks.take k) : Nat) : Int)), (4, .int .i64 (k : Int))] (.obj g1 (.cells #[.int .i64 kd, str nm, .int .i64 nn, .slice At0 ks.length ct0] 35 (0, 0)) :: L) a w)
  (fun k => ks.length - k) 0 ⟨Nat.zero_le _, (by show S _ _ _ _ _ _ _ _; rw [show (.int .i64 ((depthL (ks.take 0) : Nat) : Int) : Value) = .int .i64 0 from Eq.symm (by first | rfl | (simp; done) | (simp; omega) | (congr 1; simp; omega) | (congr 1; omega))]; exact h.to 0 _)⟩ ?_
 rintro k a w ⟨hk, h⟩
 refine au [0,4,1,2,0,0,0,7,0,8,6,0,6,4,0,3] h ?_; intro a w h
 refine cdB h (fun c9 => ?_) (fun c9 => ?_)
 ·have d9 : k < ks.length := cd_ c9
  refine au [1,8,1,0,0,4,1,5,0,5,0,0,0,7,0,8,0,0] h ?_; intro a w h
  have hj16 : k < ks.length := by first | assumption | omega | (simp; done) | (simp; omega)
  obtain ⟨g16, o16, A16_0, c16_0, e16, hv16, hc16⟩ := KS.get ht0 hj16
  obtain ⟨_, _, q16, hk16_0⟩ := hv16; cases q16
  refine iaE sli33 sz35 rfl hj16 e16 h fun a w h => ?_
  refine ldHN tN35 rfl hc16 h fun a w h => ?_
  have hz := size_get_le d9
  refine cl bod108 (ih _ (List.getElem_mem d9) _ E H _ ⟨A16_0, c16_0, rfl, hk16_0⟩ (by omega)) h (fun r18 H18 L18 a w le18 R h => ?_)
  obtain ⟨rfl, rfl, rfl⟩ := R
  have htd := take_depth d9
  refine mx h fun a w h => ?_
  rw [show (if (((depthL (ks.take k) : Nat) : Int) : Int) < (ks[k].depth : Int) then (ks[k].depth : Int) else ((depthL (ks.take k) : Nat) : Int)) = (((max (depthL (ks.take k)) ks[k].depth) : Nat) : Int) by split <;> omega] at h
  refine au [0,6,1,1,1,7,1,0,0,5,0,0] h ?_; intro a w h
  refine inc ?_ h fun a w h => ?_
  ·omega
  refine au [0,6,0,3] h ?_; intro a w h
  exact ⟨(k + 1), ⟨by omega, (by show S _ _ _ _ _ _ _ _; rw [show (.int .i64 ((depthL (ks.take (k + 1)) : Nat) : Int) : Value) = .int .i64 (((max (depthL (ks.take k)) ks[k].depth) : Nat) : Int) from Eq.symm (by first | rfl | (simp; done) | (simp; omega) | (congr 1; simp; omega) | (congr 1; omega))]; exact h.to 0 _)⟩, by show _ - (k + 1) < _ - k; omega⟩
 ·have d9 : ks.length ≤ k := cd_ c9
  refine au [2,5,2,2,2,2,2,3,1,0,1,2,0,0] h ?_; intro a w h
  have hdl := depthL_le ks
  have htk : ks.take k = ks := List.take_of_length_le (by omega)
  rw [htk] at h
  refine inc ?_ h fun a w h => ?_
  ·omega
  refine au [0,6,0,3,1,3] h ?_; intro a w h
  refine fin1 2 1 h LE.rfl ?_
  exact ⟨rfl, rfl, rfl⟩
theorem CountR_ok : ∀ (t : Tm) (v : Value) (E : World) (H : GH) (L : List It), VT H v t → t.size < 1000000000000 →
   Ok Tryz.prog 10 #[v] E H L fun r H' L' => r = .int .i64 (t.count : Int) ∧ H = H' ∧ L = L' := by
 intro t
 induction t using Tm.ind with
 | h kd nm nn ks ih =>
 intro v E H L hv hb
 obtain ⟨At0, ct0, rfl, ht0⟩ := hv
 dsimp only [Tm.kind, Tm.name, Tm.n, Tm.kids] at ht0 ⊢
 simp only [Tm.size] at hb
 have hlen := length_le_sizeL ks
 refine enter (N := 23) [(0, _)] Tryz.func10 rfl rfl rfl rfl fun a w h => ?_
 refine au [1,2] h ?_
 refine bxA h fun g1 a w h => ?_
 refine au [0,6,0,2,0,6,0,3,0,4,1,2,3,3] h ?_; intro a w h
 refine cl bod21 (BinderR_ok _ _ _ _ _ E H _ ⟨At0, ct0, rfl, ht0⟩) h (fun r6 H6 L6 a w le6 R h => ?_)
 obtain ⟨rfl, rfl, rfl⟩ := R
 refine au [0,3] h ?_
 refine thc (fun a w => S E H 23 [] [(1, .pointer (some ⟨g1, 0, none⟩)), (2, .int .i64 0), (3, .int .i64 ((if bnd kd then 1 else 0 : Nat) : Int))] (.obj g1 (.cells #[.int .i64 kd, str nm, .int .i64 nn, .slice At0 ks.length ct0] 35 (0, 0)) :: L) a w) ?_ ?_
 ·refine cdB h (fun c6 => ?_) (fun c6 => ?_)
  ·refine au [0,5,0,6,0,3] h ?_; intro a w h
   exact (by show S _ _ _ _ _ _ _ _; rw [show (.int .i64 ((if bnd kd then 1 else 0 : Nat) : Int) : Value) = .int .i64 1 from Eq.symm (by rw [c6]; rfl)]; exact h.to 0 _)
  ·refine au [1,8,1,0] h ?_
   exact (by show S _ _ _ _ _ _ _ _; rw [show (.int .i64 ((if bnd kd then 1 else 0 : Nat) : Int) : Value) = .int .i64 0 from Eq.symm (by rw [c6]; rfl)]; exact h.to 0 _)
 ·rintro a w h
  refine au [0,4,1,2,0,6,0,3,1,5] h ?_; intro a w h
  refine lp (β := Nat) (fun k a w => ((k ≤ ks.length)) ∧ S E H 23 [] [(1, .pointer (some ⟨g1, 0, none⟩)), (2, .int .i64 0), (3, .int .i64 (((if bnd kd then 1 else 0) + countL (ks.take k) : Nat) : Int)), (4, .int .i64 (k : Int))] (.obj g1 (.cells #[.int .i64 kd, str nm, .int .i64 nn, .slice At0 ks.length ct0] 35 (0, 0)) :: L) a w)
   (fun k => ks.length - k) 0 ⟨Nat.zero_le _, (by show S _ _ _ _ _ _ _ _; rw [show (.int .i64 (((if bnd kd then 1 else 0) + countL (ks.take 0) : Nat) : Int) : Value) = .int .i64 ((if bnd kd then 1 else 0 : Nat) : Int) from Eq.symm (by simp [countL])]; exact h.to 0 _)⟩ ?_
  rintro k a w ⟨hk, h⟩
  refine au [0,4,1,2,0,0,0,7,0,8,6,0,6,4,0,3] h ?_; intro a w h
  refine cdB h (fun c11 => ?_) (fun c11 => ?_)
  ·have d11 : k < ks.length := cd_ c11
   refine au [1,8,1,0,0,4,1,5,0,5,0,0,0,7,0,8,0,0] h ?_; intro a w h
   have hj18 : k < ks.length := by first | assumption | omega | (simp; done) | (simp; omega)
   obtain ⟨g18, o18, A18_0, c18_0, e18, hv18, hc18⟩ := KS.get ht0 hj18
   obtain ⟨_, _, q18, hk18_0⟩ := hv18; cases q18
   refine iaE sli33 sz35 rfl hj18 e18 h fun a w h => ?_
   refine ldHN tN35 rfl hc18 h fun a w h => ?_
   have hz := size_get_le d11
   refine cl bod10 (ih _ (List.getElem_mem d11) _ E H _ ⟨A18_0, c18_0, rfl, hk18_0⟩ (by omega)) h (fun r20 H20 L20 a w le20 R h => ?_)
   obtain ⟨rfl, rfl, rfl⟩ := R
   have hts := take_count d11
   have hlt : countL (ks.take (k + 1)) ≤ sizeL ks := Nat.le_trans (countL_le _) (size_take_le ks _)
   have hb1 : (if bnd kd then 1 else 0 : Nat) ≤ 1 := by split <;> omega
   refine adr (m := (((if bnd kd then 1 else 0) + countL (ks.take k) : Nat) : Int)) (n := (ks[k].count : Int)) (((((if bnd kd then 1 else 0) + countL (ks.take k)) + ks[k].count) : Nat) : Int) (by rw [w64 (by omega) (by omega)]; omega) h fun a w h => ?_
   refine au [0,6,1,1,1,7,1,0,0,5,0,0] h ?_; intro a w h
   refine inc ?_ h fun a w h => ?_
   ·omega
   refine au [0,6,0,3] h ?_; intro a w h
   exact ⟨(k + 1), ⟨by omega, (by show S _ _ _ _ _ _ _ _; rw [show (.int .i64 (((if bnd kd then 1 else 0) + countL (ks.take (k + 1)) : Nat) : Int) : Value) = .int .i64 (((((if bnd kd then 1 else 0) + countL (ks.take k)) + ks[k].count) : Nat) : Int) from Eq.symm (by first | rfl | (simp; done) | (simp; omega) | (congr 1; simp; omega) | (congr 1; omega))]; exact h.to 0 _)⟩, by show _ - (k + 1) < _ - k; omega⟩
  ·have d11 : ks.length ≤ k := cd_ c11
   refine au [2,5,2,2,2,2,2,3,1,0,1,2,0,0,0,6,0,3,1,3] h ?_; intro a w h
   refine fin1 2 1 h LE.rfl ?_
   exact ⟨by rw [show ks.take k = ks from List.take_of_length_le (by omega)]; rfl, rfl, rfl⟩
theorem manyR_ok (kd : Int) (E : World) (H : GH) (L : List It) : Ok Tryz.prog 141 #[.int .i64 kd] E H L fun r H' L' => r = .int .i64 (manyR kd) ∧ H = H' ∧ L = L' := by
 refine enter (N := 21) [(0, _)] Tryz.func141 rfl rfl rfl rfl fun a w h => ?_
 refine au [1,2,0,6,0,3,0,4,1,2,0,0,0,3,1,5,0,4,1,2,6,2,0,6,0,3] h ?_; intro a w h
 refine cdB h (fun c4 => ?_) (fun c4 => ?_)
 ·have d4 : kd = 1 := cd_ c4
  rw [c4] at h
  refine au [1,8,1,0,2,0,1,2,0,6,0,3,1,3,1,6,1,4] h ?_; intro a w h
  refine fin1 2 0 h LE.rfl ?_
  exact ⟨by simp [manyR, *], rfl, rfl⟩
 ·have d4 : kd ≠ 1 := cd_ c4
  rw [c4] at h
  refine au [0,5,6,2,0,6,0,3] h ?_; intro a w h
  refine cdB h (fun c4 => ?_) (fun c4 => ?_)
  ·have d4 : kd = 2 := cd_ c4
   rw [c4] at h
   refine au [1,2,0,6,0,3,1,3,1,6,1,4] h ?_; intro a w h
   refine fin1 2 0 h LE.rfl ?_
   exact ⟨by simp [manyR, *], rfl, rfl⟩
  ·have d4 : kd ≠ 2 := cd_ c4
   rw [c4] at h
   refine au [0,4,1,2,6,2,0,6,0,3] h ?_; intro a w h
   refine cdB h (fun c7 => ?_) (fun c7 => ?_)
   ·have d7 : kd = 3 := cd_ c7
    rw [c7] at h
    refine au [1,8,1,0,2,0,1,2,0,6,0,3,1,3,1,6,1,4] h ?_; intro a w h
    refine fin1 2 0 h LE.rfl ?_
    exact ⟨by simp [manyR, *], rfl, rfl⟩
   ·have d7 : kd ≠ 3 := cd_ c7
    rw [c7] at h
    refine au [1,2,6,2,0,6,0,3] h ?_; intro a w h
    refine cdB h (fun c7 => ?_) (fun c7 => ?_)
    ·have d7 : kd = 8 := cd_ c7
     rw [c7] at h
     refine au [1,8,1,0,2,0,1,2,0,6,0,3,1,3,1,6,1,4] h ?_; intro a w h
     refine fin1 2 0 h LE.rfl ?_
     exact ⟨by simp [manyR, *], rfl, rfl⟩
    ·have d7 : kd ≠ 8 := cd_ c7
     rw [c7] at h
     refine au [0,5,6,2,0,6,0,3] h ?_; intro a w h
     refine cdB h (fun c7 => ?_) (fun c7 => ?_)
     ·have d7 : kd = 10 := cd_ c7
      rw [c7] at h
      refine au [1,2,0,6,0,3,1,3,1,6,1,4] h ?_; intro a w h
      refine fin1 2 0 h LE.rfl ?_
      exact ⟨by simp [manyR, *], rfl, rfl⟩
     ·have d7 : kd ≠ 10 := cd_ c7
      rw [c7] at h
      refine au [0,4,1,2,6,2,0,6,0,3] h ?_; intro a w h
      refine cdB h (fun c11 => ?_) (fun c11 => ?_)
      ·have d11 : kd = 4 := cd_ c11
       rw [c11] at h
       refine au [1,8,1,0,2,0,1,2,0,6,0,3,1,3,1,6,1,4] h ?_; intro a w h
       refine fin1 2 0 h LE.rfl ?_
       exact ⟨by simp [manyR, *], rfl, rfl⟩
      ·have d11 : kd ≠ 4 := cd_ c11
       rw [c11] at h
       refine au [1,2,6,2,0,6,0,3] h ?_; intro a w h
       refine cdB h (fun c11 => ?_) (fun c11 => ?_)
       ·have d11 : kd = 5 := cd_ c11
        rw [c11] at h
        refine au [1,8,1,0,2,0,1,2,0,6,0,3,1,3,1,6,1,4] h ?_; intro a w h
        refine fin1 2 0 h LE.rfl ?_
        exact ⟨by simp [manyR, *], rfl, rfl⟩
       ·have d11 : kd ≠ 5 := cd_ c11
        rw [c11] at h
        refine au [1,2,6,2,0,6,0,3] h ?_; intro a w h
        refine cdB h (fun c11 => ?_) (fun c11 => ?_)
        ·have d11 : kd = 7 := cd_ c11
         rw [c11] at h
         refine au [1,8,1,0,2,0,1,2,0,6,0,3,1,3,1,6,1,4] h ?_; intro a w h
         refine fin1 2 0 h LE.rfl ?_
         exact ⟨by simp [manyR, *], rfl, rfl⟩
        ·have d11 : kd ≠ 7 := cd_ c11
         rw [c11] at h
         refine au [1,2,6,2,0,6,0,3] h ?_; intro a w h
         refine cdB h (fun c11 => ?_) (fun c11 => ?_)
         ·have d11 : kd = 9 := cd_ c11
          rw [c11] at h
          refine au [1,8,1,0,2,0,1,2,0,6,0,3,1,3,1,6,1,4] h ?_; intro a w h
          refine fin1 2 0 h LE.rfl ?_
          exact ⟨by simp [manyR, *], rfl, rfl⟩
         ·have d11 : kd ≠ 9 := cd_ c11
          rw [c11] at h
          refine au [1,2,6,2,0,6,0,3] h ?_; intro a w h
          refine cdB h (fun c11 => ?_) (fun c11 => ?_)
          ·have d11 : kd = 11 := cd_ c11
           rw [c11] at h
           refine au [1,8,1,0,2,0,1,2,0,6,0,3,1,3,1,6,1,4] h ?_; intro a w h
           refine fin1 2 0 h LE.rfl ?_
           exact ⟨by simp [manyR, *], rfl, rfl⟩
          ·have d11 : kd ≠ 11 := cd_ c11
           rw [c11] at h
           refine au [1,2,6,2,0,6,0,3] h ?_; intro a w h
           refine cdB h (fun c11 => ?_) (fun c11 => ?_)
           ·have d11 : kd = 12 := cd_ c11
            rw [c11] at h
            refine au [1,8,1,0,2,0,1,2,0,6,0,3,1,3,1,6,1,4] h ?_; intro a w h
            refine fin1 2 0 h LE.rfl ?_
            exact ⟨by simp [manyR, *], rfl, rfl⟩
           ·have d11 : kd ≠ 12 := cd_ c11
            rw [c11] at h
            refine au [0,5,6,2,0,6,0,3] h ?_; intro a w h
            refine cdB h (fun c11 => ?_) (fun c11 => ?_)
            ·have d11 : kd = 13 := cd_ c11
             rw [c11] at h
             refine au [1,2,0,6,0,3,1,3,1,6,1,4] h ?_; intro a w h
             refine fin1 2 0 h LE.rfl ?_
             exact ⟨by simp [manyR, *], rfl, rfl⟩
            ·have d11 : kd ≠ 13 := cd_ c11
             rw [c11] at h
             refine au [1,2,6,2,0,6,0,3] h ?_; intro a w h
             refine cdB h (fun c19 => ?_) (fun c19 => ?_)
             ·have d19 : kd = 6 := cd_ c19
              refine au [1,2,0,6,0,3,1,3,1,6,1,4] h ?_; intro a w h
              refine fin1 2 0 h LE.rfl ?_
              exact ⟨by simp [manyR, *], rfl, rfl⟩
             ·have d19 : kd ≠ 6 := cd_ c19
              refine au [1,8,1,7,1,0,1,2,0,6,0,3,1,3] h ?_; intro a w h
              refine fin1 2 0 h LE.rfl ?_
              exact ⟨by simp [manyR, *], rfl, rfl⟩
theorem HasR_ok (ss : List Bs) (s : Bs) (A : Option Addr) (c : Nat) (E : World) (H : GH) (L : List It) (hs : SS H A c ss) (hb : ss.length < 4000000000000) : Ok Tryz.prog 133 #[.slice A ss.length c, str s] E H L fun r H' L' => r = .bool (ss.contains s) ∧ H = H' ∧ L = L' := by
 refine enter (N := 18) [(0, _), (1, _)] Tryz.func133 rfl rfl rfl rfl fun a w h => ?_
 refine au [1,2,0,6,0,3,0,4,1,2,0,6,0,3,1,5] h ?_; intro a w h
 refine lp (β := Nat) (fun k a w => ((k ≤ ss.length) ∧ (∀ j (hj : j < ss.length), j < k → ss[j] ≠ s)) ∧ S E H 18 [] [(0, .slice A ss.length c), (1, str s), (5, .int .i64 (k : Int))] (L) a w)
  (fun k => ss.length - k) 0 ⟨⟨Nat.zero_le _, fun _ _ h => absurd h (by omega)⟩, h.to 0 _⟩ ?_
 rintro k a w ⟨⟨hk, hi⟩, h⟩
 refine au [0,4,1,2,0,0,0,0,6,0,6,4,0,3] h ?_; intro a w h
 refine cdB h (fun c9 => ?_) (fun c9 => ?_)
 ·have d9 : k < ss.length := cd_ c9
  refine au [1,8,1,0,0,4,1,5,1,2,0,0,0,0] h ?_; intro a w h
  have hj14 : k < ss.length := by first | assumption | omega | (simp; done) | (simp; omega)
  obtain ⟨g14, o14, e14, hc14⟩ := SS.get hs hj14
  refine iaE sli70 sz9 rfl hj14 e14 h fun a w h => ?_
  refine ldH t1_9 (hc14) h fun a w h => ?_
  refine au [0,0,6,8,0,3] h ?_; intro a w h
  refine cdB h (fun c17 => ?_) (fun c17 => ?_)
  ·have d17 : ss[k] = s := cd_ c17
   refine au [1,2,0,6,0,3,1,3,1,6,1,4,1,4,1,6,1,4] h ?_; intro a w h
   refine fin1 4 0 h LE.rfl ?_
   exact ⟨by rw [contains_at hj14 d17], rfl, rfl⟩
  ·have d17 : ss[k] ≠ s := cd_ c17
   refine au [1,8,1,7,1,0,0,5,0,0] h ?_; intro a w h
   refine inc ?_ h fun a w h => ?_
   ·omega
   refine au [0,6,0,3] h ?_; intro a w h
   exact ⟨(k + 1), ⟨⟨by omega, fun j hj h0 => by rcases upto h0 with h0 | rfl; exact hi j hj h0; exact d17⟩, h.to 0 _⟩, by show _ - (k + 1) < _ - k; omega⟩
 ·have d9 : ss.length ≤ k := cd_ c9
  refine au [2,5,2,2,2,2,2,3,1,0,1,2,0,6,0,3,1,3] h ?_; intro a w h
  refine fin1 4 0 h LE.rfl ?_
  exact ⟨by rw [contains_no fun j hj => hi j hj (by omega)], rfl, rfl⟩
theorem KeywordR_ok (s : Bs) (E : World) (H : GH) (L : List It) : Ok Tryz.prog 107 #[str s] E H L fun r H' L' => r = .bool (keywordB s) ∧ L = L' := by
 refine enter (N := 6) [(0, _)] Tryz.func107 rfl rfl rfl rfl fun a w h => ?_
 refine au [1,2,0,6,0,2] h ?_; intro a w h
 refine bsl bs70 h fun g3 a w h => ?_
 obtain ⟨Hq3, leHq3, h, hsHq3⟩ := h.fsl (R := RStr) (sz := 1) (ys := keysL) 0 (rstr_row keysL) (fun _ _ _ _ _ hr => hr)
 refine mv h fun a w h => ?_
 refine cl bod133 (HasR_ok keysL s _ _ E Hq3 _ hsHq3 (by decide)) h (fun r5 H5 L5 a w le5 R h => ?_)
 obtain ⟨rfl, rfl, rfl⟩ := R
 refine au [0,6,0,3,1,3] h ?_; intro a w h
 refine fin1 2 0 h leHq3 ?_
 exact ⟨rfl, rfl⟩
theorem NameR_ok (s : Bs) (E : World) (H : GH) (L : List It) (hb : s.length < 1000000000000) : Ok Tryz.prog 106 #[str s] E H L fun r H' L' => r = .bool (nameB s) ∧ H = H' ∧ L = L' := by
 refine enter (N := 62) [(0, _)] Tryz.func106 rfl rfl rfl rfl fun a w h => ?_
 refine au [1,2,0,6,0,3,0,4] h ?_; intro a w h
 refine sqc (fun a w => S E H 62 [] [(0, str s), (2, .bool false), (13, .bool ((decide (((s.length : Int) : Int) < 1)) || (decide ((16 : Int) < (s.length : Int)))))] (L) a w) ?_ ?_
 ·refine au [0,5,0,0,6,1,6,4] h ?_; intro a w h
  refine h.spl (fun c8 h => ?_) (fun c8 h => ?_)
  ·have d8 : s.length < 1 := cd_ c8
   refine au [0,0,0,1,0,1,0,1,4,8,0,3] h ?_; intro a w h
   exact (by show S _ _ _ _ _ _ _ _; rw [show (.bool ((decide (((s.length : Int) : Int) < 1)) || (decide ((16 : Int) < (s.length : Int)))) : Value) = .bool true from Eq.symm (by first | ((try rw [c8]) <;> (try simp only [Bool.true_or, Bool.or_true, Bool.false_or, Bool.or_false, Bool.true_and, Bool.and_true, Bool.false_and, Bool.and_false, Bool.not_true, Bool.not_false, cond_true, cond_false]); done) | (exfalso; omega))]; exact h.to 0 _)
  ·have d8 : 1 ≤ s.length := cd_ c8
   refine au [0,0,0,0,6,1,6,6,5,0,0,3] h ?_; intro a w h
   exact (by show S _ _ _ _ _ _ _ _; rw [show (.bool ((decide (((s.length : Int) : Int) < 1)) || (decide ((16 : Int) < (s.length : Int)))) : Value) = .bool (decide ((16 : Int) < (s.length : Int))) from Eq.symm (by first | ((try rw [c8]) <;> (try simp only [Bool.true_or, Bool.or_true, Bool.false_or, Bool.or_false, Bool.true_and, Bool.and_true, Bool.false_and, Bool.and_false, Bool.not_true, Bool.not_false, cond_true, cond_false]); done) | (exfalso; omega))]; exact h.to 0 _)
 ·rintro a w h
  refine cdB h (fun c13 => ?_) (fun c13 => ?_)
  ·refine au [1,2,0,6,0,3,1,3,1,4] h ?_; intro a w h
   refine fin1 2 0 h LE.rfl ?_
   exact ⟨by rw [nameB_out c13], rfl, rfl⟩
  ·refine au [1,8,1,0,0,4,1,2,0,6,0,3,1,5] h ?_; intro a w h
   refine lp (β := Nat) (fun k a w => ((k ≤ s.length) ∧ (∀ j, j < k → okAt s j = true)) ∧ S E H 62 [] [(0, str s), (3, .int .i64 (k : Int))] (L) a w)
    (fun k => s.length - k) 0 ⟨⟨Nat.zero_le _, fun _ h => absurd h (by omega)⟩, h.to 0 _⟩ ?_
   rintro k a w ⟨⟨hk, hi⟩, h⟩
   refine au [0,4,1,2,0,0,0,0,6,1,6,4,0,3] h ?_; intro a w h
   refine cdB h (fun c17 => ?_) (fun c17 => ?_)
   ·have d17 : k < s.length := cd_ c17
    refine au [1,8,1,0,0,4,1,5] h ?_
    refine sqc (fun a w => S E H 62 [] [(0, str s), (3, .int .i64 (k : Int)), (14, .int .i64 (k : Int)), (15, str s), (16, .int .i64 (s.length : Int)), (17, .bool (decide (((k : Int) : Int) < (s.length : Int)))), (20, str s), (21, .int .i64 (k : Int)), (22, .int .u8 (s[k].toNat : Int)), (23, .bool (decide ((97 : Int) ≤ (s[k].toNat : Int)))), (24, .bool (decide ((97 : Int) ≤ (s[k].toNat : Int)))), (29, .bool ((decide ((97 : Int) ≤ (s[k].toNat : Int))) && (decide (((s[k].toNat : Int) : Int) ≤ 122)))), (30, .bool ((decide ((97 : Int) ≤ (s[k].toNat : Int))) && (decide (((s[k].toNat : Int) : Int) ≤ 122)))), (41, .bool (lettR s[k])), (4, .bool (lettR s[k]))] (L) a w) ?_ ?_
    ·refine au [0,5,0,0,0,0] h ?_; intro a w h
     have hj22 : k < s.length := by first | assumption | omega
     refine ix str9 rfl (List.getElem?_eq_getElem hj22) h fun a w h => ?_
     refine ge h fun a w h => ?_
     refine h.spl (fun c23 h => ?_) (fun c23 h => ?_)
     ·have d23 : 97 ≤ s[k].toNat := cd_ c23
      refine au [0,0,0,0,0,0] h ?_; intro a w h
      have hj27 : k < s.length := by first | assumption | omega
      refine ix str9 rfl (List.getElem?_eq_getElem hj27) h fun a w h => ?_
      refine au [6,5,4,8] h ?_; intro a w h
      refine h.spl (fun c29 h => ?_) (fun c29 h => ?_)
      ·have d29 : s[k].toNat ≤ 122 := cd_ c29
       refine au [0,0,0,1,0,1,0,1,0,1,0,1,0,1,0,1,0,1,0,1,0,1,4,8,0,6,0,3] h ?_; intro a w h
       exact (by show S _ _ _ _ _ _ _ _; rw [show (.bool (decide ((97 : Int) ≤ (s[k].toNat : Int))) : Value) = .bool true from Eq.symm (by first | ((try rw [c23]) <;> (try rw [c29]) <;> (try simp only [Bool.true_or, Bool.or_true, Bool.false_or, Bool.or_false, Bool.true_and, Bool.and_true, Bool.false_and, Bool.and_false, Bool.not_true, Bool.not_false, cond_true, cond_false]); done) | (exfalso; omega)), show (.bool ((decide ((97 : Int) ≤ (s[k].toNat : Int))) && (decide (((s[k].toNat : Int) : Int) ≤ 122))) : Value) = .bool true from Eq.symm (by first | ((try rw [c23]) <;> (try rw [c29]) <;> (try simp only [Bool.true_or, Bool.or_true, Bool.false_or, Bool.or_false, Bool.true_and, Bool.and_true, Bool.false_and, Bool.and_false, Bool.not_true, Bool.not_false, cond_true, cond_false]); done) | (exfalso; omega)), show (.bool (lettR s[k]) : Value) = .bool true from Eq.symm (by clear h hi; simp_all [lettR, digitB] <;> omega)]; exact h.to 0 _)
      ·have d29 : 122 < s[k].toNat := cd_ c29
       refine au [0,0,0,0,0,0] h ?_; intro a w h
       have hj33 : k < s.length := by first | assumption | omega
       refine ix str9 rfl (List.getElem?_eq_getElem hj33) h fun a w h => ?_
       refine ge h fun a w h => ?_
       refine h.spl (fun c34 h => ?_) (fun c34 h => ?_)
       ·have d34 : 65 ≤ s[k].toNat := cd_ c34
        refine au [0,0,0,0,0,0] h ?_; intro a w h
        have hj38 : k < s.length := by first | assumption | omega
        refine ix str9 rfl (List.getElem?_eq_getElem hj38) h fun a w h => ?_
        refine au [6,5,4,8,5,0,0,6,0,3] h ?_; intro a w h
        exact (by show S _ _ _ _ _ _ _ _; rw [show (.bool (decide ((97 : Int) ≤ (s[k].toNat : Int))) : Value) = .bool true from Eq.symm (by first | ((try rw [c23]) <;> (try rw [c29]) <;> (try rw [c34]) <;> (try simp only [Bool.true_or, Bool.or_true, Bool.false_or, Bool.or_false, Bool.true_and, Bool.and_true, Bool.false_and, Bool.and_false, Bool.not_true, Bool.not_false, cond_true, cond_false]); done) | (exfalso; omega)), show (.bool ((decide ((97 : Int) ≤ (s[k].toNat : Int))) && (decide (((s[k].toNat : Int) : Int) ≤ 122))) : Value) = .bool false from Eq.symm (by first | ((try rw [c23]) <;> (try rw [c29]) <;> (try rw [c34]) <;> (try simp only [Bool.true_or, Bool.or_true, Bool.false_or, Bool.or_false, Bool.true_and, Bool.and_true, Bool.false_and, Bool.and_false, Bool.not_true, Bool.not_false, cond_true, cond_false]); done) | (exfalso; omega)), show (.bool (lettR s[k]) : Value) = .bool (decide (((s[k].toNat : Int) : Int) ≤ 90)) from Eq.symm (by clear h hi; simp_all [lettR, digitB] <;> omega)]; exact h.to 0 _)
       ·have d34 : s[k].toNat < 65 := cd_ c34
        refine au [0,0,0,1,0,1,0,1,0,1,5,0,5,0,0,6,0,3] h ?_; intro a w h
        exact (by show S _ _ _ _ _ _ _ _; rw [show (.bool (decide ((97 : Int) ≤ (s[k].toNat : Int))) : Value) = .bool true from Eq.symm (by first | ((try rw [c23]) <;> (try rw [c29]) <;> (try rw [c34]) <;> (try simp only [Bool.true_or, Bool.or_true, Bool.false_or, Bool.or_false, Bool.true_and, Bool.and_true, Bool.false_and, Bool.and_false, Bool.not_true, Bool.not_false, cond_true, cond_false]); done) | (exfalso; omega)), show (.bool ((decide ((97 : Int) ≤ (s[k].toNat : Int))) && (decide (((s[k].toNat : Int) : Int) ≤ 122))) : Value) = .bool false from Eq.symm (by first | ((try rw [c23]) <;> (try rw [c29]) <;> (try rw [c34]) <;> (try simp only [Bool.true_or, Bool.or_true, Bool.false_or, Bool.or_false, Bool.true_and, Bool.and_true, Bool.false_and, Bool.and_false, Bool.not_true, Bool.not_false, cond_true, cond_false]); done) | (exfalso; omega)), show (.bool (lettR s[k]) : Value) = .bool false from Eq.symm (by clear h hi; simp_all [lettR, digitB] <;> omega)]; exact h.to 0 _)
     ·have d23 : s[k].toNat < 97 := cd_ c23
      refine au [0,0,0,1,0,1,0,1,0,1,5,0,0,0,0,0,0,0] h ?_; intro a w h
      have hj33 : k < s.length := by first | assumption | omega
      refine ix str9 rfl (List.getElem?_eq_getElem hj33) h fun a w h => ?_
      refine ge h fun a w h => ?_
      refine h.spl (fun c34 h => ?_) (fun c34 h => ?_)
      ·have d34 : 65 ≤ s[k].toNat := cd_ c34
       refine au [0,0,0,0,0,0] h ?_; intro a w h
       have hj38 : k < s.length := by first | assumption | omega
       refine ix str9 rfl (List.getElem?_eq_getElem hj38) h fun a w h => ?_
       refine au [6,5,4,8,5,0,0,6,0,3] h ?_; intro a w h
       exact (by show S _ _ _ _ _ _ _ _; rw [show (.bool (decide ((97 : Int) ≤ (s[k].toNat : Int))) : Value) = .bool false from Eq.symm (by first | ((try rw [c23]) <;> (try rw [c34]) <;> (try simp only [Bool.true_or, Bool.or_true, Bool.false_or, Bool.or_false, Bool.true_and, Bool.and_true, Bool.false_and, Bool.and_false, Bool.not_true, Bool.not_false, cond_true, cond_false]); done) | (exfalso; omega)), show (.bool ((decide ((97 : Int) ≤ (s[k].toNat : Int))) && (decide (((s[k].toNat : Int) : Int) ≤ 122))) : Value) = .bool false from Eq.symm (by first | ((try rw [c23]) <;> (try rw [c34]) <;> (try simp only [Bool.true_or, Bool.or_true, Bool.false_or, Bool.or_false, Bool.true_and, Bool.and_true, Bool.false_and, Bool.and_false, Bool.not_true, Bool.not_false, cond_true, cond_false]); done) | (exfalso; omega)), show (.bool (lettR s[k]) : Value) = .bool (decide (((s[k].toNat : Int) : Int) ≤ 90)) from Eq.symm (by clear h hi; simp_all [lettR, digitB] <;> omega)]; exact h.to 0 _)
      ·have d34 : s[k].toNat < 65 := cd_ c34
       refine au [0,0,0,1,0,1,0,1,0,1,5,0,5,0,0,6,0,3] h ?_; intro a w h
       exact (by show S _ _ _ _ _ _ _ _; rw [show (.bool (decide ((97 : Int) ≤ (s[k].toNat : Int))) : Value) = .bool false from Eq.symm (by first | ((try rw [c23]) <;> (try rw [c34]) <;> (try simp only [Bool.true_or, Bool.or_true, Bool.false_or, Bool.or_false, Bool.true_and, Bool.and_true, Bool.false_and, Bool.and_false, Bool.not_true, Bool.not_false, cond_true, cond_false]); done) | (exfalso; omega)), show (.bool ((decide ((97 : Int) ≤ (s[k].toNat : Int))) && (decide (((s[k].toNat : Int) : Int) ≤ 122))) : Value) = .bool false from Eq.symm (by first | ((try rw [c23]) <;> (try rw [c34]) <;> (try simp only [Bool.true_or, Bool.or_true, Bool.false_or, Bool.or_false, Bool.true_and, Bool.and_true, Bool.false_and, Bool.and_false, Bool.not_true, Bool.not_false, cond_true, cond_false]); done) | (exfalso; omega)), show (.bool (lettR s[k]) : Value) = .bool false from Eq.symm (by clear h hi; simp_all [lettR, digitB] <;> omega)]; exact h.to 0 _)
    ·rintro a w h
     refine sqc (fun a w => S E H 62 [] [(0, str s), (3, .int .i64 (k : Int)), (14, .int .i64 (k : Int)), (15, str s), (16, .int .i64 (s.length : Int)), (17, .bool (decide (((k : Int) : Int) < (s.length : Int)))), (20, str s), (21, .int .i64 (k : Int)), (22, .int .u8 (s[k].toNat : Int)), (23, .bool (decide ((97 : Int) ≤ (s[k].toNat : Int)))), (24, .bool (decide ((97 : Int) ≤ (s[k].toNat : Int)))), (29, .bool ((decide ((97 : Int) ≤ (s[k].toNat : Int))) && (decide (((s[k].toNat : Int) : Int) ≤ 122)))), (30, .bool ((decide ((97 : Int) ≤ (s[k].toNat : Int))) && (decide (((s[k].toNat : Int) : Int) ≤ 122)))), (41, .bool (lettR s[k])), (4, .bool (lettR s[k])), (42, str s), (43, .int .i64 (k : Int)), (44, .int .u8 (s[k].toNat : Int)), (45, .bool (decide ((48 : Int) ≤ (s[k].toNat : Int)))), (46, .bool (decide ((48 : Int) ≤ (s[k].toNat : Int)))), (51, .bool (digitB s[k])), (5, .bool (digitB s[k]))] (L) a w) ?_ ?_
     ·refine au [0,5,0,0,0,0] h ?_; intro a w h
      have hj44 : k < s.length := by first | assumption | omega
      refine ix str9 rfl (List.getElem?_eq_getElem hj44) h fun a w h => ?_
      refine ge h fun a w h => ?_
      refine h.spl (fun c45 h => ?_) (fun c45 h => ?_)
      ·have d45 : 48 ≤ s[k].toNat := cd_ c45
       refine au [0,0,0,0,0,0] h ?_; intro a w h
       have hj49 : k < s.length := by first | assumption | omega
       refine ix str9 rfl (List.getElem?_eq_getElem hj49) h fun a w h => ?_
       refine au [6,5,4,8,0,6,0,3] h ?_; intro a w h
       exact (by show S _ _ _ _ _ _ _ _; rw [show (.bool (decide ((48 : Int) ≤ (s[k].toNat : Int))) : Value) = .bool true from Eq.symm (by first | ((try rw [c45]) <;> (try simp only [Bool.true_or, Bool.or_true, Bool.false_or, Bool.or_false, Bool.true_and, Bool.and_true, Bool.false_and, Bool.and_false, Bool.not_true, Bool.not_false, cond_true, cond_false]); done) | (exfalso; omega)), show (.bool (digitB s[k]) : Value) = .bool (decide (((s[k].toNat : Int) : Int) ≤ 57)) from Eq.symm (by clear h hi; simp_all [lettR, digitB] <;> omega)]; exact h.to 0 _)
      ·have d45 : s[k].toNat < 48 := cd_ c45
       refine au [0,0,0,1,0,1,0,1,0,1,5,0,0,6,0,3] h ?_; intro a w h
       exact (by show S _ _ _ _ _ _ _ _; rw [show (.bool (decide ((48 : Int) ≤ (s[k].toNat : Int))) : Value) = .bool false from Eq.symm (by first | ((try rw [c45]) <;> (try simp only [Bool.true_or, Bool.or_true, Bool.false_or, Bool.or_false, Bool.true_and, Bool.and_true, Bool.false_and, Bool.and_false, Bool.not_true, Bool.not_false, cond_true, cond_false]); done) | (exfalso; omega)), show (.bool (digitB s[k]) : Value) = .bool false from Eq.symm (by clear h hi; simp_all [lettR, digitB] <;> omega)]; exact h.to 0 _)
     ·rintro a w h
      refine sqc (fun a w => S E H 62 [] [(0, str s), (3, .int .i64 (k : Int)), (14, .int .i64 (k : Int)), (15, str s), (16, .int .i64 (s.length : Int)), (17, .bool (decide (((k : Int) : Int) < (s.length : Int)))), (20, str s), (21, .int .i64 (k : Int)), (22, .int .u8 (s[k].toNat : Int)), (23, .bool (decide ((97 : Int) ≤ (s[k].toNat : Int)))), (24, .bool (decide ((97 : Int) ≤ (s[k].toNat : Int)))), (29, .bool ((decide ((97 : Int) ≤ (s[k].toNat : Int))) && (decide (((s[k].toNat : Int) : Int) ≤ 122)))), (30, .bool ((decide ((97 : Int) ≤ (s[k].toNat : Int))) && (decide (((s[k].toNat : Int) : Int) ≤ 122)))), (41, .bool (lettR s[k])), (4, .bool (lettR s[k])), (42, str s), (43, .int .i64 (k : Int)), (44, .int .u8 (s[k].toNat : Int)), (45, .bool (decide ((48 : Int) ≤ (s[k].toNat : Int)))), (46, .bool (decide ((48 : Int) ≤ (s[k].toNat : Int)))), (51, .bool (digitB s[k])), (5, .bool (digitB s[k])), (52, .bool (lettR s[k])), (53, .bool (!(lettR s[k]))), (54, .bool (!(lettR s[k]))), (61, .bool (!(lettR s[k] || ((k : Int) != 0 && digitB s[k]))))] (L) a w) ?_ ?_
      ·refine au [0,5,0,0,7,1] h ?_; intro a w h
       refine h.spl (fun c53 h => ?_) (fun c53 h => ?_)
       ·refine au [0,0,0,0,6,2] h ?_; intro a w h
        refine h.spl (fun c56 h => ?_) (fun c56 h => ?_)
        ·have d56 : k = 0 := cd_ c56
         refine au [0,0,0,1,0,1,4,8,4,8,0,3] h ?_; intro a w h
         exact (by show S _ _ _ _ _ _ _ _; rw [show (.bool (!(lettR s[k])) : Value) = .bool true from Eq.symm (by first | ((try rw [c53]) <;> (try rw [c56]) <;> (try simp only [Bool.true_or, Bool.or_true, Bool.false_or, Bool.or_false, Bool.true_and, Bool.and_true, Bool.false_and, Bool.and_false, Bool.not_true, Bool.not_false, cond_true, cond_false]); done) | (exfalso; omega)), show (.bool (!(lettR s[k] || ((k : Int) != 0 && digitB s[k]))) : Value) = .bool true from Eq.symm (by clear h hi; generalize lettR s[k] = b1 at *; generalize digitB s[k] = b2 at *; cases b1 <;> cases b2 <;> simp_all)]; exact h.to 0 _)
        ·have d56 : k ≠ 0 := cd_ c56
         refine au [0,0,0,0,7,1,5,0,4,8,0,3] h ?_; intro a w h
         exact (by show S _ _ _ _ _ _ _ _; rw [show (.bool (!(lettR s[k])) : Value) = .bool true from Eq.symm (by first | ((try rw [c53]) <;> (try rw [c56]) <;> (try simp only [Bool.true_or, Bool.or_true, Bool.false_or, Bool.or_false, Bool.true_and, Bool.and_true, Bool.false_and, Bool.and_false, Bool.not_true, Bool.not_false, cond_true, cond_false]); done) | (exfalso; omega)), show (.bool (!(lettR s[k] || ((k : Int) != 0 && digitB s[k]))) : Value) = .bool (!(digitB s[k])) from Eq.symm (by clear h hi; generalize lettR s[k] = b1 at *; generalize digitB s[k] = b2 at *; cases b1 <;> cases b2 <;> simp_all)]; exact h.to 0 _)
       ·refine au [0,0,0,1,0,1,0,1,0,1,0,1,0,1,5,0,0,3] h ?_; intro a w h
        exact (by show S _ _ _ _ _ _ _ _; rw [show (.bool (!(lettR s[k])) : Value) = .bool false from Eq.symm (by first | ((try rw [c53]) <;> (try simp only [Bool.true_or, Bool.or_true, Bool.false_or, Bool.or_false, Bool.true_and, Bool.and_true, Bool.false_and, Bool.and_false, Bool.not_true, Bool.not_false, cond_true, cond_false]); done) | (exfalso; omega)), show (.bool (!(lettR s[k] || ((k : Int) != 0 && digitB s[k]))) : Value) = .bool false from Eq.symm (by clear h hi; generalize lettR s[k] = b1 at *; generalize digitB s[k] = b2 at *; cases b1 <;> cases b2 <;> simp_all)]; exact h.to 0 _)
      ·rintro a w h
       refine cdB h (fun c61 => ?_) (fun c61 => ?_)
       ·have hok : okAt s k = false := by rw [ok_eq d17]; revert c61; cases (lettR s[k] || ((k : Int) != 0 && digitB s[k])) <;> simp
        refine au [1,2,0,6,0,3,1,3,1,6,1,4,1,4,1,6,1,4] h ?_; intro a w h
        refine fin1 2 0 h LE.rfl ?_
        exact ⟨by rw [nameB_no d17 hok], rfl, rfl⟩
       ·have hok : okAt s k = true := by rw [ok_eq d17]; revert c61; cases (lettR s[k] || ((k : Int) != 0 && digitB s[k])) <;> simp
        refine au [1,8,1,7,1,0,0,5,0,0] h ?_; intro a w h
        refine inc ?_ h fun a w h => ?_
        ·omega
        refine au [0,6,0,3] h ?_; intro a w h
        exact ⟨(k + 1), ⟨⟨by omega, fun j h0 => by rcases upto h0 with h0 | rfl; exact hi j h0; exact hok⟩, h.to 0 _⟩, by show _ - (k + 1) < _ - k; omega⟩
   ·have d17 : s.length ≤ k := cd_ c17
    refine au [2,5,2,2,2,2,2,3,1,0,1,2,0,6,0,3,1,3] h ?_; intro a w h
    refine fin1 2 0 h LE.rfl ?_
    exact ⟨by rw [nameB_all c13 fun j hj => hi j (by omega)], rfl, rfl⟩
theorem WordR_ok (s : Bs) (E : World) (H : GH) (L : List It) (hb : s.length < 1000000000000) : Ok Tryz.prog 75 #[str s] E H L fun r H' L' => r = .bool (wordB s) ∧ L = L' := by
 refine enter (N := 10) [(0, _)] Tryz.func75 rfl rfl rfl rfl fun a w h => ?_
 refine au [1,2,0,6,0,2,0,0] h ?_; intro a w h
 refine cl bod106 (NameR_ok s E H _ (by first | assumption | omega)) h (fun r4 H4 L4 a w le4 R h => ?_)
 obtain ⟨rfl, rfl, rfl⟩ := R
 refine h.spl (fun c4 h => ?_) (fun c4 h => ?_)
 ·refine au [0,0,0,0] h ?_; intro a w h
  refine cl bod107 (KeywordR_ok s E H _) h (fun r7 H7 L7 a w le7 R h => ?_)
  obtain ⟨rfl, rfl⟩ := R
  refine au [7,1,4,8,0,6,0,3,1,3] h ?_; intro a w h
  refine fin1 2 0 h le7 ?_
  exact ⟨by simp [wordB, *], rfl⟩
 ·refine au [0,0,0,1,0,1,0,1,5,0,0,6,0,3,1,3] h ?_; intro a w h
  refine fin1 2 0 h LE.rfl ?_
  exact ⟨by simp [wordB, *], rfl⟩
theorem nodeR_ok (kd : Int) (nm : Bs) (nn : Int) (ks : List Tm) (v : Value) (E : World) (H : GH) (L : List It) (hv : VT H v (Tm.mk kd nm nn ks)) (hb : nm.length < 1000000000000) : Ok Tryz.prog 134 #[v] E H L fun r H' L' => r = .bool (nodeB kd nm nn ks.length) ∧ L = L' := by
 obtain ⟨At0, ct0, rfl, ht0⟩ := hv
 dsimp only [Tm.kind, Tm.name, Tm.n, Tm.kids] at ht0 ⊢
 refine enter (N := 52) [(0, _)] Tryz.func134 rfl rfl rfl rfl fun a w h => ?_
 refine au [1,2] h ?_
 refine bxA h fun g1 a w h => ?_
 refine au [0,6,0,3,0,4] h ?_; intro a w h
 refine sqc (fun a w => S E H 52 [] [(1, .pointer (some ⟨g1, 0, none⟩)), (2, .bool false), (29, .bool (manyR kd != (ks.length : Int) || ((kd != 1 && nn != 0) || (decide (nn < 0) || decide (2147483648 ≤ nn)))))] (.obj g1 (.cells #[.int .i64 kd, str nm, .int .i64 nn, .slice At0 ks.length ct0] 35 (0, 0)) :: L) a w) ?_ ?_
 ·refine rgx [0] [_] [1, 4, 9, 13, 19, 24] 27 mix h (fun a w h => ?_)
  refine au [8,0,0,7,2,6,8,1,3,8,2,6,8,3,0,7,2,6,8,4,3,8,2,6,8,5,6,0,2,6] h ?_; intro a w h
  refine bg1 2 true h ?_
  refine cl bod141 (manyR_ok kd E H _) h (fun r5 H5 L5 a w le5 R h => ?_)
  obtain ⟨rfl, rfl, rfl⟩ := R
  refine au [2,7,8,6,6,3] h ?_; intro a w h
  refine h.spl (fun c9 h => ?_) (fun c9 h => ?_)
  ·have d9 : (manyR kd) ≠ (ks.length : Int) := cd_ c9
   refine au [2,6,8,7,0,0,2,6,8,8,0,1,2,6,8,9,0,1,2,6,8,10,0,1,2,6,8,11,0,1,2,6,8,12,0,1,2,6,8,13,0,1,2,6,8,14,0,1,2,6,8,15,0,1,2,6,8,16,4,8,2,6,8,17,0,0,2,6,8,18,0,1,2,6,8,19,0,1,2,6,8,20,0,1,2,6,8,21,4,8,2,6,8,22,0,0,2,6,8,23,0,1,2,6,8,24,0,1,2,6,8,25,0,1,2,6,8,26,4,8,2,6] h ?_; intro a w h
   refine en (by kernel_rfl) ?_
   refine thN ?_
   exact (by show S _ _ _ _ _ _ _ _; rw [show (.bool (manyR kd != (ks.length : Int) || ((kd != 1 && nn != 0) || (decide (nn < 0) || decide (2147483648 ≤ nn)))) : Value) = .bool true from Eq.symm (by clear h; simp_all <;> omega)]; exact h.to 0 _)
  ·have d9 : (manyR kd) = (ks.length : Int) := cd_ c9
   refine au [2,6,8,7,0,0,2,6,8,8,0,7,2,6,8,9,3,8,2,6,8,10,6,3] h ?_; intro a w h
   refine h.spl (fun c13 h => ?_) (fun c13 h => ?_)
   ·have d13 : kd ≠ 1 := cd_ c13
    refine au [2,6,8,11,0,0,2,6,8,12,0,7,2,6,8,13,3,8,2,6,8,14,6,3,2,6,8,15,4,8,2,6,8,16,5,0] h ?_; intro a w h
    refine h.spl (fun c19 h => ?_) (fun c19 h => ?_)
    ·have d19 : nn ≠ 0 := cd_ c19
     refine au [2,6,8,17,0,0,2,6,8,18,0,1,2,6,8,19,0,1,2,6,8,20,0,1,2,6,8,21,4,8,2,6,8,22,0,0,2,6,8,23,0,1,2,6,8,24,0,1,2,6,8,25,0,1,2,6,8,26,4,8,2,6] h ?_; intro a w h
     refine en (by kernel_rfl) ?_
     refine thN ?_
     exact (by show S _ _ _ _ _ _ _ _; rw [show (.bool (manyR kd != (ks.length : Int) || ((kd != 1 && nn != 0) || (decide (nn < 0) || decide (2147483648 ≤ nn)))) : Value) = .bool true from Eq.symm (by clear h; simp_all <;> omega)]; exact h.to 0 _)
    ·have d19 : nn = 0 := cd_ c19
     refine au [2,6,8,17,0,0,2,6,8,18,0,7,2,6,8,19,3,8,2,6,8,20,6,4,2,6,8,21,5,0] h ?_; intro a w h
     refine h.spl (fun c24 h => ?_) (fun c24 h => ?_)
     ·have d24 : nn < 0 := cd_ c24
      refine au [2,6,8,22,0,0,2,6,8,23,0,1,2,6,8,24,0,1,2,6,8,25,0,1,2,6,8,26,4,8,2,6] h ?_; intro a w h
      refine en (by kernel_rfl) ?_
      refine thN ?_
      exact (by show S _ _ _ _ _ _ _ _; rw [show (.bool (manyR kd != (ks.length : Int) || ((kd != 1 && nn != 0) || (decide (nn < 0) || decide (2147483648 ≤ nn)))) : Value) = .bool true from Eq.symm (by clear h; simp_all <;> omega)]; exact h.to 0 _)
     ·have d24 : 0 ≤ nn := cd_ c24
      refine au [2,6,8,22,0,0,2,6,8,23,0,7,2,6,8,24,3,8,2,6,8,25,6,7,2,6,8,26,5,0,2,6] h ?_; intro a w h
      refine en (by kernel_rfl) ?_
      refine thN ?_
      exact (by show S _ _ _ _ _ _ _ _; rw [show (.bool (manyR kd != (ks.length : Int) || ((kd != 1 && nn != 0) || (decide (nn < 0) || decide (2147483648 ≤ nn)))) : Value) = .bool (decide ((2147483648 : Int) ≤ nn)) from Eq.symm (by clear h; simp_all <;> omega)]; exact h.to 0 _)
   ·have d13 : kd = 1 := cd_ c13
    refine au [2,6,8,11,0,0,2,6,8,12,0,1,2,6,8,13,0,1,2,6,8,14,0,1,2,6,8,15,5,0,2,6,8,16,5,0,2,6,8,17,0,0,2,6,8,18,0,7,2,6,8,19,3,8,2,6,8,20,6,4,2,6,8,21,5,0] h ?_; intro a w h
    refine h.spl (fun c24 h => ?_) (fun c24 h => ?_)
    ·have d24 : nn < 0 := cd_ c24
     refine au [2,6,8,22,0,0,2,6,8,23,0,1,2,6,8,24,0,1,2,6,8,25,0,1,2,6,8,26,4,8,2,6] h ?_; intro a w h
     refine en (by kernel_rfl) ?_
     refine thN ?_
     exact (by show S _ _ _ _ _ _ _ _; rw [show (.bool (manyR kd != (ks.length : Int) || ((kd != 1 && nn != 0) || (decide (nn < 0) || decide (2147483648 ≤ nn)))) : Value) = .bool true from Eq.symm (by clear h; simp_all <;> omega)]; exact h.to 0 _)
    ·have d24 : 0 ≤ nn := cd_ c24
     refine au [2,6,8,22,0,0,2,6,8,23,0,7,2,6,8,24,3,8,2,6,8,25,6,7,2,6,8,26,5,0,2,6] h ?_; intro a w h
     refine en (by kernel_rfl) ?_
     refine thN ?_
     exact (by show S _ _ _ _ _ _ _ _; rw [show (.bool (manyR kd != (ks.length : Int) || ((kd != 1 && nn != 0) || (decide (nn < 0) || decide (2147483648 ≤ nn)))) : Value) = .bool (decide ((2147483648 : Int) ≤ nn)) from Eq.symm (by clear h; simp_all <;> omega)]; exact h.to 0 _)
 ·rintro a w h
  refine cdB h (fun c29 => ?_) (fun c29 => ?_)
  ·refine au [1,2,0,6,0,3,1,3,1,4] h ?_; intro a w h
   refine fin1 2 1 h LE.rfl ?_
   exact ⟨by rw [← nodeR_eq]; unfold nodeR; rw [c29]; rfl, rfl⟩
  ·refine au [1,8,1,0,0,4,1,5,1,2,0,7,0,8,6,2,0,6,0,3] h ?_; intro a w h
   refine cdB h (fun c30 => ?_) (fun c30 => ?_)
   ·have d30 : kd = 12 := cd_ c30
    refine au [1,2] h ?_
    refine bsl bs70 h fun g34 a w h => ?_
    obtain ⟨Hq34, leHq34, h, hsHq34⟩ := h.fsl (R := RStr) (sz := 1) (ys := opsL) 0 (rstr_row opsL) (fun _ _ _ _ _ hr => hr)
    refine au [0,7,0,8] h ?_; intro a w h
    refine cl bod133 (HasR_ok opsL nm _ _ E Hq34 _ hsHq34 (by decide)) h (fun r37 H37 L37 a w le37 R h => ?_)
    obtain ⟨rfl, rfl, rfl⟩ := R
    refine au [0,6,0,3,1,3,1,6,1,4] h ?_; intro a w h
    refine fin1 2 1 h leHq34 ?_
    exact ⟨by rw [← nodeR_eq]; unfold nodeR; rw [c29, c30]; rfl, rfl⟩
   ·have d30 : kd ≠ 12 := cd_ c30
    refine sqc (fun a w => S E H 52 [] [(1, .pointer (some ⟨g1, 0, none⟩)), (2, .bool false), (38, .bool ((kd : Int) == 2 || bnd kd))] (.obj g1 (.cells #[.int .i64 kd, str nm, .int .i64 nn, .slice At0 ks.length ct0] 35 (0, 0)) :: L) a w) ?_ ?_
    ·refine au [0,5,0,7,0,8,6,2] h ?_; intro a w h
     refine h.spl (fun c41 h => ?_) (fun c41 h => ?_)
     ·have d41 : kd = 2 := cd_ c41
      refine au [0,0,0,1,0,1,4,8,0,6,0,3] h ?_; intro a w h
      exact (by show S _ _ _ _ _ _ _ _; rw [show (.bool ((kd : Int) == 2 || bnd kd) : Value) = .bool true from Eq.symm (by clear h; simp_all <;> omega)]; exact h.to 0 _)
     ·have d41 : kd ≠ 2 := cd_ c41
      refine au [0,0,3,3] h ?_; intro a w h
      refine cl bod21 (BinderR_ok _ _ _ _ _ E H _ ⟨At0, ct0, rfl, ht0⟩) h (fun r44 H44 L44 a w le44 R h => ?_)
      obtain ⟨rfl, rfl, rfl⟩ := R
      refine au [5,0,0,6,0,3] h ?_; intro a w h
      exact (by show S _ _ _ _ _ _ _ _; rw [show (.bool ((kd : Int) == 2 || bnd kd) : Value) = .bool (bnd kd) from Eq.symm (by clear h; simp_all <;> omega)]; exact h.to 0 _)
    ·rintro a w h
     refine cdB h (fun c38 => ?_) (fun c38 => ?_)
     ·refine au [1,2,0,7,0,8] h ?_; intro a w h
      refine cl bod75 (WordR_ok nm E H _ (by first | assumption | omega)) h (fun r48 H48 L48 a w le48 R h => ?_)
      obtain ⟨rfl, rfl⟩ := R
      refine au [0,6,0,3,1,3,1,6,1,4] h ?_; intro a w h
      refine fin1 2 1 h le48 ?_
      exact ⟨by rw [← nodeR_eq]; unfold nodeR; rw [c29, c30, c38]; rfl, rfl⟩
     ·refine au [1,8,1,7,1,0,1,2,0,7,0,8,6,8,0,6,0,3,1,3] h ?_; intro a w h
      refine fin1 2 1 h LE.rfl ?_
      exact ⟨by rw [← nodeR_eq]; unfold nodeR; rw [c29, c30, c38]; rfl, rfl⟩
theorem nodesR_ok : ∀ (t : Tm) (v : Value) (E : World) (H : GH) (L : List It), VT H v t → t.size < 1000000000000 → t.long < 1000000000000 →
   Ok Tryz.prog 110 #[v] E H L fun r H' L' => r = .bool (!t.wrong) ∧ L = L' := by
 intro t
 induction t using Tm.ind with
 | h kd nm nn ks ih =>
 intro v E H L hv hb hg
 obtain ⟨At0, ct0, rfl, ht0⟩ := hv
 dsimp only [Tm.kind, Tm.name, Tm.n, Tm.kids] at ht0 ⊢
 simp only [Tm.size] at hb
 simp only [Tm.long] at hg
 have hlen := length_le_sizeL ks
 refine enter (N := 21) [(0, _)] Tryz.func110 rfl rfl rfl rfl fun a w h => ?_
 refine au [1,2] h ?_
 refine bxA h fun g1 a w h => ?_
 refine au [0,6,0,3,0,4,1,2,3,3] h ?_; intro a w h
 refine cl bod134 (nodeR_ok kd nm nn ks _ E H _ ⟨At0, ct0, rfl, ht0⟩ (by omega)) h (fun r5 H5 L5 a w le5 R h => ?_)
 obtain ⟨rfl, rfl⟩ := R
 refine au [7,1,0,3] h ?_; intro a w h
 refine cdB h (fun c6 => ?_) (fun c6 => ?_)
 ·have d6 : nodeB kd nm nn ks.length = false := cd_ c6
  refine au [1,2,0,6,0,3,1,3,1,4] h ?_; intro a w h
  refine fin1 2 1 h le5 ?_
  exact ⟨by simp [Tm.wrong, c6], rfl⟩
 ·have d6 : nodeB kd nm nn ks.length = true := cd_ c6
  refine au [1,8,1,0,0,4,1,2,0,6,0,3,1,5] h ?_; intro a w h
  refine lp (β := Nat × GH) (fun x a w => match x with | (k, HL0) => ((k ≤ ks.length) ∧ (LE H5 HL0) ∧ (∀ j (hj : j < ks.length), j < k → ks[j].wrong = false)) ∧ S E HL0 21 [] [(1, .pointer (some ⟨g1, 0, none⟩)), (3, .int .i64 (k : Int))] (.obj g1 (.cells #[.int .i64 kd, str nm, .int .i64 nn, .slice At0 ks.length ct0] 35 (0, 0)) :: L) a w)
   (fun x => match x with | (k, HL0) => ks.length - k) (0, H5) ⟨⟨Nat.zero_le _, LE.rfl, fun _ _ h => absurd h (by omega)⟩, h.to 0 _⟩ ?_
  rintro ⟨k, HL0⟩ a w ⟨⟨hk, leHL0, hi⟩, h⟩
  refine au [0,4,1,2,0,0,0,7,0,8,6,0,6,4,0,3] h ?_; intro a w h
  refine cdB h (fun c11 => ?_) (fun c11 => ?_)
  ·have d11 : k < ks.length := cd_ c11
   refine au [1,8,1,0,0,4,1,5,1,2,0,7,0,8,0,0] h ?_; intro a w h
   have l_H_HL0 : LE H HL0 := le5.trans leHL0
   have hj17 : k < ks.length := by first | assumption | omega | (simp; done) | (simp; omega)
   obtain ⟨g17, o17, A17_0, c17_0, e17, hv17, hc17⟩ := KS.get (KS.up ht0 l_H_HL0) hj17
   obtain ⟨_, _, q17, hk17_0⟩ := hv17; cases q17
   refine iaE sli33 sz35 rfl hj17 e17 h fun a w h => ?_
   refine ldHN tN35 rfl hc17 h fun a w h => ?_
   have hz := size_get_le d11
   have hlg := long_get d11
   refine cl bod110 (ih _ (List.getElem_mem d11) _ E HL0 _ ⟨A17_0, c17_0, rfl, hk17_0⟩ (by omega) (by omega)) h (fun r19 H19 L19 a w le19 R h => ?_)
   obtain ⟨rfl, rfl⟩ := R
   refine au [7,1,0,3] h ?_; intro a w h
   refine cdB h (fun c20 => ?_) (fun c20 => ?_)
   ·have d20 : (!ks[k].wrong) = false := cd_ c20
    refine au [1,2,0,6,0,3,1,3,1,6,1,4,1,4,1,6,1,4] h ?_; intro a w h
    have l_H_H19 : LE H H19 := (le5.trans leHL0).trans le19
    refine fin1 2 1 h l_H_H19 ?_
    exact ⟨by rw [nodes_no d11 (by simpa using c20)], rfl⟩
   ·have d20 : (!ks[k].wrong) = true := cd_ c20
    refine au [1,8,1,7,1,0,0,5,0,0] h ?_; intro a w h
    refine inc ?_ h fun a w h => ?_
    ·omega
    refine au [0,6,0,3] h ?_; intro a w h
    have l_H5_H19 : LE H5 H19 := leHL0.trans le19
    exact ⟨((k + 1), H19), ⟨⟨by omega, l_H5_H19, fun j hj h0 => by rcases upto h0 with h0 | rfl; exact hi j hj h0; simpa using c20⟩, h.to 0 _⟩, by show _ - (k + 1) < _ - k; omega⟩
  ·have d11 : ks.length ≤ k := cd_ c11
   refine au [2,5,2,2,2,2,2,3,1,0,1,2,0,6,0,3,1,3] h ?_; intro a w h
   have l_H_HL0 : LE H HL0 := le5.trans leHL0
   refine fin1 2 1 h l_H_HL0 ?_
   exact ⟨by rw [nodes_yes (by simpa using c6) fun j hj => hi j hj (by omega)], rfl⟩
theorem RightR_ok (t : Tm) (v : Value) (E : World) (H : GH) (L : List It) (hv : VT H v t) (hb : t.size < 1000000000000) (hg : t.long < 1000000000000) : Ok Tryz.prog 76 #[v] E H L fun r H' L' => r = .bool t.right ∧ L = L' := by
 obtain ⟨At0, ct0, rfl, ht0⟩ := hv
 refine enter (N := 15) [(0, _)] Tryz.func76 rfl rfl rfl rfl fun a w h => ?_
 refine au [1,2] h ?_
 refine bxA h fun g1 a w h => ?_
 refine au [0,6,0,2,3,3] h ?_; intro a w h
 refine cl bod108 (DepthR_ok t _ E H _ ⟨At0, ct0, rfl, ht0⟩ (by first | assumption | omega)) h (fun r4 H4 L4 a w le4 R h => ?_)
 obtain ⟨rfl, rfl, rfl⟩ := R
 refine le h fun a w h => ?_
 refine h.spl (fun c5 h => ?_) (fun c5 h => ?_)
 ·have d5 : t.depth ≤ 200 := cd_ c5
  refine au [0,0,3,3] h ?_; intro a w h
  refine cl bod109 (SizeR_ok t _ E H _ ⟨At0, ct0, rfl, ht0⟩ (by first | assumption | omega)) h (fun r8 H8 L8 a w le8 R h => ?_)
  obtain ⟨rfl, rfl, rfl⟩ := R
  refine au [6,5,4,8] h ?_; intro a w h
  refine h.spl (fun c10 h => ?_) (fun c10 h => ?_)
  ·have d10 : t.size ≤ 10000 := cd_ c10
   refine au [0,0,3,3] h ?_; intro a w h
   refine cl bod110 (nodesR_ok t _ E H _ ⟨At0, ct0, rfl, ht0⟩ (by first | assumption | omega) (by first | assumption | omega)) h (fun r13 H13 L13 a w le13 R h => ?_)
   obtain ⟨rfl, rfl⟩ := R
   refine au [4,8,0,6,0,3,1,3] h ?_; intro a w h
   refine fin1 2 1 h le13 ?_
   exact ⟨by simp only [Tm.right, *, Bool.true_and, Bool.false_and, Bool.and_true], rfl⟩
  ·have d10 : 10000 < t.size := cd_ c10
   refine au [0,0,0,1,0,1,5,0,0,6,0,3,1,3] h ?_; intro a w h
   refine fin1 2 1 h LE.rfl ?_
   exact ⟨by simp only [Tm.right, *, Bool.true_and, Bool.false_and, Bool.and_true], rfl⟩
 ·have d5 : 200 < t.depth := cd_ c5
  refine au [0,0,0,1,0,1,0,1,5,0,0,0,0,1,0,1,5,0,0,6,0,3,1,3] h ?_; intro a w h
  refine fin1 2 1 h LE.rfl ?_
  exact ⟨by simp only [Tm.right, *, Bool.true_and, Bool.false_and, Bool.and_true], rfl⟩
theorem SameR_ok : ∀ (t u : Tm) (v v2 : Value) (E : World) (H : GH) (L : List It), VT H v t → VT H v2 u → t.size < 1000000000000 →
   Ok Tryz.prog 8 #[v, v2] E H L fun r H' L' => r = .bool (t.same u) ∧ H = H' ∧ L = L' := by
 intro t
 induction t using Tm.ind with
 | h kd nm nn ks ih =>
 intro u v v2 E H L hv hv2 hb
 obtain ⟨kd2, nm2, nn2, ks2⟩ := u
 obtain ⟨At0, ct0, rfl, ht0⟩ := hv
 dsimp only [Tm.kind, Tm.name, Tm.n, Tm.kids] at ht0 ⊢
 obtain ⟨Au0, cu0, rfl, hu0⟩ := hv2
 dsimp only [Tm.kind, Tm.name, Tm.n, Tm.kids] at hu0 ⊢
 simp only [Tm.size] at hb
 have hlen := length_le_sizeL ks
 refine enter (N := 53) [(0, _), (1, _)] Tryz.func8 rfl rfl rfl rfl fun a w h => ?_
 refine au [1,2] h ?_
 refine bxA h fun g2 a w h => ?_
 refine bxA h fun g3 a w h => ?_
 refine au [0,6,0,3,0,4] h ?_; intro a w h
 refine sqc (fun a w => S E H 53 [] [(2, .pointer (some ⟨g2, 0, none⟩)), (3, .pointer (some ⟨g3, 0, none⟩)), (4, .bool false), (33, .bool ((kd != kd2) || ((!decide (nm = nm2)) || ((nn != nn2) || ((ks.length : Int) != (ks2.length : Int))))))] (.obj g3 (.cells #[.int .i64 kd2, str nm2, .int .i64 nn2, .slice Au0 ks2.length cu0] 35 (0, 0)) :: .obj g2 (.cells #[.int .i64 kd, str nm, .int .i64 nn, .slice At0 ks.length ct0] 35 (0, 0)) :: L) a w) ?_ ?_
 ·refine au [0,5,0,7,2,8,0,7,0,8,6,3] h ?_; intro a w h
  refine h.spl (fun c10 h => ?_) (fun c10 h => ?_)
  ·have d10 : kd ≠ kd2 := cd_ c10
   refine au [0,0,0,1,0,1,0,1,0,1,0,1,4,8,0,0,0,1,0,1,0,1,0,1,0,1,4,8,0,0,0,1,0,1,0,1,0,1,0,1,0,1,0,1,4,8,0,3] h ?_; intro a w h
   exact (by show S _ _ _ _ _ _ _ _; rw [show (.bool ((kd != kd2) || ((!decide (nm = nm2)) || ((nn != nn2) || ((ks.length : Int) != (ks2.length : Int))))) : Value) = .bool true from Eq.symm (by clear h; simp_all <;> omega)]; exact h.to 0 _)
  ·have d10 : kd = kd2 := cd_ c10
   refine au [0,0,0,7,2,8,0,7,0,8,7,0,5,0] h ?_; intro a w h
   refine h.spl (fun c17 h => ?_) (fun c17 h => ?_)
   ·have d17 : nm ≠ nm2 := cd_ c17
    refine au [0,0,0,1,0,1,0,1,0,1,0,1,4,8,0,0,0,1,0,1,0,1,0,1,0,1,0,1,0,1,4,8,0,3] h ?_; intro a w h
    exact (by show S _ _ _ _ _ _ _ _; rw [show (.bool ((kd != kd2) || ((!decide (nm = nm2)) || ((nn != nn2) || ((ks.length : Int) != (ks2.length : Int))))) : Value) = .bool true from Eq.symm (by clear h; simp_all <;> omega)]; exact h.to 0 _)
   ·have d17 : nm = nm2 := cd_ c17
    refine au [0,0,0,7,2,8,0,7,0,8,6,3,5,0] h ?_; intro a w h
    refine h.spl (fun c24 h => ?_) (fun c24 h => ?_)
    ·have d24 : nn ≠ nn2 := cd_ c24
     refine au [0,0,0,1,0,1,0,1,0,1,0,1,0,1,0,1,4,8,0,3] h ?_; intro a w h
     exact (by show S _ _ _ _ _ _ _ _; rw [show (.bool ((kd != kd2) || ((!decide (nm = nm2)) || ((nn != nn2) || ((ks.length : Int) != (ks2.length : Int))))) : Value) = .bool true from Eq.symm (by clear h; simp_all <;> omega)]; exact h.to 0 _)
    ·have d24 : nn = nn2 := cd_ c24
     refine au [0,0,0,7,2,8,6,0,0,7,0,8,6,0,6,3,5,0,0,3] h ?_; intro a w h
     exact (by show S _ _ _ _ _ _ _ _; rw [show (.bool ((kd != kd2) || ((!decide (nm = nm2)) || ((nn != nn2) || ((ks.length : Int) != (ks2.length : Int))))) : Value) = .bool (((ks.length : Int) : Int) != (ks2.length : Int)) from Eq.symm (by clear h; simp_all <;> omega)]; exact h.to 0 _)
 ·rintro a w h
  refine cdB h (fun c33 => ?_) (fun c33 => ?_)
  ·refine au [1,2,0,6,0,3,1,3,1,4] h ?_; intro a w h
   refine fin1 4 2 h LE.rfl ?_
   exact ⟨by rw [same_no fun e => by injection e with e1 e2 e3 e4; subst e1; subst e2; subst e3; subst e4; simp at c33], rfl, rfl⟩
  ·have hq : kd = kd2 ∧ nm = nm2 ∧ nn = nn2 ∧ (ks.length : Int) = (ks2.length : Int) := by simpa using c33
   have hql : ks.length = ks2.length := by have := hq.2.2.2; omega
   refine au [1,8,1,0,0,4,1,2,0,6,0,3,1,5] h ?_; intro a w h
   refine lp (β := Nat) (fun k a w => ((k ≤ ks.length) ∧ (∀ j (h1 : j < ks.length) (h2 : j < ks2.length), j < k → ks[j].same ks2[j] = true)) ∧ S E H 53 [] [(2, .pointer (some ⟨g2, 0, none⟩)), (3, .pointer (some ⟨g3, 0, none⟩)), (5, .int .i64 (k : Int))] (.obj g3 (.cells #[.int .i64 kd2, str nm2, .int .i64 nn2, .slice Au0 ks2.length cu0] 35 (0, 0)) :: .obj g2 (.cells #[.int .i64 kd, str nm, .int .i64 nn, .slice At0 ks.length ct0] 35 (0, 0)) :: L) a w)
    (fun k => ks.length - k) 0 ⟨⟨Nat.zero_le _, fun _ _ _ h => absurd h (by omega)⟩, h.to 0 _⟩ ?_
   rintro k a w ⟨⟨hk, hi⟩, h⟩
   refine au [0,4,1,2,0,0,0,7,2,8,6,0,6,4,0,3] h ?_; intro a w h
   refine cdB h (fun c38 => ?_) (fun c38 => ?_)
   ·have d38 : k < ks.length := cd_ c38
    refine au [1,8,1,0,0,4,1,5,0,4] h ?_
    refine rgd [1, 0] [_, _] [1] [1, 4, 6, 9] 0 mix (by kernel_rfl) h (fun a w h => ?_)
    refine au [0,7,4,2,0,0] h ?_; intro a w h
    have hj44 : k < ks.length := by first | assumption | omega | (simp; done) | (simp; omega)
    obtain ⟨g44, o44, A44_0, c44_0, e44, hv44, hc44⟩ := KS.get ht0 hj44
    obtain ⟨_, _, q44, hk44_0⟩ := hv44; cases q44
    refine iaE sli33 sz35 rfl hj44 e44 h fun a w h => ?_
    refine ldHND tN35 rfl hc44 h fun a w h => ?_
    refine au [0,7,4,3,0,0] h ?_; intro a w h
    have hj49 : k < ks2.length := by first | assumption | omega | (simp; done) | (simp; omega)
    obtain ⟨g49, o49, A49_0, c49_0, e49, hv49, hc49⟩ := KS.get hu0 hj49
    obtain ⟨_, _, q49, hk49_0⟩ := hv49; cases q49
    refine iaE sli33 sz35 rfl hj49 e49 h fun a w h => ?_
    refine ldHND tN35 rfl hc49 h fun a w h => ?_
    have hz := size_get_le d38
    refine cl bod8 (ih _ (List.getElem_mem hj44) _ _ _ E H _ ⟨A44_0, c44_0, rfl, hk44_0⟩ ⟨A49_0, c49_0, rfl, hk49_0⟩ (by omega)) h (fun r51 H51 L51 a w le51 R h => ?_)
    obtain ⟨rfl, rfl, rfl⟩ := R
    refine au [7,1,0,3] h ?_; intro a w h
    refine cdB h (fun c52 => ?_) (fun c52 => ?_)
    ·have d52 : (ks[k].same ks2[k]) = false := cd_ c52
     refine au [1,2,0,6,0,3,1,3,1,6,1,4,1,4,1,6,1,4] h ?_; intro a w h
     refine fin1 4 2 h LE.rfl ?_
     exact ⟨by rw [same_at hj44 hj49 (by simpa using c52)], rfl, rfl⟩
    ·have d52 : (ks[k].same ks2[k]) = true := cd_ c52
     refine au [1,8,1,7,1,0,0,5,0,0] h ?_; intro a w h
     refine inc ?_ h fun a w h => ?_
     ·omega
     refine au [0,6,0,3] h ?_; intro a w h
     exact ⟨(k + 1), ⟨⟨by omega, fun j h1 h2 h0 => by rcases upto h0 with h0 | rfl; exact hi j h1 h2 h0; simpa using c52⟩, h.to 0 _⟩, by show _ - (k + 1) < _ - k; omega⟩
   ·have d38 : ks.length ≤ k := cd_ c38
    refine au [2,5,2,2,2,2,2,3,1,0,1,2,0,6,0,3,1,3] h ?_; intro a w h
    refine fin1 4 2 h LE.rfl ?_
    exact ⟨by obtain ⟨e1, e2, e3, _⟩ := hq; subst e1; subst e2; subst e3; rw [same_yes hql fun j h1 h2 => hi j h1 h2 (by omega)], rfl, rfl⟩
end Go.Proofs.YtdabamobjciidaaGreatDoor
