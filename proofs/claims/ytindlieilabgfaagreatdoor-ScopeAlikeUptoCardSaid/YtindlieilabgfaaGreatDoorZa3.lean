/- Parts of the proof: W9, W10, W11, W12, Iter, W13, W14, W15, W16, W17, W18, W19, W26, T9, T10, T11, W30, W20, W21. -/
import Derived.Test.YtindlieilabgfaaGreatDoorZa2
import Derived.Shelf.SlIter.Nil
import Derived.Shelf.SortM.Plain
import Derived.Shelf.SortM.SortNone
import Derived.Ground.GgzProg
import Derived.Ground.SlgmProg
import Derived.Test.YtindlieilabgfaaGreatDoorProg
import Derived.Shelf.Spec.SlicesGrow
import Derived.Ground.Names7Prog
import Derived.Maps.Own
import Derived.Lib.ItoaLen
/- Walks: show.within. -/
set_option linter.unusedVariables false
set_option linter.unusedSimpArgs false
set_option linter.unusedSectionVars false
set_option autoImplicit false
set_option relaxedAutoImplicit false
set_option maxRecDepth 10000
namespace Go.Proofs.YtindlieilabgfaaGreatDoor
open Go X
theorem within_ok (t : Tm) (hto : ToksOk t) (hlen : t.toks.length < 100000000000) : WithinOk t := by
  intro v E H L hv hL
  have hv0 := hv
  obtain ⟨A, c, rfl, hks⟩ := hv
  have hv := hv0
  refine enter (N := 23) [(0, _)] Tryz.func150 rfl rfl rfl rfl fun a w h => ?_
  refine sqr ?_
  refine bxA h fun g1 a w h => ?_
  refine as_ h fun a w h => ?_
  refine nlt ?_
  refine sq ?_
  refine sqr ?_
  refine fa fl24_0 (r := 0) h fun a w h => ?_
  refine ld 0 t1_3 h fun a w h => ?_
  refine eqi h fun a w h => ?_
  refine h.spl (fun c5 h => ?_) (fun c5 h => ?_)
  ·refine mv h fun a w h => ?_
   refine sk h (k := fun a w h => ?_)
   refine sk h (k := fun a w h => ?_)
   refine sk h (k := fun a w h => ?_)
   refine pkT h fun a w h => ?_
   refine nlt ?_
   refine cdT h ?_
   refine sqr ?_
   refine ldW 0 tN24 h fun a w h => ?_
   refine cl bod94 (hto _ E H _ (hv.mono LE.rfl) (hL.up LE.rfl)) h fun r12 H12 L12 a w le12 R h => ?_
   obtain ⟨A12, c12, xs12, rfl, rfl, hr12⟩ := R
   have l_H_H12 : LE H H12 := le12
   refine as_ h fun a w h => ?_
   refine nlt ?_
   refine ret_ ?_
   refine thR ?_
   have h := h.del 1
   refine fin1 2 0 h l_H_H12 ?_
   unfold RowTk Tm.within
   rw [if_pos (by simp only [c5]; rfl)]
   exact ⟨_, _, _, rfl, rfl, hr12⟩
  ·refine mv h fun a w h => ?_
   refine fa fl24_0 (r := 0) h fun a w h => ?_
   refine ld 0 t1_3 h fun a w h => ?_
   refine eqi h fun a w h => ?_
   refine pkF h fun a w h => ?_
   refine nlt ?_
   refine cdB h (fun c10 => ?_) (fun c10 => ?_)
   ·refine sqr ?_
    refine ldW 0 tN24 h fun a w h => ?_
    refine cl bod94 (hto _ E H _ (hv.mono LE.rfl) (hL.up LE.rfl)) h fun r12 H12 L12 a w le12 R h => ?_
    obtain ⟨A12, c12, xs12, rfl, rfl, hr12⟩ := R
    have l_H_H12 : LE H H12 := le12
    refine as_ h fun a w h => ?_
    refine nlt ?_
    refine ret_ ?_
    refine thR ?_
    have h := h.del 1
    refine fin1 2 0 h l_H_H12 ?_
    unfold RowTk Tm.within
    rw [if_pos (by simp only [c5, c10]; rfl)]
    exact ⟨_, _, _, rfl, rfl, hr12⟩
   ·refine skt ?_
    refine sq ?_
    refine rgx [0] [_] [3] 11 mix h (fun a w h => ?_)
    refine tkl 0 false (by kernel_rfl) ?_
    refine mi cnc175 h fun a w h => ?_
    refine tk0 ?_
    refine tkl 3 true (by kernel_rfl) ?_
    refine ldWT 0 tN24 h fun a w h => ?_
    refine tk0 ?_
    refine tkl 6 false (by kernel_rfl) ?_
    refine mi cnc175 h fun a w h => ?_
    refine tk0 ?_
    refine brl2 1 7 true true (by kernel_rfl) (by kernel_rfl) (by kernel_rfl) (fun _ => h.st.sees' (by first | exact LE.rfl | assumption) (by simp)) ?_ ?_
    ·refine bsl bs204 h fun g14 a w h => ?_
     refine br0 ?_
     refine brl2 2 7 true true (by kernel_rfl) (by kernel_rfl) (by kernel_rfl) (fun _ => h.st.sees' (by first | exact LE.rfl | assumption) (by simp)) ?_ ?_
     ·obtain ⟨Hl14, leHl14, h, hp14⟩ := h.fsl (α := Pt) (R := RPt) 0 (ys := [.mark [40]]) (.cons1 rfl .nil) (fun _ l _ _ _ hr => rpt_up l hr)
      have l_H_Hl14 : LE H Hl14 := leHl14
      refine cl bod123 (laid_ok [.mark [40]] _ E Hl14 _ hp14 (hL.up l_H_Hl14) (fun t ht => by simp at ht) (by decide) (by decide)) h fun r15 H15 L15 a w le15 R h => ?_
      obtain ⟨A15, c15, xs15, rfl, rfl, hr15⟩ := R
      have l_H_H15 : LE H H15 := l_H_Hl14.trans le15
      have l_Hl14_H15 : LE Hl14 H15 := le15
      refine br0 ?_
      refine brl2 4 7 false true (by kernel_rfl) (by kernel_rfl) (by kernel_rfl) (fun _ => h.st.sees' (by first | exact LE.rfl | assumption) (by simp)) ?_ ?_
      ·refine cl bod94 (hto _ E H15 _ (hv.mono l_H_H15) (hL.up l_H_H15)) h fun r17 H17 L17 a w le17 R h => ?_
       obtain ⟨A17, c17, xs17, rfl, rfl, hr17⟩ := R
       have l_H_H17 : LE H H17 := l_H_H15.trans le17
       have l_Hl14_H17 : LE Hl14 H17 := l_Hl14_H15.trans le17
       have l_H15_H17 : LE H15 H17 := le17
       refine br0 ?_
       refine brl2 5 7 true true (by kernel_rfl) (by kernel_rfl) (by kernel_rfl) (fun _ => h.st.sees' (by first | exact LE.rfl | assumption) (by simp)) ?_ ?_
       ·obtain ⟨Ha18, leHa18, h, hs18⟩ := h.frw 0 (n := (t.toks).length) hr17 rfl (fun _ _ _ _ _ h => h)
        have l_H_Ha18 : LE H Ha18 := l_H_H17.trans leHa18
        have l_Hl14_Ha18 : LE Hl14 Ha18 := l_Hl14_H17.trans leHa18
        have l_H15_Ha18 : LE H15 Ha18 := l_H15_H17.trans leHa18
        have l_H17_Ha18 : LE H17 Ha18 := leHa18
        refine aps 0 (L' := fun i => i :: _) row141 hs18 rtk_one h ?_ ?_ fun v18 news18 a w hone hnews18 h => ?_
        ·have := hlen; simp only [List.length_cons, List.length_append, List.length_nil, laidL, List.flatMap_cons, List.flatMap_nil, Pt.toks] at this ⊢; omega
        ·have := hlen; simp only [List.length_cons, List.length_append, List.length_nil, laidL, List.flatMap_cons, List.flatMap_nil, Pt.toks] at this ⊢; omega
        obtain ⟨Ar18, cr18, rfl⟩ := h.rowv 0
        refine br0 ?_
        refine brl1 7 true (by kernel_rfl) (by kernel_rfl) (fun _ => h.st.sees' (by first | exact LE.rfl | assumption) (by simp)) ?_
        refine bsl bs204 h fun g20 a w h => ?_
        refine br0 ?_
        refine brl1 8 true (by kernel_rfl) (by kernel_rfl) (fun _ => h.st.sees' (by first | exact LE.rfl | assumption) (by simp)) ?_
        obtain ⟨Hl20, leHl20, h, hp20⟩ := h.fsl (α := Pt) (R := RPt) 0 (ys := [.mark [41]]) (.cons1 rfl .nil) (fun _ l _ _ _ hr => rpt_up l hr)
        have l_H_Hl20 : LE H Hl20 := l_H_Ha18.trans leHl20
        have l_Hl14_Hl20 : LE Hl14 Hl20 := l_Hl14_Ha18.trans leHl20
        have l_H15_Hl20 : LE H15 Hl20 := l_H15_Ha18.trans leHl20
        have l_H17_Hl20 : LE H17 Hl20 := l_H17_Ha18.trans leHl20
        have l_Ha18_Hl20 : LE Ha18 Hl20 := leHl20
        refine cl bod123 (laid_ok [.mark [41]] _ E Hl20 _ hp20 (hL.up l_H_Hl20) (fun t ht => by simp at ht) (by decide) (by decide)) h fun r21 H21 L21 a w le21 R h => ?_
        obtain ⟨A21, c21, xs21, rfl, rfl, hr21⟩ := R
        have l_H_H21 : LE H H21 := l_H_Hl20.trans le21
        have l_Hl14_H21 : LE Hl14 H21 := l_Hl14_Hl20.trans le21
        have l_H15_H21 : LE H15 H21 := l_H15_Hl20.trans le21
        have l_H17_H21 : LE H17 H21 := l_H17_Hl20.trans le21
        have l_Ha18_H21 : LE Ha18 H21 := l_Ha18_Hl20.trans le21
        have l_Hl20_H21 : LE Hl20 H21 := le21
        refine br0 ?_
        refine brl1 9 true (by kernel_rfl) (by kernel_rfl) (fun _ => h.st.sees' (by first | exact LE.rfl | assumption) (by simp)) ?_
        obtain ⟨Ha22, leHa22, h, hs22⟩ := h.frw 0 (n := ((laidL [.mark [41]])).length) hr21 rfl (fun _ _ _ _ _ h => h)
        have l_H_Ha22 : LE H Ha22 := l_H_H21.trans leHa22
        have l_Hl14_Ha22 : LE Hl14 Ha22 := l_Hl14_H21.trans leHa22
        have l_H15_Ha22 : LE H15 Ha22 := l_H15_H21.trans leHa22
        have l_H17_Ha22 : LE H17 Ha22 := l_H17_H21.trans leHa22
        have l_Ha18_Ha22 : LE Ha18 Ha22 := l_Ha18_H21.trans leHa22
        have l_Hl20_Ha22 : LE Hl20 Ha22 := l_Hl20_H21.trans leHa22
        have l_H21_Ha22 : LE H21 Ha22 := leHa22
        refine aps 0 (L' := fun i => i :: _) row141 hs22 rtk_one h ?_ ?_ fun v22 news22 a w hone hnews22 h => ?_
        ·have := hlen; simp only [List.length_cons, List.length_append, List.length_nil, laidL, List.flatMap_cons, List.flatMap_nil, Pt.toks] at this ⊢; omega
        ·have := hlen; simp only [List.length_cons, List.length_append, List.length_nil, laidL, List.flatMap_cons, List.flatMap_nil, Pt.toks] at this ⊢; omega
        obtain ⟨Ar22, cr22, rfl⟩ := h.rowv 0
        refine br0 ?_
        refine tkl 10 false (by kernel_rfl) ?_
        refine as_ h fun a w h => ?_
        refine tk0 ?_
        refine en (by kernel_rfl) ?_
        refine thN ?_
        refine ret_ ?_
        have h := h.del 1
        have e : (laidL [.mark [40]]).length + t.toks.length + (laidL [.mark [41]]).length = (⟨4, [40], 0⟩ :: (t.toks ++ [⟨4, [41], 0⟩]) : List Tk).length := by simp [laidL, Pt.toks]; omega
        rw [e] at h
        refine fin1 2 0 h l_H_Ha22 ?_
        unfold RowTk Tm.within
        rw [if_neg (by simp only [c5, c10]; decide)]
        exact ⟨_, _, _, rfl, rfl, ((rtkR hr15).app (rtkR hnews18)).app (rtkR hnews22)⟩
       ·refine bsl bs204 h fun g20 a w h => ?_
        refine br0 ?_
        refine brl1 5 true (by kernel_rfl) (by kernel_rfl) (fun _ => h.st.sees' (by first | exact LE.rfl | assumption) (by simp)) ?_
        obtain ⟨Ha18, leHa18, h, hs18⟩ := h.frw 1 (n := (t.toks).length) hr17 rfl (fun _ _ _ _ _ h => h)
        have l_H_Ha18 : LE H Ha18 := l_H_H17.trans leHa18
        have l_Hl14_Ha18 : LE Hl14 Ha18 := l_Hl14_H17.trans leHa18
        have l_H15_Ha18 : LE H15 Ha18 := l_H15_H17.trans leHa18
        have l_H17_Ha18 : LE H17 Ha18 := leHa18
        refine aps 1 (L' := fun i => _ :: i :: _) row141 hs18 rtk_one h ?_ ?_ fun v18 news18 a w hone hnews18 h => ?_
        ·have := hlen; simp only [List.length_cons, List.length_append, List.length_nil, laidL, List.flatMap_cons, List.flatMap_nil, Pt.toks] at this ⊢; omega
        ·have := hlen; simp only [List.length_cons, List.length_append, List.length_nil, laidL, List.flatMap_cons, List.flatMap_nil, Pt.toks] at this ⊢; omega
        obtain ⟨Ar18, cr18, rfl⟩ := h.rowv 1
        refine br0 ?_
        refine brl1 8 true (by kernel_rfl) (by kernel_rfl) (fun _ => h.st.sees' (by first | exact LE.rfl | assumption) (by simp)) ?_
        obtain ⟨Hl20, leHl20, h, hp20⟩ := h.fsl (α := Pt) (R := RPt) 0 (ys := [.mark [41]]) (.cons1 rfl .nil) (fun _ l _ _ _ hr => rpt_up l hr)
        have l_H_Hl20 : LE H Hl20 := l_H_Ha18.trans leHl20
        have l_Hl14_Hl20 : LE Hl14 Hl20 := l_Hl14_Ha18.trans leHl20
        have l_H15_Hl20 : LE H15 Hl20 := l_H15_Ha18.trans leHl20
        have l_H17_Hl20 : LE H17 Hl20 := l_H17_Ha18.trans leHl20
        have l_Ha18_Hl20 : LE Ha18 Hl20 := leHl20
        refine cl bod123 (laid_ok [.mark [41]] _ E Hl20 _ hp20 (hL.up l_H_Hl20) (fun t ht => by simp at ht) (by decide) (by decide)) h fun r21 H21 L21 a w le21 R h => ?_
        obtain ⟨A21, c21, xs21, rfl, rfl, hr21⟩ := R
        have l_H_H21 : LE H H21 := l_H_Hl20.trans le21
        have l_Hl14_H21 : LE Hl14 H21 := l_Hl14_Hl20.trans le21
        have l_H15_H21 : LE H15 H21 := l_H15_Hl20.trans le21
        have l_H17_H21 : LE H17 H21 := l_H17_Hl20.trans le21
        have l_Ha18_H21 : LE Ha18 H21 := l_Ha18_Hl20.trans le21
        have l_Hl20_H21 : LE Hl20 H21 := le21
        refine br0 ?_
        refine brl1 9 true (by kernel_rfl) (by kernel_rfl) (fun _ => h.st.sees' (by first | exact LE.rfl | assumption) (by simp)) ?_
        obtain ⟨Ha22, leHa22, h, hs22⟩ := h.frw 0 (n := ((laidL [.mark [41]])).length) hr21 rfl (fun _ _ _ _ _ h => h)
        have l_H_Ha22 : LE H Ha22 := l_H_H21.trans leHa22
        have l_Hl14_Ha22 : LE Hl14 Ha22 := l_Hl14_H21.trans leHa22
        have l_H15_Ha22 : LE H15 Ha22 := l_H15_H21.trans leHa22
        have l_H17_Ha22 : LE H17 Ha22 := l_H17_H21.trans leHa22
        have l_Ha18_Ha22 : LE Ha18 Ha22 := l_Ha18_H21.trans leHa22
        have l_Hl20_Ha22 : LE Hl20 Ha22 := l_Hl20_H21.trans leHa22
        have l_H21_Ha22 : LE H21 Ha22 := leHa22
        refine aps 0 (L' := fun i => i :: _) row141 hs22 rtk_one h ?_ ?_ fun v22 news22 a w hone hnews22 h => ?_
        ·have := hlen; simp only [List.length_cons, List.length_append, List.length_nil, laidL, List.flatMap_cons, List.flatMap_nil, Pt.toks] at this ⊢; omega
        ·have := hlen; simp only [List.length_cons, List.length_append, List.length_nil, laidL, List.flatMap_cons, List.flatMap_nil, Pt.toks] at this ⊢; omega
        obtain ⟨Ar22, cr22, rfl⟩ := h.rowv 0
        refine br0 ?_
        refine tkl 10 false (by kernel_rfl) ?_
        refine as_ h fun a w h => ?_
        refine tk0 ?_
        refine en (by kernel_rfl) ?_
        refine thN ?_
        refine ret_ ?_
        have h := h.del 1
        have e : (laidL [.mark [40]]).length + t.toks.length + (laidL [.mark [41]]).length = (⟨4, [40], 0⟩ :: (t.toks ++ [⟨4, [41], 0⟩]) : List Tk).length := by simp [laidL, Pt.toks]; omega
        rw [e] at h
        refine fin1 2 0 h l_H_Ha22 ?_
        unfold RowTk Tm.within
        rw [if_neg (by simp only [c5, c10]; decide)]
        exact ⟨_, _, _, rfl, rfl, ((rtkR hr15).app (rtkR hnews18)).app (rtkR hnews22)⟩
      ·refine bsl bs204 h fun g20 a w h => ?_
       refine br0 ?_
       refine brl1 4 false (by kernel_rfl) (by kernel_rfl) (fun _ => h.st.sees' (by first | exact LE.rfl | assumption) (by simp)) ?_
       refine cl bod94 (hto _ E H15 _ (hv.mono l_H_H15) (hL.up l_H_H15)) h fun r17 H17 L17 a w le17 R h => ?_
       obtain ⟨A17, c17, xs17, rfl, rfl, hr17⟩ := R
       have l_H_H17 : LE H H17 := l_H_H15.trans le17
       have l_Hl14_H17 : LE Hl14 H17 := l_Hl14_H15.trans le17
       have l_H15_H17 : LE H15 H17 := le17
       refine br0 ?_
       refine brl1 5 true (by kernel_rfl) (by kernel_rfl) (fun _ => h.st.sees' (by first | exact LE.rfl | assumption) (by simp)) ?_
       obtain ⟨Ha18, leHa18, h, hs18⟩ := h.frw 0 (n := (t.toks).length) hr17 rfl (fun _ _ _ _ _ h => h)
       have l_H_Ha18 : LE H Ha18 := l_H_H17.trans leHa18
       have l_Hl14_Ha18 : LE Hl14 Ha18 := l_Hl14_H17.trans leHa18
       have l_H15_Ha18 : LE H15 Ha18 := l_H15_H17.trans leHa18
       have l_H17_Ha18 : LE H17 Ha18 := leHa18
       refine aps 1 (L' := fun i => _ :: i :: _) row141 hs18 rtk_one h ?_ ?_ fun v18 news18 a w hone hnews18 h => ?_
       ·have := hlen; simp only [List.length_cons, List.length_append, List.length_nil, laidL, List.flatMap_cons, List.flatMap_nil, Pt.toks] at this ⊢; omega
       ·have := hlen; simp only [List.length_cons, List.length_append, List.length_nil, laidL, List.flatMap_cons, List.flatMap_nil, Pt.toks] at this ⊢; omega
       obtain ⟨Ar18, cr18, rfl⟩ := h.rowv 1
       refine br0 ?_
       refine brl1 8 true (by kernel_rfl) (by kernel_rfl) (fun _ => h.st.sees' (by first | exact LE.rfl | assumption) (by simp)) ?_
       obtain ⟨Hl20, leHl20, h, hp20⟩ := h.fsl (α := Pt) (R := RPt) 0 (ys := [.mark [41]]) (.cons1 rfl .nil) (fun _ l _ _ _ hr => rpt_up l hr)
       have l_H_Hl20 : LE H Hl20 := l_H_Ha18.trans leHl20
       have l_Hl14_Hl20 : LE Hl14 Hl20 := l_Hl14_Ha18.trans leHl20
       have l_H15_Hl20 : LE H15 Hl20 := l_H15_Ha18.trans leHl20
       have l_H17_Hl20 : LE H17 Hl20 := l_H17_Ha18.trans leHl20
       have l_Ha18_Hl20 : LE Ha18 Hl20 := leHl20
       refine cl bod123 (laid_ok [.mark [41]] _ E Hl20 _ hp20 (hL.up l_H_Hl20) (fun t ht => by simp at ht) (by decide) (by decide)) h fun r21 H21 L21 a w le21 R h => ?_
       obtain ⟨A21, c21, xs21, rfl, rfl, hr21⟩ := R
       have l_H_H21 : LE H H21 := l_H_Hl20.trans le21
       have l_Hl14_H21 : LE Hl14 H21 := l_Hl14_Hl20.trans le21
       have l_H15_H21 : LE H15 H21 := l_H15_Hl20.trans le21
       have l_H17_H21 : LE H17 H21 := l_H17_Hl20.trans le21
       have l_Ha18_H21 : LE Ha18 H21 := l_Ha18_Hl20.trans le21
       have l_Hl20_H21 : LE Hl20 H21 := le21
       refine br0 ?_
       refine brl1 9 true (by kernel_rfl) (by kernel_rfl) (fun _ => h.st.sees' (by first | exact LE.rfl | assumption) (by simp)) ?_
       obtain ⟨Ha22, leHa22, h, hs22⟩ := h.frw 0 (n := ((laidL [.mark [41]])).length) hr21 rfl (fun _ _ _ _ _ h => h)
       have l_H_Ha22 : LE H Ha22 := l_H_H21.trans leHa22
       have l_Hl14_Ha22 : LE Hl14 Ha22 := l_Hl14_H21.trans leHa22
       have l_H15_Ha22 : LE H15 Ha22 := l_H15_H21.trans leHa22
       have l_H17_Ha22 : LE H17 Ha22 := l_H17_H21.trans leHa22
       have l_Ha18_Ha22 : LE Ha18 Ha22 := l_Ha18_H21.trans leHa22
       have l_Hl20_Ha22 : LE Hl20 Ha22 := l_Hl20_H21.trans leHa22
       have l_H21_Ha22 : LE H21 Ha22 := leHa22
       refine aps 0 (L' := fun i => i :: _) row141 hs22 rtk_one h ?_ ?_ fun v22 news22 a w hone hnews22 h => ?_
       ·have := hlen; simp only [List.length_cons, List.length_append, List.length_nil, laidL, List.flatMap_cons, List.flatMap_nil, Pt.toks] at this ⊢; omega
       ·have := hlen; simp only [List.length_cons, List.length_append, List.length_nil, laidL, List.flatMap_cons, List.flatMap_nil, Pt.toks] at this ⊢; omega
       obtain ⟨Ar22, cr22, rfl⟩ := h.rowv 0
       refine br0 ?_
       refine tkl 10 false (by kernel_rfl) ?_
       refine as_ h fun a w h => ?_
       refine tk0 ?_
       refine en (by kernel_rfl) ?_
       refine thN ?_
       refine ret_ ?_
       have h := h.del 1
       have e : (laidL [.mark [40]]).length + t.toks.length + (laidL [.mark [41]]).length = (⟨4, [40], 0⟩ :: (t.toks ++ [⟨4, [41], 0⟩]) : List Tk).length := by simp [laidL, Pt.toks]; omega
       rw [e] at h
       refine fin1 2 0 h l_H_Ha22 ?_
       unfold RowTk Tm.within
       rw [if_neg (by simp only [c5, c10]; decide)]
       exact ⟨_, _, _, rfl, rfl, ((rtkR hr15).app (rtkR hnews18)).app (rtkR hnews22)⟩
     ·refine bsl bs204 h fun g20 a w h => ?_
      refine br0 ?_
      refine brl1 2 true (by kernel_rfl) (by kernel_rfl) (fun _ => h.st.sees' (by first | exact LE.rfl | assumption) (by simp)) ?_
      obtain ⟨Hl14, leHl14, h, hp14⟩ := h.fsl (α := Pt) (R := RPt) 1 (ys := [.mark [40]]) (.cons1 rfl .nil) (fun _ l _ _ _ hr => rpt_up l hr)
      have l_H_Hl14 : LE H Hl14 := leHl14
      refine cl bod123 (laid_ok [.mark [40]] _ E Hl14 _ hp14 (hL.up l_H_Hl14) (fun t ht => by simp at ht) (by decide) (by decide)) h fun r15 H15 L15 a w le15 R h => ?_
      obtain ⟨A15, c15, xs15, rfl, rfl, hr15⟩ := R
      have l_H_H15 : LE H H15 := l_H_Hl14.trans le15
      have l_Hl14_H15 : LE Hl14 H15 := le15
      refine br0 ?_
      refine brl1 4 false (by kernel_rfl) (by kernel_rfl) (fun _ => h.st.sees' (by first | exact LE.rfl | assumption) (by simp)) ?_
      refine cl bod94 (hto _ E H15 _ (hv.mono l_H_H15) (hL.up l_H_H15)) h fun r17 H17 L17 a w le17 R h => ?_
      obtain ⟨A17, c17, xs17, rfl, rfl, hr17⟩ := R
      have l_H_H17 : LE H H17 := l_H_H15.trans le17
      have l_Hl14_H17 : LE Hl14 H17 := l_Hl14_H15.trans le17
      have l_H15_H17 : LE H15 H17 := le17
      refine br0 ?_
      refine brl1 5 true (by kernel_rfl) (by kernel_rfl) (fun _ => h.st.sees' (by first | exact LE.rfl | assumption) (by simp)) ?_
      obtain ⟨Ha18, leHa18, h, hs18⟩ := h.frw 0 (n := (t.toks).length) hr17 rfl (fun _ _ _ _ _ h => h)
      have l_H_Ha18 : LE H Ha18 := l_H_H17.trans leHa18
      have l_Hl14_Ha18 : LE Hl14 Ha18 := l_Hl14_H17.trans leHa18
      have l_H15_Ha18 : LE H15 Ha18 := l_H15_H17.trans leHa18
      have l_H17_Ha18 : LE H17 Ha18 := leHa18
      refine aps 0 (L' := fun i => i :: _) row141 hs18 rtk_one h ?_ ?_ fun v18 news18 a w hone hnews18 h => ?_
      ·have := hlen; simp only [List.length_cons, List.length_append, List.length_nil, laidL, List.flatMap_cons, List.flatMap_nil, Pt.toks] at this ⊢; omega
      ·have := hlen; simp only [List.length_cons, List.length_append, List.length_nil, laidL, List.flatMap_cons, List.flatMap_nil, Pt.toks] at this ⊢; omega
      obtain ⟨Ar18, cr18, rfl⟩ := h.rowv 0
      refine br0 ?_
      refine brl1 8 true (by kernel_rfl) (by kernel_rfl) (fun _ => h.st.sees' (by first | exact LE.rfl | assumption) (by simp)) ?_
      obtain ⟨Hl20, leHl20, h, hp20⟩ := h.fsl (α := Pt) (R := RPt) 1 (ys := [.mark [41]]) (.cons1 rfl .nil) (fun _ l _ _ _ hr => rpt_up l hr)
      have l_H_Hl20 : LE H Hl20 := l_H_Ha18.trans leHl20
      have l_Hl14_Hl20 : LE Hl14 Hl20 := l_Hl14_Ha18.trans leHl20
      have l_H15_Hl20 : LE H15 Hl20 := l_H15_Ha18.trans leHl20
      have l_H17_Hl20 : LE H17 Hl20 := l_H17_Ha18.trans leHl20
      have l_Ha18_Hl20 : LE Ha18 Hl20 := leHl20
      refine cl bod123 (laid_ok [.mark [41]] _ E Hl20 _ hp20 (hL.up l_H_Hl20) (fun t ht => by simp at ht) (by decide) (by decide)) h fun r21 H21 L21 a w le21 R h => ?_
      obtain ⟨A21, c21, xs21, rfl, rfl, hr21⟩ := R
      have l_H_H21 : LE H H21 := l_H_Hl20.trans le21
      have l_Hl14_H21 : LE Hl14 H21 := l_Hl14_Hl20.trans le21
      have l_H15_H21 : LE H15 H21 := l_H15_Hl20.trans le21
      have l_H17_H21 : LE H17 H21 := l_H17_Hl20.trans le21
      have l_Ha18_H21 : LE Ha18 H21 := l_Ha18_Hl20.trans le21
      have l_Hl20_H21 : LE Hl20 H21 := le21
      refine br0 ?_
      refine brl1 9 true (by kernel_rfl) (by kernel_rfl) (fun _ => h.st.sees' (by first | exact LE.rfl | assumption) (by simp)) ?_
      obtain ⟨Ha22, leHa22, h, hs22⟩ := h.frw 0 (n := ((laidL [.mark [41]])).length) hr21 rfl (fun _ _ _ _ _ h => h)
      have l_H_Ha22 : LE H Ha22 := l_H_H21.trans leHa22
      have l_Hl14_Ha22 : LE Hl14 Ha22 := l_Hl14_H21.trans leHa22
      have l_H15_Ha22 : LE H15 Ha22 := l_H15_H21.trans leHa22
      have l_H17_Ha22 : LE H17 Ha22 := l_H17_H21.trans leHa22
      have l_Ha18_Ha22 : LE Ha18 Ha22 := l_Ha18_H21.trans leHa22
      have l_Hl20_Ha22 : LE Hl20 Ha22 := l_Hl20_H21.trans leHa22
      have l_H21_Ha22 : LE H21 Ha22 := leHa22
      refine aps 0 (L' := fun i => i :: _) row141 hs22 rtk_one h ?_ ?_ fun v22 news22 a w hone hnews22 h => ?_
      ·have := hlen; simp only [List.length_cons, List.length_append, List.length_nil, laidL, List.flatMap_cons, List.flatMap_nil, Pt.toks] at this ⊢; omega
      ·have := hlen; simp only [List.length_cons, List.length_append, List.length_nil, laidL, List.flatMap_cons, List.flatMap_nil, Pt.toks] at this ⊢; omega
      obtain ⟨Ar22, cr22, rfl⟩ := h.rowv 0
      refine br0 ?_
      refine tkl 10 false (by kernel_rfl) ?_
      refine as_ h fun a w h => ?_
      refine tk0 ?_
      refine en (by kernel_rfl) ?_
      refine thN ?_
      refine ret_ ?_
      have h := h.del 1
      have e : (laidL [.mark [40]]).length + t.toks.length + (laidL [.mark [41]]).length = (⟨4, [40], 0⟩ :: (t.toks ++ [⟨4, [41], 0⟩]) : List Tk).length := by simp [laidL, Pt.toks]; omega
      rw [e] at h
      refine fin1 2 0 h l_H_Ha22 ?_
      unfold RowTk Tm.within
      rw [if_neg (by simp only [c5, c10]; decide)]
      exact ⟨_, _, _, rfl, rfl, ((rtkR hr15).app (rtkR hnews18)).app (rtkR hnews22)⟩
    ·refine bsl bs204 h fun g20 a w h => ?_
     refine br0 ?_
     refine brl1 1 true (by kernel_rfl) (by kernel_rfl) (fun _ => h.st.sees' (by first | exact LE.rfl | assumption) (by simp)) ?_
     refine bsl bs204 h fun g14 a w h => ?_
     refine br0 ?_
     refine brl1 2 true (by kernel_rfl) (by kernel_rfl) (fun _ => h.st.sees' (by first | exact LE.rfl | assumption) (by simp)) ?_
     obtain ⟨Hl14, leHl14, h, hp14⟩ := h.fsl (α := Pt) (R := RPt) 0 (ys := [.mark [40]]) (.cons1 rfl .nil) (fun _ l _ _ _ hr => rpt_up l hr)
     have l_H_Hl14 : LE H Hl14 := leHl14
     refine cl bod123 (laid_ok [.mark [40]] _ E Hl14 _ hp14 (hL.up l_H_Hl14) (fun t ht => by simp at ht) (by decide) (by decide)) h fun r15 H15 L15 a w le15 R h => ?_
     obtain ⟨A15, c15, xs15, rfl, rfl, hr15⟩ := R
     have l_H_H15 : LE H H15 := l_H_Hl14.trans le15
     have l_Hl14_H15 : LE Hl14 H15 := le15
     refine br0 ?_
     refine brl1 4 false (by kernel_rfl) (by kernel_rfl) (fun _ => h.st.sees' (by first | exact LE.rfl | assumption) (by simp)) ?_
     refine cl bod94 (hto _ E H15 _ (hv.mono l_H_H15) (hL.up l_H_H15)) h fun r17 H17 L17 a w le17 R h => ?_
     obtain ⟨A17, c17, xs17, rfl, rfl, hr17⟩ := R
     have l_H_H17 : LE H H17 := l_H_H15.trans le17
     have l_Hl14_H17 : LE Hl14 H17 := l_Hl14_H15.trans le17
     have l_H15_H17 : LE H15 H17 := le17
     refine br0 ?_
     refine brl1 5 true (by kernel_rfl) (by kernel_rfl) (fun _ => h.st.sees' (by first | exact LE.rfl | assumption) (by simp)) ?_
     obtain ⟨Ha18, leHa18, h, hs18⟩ := h.frw 0 (n := (t.toks).length) hr17 rfl (fun _ _ _ _ _ h => h)
     have l_H_Ha18 : LE H Ha18 := l_H_H17.trans leHa18
     have l_Hl14_Ha18 : LE Hl14 Ha18 := l_Hl14_H17.trans leHa18
     have l_H15_Ha18 : LE H15 Ha18 := l_H15_H17.trans leHa18
     have l_H17_Ha18 : LE H17 Ha18 := leHa18
     refine aps 0 (L' := fun i => i :: _) row141 hs18 rtk_one h ?_ ?_ fun v18 news18 a w hone hnews18 h => ?_
     ·have := hlen; simp only [List.length_cons, List.length_append, List.length_nil, laidL, List.flatMap_cons, List.flatMap_nil, Pt.toks] at this ⊢; omega
     ·have := hlen; simp only [List.length_cons, List.length_append, List.length_nil, laidL, List.flatMap_cons, List.flatMap_nil, Pt.toks] at this ⊢; omega
     obtain ⟨Ar18, cr18, rfl⟩ := h.rowv 0
     refine br0 ?_
     refine brl1 8 true (by kernel_rfl) (by kernel_rfl) (fun _ => h.st.sees' (by first | exact LE.rfl | assumption) (by simp)) ?_
     obtain ⟨Hl20, leHl20, h, hp20⟩ := h.fsl (α := Pt) (R := RPt) 1 (ys := [.mark [41]]) (.cons1 rfl .nil) (fun _ l _ _ _ hr => rpt_up l hr)
     have l_H_Hl20 : LE H Hl20 := l_H_Ha18.trans leHl20
     have l_Hl14_Hl20 : LE Hl14 Hl20 := l_Hl14_Ha18.trans leHl20
     have l_H15_Hl20 : LE H15 Hl20 := l_H15_Ha18.trans leHl20
     have l_H17_Hl20 : LE H17 Hl20 := l_H17_Ha18.trans leHl20
     have l_Ha18_Hl20 : LE Ha18 Hl20 := leHl20
     refine cl bod123 (laid_ok [.mark [41]] _ E Hl20 _ hp20 (hL.up l_H_Hl20) (fun t ht => by simp at ht) (by decide) (by decide)) h fun r21 H21 L21 a w le21 R h => ?_
     obtain ⟨A21, c21, xs21, rfl, rfl, hr21⟩ := R
     have l_H_H21 : LE H H21 := l_H_Hl20.trans le21
     have l_Hl14_H21 : LE Hl14 H21 := l_Hl14_Hl20.trans le21
     have l_H15_H21 : LE H15 H21 := l_H15_Hl20.trans le21
     have l_H17_H21 : LE H17 H21 := l_H17_Hl20.trans le21
     have l_Ha18_H21 : LE Ha18 H21 := l_Ha18_Hl20.trans le21
     have l_Hl20_H21 : LE Hl20 H21 := le21
     refine br0 ?_
     refine brl1 9 true (by kernel_rfl) (by kernel_rfl) (fun _ => h.st.sees' (by first | exact LE.rfl | assumption) (by simp)) ?_
     obtain ⟨Ha22, leHa22, h, hs22⟩ := h.frw 0 (n := ((laidL [.mark [41]])).length) hr21 rfl (fun _ _ _ _ _ h => h)
     have l_H_Ha22 : LE H Ha22 := l_H_H21.trans leHa22
     have l_Hl14_Ha22 : LE Hl14 Ha22 := l_Hl14_H21.trans leHa22
     have l_H15_Ha22 : LE H15 Ha22 := l_H15_H21.trans leHa22
     have l_H17_Ha22 : LE H17 Ha22 := l_H17_H21.trans leHa22
     have l_Ha18_Ha22 : LE Ha18 Ha22 := l_Ha18_H21.trans leHa22
     have l_Hl20_Ha22 : LE Hl20 Ha22 := l_Hl20_H21.trans leHa22
     have l_H21_Ha22 : LE H21 Ha22 := leHa22
     refine aps 0 (L' := fun i => i :: _) row141 hs22 rtk_one h ?_ ?_ fun v22 news22 a w hone hnews22 h => ?_
     ·have := hlen; simp only [List.length_cons, List.length_append, List.length_nil, laidL, List.flatMap_cons, List.flatMap_nil, Pt.toks] at this ⊢; omega
     ·have := hlen; simp only [List.length_cons, List.length_append, List.length_nil, laidL, List.flatMap_cons, List.flatMap_nil, Pt.toks] at this ⊢; omega
     obtain ⟨Ar22, cr22, rfl⟩ := h.rowv 0
     refine br0 ?_
     refine tkl 10 false (by kernel_rfl) ?_
     refine as_ h fun a w h => ?_
     refine tk0 ?_
     refine en (by kernel_rfl) ?_
     refine thN ?_
     refine ret_ ?_
     have h := h.del 1
     have e : (laidL [.mark [40]]).length + t.toks.length + (laidL [.mark [41]]).length = (⟨4, [40], 0⟩ :: (t.toks ++ [⟨4, [41], 0⟩]) : List Tk).length := by simp [laidL, Pt.toks]; omega
     rw [e] at h
     refine fin1 2 0 h l_H_Ha22 ?_
     unfold RowTk Tm.within
     rw [if_neg (by simp only [c5, c10]; decide)]
     exact ⟨_, _, _, rfl, rfl, ((rtkR hr15).app (rtkR hnews18)).app (rtkR hnews22)⟩
end Go.Proofs.YtindlieilabgfaaGreatDoor
/- Walks: show.toks. -/
set_option linter.unusedVariables false
set_option linter.unusedSimpArgs false
set_option linter.unusedSectionVars false
set_option autoImplicit false
set_option relaxedAutoImplicit false
set_option maxRecDepth 10000
namespace Go.Proofs.YtindlieilabgfaaGreatDoor
open Go X
theorem toks_ok : ∀ (t : Tm), t.wrong = false → t.size ≤ 100000 → ToksOk t := by
  intro t
  induction t using Tm.ind with
  | h kd nm nn ks ih =>
  intro hwr hsz v E H L hv hL
  obtain ⟨A, c, rfl, hks⟩ := hv
  obtain ⟨hnode, hkw⟩ := right_of hwr
  obtain ⟨_, _, _, hn0, hn1⟩ := kids_of_node hnode
  have htl := toks_len (.mk kd nm nn ks)
  simp only [Tm.size] at hsz htl
  have hwi : ∀ x ∈ ks, WithinOk x := fun x hx => within_ok x (ih x hx (hkw x hx) (by have := size_le_sizeL hx; omega)) (by have := toks_len x; have := size_le_sizeL hx; omega)
  have hks : KS H A c ks := hks
  refine enter (N := 153) [(0, _)] Tryz.func94 rfl rfl rfl rfl fun a w h => ?_
  refine sqr ?_
  refine bxA h fun g1 a w h => ?_
  refine as_ h fun a w h => ?_
  refine nsr ?_
  obtain ⟨Hf, leHf, h, hf1⟩ := h.frz 0
  have l_H_Hf : LE H Hf := leHf
  refine mf h fun a w h => ?_
  refine as_ h fun a w h => ?_
  refine nsr ?_
  refine fa fl24_1 (r := 1) h fun a w h => ?_
  refine ldH t1_9 (Hc.of (LE.rfl _ _ hf1) rfl) h fun a w h => ?_
  refine as_ h fun a w h => ?_
  refine nlt ?_
  refine sq ?_
  refine sqr ?_
  refine fa fl24_0 (r := 0) h fun a w h => ?_
  refine ldH t1_3 (Hc.of (LE.rfl _ _ hf1) rfl) h fun a w h => ?_
  refine nlt ?_
  refine blk ?_
  refine sqr ?_
  refine eqi h fun a w h => ?_
  refine as_ h fun a w h => ?_
  refine nlt ?_
  refine cdB h (fun c10 => ?_) (fun c10 => ?_)
  ·have ek : kd = 1 := eq_of_beq c10
   have etk := (toks_k hnode).1 ek
   refine sq ?_
   refine rgx [] [] [1, 4] 8 mix h (fun a w h => ?_)
   refine tkl 0 false (by kernel_rfl) ?_
   refine fa fl24_2 (r := 2) h fun a w h => ?_
   refine tk0 ?_
   refine tkl 1 true (by kernel_rfl) ?_
   refine ldHT t1_2 (Hc.of (LE.rfl _ _ hf1) rfl) h fun a w h => ?_
   refine tk0 ?_
   refine tkl 3 false (by kernel_rfl) ?_
   refine fa fl24_2 (r := 2) h fun a w h => ?_
   refine tk0 ?_
   refine tkl 4 true (by kernel_rfl) ?_
   refine ldHT t1_2 (Hc.of (LE.rfl _ _ hf1) rfl) h fun a w h => ?_
   refine tk0 ?_
   refine brl1 2 true (by kernel_rfl) (by kernel_rfl) (fun _ => h.st.sees' (by first | exact LE.rfl | assumption) (by simp)) ?_
   refine cl bod74 (FormatInt_ok nn E Hf _ (hL.up l_H_Hf) (by omega) (by omega)) h fun r14 H14 L14 a w le14 R h => ?_
   obtain ⟨rfl, rfl, rfl⟩ := R
   refine br0 ?_
   refine tkl 5 false (by kernel_rfl) ?_
   refine bdl lay167 zr167 h fun a w h => ?_
   refine tk0 ?_
   refine brl1 6 true (by kernel_rfl) (by kernel_rfl) (fun _ => h.st.sees' (by first | exact LE.rfl | assumption) (by simp)) ?_
   refine bsl bs141 h fun g18 a w h => ?_
   refine br0 ?_
   refine tkl 7 false (by kernel_rfl) ?_
   refine as_ h fun a w h => ?_
   refine tk0 ?_
   refine en (by kernel_rfl) ?_
   refine thN ?_
   refine ret_ ?_
   refine ibR ?_
   refine thR ?_
   have h := h.asRow (sz := 3) (n := 1)
   refine fin1 2 0 h l_H_Hf ?_
   unfold RowTk
   rw [etk]
   exact ⟨_, _, _, rfl, rfl, .one rfl rfl⟩
  ·have ne1 : kd ≠ 1 := ne_of_beq_false c10
   refine sqr ?_
   refine eqi h fun a w h => ?_
   refine as_ h fun a w h => ?_
   refine nlt ?_
   refine cdB h (fun c19 => ?_) (fun c19 => ?_)
   ·have ek : kd = 2 := eq_of_beq c19
    have etk := (toks_k hnode).2.1 ek
    refine sqr ?_
    refine mv h fun a w h => ?_
    refine mi cnc172 h fun a w h => ?_
    refine bsl bs204 h fun g23 a w h => ?_
    obtain ⟨Hl23, leHl23, h, hp23⟩ := h.fsl (α := Pt) (R := RPt) 0 (ys := [.name nm]) (.cons1 rfl .nil) (fun _ l _ _ _ hr => rpt_up l hr)
    have l_H_Hl23 : LE H Hl23 := l_H_Hf.trans leHl23
    have l_Hf_Hl23 : LE Hf Hl23 := leHl23
    refine cl bod123 (laid_ok [.name nm] _ E Hl23 _ hp23 (hL.up l_H_Hl23) (fun t ht => by simp at ht) (by simp only [List.length_cons, List.length_nil]; omega) (by rw [← etk]; omega)) h fun r24 H24 L24 a w le24 R h => ?_
    obtain ⟨A24, c24, xs24, rfl, rfl, hr24⟩ := R
    have l_H_H24 : LE H H24 := l_H_Hl23.trans le24
    have l_Hf_H24 : LE Hf H24 := l_Hf_Hl23.trans le24
    have l_Hl23_H24 : LE Hl23 H24 := le24
    refine as_ h fun a w h => ?_
    refine nlt ?_
    refine ret_ ?_
    refine ibR ?_
    refine thR ?_
    refine fin1 2 0 h l_H_H24 ?_
    unfold RowTk
    rw [etk]
    exact ⟨_, _, _, rfl, rfl, hr24⟩
   ·have ne2 : kd ≠ 2 := ne_of_beq_false c19
    refine sqr ?_
    refine eqi h fun a w h => ?_
    refine as_ h fun a w h => ?_
    refine nlt ?_
    refine cdB h (fun c25 => ?_) (fun c25 => ?_)
    ·have ek : kd = 3 := eq_of_beq c25
     obtain ⟨hkl, etk⟩ := (toks_k hnode).2.2.1 ek
     refine sqr ?_
     refine mi cnc174 h fun a w h => ?_
     refine mv h fun a w h => ?_
     refine mi cnc172 h fun a w h => ?_
     refine mi cnc175 h fun a w h => ?_
     refine mv h fun a w h => ?_
     refine cl bod122 (kid_ok ks 0 (by omega) A c g1 E Hf _ (hks.up l_H_Hf) ((Hc.of hf1 rfl).mono LE.rfl)) h (fun r32 H32 L32 a w le32 R h => ?_)
     obtain ⟨A32, c32, rfl, hk32, rfl, rfl⟩ := R
     refine mi cnc170 h fun a w h => ?_
     refine bsl bs204 h fun g34 a w h => ?_
     obtain ⟨Hl34, leHl34, h, hp34⟩ := h.fsl (α := Pt) (R := RPt) 0 (ys := [.word [102, 117, 110], .name nm, .mark [61, 62], .kid (ks[0]'(by omega))]) (.cons1 rfl (.cons1 rfl (.cons1 rfl (.cons1 ⟨A32, c32, rfl, hk32.up LE.rfl⟩ .nil)))) (fun _ l _ _ _ hr => rpt_up l hr)
     have l_H_Hl34 : LE H Hl34 := l_H_Hf.trans leHl34
     have l_Hf_Hl34 : LE Hf Hl34 := leHl34
     refine cl bod123 (laid_ok [.word [102, 117, 110], .name nm, .mark [61, 62], .kid (ks[0]'(by omega))] _ E Hl34 _ hp34 (hL.up l_H_Hl34) (fun t ht => by simp at ht; subst ht; exact hwi _ (List.getElem_mem _)) (by simp only [List.length_cons, List.length_nil]; omega) (by rw [← etk]; omega)) h fun r35 H35 L35 a w le35 R h => ?_
     obtain ⟨A35, c35, xs35, rfl, rfl, hr35⟩ := R
     have l_H_H35 : LE H H35 := l_H_Hl34.trans le35
     have l_Hf_H35 : LE Hf H35 := l_Hf_Hl34.trans le35
     have l_Hl34_H35 : LE Hl34 H35 := le35
     refine as_ h fun a w h => ?_
     refine nlt ?_
     refine ret_ ?_
     refine ibR ?_
     refine thR ?_
     refine fin1 2 0 h l_H_H35 ?_
     unfold RowTk
     rw [etk]
     exact ⟨_, _, _, rfl, rfl, hr35⟩
    ·have ne3 : kd ≠ 3 := ne_of_beq_false c25
     refine sqr ?_
     refine eqi h fun a w h => ?_
     refine as_ h fun a w h => ?_
     refine nlt ?_
     refine cdB h (fun c36 => ?_) (fun c36 => ?_)
     ·have ek : kd = 4 := eq_of_beq c36
      obtain ⟨hkl, etk⟩ := (toks_k hnode).2.2.2.1 ek
      refine sqr ?_
      refine mv h fun a w h => ?_
      refine cl bod122 (kid_ok ks 0 (by omega) A c g1 E Hf _ (hks.up l_H_Hf) ((Hc.of hf1 rfl).mono LE.rfl)) h (fun r39 H39 L39 a w le39 R h => ?_)
      obtain ⟨A39, c39, rfl, hk39, rfl, rfl⟩ := R
      refine mi cnc170 h fun a w h => ?_
      refine mv h fun a w h => ?_
      refine cl bod122 (kid_ok ks 1 (by omega) A c g1 E Hf _ (hks.up l_H_Hf) ((Hc.of hf1 rfl).mono LE.rfl)) h (fun r42 H42 L42 a w le42 R h => ?_)
      obtain ⟨A42, c42, rfl, hk42, rfl, rfl⟩ := R
      refine mi cnc170 h fun a w h => ?_
      refine bsl bs204 h fun g44 a w h => ?_
      obtain ⟨Hl44, leHl44, h, hp44⟩ := h.fsl (α := Pt) (R := RPt) 0 (ys := [.kid (ks[0]'(by omega)), .kid (ks[1]'(by omega))]) (.cons1 ⟨A39, c39, rfl, hk39.up LE.rfl⟩ (.cons1 ⟨A42, c42, rfl, hk42.up LE.rfl⟩ .nil)) (fun _ l _ _ _ hr => rpt_up l hr)
      have l_H_Hl44 : LE H Hl44 := l_H_Hf.trans leHl44
      have l_Hf_Hl44 : LE Hf Hl44 := leHl44
      refine cl bod123 (laid_ok [.kid (ks[0]'(by omega)), .kid (ks[1]'(by omega))] _ E Hl44 _ hp44 (hL.up l_H_Hl44) (fun t ht => by simp at ht; rcases ht with rfl | rfl <;> exact hwi _ (List.getElem_mem _)) (by simp only [List.length_cons, List.length_nil]; omega) (by rw [← etk]; omega)) h fun r45 H45 L45 a w le45 R h => ?_
      obtain ⟨A45, c45, xs45, rfl, rfl, hr45⟩ := R
      have l_H_H45 : LE H H45 := l_H_Hl44.trans le45
      have l_Hf_H45 : LE Hf H45 := l_Hf_Hl44.trans le45
      have l_Hl44_H45 : LE Hl44 H45 := le45
      refine as_ h fun a w h => ?_
      refine nlt ?_
      refine ret_ ?_
      refine ibR ?_
      refine thR ?_
      refine fin1 2 0 h l_H_H45 ?_
      unfold RowTk
      rw [etk]
      exact ⟨_, _, _, rfl, rfl, hr45⟩
     ·have ne4 : kd ≠ 4 := ne_of_beq_false c36
      refine sqr ?_
      refine eqi h fun a w h => ?_
      refine as_ h fun a w h => ?_
      refine nlt ?_
      refine cdB h (fun c46 => ?_) (fun c46 => ?_)
      ·have ek : kd = 5 := eq_of_beq c46
       obtain ⟨hkl, etk⟩ := (toks_k hnode).2.2.2.2.1 ek
       refine sqr ?_
       refine mi cnc174 h fun a w h => ?_
       refine mv h fun a w h => ?_
       refine mi cnc172 h fun a w h => ?_
       refine mi cnc175 h fun a w h => ?_
       refine mv h fun a w h => ?_
       refine cl bod122 (kid_ok ks 0 (by omega) A c g1 E Hf _ (hks.up l_H_Hf) ((Hc.of hf1 rfl).mono LE.rfl)) h (fun r53 H53 L53 a w le53 R h => ?_)
       obtain ⟨A53, c53, rfl, hk53, rfl, rfl⟩ := R
       refine mi cnc170 h fun a w h => ?_
       refine mi cnc174 h fun a w h => ?_
       refine mv h fun a w h => ?_
       refine cl bod122 (kid_ok ks 1 (by omega) A c g1 E Hf _ (hks.up l_H_Hf) ((Hc.of hf1 rfl).mono LE.rfl)) h (fun r57 H57 L57 a w le57 R h => ?_)
       obtain ⟨A57, c57, rfl, hk57, rfl, rfl⟩ := R
       refine mi cnc170 h fun a w h => ?_
       refine bsl bs204 h fun g59 a w h => ?_
       obtain ⟨Hl59, leHl59, h, hp59⟩ := h.fsl (α := Pt) (R := RPt) 0 (ys := [.word [108, 101, 116], .name nm, .mark [61], .kid (ks[0]'(by omega)), .word [105, 110], .kid (ks[1]'(by omega))]) (.cons1 rfl (.cons1 rfl (.cons1 rfl (.cons1 ⟨A53, c53, rfl, hk53.up LE.rfl⟩ (.cons1 rfl (.cons1 ⟨A57, c57, rfl, hk57.up LE.rfl⟩ .nil)))))) (fun _ l _ _ _ hr => rpt_up l hr)
       have l_H_Hl59 : LE H Hl59 := l_H_Hf.trans leHl59
       have l_Hf_Hl59 : LE Hf Hl59 := leHl59
       refine cl bod123 (laid_ok [.word [108, 101, 116], .name nm, .mark [61], .kid (ks[0]'(by omega)), .word [105, 110], .kid (ks[1]'(by omega))] _ E Hl59 _ hp59 (hL.up l_H_Hl59) (fun t ht => by simp at ht; rcases ht with rfl | rfl <;> exact hwi _ (List.getElem_mem _)) (by simp only [List.length_cons, List.length_nil]; omega) (by rw [← etk]; omega)) h fun r60 H60 L60 a w le60 R h => ?_
       obtain ⟨A60, c60, xs60, rfl, rfl, hr60⟩ := R
       have l_H_H60 : LE H H60 := l_H_Hl59.trans le60
       have l_Hf_H60 : LE Hf H60 := l_Hf_Hl59.trans le60
       have l_Hl59_H60 : LE Hl59 H60 := le60
       refine as_ h fun a w h => ?_
       refine nlt ?_
       refine ret_ ?_
       refine ibR ?_
       refine thR ?_
       refine fin1 2 0 h l_H_H60 ?_
       unfold RowTk
       rw [etk]
       exact ⟨_, _, _, rfl, rfl, hr60⟩
      ·have ne5 : kd ≠ 5 := ne_of_beq_false c46
       refine sqr ?_
       refine eqi h fun a w h => ?_
       refine as_ h fun a w h => ?_
       refine nlt ?_
       refine cdB h (fun c61 => ?_) (fun c61 => ?_)
       ·have ek : kd = 6 := eq_of_beq c61
        obtain ⟨hkl, etk⟩ := (toks_k hnode).2.2.2.2.2.1 ek
        refine sqr ?_
        refine mi cnc174 h fun a w h => ?_
        refine mv h fun a w h => ?_
        refine cl bod122 (kid_ok ks 0 (by omega) A c g1 E Hf _ (hks.up l_H_Hf) ((Hc.of hf1 rfl).mono LE.rfl)) h (fun r65 H65 L65 a w le65 R h => ?_)
        obtain ⟨A65, c65, rfl, hk65, rfl, rfl⟩ := R
        refine mi cnc170 h fun a w h => ?_
        refine mi cnc174 h fun a w h => ?_
        refine mv h fun a w h => ?_
        refine cl bod122 (kid_ok ks 1 (by omega) A c g1 E Hf _ (hks.up l_H_Hf) ((Hc.of hf1 rfl).mono LE.rfl)) h (fun r69 H69 L69 a w le69 R h => ?_)
        obtain ⟨A69, c69, rfl, hk69, rfl, rfl⟩ := R
        refine mi cnc170 h fun a w h => ?_
        refine mi cnc174 h fun a w h => ?_
        refine mv h fun a w h => ?_
        refine cl bod122 (kid_ok ks 2 (by omega) A c g1 E Hf _ (hks.up l_H_Hf) ((Hc.of hf1 rfl).mono LE.rfl)) h (fun r73 H73 L73 a w le73 R h => ?_)
        obtain ⟨A73, c73, rfl, hk73, rfl, rfl⟩ := R
        refine mi cnc170 h fun a w h => ?_
        refine bsl bs204 h fun g75 a w h => ?_
        obtain ⟨Hl75, leHl75, h, hp75⟩ := h.fsl (α := Pt) (R := RPt) 0 (ys := [.word [105, 102], .kid (ks[0]'(by omega)), .word [116, 104, 101, 110], .kid (ks[1]'(by omega)), .word [101, 108, 115, 101], .kid (ks[2]'(by omega))]) (.cons1 rfl (.cons1 ⟨A65, c65, rfl, hk65.up LE.rfl⟩ (.cons1 rfl (.cons1 ⟨A69, c69, rfl, hk69.up LE.rfl⟩ (.cons1 rfl (.cons1 ⟨A73, c73, rfl, hk73.up LE.rfl⟩ .nil)))))) (fun _ l _ _ _ hr => rpt_up l hr)
        have l_H_Hl75 : LE H Hl75 := l_H_Hf.trans leHl75
        have l_Hf_Hl75 : LE Hf Hl75 := leHl75
        refine cl bod123 (laid_ok [.word [105, 102], .kid (ks[0]'(by omega)), .word [116, 104, 101, 110], .kid (ks[1]'(by omega)), .word [101, 108, 115, 101], .kid (ks[2]'(by omega))] _ E Hl75 _ hp75 (hL.up l_H_Hl75) (fun t ht => by simp at ht; rcases ht with rfl | rfl | rfl <;> exact hwi _ (List.getElem_mem _)) (by simp only [List.length_cons, List.length_nil]; omega) (by rw [← etk]; omega)) h fun r76 H76 L76 a w le76 R h => ?_
        obtain ⟨A76, c76, xs76, rfl, rfl, hr76⟩ := R
        have l_H_H76 : LE H H76 := l_H_Hl75.trans le76
        have l_Hf_H76 : LE Hf H76 := l_Hf_Hl75.trans le76
        have l_Hl75_H76 : LE Hl75 H76 := le76
        refine as_ h fun a w h => ?_
        refine nlt ?_
        refine ret_ ?_
        refine ibR ?_
        refine thR ?_
        refine fin1 2 0 h l_H_H76 ?_
        unfold RowTk
        rw [etk]
        exact ⟨_, _, _, rfl, rfl, hr76⟩
       ·have ne6 : kd ≠ 6 := ne_of_beq_false c61
        refine sqr ?_
        refine eqi h fun a w h => ?_
        refine as_ h fun a w h => ?_
        refine nlt ?_
        refine cdB h (fun c77 => ?_) (fun c77 => ?_)
        ·have ek : kd = 7 := eq_of_beq c77
         obtain ⟨hkl, etk⟩ := (toks_k hnode).2.2.2.2.2.2.1 ek
         refine sqr ?_
         refine mi cnc174 h fun a w h => ?_
         refine mv h fun a w h => ?_
         refine cl bod122 (kid_ok ks 0 (by omega) A c g1 E Hf _ (hks.up l_H_Hf) ((Hc.of hf1 rfl).mono LE.rfl)) h (fun r81 H81 L81 a w le81 R h => ?_)
         obtain ⟨A81, c81, rfl, hk81, rfl, rfl⟩ := R
         refine mi cnc170 h fun a w h => ?_
         refine mi cnc174 h fun a w h => ?_
         refine mv h fun a w h => ?_
         refine cl bod122 (kid_ok ks 1 (by omega) A c g1 E Hf _ (hks.up l_H_Hf) ((Hc.of hf1 rfl).mono LE.rfl)) h (fun r85 H85 L85 a w le85 R h => ?_)
         obtain ⟨A85, c85, rfl, hk85, rfl, rfl⟩ := R
         refine mi cnc170 h fun a w h => ?_
         refine bsl bs204 h fun g87 a w h => ?_
         obtain ⟨Hl87, leHl87, h, hp87⟩ := h.fsl (α := Pt) (R := RPt) 0 (ys := [.word [119, 104, 105, 108, 101], .kid (ks[0]'(by omega)), .word [100, 111], .kid (ks[1]'(by omega))]) (.cons1 rfl (.cons1 ⟨A81, c81, rfl, hk81.up LE.rfl⟩ (.cons1 rfl (.cons1 ⟨A85, c85, rfl, hk85.up LE.rfl⟩ .nil)))) (fun _ l _ _ _ hr => rpt_up l hr)
         have l_H_Hl87 : LE H Hl87 := l_H_Hf.trans leHl87
         have l_Hf_Hl87 : LE Hf Hl87 := leHl87
         refine cl bod123 (laid_ok [.word [119, 104, 105, 108, 101], .kid (ks[0]'(by omega)), .word [100, 111], .kid (ks[1]'(by omega))] _ E Hl87 _ hp87 (hL.up l_H_Hl87) (fun t ht => by simp at ht; rcases ht with rfl | rfl <;> exact hwi _ (List.getElem_mem _)) (by simp only [List.length_cons, List.length_nil]; omega) (by rw [← etk]; omega)) h fun r88 H88 L88 a w le88 R h => ?_
         obtain ⟨A88, c88, xs88, rfl, rfl, hr88⟩ := R
         have l_H_H88 : LE H H88 := l_H_Hl87.trans le88
         have l_Hf_H88 : LE Hf H88 := l_Hf_Hl87.trans le88
         have l_Hl87_H88 : LE Hl87 H88 := le88
         refine as_ h fun a w h => ?_
         refine nlt ?_
         refine ret_ ?_
         refine ibR ?_
         refine thR ?_
         refine fin1 2 0 h l_H_H88 ?_
         unfold RowTk
         rw [etk]
         exact ⟨_, _, _, rfl, rfl, hr88⟩
        ·have ne7 : kd ≠ 7 := ne_of_beq_false c77
         refine sqr ?_
         refine eqi h fun a w h => ?_
         refine as_ h fun a w h => ?_
         refine nlt ?_
         refine cdB h (fun c89 => ?_) (fun c89 => ?_)
         ·have ek : kd = 8 := eq_of_beq c89
          obtain ⟨hkl, etk⟩ := (toks_k hnode).2.2.2.2.2.2.2.1 ek
          refine sqr ?_
          refine mi cnc174 h fun a w h => ?_
          refine mv h fun a w h => ?_
          refine cl bod122 (kid_ok ks 0 (by omega) A c g1 E Hf _ (hks.up l_H_Hf) ((Hc.of hf1 rfl).mono LE.rfl)) h (fun r93 H93 L93 a w le93 R h => ?_)
          obtain ⟨A93, c93, rfl, hk93, rfl, rfl⟩ := R
          refine mi cnc170 h fun a w h => ?_
          refine bsl bs204 h fun g95 a w h => ?_
          obtain ⟨Hl95, leHl95, h, hp95⟩ := h.fsl (α := Pt) (R := RPt) 0 (ys := [.word [114, 97, 105, 115, 101], .kid (ks[0]'(by omega))]) (.cons1 rfl (.cons1 ⟨A93, c93, rfl, hk93.up LE.rfl⟩ .nil)) (fun _ l _ _ _ hr => rpt_up l hr)
          have l_H_Hl95 : LE H Hl95 := l_H_Hf.trans leHl95
          have l_Hf_Hl95 : LE Hf Hl95 := leHl95
          refine cl bod123 (laid_ok [.word [114, 97, 105, 115, 101], .kid (ks[0]'(by omega))] _ E Hl95 _ hp95 (hL.up l_H_Hl95) (fun t ht => by simp at ht; subst ht; exact hwi _ (List.getElem_mem _)) (by simp only [List.length_cons, List.length_nil]; omega) (by rw [← etk]; omega)) h fun r96 H96 L96 a w le96 R h => ?_
          obtain ⟨A96, c96, xs96, rfl, rfl, hr96⟩ := R
          have l_H_H96 : LE H H96 := l_H_Hl95.trans le96
          have l_Hf_H96 : LE Hf H96 := l_Hf_Hl95.trans le96
          have l_Hl95_H96 : LE Hl95 H96 := le96
          refine as_ h fun a w h => ?_
          refine nlt ?_
          refine ret_ ?_
          refine ibR ?_
          refine thR ?_
          refine fin1 2 0 h l_H_H96 ?_
          unfold RowTk
          rw [etk]
          exact ⟨_, _, _, rfl, rfl, hr96⟩
         ·have ne8 : kd ≠ 8 := ne_of_beq_false c89
          refine sqr ?_
          refine eqi h fun a w h => ?_
          refine as_ h fun a w h => ?_
          refine nlt ?_
          refine cdB h (fun c97 => ?_) (fun c97 => ?_)
          ·have ek : kd = 9 := eq_of_beq c97
           obtain ⟨hkl, etk⟩ := (toks_k hnode).2.2.2.2.2.2.2.2.1 ek
           refine sqr ?_
           refine mi cnc174 h fun a w h => ?_
           refine mv h fun a w h => ?_
           refine cl bod122 (kid_ok ks 0 (by omega) A c g1 E Hf _ (hks.up l_H_Hf) ((Hc.of hf1 rfl).mono LE.rfl)) h (fun r101 H101 L101 a w le101 R h => ?_)
           obtain ⟨A101, c101, rfl, hk101, rfl, rfl⟩ := R
           refine mi cnc170 h fun a w h => ?_
           refine mi cnc174 h fun a w h => ?_
           refine mv h fun a w h => ?_
           refine mi cnc172 h fun a w h => ?_
           refine mi cnc175 h fun a w h => ?_
           refine mv h fun a w h => ?_
           refine cl bod122 (kid_ok ks 1 (by omega) A c g1 E Hf _ (hks.up l_H_Hf) ((Hc.of hf1 rfl).mono LE.rfl)) h (fun r108 H108 L108 a w le108 R h => ?_)
           obtain ⟨A108, c108, rfl, hk108, rfl, rfl⟩ := R
           refine mi cnc170 h fun a w h => ?_
           refine bsl bs204 h fun g110 a w h => ?_
           obtain ⟨Hl110, leHl110, h, hp110⟩ := h.fsl (α := Pt) (R := RPt) 0 (ys := [.word [116, 114, 121], .kid (ks[0]'(by omega)), .word [119, 105, 116, 104], .name nm, .mark [61, 62], .kid (ks[1]'(by omega))]) (.cons1 rfl (.cons1 ⟨A101, c101, rfl, hk101.up LE.rfl⟩ (.cons1 rfl (.cons1 rfl (.cons1 rfl (.cons1 ⟨A108, c108, rfl, hk108.up LE.rfl⟩ .nil)))))) (fun _ l _ _ _ hr => rpt_up l hr)
           have l_H_Hl110 : LE H Hl110 := l_H_Hf.trans leHl110
           have l_Hf_Hl110 : LE Hf Hl110 := leHl110
           refine cl bod123 (laid_ok [.word [116, 114, 121], .kid (ks[0]'(by omega)), .word [119, 105, 116, 104], .name nm, .mark [61, 62], .kid (ks[1]'(by omega))] _ E Hl110 _ hp110 (hL.up l_H_Hl110) (fun t ht => by simp at ht; rcases ht with rfl | rfl <;> exact hwi _ (List.getElem_mem _)) (by simp only [List.length_cons, List.length_nil]; omega) (by rw [← etk]; omega)) h fun r111 H111 L111 a w le111 R h => ?_
           obtain ⟨A111, c111, xs111, rfl, rfl, hr111⟩ := R
           have l_H_H111 : LE H H111 := l_H_Hl110.trans le111
           have l_Hf_H111 : LE Hf H111 := l_Hf_Hl110.trans le111
           have l_Hl110_H111 : LE Hl110 H111 := le111
           refine as_ h fun a w h => ?_
           refine nlt ?_
           refine ret_ ?_
           refine ibR ?_
           refine thR ?_
           refine fin1 2 0 h l_H_H111 ?_
           unfold RowTk
           rw [etk]
           exact ⟨_, _, _, rfl, rfl, hr111⟩
          ·have ne9 : kd ≠ 9 := ne_of_beq_false c97
           refine sqr ?_
           refine eqi h fun a w h => ?_
           refine as_ h fun a w h => ?_
           refine nlt ?_
           refine cdB h (fun c112 => ?_) (fun c112 => ?_)
           ·have ek : kd = 10 := eq_of_beq c112
            obtain ⟨hkl, etk⟩ := (toks_k hnode).2.2.2.2.2.2.2.2.2.1 ek
            refine sqr ?_
            refine mi cnc175 h fun a w h => ?_
            refine mv h fun a w h => ?_
            refine cl bod122 (kid_ok ks 0 (by omega) A c g1 E Hf _ (hks.up l_H_Hf) ((Hc.of hf1 rfl).mono LE.rfl)) h (fun r116 H116 L116 a w le116 R h => ?_)
            obtain ⟨A116, c116, rfl, hk116, rfl, rfl⟩ := R
            refine mi cnc170 h fun a w h => ?_
            refine bsl bs204 h fun g118 a w h => ?_
            obtain ⟨Hl118, leHl118, h, hp118⟩ := h.fsl (α := Pt) (R := RPt) 0 (ys := [.mark [33], .kid (ks[0]'(by omega))]) (.cons1 rfl (.cons1 ⟨A116, c116, rfl, hk116.up LE.rfl⟩ .nil)) (fun _ l _ _ _ hr => rpt_up l hr)
            have l_H_Hl118 : LE H Hl118 := l_H_Hf.trans leHl118
            have l_Hf_Hl118 : LE Hf Hl118 := leHl118
            refine cl bod123 (laid_ok [.mark [33], .kid (ks[0]'(by omega))] _ E Hl118 _ hp118 (hL.up l_H_Hl118) (fun t ht => by simp at ht; subst ht; exact hwi _ (List.getElem_mem _)) (by simp only [List.length_cons, List.length_nil]; omega) (by rw [← etk]; omega)) h fun r119 H119 L119 a w le119 R h => ?_
            obtain ⟨A119, c119, xs119, rfl, rfl, hr119⟩ := R
            have l_H_H119 : LE H H119 := l_H_Hl118.trans le119
            have l_Hf_H119 : LE Hf H119 := l_Hf_Hl118.trans le119
            have l_Hl118_H119 : LE Hl118 H119 := le119
            refine as_ h fun a w h => ?_
            refine nlt ?_
            refine ret_ ?_
            refine ibR ?_
            refine thR ?_
            refine fin1 2 0 h l_H_H119 ?_
            unfold RowTk
            rw [etk]
            exact ⟨_, _, _, rfl, rfl, hr119⟩
           ·have ne10 : kd ≠ 10 := ne_of_beq_false c112
            refine sqr ?_
            refine eqi h fun a w h => ?_
            refine as_ h fun a w h => ?_
            refine nlt ?_
            refine cdB h (fun c120 => ?_) (fun c120 => ?_)
            ·have ek : kd = 11 := eq_of_beq c120
             obtain ⟨hkl, etk⟩ := (toks_k hnode).2.2.2.2.2.2.2.2.2.2.1 ek
             refine sqr ?_
             refine mv h fun a w h => ?_
             refine cl bod122 (kid_ok ks 0 (by omega) A c g1 E Hf _ (hks.up l_H_Hf) ((Hc.of hf1 rfl).mono LE.rfl)) h (fun r123 H123 L123 a w le123 R h => ?_)
             obtain ⟨A123, c123, rfl, hk123, rfl, rfl⟩ := R
             refine mi cnc170 h fun a w h => ?_
             refine mi cnc175 h fun a w h => ?_
             refine mv h fun a w h => ?_
             refine cl bod122 (kid_ok ks 1 (by omega) A c g1 E Hf _ (hks.up l_H_Hf) ((Hc.of hf1 rfl).mono LE.rfl)) h (fun r127 H127 L127 a w le127 R h => ?_)
             obtain ⟨A127, c127, rfl, hk127, rfl, rfl⟩ := R
             refine mi cnc170 h fun a w h => ?_
             refine bsl bs204 h fun g129 a w h => ?_
             obtain ⟨Hl129, leHl129, h, hp129⟩ := h.fsl (α := Pt) (R := RPt) 0 (ys := [.kid (ks[0]'(by omega)), .mark [58, 61], .kid (ks[1]'(by omega))]) (.cons1 ⟨A123, c123, rfl, hk123.up LE.rfl⟩ (.cons1 rfl (.cons1 ⟨A127, c127, rfl, hk127.up LE.rfl⟩ .nil))) (fun _ l _ _ _ hr => rpt_up l hr)
             have l_H_Hl129 : LE H Hl129 := l_H_Hf.trans leHl129
             have l_Hf_Hl129 : LE Hf Hl129 := leHl129
             refine cl bod123 (laid_ok [.kid (ks[0]'(by omega)), .mark [58, 61], .kid (ks[1]'(by omega))] _ E Hl129 _ hp129 (hL.up l_H_Hl129) (fun t ht => by simp at ht; rcases ht with rfl | rfl <;> exact hwi _ (List.getElem_mem _)) (by simp only [List.length_cons, List.length_nil]; omega) (by rw [← etk]; omega)) h fun r130 H130 L130 a w le130 R h => ?_
             obtain ⟨A130, c130, xs130, rfl, rfl, hr130⟩ := R
             have l_H_H130 : LE H H130 := l_H_Hl129.trans le130
             have l_Hf_H130 : LE Hf H130 := l_Hf_Hl129.trans le130
             have l_Hl129_H130 : LE Hl129 H130 := le130
             refine as_ h fun a w h => ?_
             refine nlt ?_
             refine ret_ ?_
             refine ibR ?_
             refine thR ?_
             refine fin1 2 0 h l_H_H130 ?_
             unfold RowTk
             rw [etk]
             exact ⟨_, _, _, rfl, rfl, hr130⟩
            ·have ne11 : kd ≠ 11 := ne_of_beq_false c120
             refine sqr ?_
             refine eqi h fun a w h => ?_
             refine as_ h fun a w h => ?_
             refine nlt ?_
             refine cdB h (fun c131 => ?_) (fun c131 => ?_)
             ·have ek : kd = 12 := eq_of_beq c131
              obtain ⟨hkl, etk⟩ := (toks_k hnode).2.2.2.2.2.2.2.2.2.2.2.1 ek
              refine sq ?_
              refine rgx [] [] [4] 12 mix h (fun a w h => ?_)
              refine tkl 0 false (by kernel_rfl) ?_
              refine mv h fun a w h => ?_
              refine tk0 ?_
              refine tkl 3 false (by kernel_rfl) ?_
              refine fa fl24_1 (r := 1) h fun a w h => ?_
              refine tk0 ?_
              refine tkl 4 true (by kernel_rfl) ?_
              refine ldHT t1_9 (Hc.of (LE.rfl _ _ hf1) rfl) h fun a w h => ?_
              refine tk0 ?_
              refine tkl 5 false (by kernel_rfl) ?_
              refine mi cnc175 h fun a w h => ?_
              refine tk0 ?_
              refine tkl 6 false (by kernel_rfl) ?_
              refine mv h fun a w h => ?_
              refine tk0 ?_
              refine brl1 1 true (by kernel_rfl) (by kernel_rfl) (fun _ => h.st.sees' (by first | exact LE.rfl | assumption) (by simp)) ?_
              refine cl bod122 (kid_ok ks 0 (by omega) A c g1 E Hf _ (hks.up l_H_Hf) ((Hc.of hf1 rfl).mono LE.rfl)) h (fun r134 H134 L134 a w le134 R h => ?_) (hS := fun _ _ _ _ _ le R hw => by obtain ⟨_, _, _, _, rfl, rfl⟩ := R; exact hw.sees' (by first | exact le | exact LE.trans (by assumption) le) (by simp))
              obtain ⟨A134, c134, rfl, hk134, rfl, rfl⟩ := R
              refine br0 ?_
              refine tkl 2 false (by kernel_rfl) ?_
              refine mi cnc170 h fun a w h => ?_
              refine tk0 ?_
              refine brl1 7 true (by kernel_rfl) (by kernel_rfl) (fun _ => h.st.sees' (by first | exact LE.rfl | assumption) (by simp)) ?_
              refine cl bod122 (kid_ok ks 1 (by omega) A c g1 E Hf _ (hks.up l_H_Hf) ((Hc.of hf1 rfl).mono LE.rfl)) h (fun r140 H140 L140 a w le140 R h => ?_) (hS := fun _ _ _ _ _ le R hw => by obtain ⟨_, _, _, _, rfl, rfl⟩ := R; exact hw.sees' (by first | exact le | exact LE.trans (by assumption) le) (by simp))
              obtain ⟨A140, c140, rfl, hk140, rfl, rfl⟩ := R
              refine br0 ?_
              refine tkl 8 false (by kernel_rfl) ?_
              refine mi cnc170 h fun a w h => ?_
              refine tk0 ?_
              refine brl1 9 true (by kernel_rfl) (by kernel_rfl) (fun _ => h.st.sees' (by first | exact LE.rfl | assumption) (by simp)) ?_
              refine bsl bs204 h fun g142 a w h => ?_
              refine br0 ?_
              refine brl1 10 true (by kernel_rfl) (by kernel_rfl) (fun _ => h.st.sees' (by first | exact LE.rfl | assumption) (by simp)) ?_
              obtain ⟨Hl142, leHl142, h, hp142⟩ := h.fsl (α := Pt) (R := RPt) 0 (ys := [.kid (ks[0]'(by omega)), .mark nm, .kid (ks[1]'(by omega))]) (.cons1 ⟨A134, c134, rfl, hk134.up LE.rfl⟩ (.cons1 rfl (.cons1 ⟨A140, c140, rfl, hk140.up LE.rfl⟩ .nil))) (fun _ l _ _ _ hr => rpt_up l hr)
              have l_H_Hl142 : LE H Hl142 := l_H_Hf.trans leHl142
              have l_Hf_Hl142 : LE Hf Hl142 := leHl142
              refine cl bod123 (laid_ok [.kid (ks[0]'(by omega)), .mark nm, .kid (ks[1]'(by omega))] _ E Hl142 _ hp142 (hL.up l_H_Hl142) (fun t ht => by simp at ht; rcases ht with rfl | rfl <;> exact hwi _ (List.getElem_mem _)) (by simp only [List.length_cons, List.length_nil]; omega) (by rw [← etk]; omega)) h fun r143 H143 L143 a w le143 R h => ?_
              obtain ⟨A143, c143, xs143, rfl, rfl, hr143⟩ := R
              have l_H_H143 : LE H H143 := l_H_Hl142.trans le143
              have l_Hf_H143 : LE Hf H143 := l_Hf_Hl142.trans le143
              have l_Hl142_H143 : LE Hl142 H143 := le143
              refine br0 ?_
              refine tkl 11 false (by kernel_rfl) ?_
              refine as_ h fun a w h => ?_
              refine tk0 ?_
              refine en (by kernel_rfl) ?_
              refine thN ?_
              refine ret_ ?_
              refine ibR ?_
              refine thR ?_
              refine fin1 2 0 h l_H_H143 ?_
              unfold RowTk
              rw [etk]
              exact ⟨_, _, _, rfl, rfl, hr143⟩
             ·have ne12 : kd ≠ 12 := ne_of_beq_false c131
              refine sk_ ?_
              refine ibN ?_
              refine thN ?_
              refine sqr ?_
              obtain ⟨hkl, etk⟩ := (toks_k hnode).2.2.2.2.2.2.2.2.2.2.2.2 ne1 ne2 ne3 ne4 ne5 ne6 ne7 ne8 ne9 ne10 ne11 ne12
              refine mv h fun a w h => ?_
              refine cl bod122 (kid_ok ks 0 (by omega) A c g1 E Hf _ (hks.up l_H_Hf) ((Hc.of hf1 rfl).mono LE.rfl)) h (fun r145 H145 L145 a w le145 R h => ?_)
              obtain ⟨A145, c145, rfl, hk145, rfl, rfl⟩ := R
              refine mi cnc170 h fun a w h => ?_
              refine mi cnc175 h fun a w h => ?_
              refine mv h fun a w h => ?_
              refine cl bod122 (kid_ok ks 1 (by omega) A c g1 E Hf _ (hks.up l_H_Hf) ((Hc.of hf1 rfl).mono LE.rfl)) h (fun r149 H149 L149 a w le149 R h => ?_)
              obtain ⟨A149, c149, rfl, hk149, rfl, rfl⟩ := R
              refine mi cnc170 h fun a w h => ?_
              refine bsl bs204 h fun g151 a w h => ?_
              obtain ⟨Hl151, leHl151, h, hp151⟩ := h.fsl (α := Pt) (R := RPt) 0 (ys := [.kid (ks[0]'(by omega)), .mark [59], .kid (ks[1]'(by omega))]) (.cons1 ⟨A145, c145, rfl, hk145.up LE.rfl⟩ (.cons1 rfl (.cons1 ⟨A149, c149, rfl, hk149.up LE.rfl⟩ .nil))) (fun _ l _ _ _ hr => rpt_up l hr)
              have l_H_Hl151 : LE H Hl151 := l_H_Hf.trans leHl151
              have l_Hf_Hl151 : LE Hf Hl151 := leHl151
              refine cl bod123 (laid_ok [.kid (ks[0]'(by omega)), .mark [59], .kid (ks[1]'(by omega))] _ E Hl151 _ hp151 (hL.up l_H_Hl151) (fun t ht => by simp at ht; rcases ht with rfl | rfl <;> exact hwi _ (List.getElem_mem _)) (by simp only [List.length_cons, List.length_nil]; omega) (by rw [← etk]; omega)) h fun r152 H152 L152 a w le152 R h => ?_
              obtain ⟨A152, c152, xs152, rfl, rfl, hr152⟩ := R
              have l_H_H152 : LE H H152 := l_H_Hl151.trans le152
              have l_Hf_H152 : LE Hf H152 := l_Hf_Hl151.trans le152
              have l_Hl151_H152 : LE Hl151 H152 := le152
              refine as_ h fun a w h => ?_
              refine nlt ?_
              refine ret_ ?_
              refine fin1 2 0 h l_H_H152 ?_
              unfold RowTk
              rw [etk]
              exact ⟨_, _, _, rfl, rfl, hr152⟩
end Go.Proofs.YtindlieilabgfaaGreatDoor
/- Walks: show.Show. -/
set_option linter.unusedVariables false
set_option linter.unusedSimpArgs false
set_option linter.unusedSectionVars false
set_option autoImplicit false
set_option relaxedAutoImplicit false
set_option maxRecDepth 10000
namespace Go.Proofs.YtindlieilabgfaaGreatDoor
open Go X
theorem right_iff {t : Tm} (h : t.right = true) : t.depth ≤ 200 ∧ t.size ≤ 10000 ∧ t.wrong = false := by
  unfold Tm.right at h
  simp only [Bool.and_eq_true, decide_eq_true_eq, Bool.not_eq_true'] at h
  exact ⟨by omega, by omega, h.2.2⟩
theorem Show_ok (t : Tm) (v : Value) (E : World) (H : GH) (L : List It) (hv : VT H v t) (hL : Laid H) (hlg : t.long < 1000000000000) (hsz : t.size < 1000000000000) (hjoin : t.right = true → (Lib.join (t.toks.map (·.text)) [32]).length ≤ 140737488355328) : Ok Tryz.prog 75 #[v] E H L fun r H' L' => r = str t.show' ∧ H = H' ∧ L = L' := by
  have hv0 := hv
  obtain ⟨A, c, rfl, hks⟩ := hv
  have hv := hv0
  refine enter (N := 9) [(0, _)] Tryz.func75 rfl rfl rfl rfl fun a w h => ?_
  refine sqr ?_
  refine bxA h fun g1 a w h => ?_
  refine as_ h fun a w h => ?_
  refine nlt ?_
  refine sq ?_
  refine sqr ?_
  refine ldW 0 tN24 h fun a w h => ?_
  refine cl bod91 (Right_ok t _ E H _ hv hL hlg hsz) h fun r4 H4 L4 a w le4 R h => ?_
  obtain ⟨rfl, rfl, rfl⟩ := R
  refine nt h fun a w h => ?_
  refine nlt ?_
  refine cdB h (fun c5 => ?_) (fun c5 => ?_)
  ·have c4 : t.right = false := by simpa using c5
   refine sqr ?_
   refine as_ h fun a w h => ?_
   refine nlt ?_
   refine ret_ ?_
   refine thR ?_
   have h := h.del 0
   refine fin1 2 0 (h.less LE.rfl) LE.rfl ?_
   unfold Tm.show'
   exact ⟨by rw [c4]; rfl, rfl, rfl⟩
  ·have c4 : t.right = true := by simpa using c5
   obtain ⟨hs1, hs2, hs3⟩ := right_iff c4
   have htl := toks_len t
   have hjl := hjoin c4
   refine skt ?_
   refine sqr ?_
   refine ldW 0 tN24 h fun a w h => ?_
   refine cl bod94 (toks_ok t hs3 (by omega) _ E H _ (hv.mono LE.rfl) (hL.up LE.rfl)) h fun r7 H7 L7 a w le7 R h => ?_
   obtain ⟨A7, c7, xs7, rfl, rfl, hr7⟩ := R
   have l_H_H7 : LE H H7 := le7
   obtain ⟨Hs, leHs, h, hrs⟩ := h.frw 0 (n := t.toks.length) hr7 rfl (fun _ _ _ _ _ h => h)
   have l_H_Hs : LE H Hs := l_H_H7.trans leHs
   have l_H7_Hs : LE H7 Hs := leHs
   refine cl bod93 (Print_ok t.toks _ E Hs _ hrs (by omega) hjl) h fun r8 H8 L8 a w le8 R h => ?_
   obtain ⟨rfl, rfl, rfl⟩ := R
   refine as_ h fun a w h => ?_
   refine nlt ?_
   refine ret_ ?_
   have h := h.del 0
   refine fin1 2 0 (h.less l_H_Hs) LE.rfl ?_
   unfold Tm.show'
   exact ⟨by rw [c4]; rfl, rfl, rfl⟩
end Go.Proofs.YtindlieilabgfaaGreatDoor
/- Walks: prog.Print, Right. -/
set_option linter.unusedVariables false
set_option linter.unusedSimpArgs false
set_option linter.unusedSectionVars false
set_option autoImplicit false
set_option relaxedAutoImplicit false
set_option maxRecDepth 10000
namespace Go.Proofs.YtindlieilabgfaaGreatDoor
open Go X
def apd (a b : Bs) : Bs := match b with
  | [] => a
  | _ => a ++ b
theorem apd_eq (a b : Bs) : apd a b = a ++ b := by cases b <;> simp [apd]
theorem catB {P : Program} {ops : Array Oper} {Q : Exit → Act → World → Prop} {γ : Gd P ops Q} {rest : List Oper} {o : Oper} {E w : World} {H : GH} {N : Nat} {D : List Deferred} {F : List (Nat × Value)} {L : List It} {a : Act}
    {t u : TypeId} {x y : Operand} {d : Nat} {s s' : List UInt8} (h : S E H N D F L a w) (hl : s.length + s'.length ≤ 100000000000000) (k : ∀ a w, S E H N D ((d, .string ⟨(s ++ s').toArray⟩) :: F) L a w → γ.G rest a w)
    (ho : o.op = .binOp .add t x y u := by rfl) (hx : ev F x = some (.string ⟨s.toArray⟩) := by rfl) (hy : ev F y = some (.string ⟨s'.toArray⟩) := by rfl)
    (hw : wn ops F o = some true := by rfl) (hd : o.dst = some d := by rfl) (hN : Nat.blt d N = true := by rfl) : γ.G (o :: rest) a w := cat h k hl ho hx hy hw hd hN
theorem PrintP_ok (p : Pg) (v : Value) (E : World) (H : GH) (L : List It) (hv : VP H v p) (hL : Laid H) (hb : Mild p) : Ok Tryz.prog 57 #[v] E H L fun r H' L' => r = str p.print ∧ H = H' ∧ L = L' := by
  have hv0 := hv
  obtain ⟨A1, c1, A2, c2, A3, c3, A4, c4, rfl, hi, hc, hd, hk⟩ := hv
  have hv := hv0
  refine enter (N := 83) [(0, _)] Tryz.func57 rfl rfl rfl rfl fun a w h => ?_
  refine sqr ?_
  refine bxA h fun g1 a w h => ?_
  refine as_ h fun a w h => ?_
  refine nlt ?_
  refine sq ?_
  refine sqr ?_
  obtain ⟨Hf, leHf, h, hf1⟩ := h.frz 0
  have l_H_Hf : LE H Hf := leHf
  have hL := hL.up l_H_Hf
  have hv := hv.mono l_H_Hf
  have hi := hi.up l_H_Hf
  have hc := hc.up l_H_Hf
  have hd := hd.up l_H_Hf
  have hk := hk.up l_H_Hf
  refine ldHN tN28 rfl (Hc.all (LE.rfl _ _ hf1)) h fun a w h => ?_
  refine cl bod73 (fits_ok p _ E Hf _ hv hL hb) h fun r11 H11 L11 a w le11 R h => ?_
  obtain ⟨rfl, rfl, rfl⟩ := R
  refine nt h fun a w h => ?_
  refine nlt ?_
  refine cdB h (fun c12 => ?_) (fun c12 => ?_)
  ·have hfit : p.fits = false := by simpa using c12
   have e0 : p.print = [] := by unfold Pg.print; rw [if_neg (by rw [hfit]; simp)]
   refine sqr ?_
   refine as_ h fun a w h => ?_
   refine nlt ?_
   refine ret_ ?_
   refine thR ?_
   refine fin1 2 0 (h.less l_H_Hf) LE.rfl ?_
   exact ⟨by first | (rw [e0]; done) | (rw [e0]; rfl), rfl, rfl⟩
  ·have hfit : p.fits = true := by simpa using c12
   obtain ⟨hl1, hl2, hl3, hw1, hw2, hw3, hbr⟩ := fits_of hfit
   have q1 := flat_take_len (f := Dc.inL) (fun d hd => inL_len (hw1 d hd).1) hl1
   have q2 := flat_take_len (f := Dc.cellL) (fun d hd => cellL_len (hw2 d hd)) hl2
   have q3 := flat_take_len (f := Df.line) (fun d hd => line_len (hw3 d hd)) hl3
   have q1a := q1 p.inputs.length
   have q2a := q2 p.cells.length
   have q3a := q3 p.defs.length
   rw [List.take_length] at q1a q2a q3a
   have q4 := show'_le p.body
   refine skt ?_
   refine sqr ?_
   refine as_ h fun a w h => ?_
   refine nlt ?_
   refine sq ?_
   refine sqr ?_
   refine fa fl28_0 (r := 0) h fun a w h => ?_
   refine ldH t1_25 (Hc.of (LE.rfl _ _ hf1) rfl) h fun a w h => ?_
   refine ln sli25 h fun a w h => ?_
   refine mv h fun a w h => ?_
   refine nlt ?_
   refine blk ?_
   refine lp (β := Nat) (fun k a w => (k ≤ p.inputs.length) ∧ S E Hf 83 [] [(16, .int .i64 (k : Int)), (15, .int .i64 (p.inputs.length : Int)), (14, .slice A1 p.inputs.length c1), (3, str (apd [] ((p.inputs.take k).flatMap Dc.inL))), (1, .pointer (some ⟨g1, 0, none⟩))] (L) a w)
    (fun k => p.inputs.length - k) 0 ⟨Nat.zero_le _, h.to 0 _⟩ ?_
   rintro k a w ⟨pre, h⟩
   refine sqr ?_
   refine lt h fun a w h => ?_
   refine nlt ?_
   refine sq ?_
   refine cdB h (fun c17 => ?_) (fun c17 => ?_)
   ·have c17 : k < p.inputs.length := by simpa using c17
    obtain ⟨g, off, rfl, hvt, hcell⟩ := CS.get hi c17
    obtain ⟨d1, d2, _, _⟩ := dc_len (hw1 _ (List.getElem_mem c17)).1
    have qk := q1 k
    rw [apd_eq] at h
    refine skt ?_
    refine sq ?_
    refine blk ?_
    refine sqr ?_
    refine ia sli25 sz72 rfl c17 h fun a w h => ?_
    refine ldHN tN72 rfl hcell h fun a w h => ?_
    refine al zr72 h fun g5 a w h => ?_
    refine sw0 tN72 h fun a w h => ?_
    refine nlt ?_
    refine rg0 ?_
    refine mv h fun a w h => ?_
    refine fa fl72_0 (r := 0) h fun a w h => ?_
    refine ld 0 t1_9 h fun a w h => ?_
    refine catB h ?_ fun a w h => ?_
    ·(try simp only [List.length_append, List.length_cons, List.length_nil]); omega
    refine catB h ?_ fun a w h => ?_
    ·(try simp only [List.length_append, List.length_cons, List.length_nil]); omega
    refine fa fl72_1 (r := 1) h fun a w h => ?_
    refine ld 0 t1_9 h fun a w h => ?_
    refine catB h ?_ fun a w h => ?_
    ·(try simp only [List.length_append, List.length_cons, List.length_nil]); omega
    refine catB h ?_ fun a w h => ?_
    ·(try simp only [List.length_append, List.length_cons, List.length_nil]); omega
    refine catB h ?_ fun a w h => ?_
    ·(try simp only [List.length_append, List.length_cons, List.length_nil]); omega
    have ea : ∀ z, z = Dc.inL p.inputs[k] → ([] ++ (p.inputs.take k).flatMap Dc.inL) ++ z = apd [] ((p.inputs.take (k + 1)).flatMap Dc.inL) := by intro z hz; rw [hz, apd_eq, flat_take c17, List.append_assoc]
    rw [ea _ ?hz] at h
    case hz => rfl
    refine as_ h fun a w h => ?_
    refine nl0 ?_
    refine ibN ?_
    refine thN ?_
    refine rg0 ?_
    refine inc ?_ h fun a w h => ?_
    ·omega
    refine mv h fun a w h => ?_
    refine nlt ?_
    exact ⟨(k + 1), ⟨by omega, h.to 1 _⟩, by show _ - (k + 1) < _ - k; omega⟩
   ·have hk0 : k = p.inputs.length := by simp at c17; omega
    rw [apd_eq, hk0, List.take_length] at h
    rw [List.nil_append] at h
    refine exit_ ?_
    refine thE ?_
    refine thE ?_
    refine ibH ?_
    refine thN ?_
    refine sq ?_
    refine sqr ?_
    refine fa fl28_1 (r := 1) h fun a w h => ?_
    refine ldH t1_25 (Hc.of (LE.rfl _ _ hf1) rfl) h fun a w h => ?_
    refine ln sli25 h fun a w h => ?_
    refine mv h fun a w h => ?_
    refine nlt ?_
    refine blk ?_
    refine lp (β := Nat) (fun k a w => (k ≤ p.cells.length) ∧ S E Hf 83 [] [(34, .int .i64 (k : Int)), (33, .int .i64 (p.cells.length : Int)), (32, .slice A2 p.cells.length c2), (3, str (apd (p.inputs.flatMap Dc.inL) ((p.cells.take k).flatMap Dc.cellL))), (1, .pointer (some ⟨g1, 0, none⟩))] (L) a w)
     (fun k => p.cells.length - k) 0 ⟨Nat.zero_le _, h.to 0 _⟩ ?_
    rintro k a w ⟨pre, h⟩
    refine sqr ?_
    refine lt h fun a w h => ?_
    refine nlt ?_
    refine sq ?_
    refine cdB h (fun c35 => ?_) (fun c35 => ?_)
    ·have c35 : k < p.cells.length := by simpa using c35
     obtain ⟨g, off, rfl, hvt, hcell⟩ := CS.get hc c35
     obtain ⟨d1, d2, d3, d4⟩ := dc_len (hw2 _ (List.getElem_mem c35))
     have qk := q2 k
     rw [apd_eq] at h
     have d5 := Lib.itoa_length_le p.cells[k].n (by omega) (by omega)
     refine skt ?_
     refine sq ?_
     refine blk ?_
     refine sqr ?_
     refine ia sli25 sz72 rfl c35 h fun a w h => ?_
     refine ldHN tN72 rfl hcell h fun a w h => ?_
     refine al zr72 h fun g7 a w h => ?_
     refine sw0 tN72 h fun a w h => ?_
     refine nlt ?_
     refine rgd [0] [_] [4] [2, 6, 10] 1 mix (by kernel_rfl) h (fun a w h => ?_)
     refine mv h fun a w h => ?_
     refine fa fl72_0 (r := 0) h fun a w h => ?_
     refine ldD 0 t1_9 h fun a w h => ?_
     refine catB h ?_ fun a w h => ?_
     ·(try simp only [List.length_append, List.length_cons, List.length_nil]); omega
     refine catB h ?_ fun a w h => ?_
     ·(try simp only [List.length_append, List.length_cons, List.length_nil]); omega
     refine fa fl72_1 (r := 1) h fun a w h => ?_
     refine ldD 0 t1_9 h fun a w h => ?_
     refine catB h ?_ fun a w h => ?_
     ·(try simp only [List.length_append, List.length_cons, List.length_nil]); omega
     refine catB h ?_ fun a w h => ?_
     ·(try simp only [List.length_append, List.length_cons, List.length_nil]); omega
     refine fa fl72_2 (r := 2) h fun a w h => ?_
     refine ldD 0 t1_2 h fun a w h => ?_
     refine cl bod74 (FormatInt_ok p.cells[k].n E Hf _ hL (by omega) (by omega)) h fun r49 H49 L49 a w le49 R h => ?_
     obtain ⟨rfl, rfl, rfl⟩ := R
     refine catB h ?_ fun a w h => ?_
     ·(try simp only [List.length_append, List.length_cons, List.length_nil]); omega
     refine catB h ?_ fun a w h => ?_
     ·(try simp only [List.length_append, List.length_cons, List.length_nil]); omega
     refine catB h ?_ fun a w h => ?_
     ·(try simp only [List.length_append, List.length_cons, List.length_nil]); omega
     have ea : ∀ z, z = Dc.cellL p.cells[k] → ((p.inputs.flatMap Dc.inL) ++ (p.cells.take k).flatMap Dc.cellL) ++ z = apd (p.inputs.flatMap Dc.inL) ((p.cells.take (k + 1)).flatMap Dc.cellL) := by intro z hz; rw [hz, apd_eq, flat_take c35, List.append_assoc]
     rw [ea _ ?hz] at h
     case hz => rfl
     refine as_ h fun a w h => ?_
     refine nl0 ?_
     refine ibN ?_
     refine thN ?_
     refine rg0 ?_
     refine inc ?_ h fun a w h => ?_
     ·omega
     refine mv h fun a w h => ?_
     refine nlt ?_
     exact ⟨(k + 1), ⟨by omega, h.to 1 _⟩, by show _ - (k + 1) < _ - k; omega⟩
    ·have hk0 : k = p.cells.length := by simp at c35; omega
     rw [apd_eq, hk0, List.take_length] at h
     refine exit_ ?_
     refine thE ?_
     refine thE ?_
     refine ibH ?_
     refine thN ?_
     refine sq ?_
     refine sqr ?_
     refine fa fl28_2 (r := 2) h fun a w h => ?_
     refine ldH t1_26 (Hc.of (LE.rfl _ _ hf1) rfl) h fun a w h => ?_
     refine ln sli26 h fun a w h => ?_
     refine mv h fun a w h => ?_
     refine nlt ?_
     refine blk ?_
     refine lp (β := Nat) (fun k a w => (k ≤ p.defs.length) ∧ S E Hf 83 [] [(57, .int .i64 (k : Int)), (56, .int .i64 (p.defs.length : Int)), (55, .slice A3 p.defs.length c3), (3, str (apd ((p.inputs.flatMap Dc.inL) ++ p.cells.flatMap Dc.cellL) ((p.defs.take k).flatMap Df.line))), (1, .pointer (some ⟨g1, 0, none⟩))] (L) a w)
      (fun k => p.defs.length - k) 0 ⟨Nat.zero_le _, h.to 0 _⟩ ?_
     rintro k a w ⟨pre, h⟩
     refine sqr ?_
     refine lt h fun a w h => ?_
     refine nlt ?_
     refine sq ?_
     refine cdB h (fun c58 => ?_) (fun c58 => ?_)
     ·have c58 : k < p.defs.length := by simpa using c58
      obtain ⟨g, off, A5, c5, rfl, hvt, hcell⟩ := FS.get hd c58
      obtain ⟨d1, d2⟩ := df_len (hw3 _ (List.getElem_mem c58))
      have d3 := show'_le p.defs[k].t
      have qk := q3 k
      rw [apd_eq] at h
      obtain ⟨A6, c6, e6, hkt⟩ := hvt
      cases e6
      refine skt ?_
      refine sq ?_
      refine blk ?_
      refine sqr ?_
      refine ia sli26 sz68 rfl c58 h fun a w h => ?_
      refine ldHN tN68 rfl hcell h fun a w h => ?_
      refine al zr68 h fun g9 a w h => ?_
      refine sw0 tN68 h fun a w h => ?_
      refine nlt ?_
      refine rgd [0] [_] [4] [2, 6] 1 mix (by kernel_rfl) h (fun a w h => ?_)
      refine mv h fun a w h => ?_
      refine fa fl68_0 (r := 0) h fun a w h => ?_
      refine ldD 0 t1_9 h fun a w h => ?_
      refine catB h ?_ fun a w h => ?_
      ·(try simp only [List.length_append, List.length_cons, List.length_nil]); omega
      refine catB h ?_ fun a w h => ?_
      ·(try simp only [List.length_append, List.length_cons, List.length_nil]); omega
      refine fa fl68_1 (r := 1) h fun a w h => ?_
      refine ldND 0 tN24 h fun a w h => ?_
      refine cl bod75 (Show_ok p.defs[k].t _ E Hf _ (VDf.t hkt) hL (hb.f _ (List.getElem_mem c58)).2.1 (hb.f _ (List.getElem_mem c58)).2.2 (fun hr => by have := show_le hr; unfold showL at this; omega)) h fun r68 H68 L68 a w le68 R h => ?_
      obtain ⟨rfl, rfl, rfl⟩ := R
      refine catB h ?_ fun a w h => ?_
      ·(try simp only [List.length_append, List.length_cons, List.length_nil]); omega
      refine catB h ?_ fun a w h => ?_
      ·(try simp only [List.length_append, List.length_cons, List.length_nil]); omega
      refine catB h ?_ fun a w h => ?_
      ·(try simp only [List.length_append, List.length_cons, List.length_nil]); omega
      have ea : ∀ z, z = Df.line p.defs[k] → (((p.inputs.flatMap Dc.inL) ++ p.cells.flatMap Dc.cellL) ++ (p.defs.take k).flatMap Df.line) ++ z = apd ((p.inputs.flatMap Dc.inL) ++ p.cells.flatMap Dc.cellL) ((p.defs.take (k + 1)).flatMap Df.line) := by intro z hz; rw [hz, apd_eq, flat_take c58, List.append_assoc]
      rw [ea _ ?hz] at h
      case hz => rfl
      refine as_ h fun a w h => ?_
      refine nl0 ?_
      refine ibN ?_
      refine thN ?_
      refine rg0 ?_
      refine inc ?_ h fun a w h => ?_
      ·omega
      refine mv h fun a w h => ?_
      refine nlt ?_
      exact ⟨(k + 1), ⟨by omega, h.to 1 _⟩, by show _ - (k + 1) < _ - k; omega⟩
     ·have hk0 : k = p.defs.length := by simp at c58; omega
      rw [apd_eq, hk0, List.take_length] at h
      refine exit_ ?_
      refine thE ?_
      refine thE ?_
      refine ibH ?_
      refine thN ?_
      refine sqr ?_
      refine mv h fun a w h => ?_
      refine fa fl28_3 (r := 3) h fun a w h => ?_
      refine ldHN (l := [_, _, _, _]) tN24 rfl (Hc.sub 3 4 (LE.rfl _ _ hf1)) h fun a w h => ?_
      refine cl bod75 (Show_ok p.body _ E Hf _ ⟨A4, c4, rfl, hk⟩ hL hb.b1 hb.b2 (fun hr => by have := show_le hr; unfold showL at this; omega)) h fun r76 H76 L76 a w le76 R h => ?_
      obtain ⟨rfl, rfl, rfl⟩ := R
      refine catB h ?_ fun a w h => ?_
      ·(try simp only [List.length_append, List.length_cons, List.length_nil]); omega
      refine catB h ?_ fun a w h => ?_
      ·(try simp only [List.length_append, List.length_cons, List.length_nil]); omega
      refine as_ h fun a w h => ?_
      refine nlt ?_
      refine sq ?_
      refine sqr ?_
      refine mv h fun a w h => ?_
      refine lnb str9 h fun a w h => ?_
      refine gt h fun a w h => ?_
      refine nlt ?_
      refine cdB h (fun c81 => ?_) (fun c81 => ?_)
      ·have e0 : p.print = [] := by unfold Pg.print; rw [if_pos hfit, if_pos (show decide (65536 < (p.text.length : Int)) = true from c81)]
       refine sqr ?_
       refine as_ h fun a w h => ?_
       refine nlt ?_
       refine ret_ ?_
       refine thR ?_
       refine fin1 2 0 (h.less l_H_Hf) LE.rfl ?_
       exact ⟨by first | (rw [e0]; done) | (rw [e0]; rfl), rfl, rfl⟩
      ·have e0 : p.print = p.text := by unfold Pg.print; rw [if_pos hfit, if_neg (by rw [show decide (65536 < (p.text.length : Int)) = false from c81]; simp)]
       refine skt ?_
       refine sqr ?_
       refine mv h fun a w h => ?_
       refine as_ h fun a w h => ?_
       refine nlt ?_
       refine ret_ ?_
       refine fin1 2 0 (h.less l_H_Hf) LE.rfl ?_
       exact ⟨by first | (rw [e0]; done) | (rw [e0]; rfl), rfl, rfl⟩
theorem RightP_ok (p : Pg) (v : Value) (E : World) (H : GH) (L : List It) (hv : VP H v p) (hL : Laid H) (hb : Mild p) : Ok Tryz.prog 31 #[v] E H L fun r H' L' => r = .bool p.right ∧ H = H' ∧ L = L' := by
  have hv0 := hv
  obtain ⟨A1, c1, A2, c2, A3, c3, A4, c4, rfl, hi, hc, hd, hk⟩ := hv
  have hv := hv0
  refine enter (N := 6) [(0, _)] Tryz.func31 rfl rfl rfl rfl fun a w h => ?_
  refine sqr ?_
  refine bxA h fun g1 a w h => ?_
  refine as_ h fun a w h => ?_
  refine nsr ?_
  refine ldW 0 tN28 h fun a w h => ?_
  refine cl bod57 (PrintP_ok p _ E H _ hv hL hb) h fun r4 H4 L4 a w le4 R h => ?_
  obtain ⟨rfl, rfl, rfl⟩ := R
  refine neb h fun a w h => ?_
  refine as_ h fun a w h => ?_
  refine nlt ?_
  refine ret_ ?_
  refine fin1 2 1 h LE.rfl ?_
  exact ⟨rfl, rfl, rfl⟩
end Go.Proofs.YtindlieilabgfaaGreatDoor
/- The shelf's contracts on slices.Sorted(maps.Keys(m)) and on slices.Grow, laid at this dump, in plain words (made by the kit's lay-plain.mjs). -/
namespace Go.Proofs
open Go.Shelf
def Tryz.keys55_ren : Go.Shelf.Ren := ⟨fun | 7 => 55 | 10 => 72 | n => n, fun | 23 => 99 | 26 => 9 | 3 => 3 | 28 => 103 | 0 => 0 | 27 => 102 | 33 => 91 | 4 => 4 | n => n, fun | n => n⟩
theorem Tryz.keys55 : Go.Proofs.SlLaysZ.n7 Tryz.prog Tryz.keys55_ren := {
  mixed := by kernel_rfl
  f7 := ⟨Tryz.f55.name, by decide, Tryz.func55.trans (congrArg some (by kernel_rfl))⟩
  f10 := ⟨Tryz.f72.name, by decide, Tryz.func72.trans (congrArg some (by kernel_rfl))⟩
  t0 := Tryz.underlying0
  a0 := Tryz.isAgg0
  z0 := Tryz.sizeOf0
  v0 := Tryz.zeroValue0
  t4 := Tryz.underlying4
  a4 := Tryz.isAgg4
  z4 := Tryz.sizeOf4
  v4 := Tryz.zeroValue4
  t23 := Tryz.underlying99
  a23 := Tryz.isAgg99
  z23 := Tryz.sizeOf99
  v23 := Tryz.zeroValue99
  t26 := Tryz.underlying9
  a26 := Tryz.isAgg9
  z26 := Tryz.sizeOf9
  v26 := Tryz.zeroValue9
  t27 := Tryz.underlying102
  a27 := Tryz.isAgg102
  z27 := Tryz.sizeOf102
  v27 := Tryz.zeroValue102
  t28 := Tryz.underlying103
  a28 := Tryz.isAgg103
  z28 := Tryz.sizeOf103
  v28 := Tryz.zeroValue103
  t33 := Tryz.underlying91
  a33 := Tryz.isAgg91
  z33 := Tryz.sizeOf91
  v33 := Tryz.zeroValue91 }
def Tryz.sorted54_ren : Go.Shelf.Ren := ⟨fun | 6 => 54 | 8 => 70 | 9 => 71 | 11 => 83 | 13 => 85 | 12 => 84 | 23 => 109 | 24 => 110 | 14 => 100 | 15 => 101 | 16 => 102 | 17 => 103 | 18 => 104 | 19 => 105 | 20 => 106 | 21 => 107 | 22 => 108 | 25 => 134 | 26 => 135 | 27 => 136 | 28 => 137 | 29 => 138 | 30 => 139 | 31 => 153 | n => n, fun | 26 => 9 | 28 => 103 | 24 => 58 | 0 => 0 | 3 => 3 | 37 => 136 | 48 => 157 | 50 => 128 | 4 => 4 | 40 => 149 | 39 => 148 | 45 => 154 | 5 => 5 | 9 => 9 | 51 => 181 | 55 => 185 | 57 => 207 | 58 => 208 | 33 => 91 | n => n, fun | n => n⟩
theorem Tryz.sorted54 : Go.Proofs.SlLaysZ.n6 Tryz.prog Tryz.sorted54_ren := {
  mixed := by kernel_rfl
  f6 := ⟨Tryz.f54.name, by decide, Tryz.func54.trans (congrArg some (by kernel_rfl))⟩
  f8 := ⟨Tryz.f70.name, by decide, Tryz.func70.trans (congrArg some (by kernel_rfl))⟩
  f11 := ⟨Tryz.f83.name, by decide, Tryz.func83.trans (congrArg some (by kernel_rfl))⟩
  t0 := Tryz.underlying0
  a0 := Tryz.isAgg0
  z0 := Tryz.sizeOf0
  v0 := Tryz.zeroValue0
  t24 := Tryz.underlying58
  a24 := Tryz.isAgg58
  z24 := Tryz.sizeOf58
  v24 := Tryz.zeroValue58
  t26 := Tryz.underlying9
  a26 := Tryz.isAgg9
  z26 := Tryz.sizeOf9
  v26 := Tryz.zeroValue9
  t28 := Tryz.underlying103
  a28 := Tryz.isAgg103
  z28 := Tryz.sizeOf103
  v28 := Tryz.zeroValue103
  i26 := by kernel_rfl }
def Tryz.sort71_ren : Go.Shelf.Ren := ⟨fun | 6 => 71 | 8 => 85 | 9 => 84 | 19 => 109 | 20 => 110 | 21 => 100 | 22 => 101 | 23 => 102 | 24 => 103 | 25 => 104 | 26 => 105 | 27 => 106 | 28 => 107 | 29 => 108 | 36 => 134 | 31 => 135 | 32 => 136 | 37 => 137 | 38 => 138 | 39 => 139 | 41 => 153 | n => n, fun | 27 => 58 | 29 => 9 | 3 => 3 | 32 => 136 | 26 => 58 | 0 => 0 | 44 => 157 | 46 => 128 | 4 => 4 | 36 => 149 | 35 => 148 | 41 => 154 | 5 => 5 | 9 => 9 | 53 => 181 | 57 => 185 | 63 => 207 | 64 => 208 | n => n, fun | n => n⟩
theorem Tryz.sort71 : Go.Proofs.SlLaysM.n6 Tryz.prog Tryz.sort71_ren := {
  mixed := by kernel_rfl
  f6 := ⟨Tryz.f71.name, by decide, Tryz.func71.trans (congrArg some (by kernel_rfl))⟩
  f8 := Tryz.func85.trans (congrArg some (by kernel_rfl))
  f9 := ⟨Tryz.f84.name, by decide, Tryz.func84.trans (congrArg some (by kernel_rfl))⟩
  f19 := Tryz.func109.trans (congrArg some (by kernel_rfl))
  f20 := Tryz.func110.trans (congrArg some (by kernel_rfl))
  f21 := ⟨Tryz.f100.name, by decide, Tryz.func100.trans (congrArg some (by kernel_rfl))⟩
  f22 := ⟨Tryz.f101.name, by decide, Tryz.func101.trans (congrArg some (by kernel_rfl))⟩
  f23 := ⟨Tryz.f102.name, by decide, Tryz.func102.trans (congrArg some (by kernel_rfl))⟩
  f24 := ⟨Tryz.f103.name, by decide, Tryz.func103.trans (congrArg some (by kernel_rfl))⟩
  f25 := ⟨Tryz.f104.name, by decide, Tryz.func104.trans (congrArg some (by kernel_rfl))⟩
  f26 := ⟨Tryz.f105.name, by decide, Tryz.func105.trans (congrArg some (by kernel_rfl))⟩
  f27 := ⟨Tryz.f106.name, by decide, Tryz.func106.trans (congrArg some (by kernel_rfl))⟩
  f28 := ⟨Tryz.f107.name, by decide, Tryz.func107.trans (congrArg some (by kernel_rfl))⟩
  f29 := ⟨Tryz.f108.name, by decide, Tryz.func108.trans (congrArg some (by kernel_rfl))⟩
  f31 := Tryz.func135.trans (congrArg some (by kernel_rfl))
  f32 := Tryz.func136.trans (congrArg some (by kernel_rfl))
  f36 := ⟨Tryz.f134.name, by decide, Tryz.func134.trans (congrArg some (by kernel_rfl))⟩
  f37 := ⟨Tryz.f137.name, by decide, Tryz.func137.trans (congrArg some (by kernel_rfl))⟩
  f38 := ⟨Tryz.f138.name, by decide, Tryz.func138.trans (congrArg some (by kernel_rfl))⟩
  f39 := ⟨Tryz.f139.name, by decide, Tryz.func139.trans (congrArg some (by kernel_rfl))⟩
  f41 := ⟨Tryz.f153.name, by decide, Tryz.func153.trans (congrArg some (by kernel_rfl))⟩
  t0 := Tryz.underlying0
  a0 := Tryz.isAgg0
  z0 := Tryz.sizeOf0
  v0 := Tryz.zeroValue0
  t3 := Tryz.underlying3
  a3 := Tryz.isAgg3
  z3 := Tryz.sizeOf3
  v3 := Tryz.zeroValue3
  t4 := Tryz.underlying4
  a4 := Tryz.isAgg4
  z4 := Tryz.sizeOf4
  v4 := Tryz.zeroValue4
  t5 := Tryz.underlying5
  a5 := Tryz.isAgg5
  z5 := Tryz.sizeOf5
  v5 := Tryz.zeroValue5
  t9 := Tryz.underlying9
  a9 := Tryz.isAgg9
  z9 := Tryz.sizeOf9
  v9 := Tryz.zeroValue9
  t26 := Tryz.underlying58
  a26 := Tryz.isAgg58
  z26 := Tryz.sizeOf58
  v26 := Tryz.zeroValue58
  t27 := Tryz.underlying58
  a27 := Tryz.isAgg58
  z27 := Tryz.sizeOf58
  v27 := Tryz.zeroValue58
  t29 := Tryz.underlying9
  a29 := Tryz.isAgg9
  z29 := Tryz.sizeOf9
  v29 := Tryz.zeroValue9
  t32 := Tryz.underlying136
  a32 := Tryz.isAgg136
  z32 := Tryz.sizeOf136
  v32 := Tryz.zeroValue136
  t35 := Tryz.underlying148
  a35 := Tryz.isAgg148
  z35 := Tryz.sizeOf148
  v35 := Tryz.zeroValue148
  t36 := Tryz.underlying149
  a36 := Tryz.isAgg149
  z36 := Tryz.sizeOf149
  v36 := Tryz.zeroValue149
  t41 := Tryz.underlying154
  a41 := Tryz.isAgg154
  z41 := Tryz.sizeOf154
  v41 := Tryz.zeroValue154
  t44 := Tryz.underlying157
  a44 := Tryz.isAgg157
  z44 := Tryz.sizeOf157
  v44 := Tryz.zeroValue157
  t46 := Tryz.underlying128
  a46 := Tryz.isAgg128
  z46 := Tryz.sizeOf128
  v46 := Tryz.zeroValue128
  t53 := Tryz.underlying181
  a53 := Tryz.isAgg181
  z53 := Tryz.sizeOf181
  v53 := Tryz.zeroValue181
  t57 := Tryz.underlying185
  a57 := Tryz.isAgg185
  z57 := Tryz.sizeOf185
  v57 := Tryz.zeroValue185
  t63 := Tryz.underlying207
  a63 := Tryz.isAgg207
  z63 := Tryz.sizeOf207
  v63 := Tryz.zeroValue207
  t64 := Tryz.underlying208
  a64 := Tryz.isAgg208
  z64 := Tryz.sizeOf208
  v64 := Tryz.zeroValue208 }
def Tryz.grow66_ren : Go.Shelf.Ren := ⟨fun | 4 => 66 | n => n, fun | 22 => 25 | 25 => 72 | 3 => 3 | 4 => 4 | 9 => 9 | 20 => 20 | 0 => 0 | n => n, fun | n => n⟩
theorem Tryz.grow66 : Go.Proofs.Lays8.n4 Tryz.prog Tryz.grow66_ren := {
  mixed := by kernel_rfl
  f4 := ⟨Tryz.f66.name, by decide, Tryz.func66.trans (congrArg some (by kernel_rfl))⟩
  t0 := Tryz.underlying0
  a0 := Tryz.isAgg0
  z0 := Tryz.sizeOf0
  v0 := Tryz.zeroValue0
  t3 := Tryz.underlying3
  a3 := Tryz.isAgg3
  z3 := Tryz.sizeOf3
  v3 := Tryz.zeroValue3
  t4 := Tryz.underlying4
  a4 := Tryz.isAgg4
  z4 := Tryz.sizeOf4
  v4 := Tryz.zeroValue4
  t9 := Tryz.underlying9
  a9 := Tryz.isAgg9
  z9 := Tryz.sizeOf9
  v9 := Tryz.zeroValue9
  t20 := Tryz.underlying20
  a20 := Tryz.isAgg20
  z20 := Tryz.sizeOf20
  v20 := Tryz.zeroValue20
  t22 := Tryz.underlying25
  a22 := Tryz.isAgg25
  z22 := Tryz.sizeOf25
  v22 := Tryz.zeroValue25 }
end Go.Proofs
/- slices.Sorted(maps.Keys(m)), off the shelf. -/
set_option linter.unusedVariables false
set_option linter.unusedSimpArgs false
set_option linter.unusedSectionVars false
set_option autoImplicit false
set_option relaxedAutoImplicit false
set_option maxRecDepth 10000
namespace Go.Proofs.YtindlieilabgfaaGreatDoor
open Go X
open Go.Proofs Go.RowKit Go.Shelf Go.Sort
abbrev encS : Bs → Value := fun s => str s
theorem keyS : KeyLaw Tryz.prog 9 encS .string := keyStr (und_str str9)
theorem mapSI : mapT Tryz.prog 99 = some (9, 3) := by kernel_rfl
theorem St.belowRow {E w w' : World} {H : GH} {L : List It} {v : Value} {e : TypeId} {sz n : Nat} {xs : List Value} (h : St E H L w) (hb : Below w.heap.size w w') (hrow : w'.ownsRow w.heap.size e sz v n xs) : St E H (.row v e sz n xs :: L) w' := by
  have h' := h.below hb
  have h0 : w'.ownsRow 0 e sz v n xs := ⟨hrow.1, hrow.2.imp id fun ⟨g, cap, cur, h1, h2, h3⟩ => ⟨g, cap, cur, h1, Nat.zero_le _, h3⟩⟩
  have hge : ∀ g ∈ (It.row v e sz n xs).own, w.heap.size ≤ g := by
    intro g hg
    rcases hrow.2 with ⟨rfl, _⟩ | ⟨g', cap, cur, rfl, h2, _⟩
    · simp [It.own, Value.ownBlock] at hg
    · simp [It.own, Value.ownBlock] at hg; omega
  refine ⟨h'.os, h'.tape, h'.output, h'.fro, fun i hi => ?_, fun i hi g hg => ?_, List.pairwise_cons.2 ⟨fun i hi g hg hgi => ?_, h'.apart⟩⟩
  · cases hi with
    | head => exact h0
    | tail _ hi => exact h'.holds i hi
  · cases hi with
    | head =>
      cases hH : H g with
      | none => rfl
      | some o => exact absurd (h.size_le hH) (by have := hge g hg; omega)
    | tail _ hi => exact h'.off i hi g hg
  · have := hge g hg
    have := It.lt (h.holds i hi) hgi
    omega
theorem keys_ok (b : Nat) (E : World) (H : GH) (L : List It) : Ok Tryz.prog 55 #[.map (some b)] E H L fun r H' L' => ∃ g, r = .func (.func 72) #[] #[.pointer (some ⟨g, 0, none⟩)] ∧ H = H' ∧ L' = .obj g (.cells #[.map (some b)] 99 (0, 0)) :: L := fun w hw =>
  (callsIn_wide.1 (AnyZ.keys_in Tryz.keys55 Fence.wide 5 trivial rfl (some b) w)).mono fun e w' ⟨he, hw'⟩ => ⟨_, H, _, he, LE.rfl, by subst hw'; exact hw.alloc _, _, rfl, rfl, rfl⟩
theorem sortsK (m : Nat) : AnyZ.SortsIn Tryz.prog Tryz.sorted54_ren Fence.wide m :=
  ⟨fun blk off cap ss W hH hblk hsz => callsIn_wide.2 (AnyM.slices_Sort_string Tryz.sort71 blk off cap ss W hH hblk hsz), fun p cap W => callsIn_wide.2 (AnyM.slices_Sort_string_none Tryz.sort71 p cap W)⟩
theorem sub_len : ∀ {l m : List Bs}, l.Nodup → (∀ x ∈ l, x ∈ m) → l.length ≤ m.length
  | [], _, _, _ => Nat.zero_le _
  | a :: l, m, hd, hs => by
    rw [List.nodup_cons] at hd
    have hm := hs a (List.mem_cons_self ..)
    have := sub_len (l := l) (m := m.erase a) hd.2 fun x hx => (List.mem_erase_of_ne (fun e => by subst e; exact hd.1 hx)).2 (hs x (List.mem_cons_of_mem _ hx))
    rw [List.length_erase_of_mem hm] at this
    have := List.length_pos_of_mem hm
    simp only [List.length_cons]; omega
theorem lk_some {κ : Type} [DecidableEq κ] (k : κ) : ∀ m : List (κ × Value), (m.lookup k).isSome = true ↔ k ∈ m.map (·.1)
  | [] => by simp [List.lookup]
  | (a, v) :: l => by
    simp only [List.lookup, List.map_cons, List.mem_cons]
    by_cases e : k = a
    · subst e; simp
    · have : (k == a) = false := by simpa using e
      simp only [this, e, false_or]
      exact lk_some k l
theorem sorted_ok (b g : Nat) (f : Bs → Option Value) (k0 : Nat) (E : World) (H : GH) (L : List It) (hg : L[0]? = some (.obj g (.cells #[.map (some b)] 99 (0, 0)))) (hb : L[k0]? = some (.blk b (IsMap encS f)))
    (hlen : ∀ x, (f x).isSome = true → x.length < 1000000000000) (hcnt : ∀ l : List Bs, l.Nodup → (∀ x ∈ l, (f x).isSome = true) → l.length < 1000000000000) :
    Ok Tryz.prog 54 #[.func (.func 72) #[] #[.pointer (some ⟨g, 0, none⟩)]] E H L fun r H' L' => ∃ A c ss, r = .slice A ss.length c ∧ H = H' ∧ L' = .row (.slice A ss.length c) 9 1 ss.length (ss.map encS) :: L ∧ IsSet ss (fun x => (f x).isSome) := fun w hw => by
  obtain ⟨o, ho, es, clock, m, rfl, hst, h1, h2, h3⟩ := item_at hw.sees hb
  have hcell : w.heap[g]? = some (.cells #[.map (some b)] 99 (0, 0)) := item_at hw.sees hg
  have hmem : ∀ k, (k ∈ m.map (·.1)) ↔ (f k).isSome = true := fun k => by
    rw [← h3 k]; exact (lk_some k m).symm
  have hml : m.length < 1000000000000 := by
    have := hcnt (m.map (·.1)) h2 (fun x hx => (hmem x).1 hx)
    simpa using this
  have hel : es.size = m.length := by simpa using congrArg List.length h1
  let R : Value → Option (DataW Unit × List MemPlace) := fun _ => some (.nil, [])
  have hkey : ∀ (s : Bs) , s.length < 1000000000000 → keyOf Tryz.prog 9 (str s) = some (.string s) := fun s hs => by
    unfold keyOf
    rw [und_str str9]
    have hsz : (⟨s.toArray⟩ : ByteArray).size = s.length := by simp [ByteArray.size]
    simp [mapKey, und_str str9, hsz, maxLen]
    try omega
  have hread : ∀ x ∈ es.toList, ∃ s : Bs, s ∈ m.map (·.1) ∧ x.key = str s ∧ WideElems.rd Tryz.prog 9 R x = some (.string s, .nil) := fun x hx => by
    have : (x.key, x.val) ∈ m.map (fun p => (encS p.1, p.2)) := by rw [← h1]; exact List.mem_map.2 ⟨x, hx, rfl⟩
    obtain ⟨p, hp, hpe⟩ := List.mem_map.1 this
    have he : x.key = str p.1 := (congrArg Prod.fst hpe).symm
    have hpm : p.1 ∈ m.map (·.1) := List.mem_map.2 ⟨p, hp, rfl⟩
    refine ⟨p.1, hpm, he, ?_⟩
    have hk := hkey p.1 (hlen _ ((hmem _).1 hpm))
    unfold WideElems.rd
    rw [he, hk]; rfl
  have hown : w.ownsMap Tryz.prog 9 R b es.size (.map ((es.toList.map (WideElems.rg Tryz.prog 9 R)).foldr DataW.insert [])) :=
    ⟨es, clock, ho, ⟨by rw [hel]; simp only [maxLen]; omega, hst, fun x hx => let ⟨s, _, _, h⟩ := hread x hx; ⟨_, h⟩⟩, Nat.le_refl _, rfl⟩
  have hD : strKeys (.map ((es.toList.map (WideElems.rg Tryz.prog 9 R)).foldr DataW.insert []) : DataW Unit) = (((es.toList.map (WideElems.rg Tryz.prog 9 R)).foldr DataW.insert [])).map fun p => strOf p.1 := rfl
  have hperm : (strKeys (.map ((es.toList.map (WideElems.rg Tryz.prog 9 R)).foldr DataW.insert []) : DataW Unit)).Perm (m.map (·.1)) := by
    rw [hD]
    refine ((WideShapes.sorted_perm _).map _).trans (.of_eq ?_)
    rw [List.map_map]
    have e2 : m.map (·.1) = es.toList.map (fun x => match x.key with | .string s => s.data.toList | _ => []) := by
      have := congrArg (List.map (fun q : Value × Value => match q.1 with | .string s => s.data.toList | _ => [])) h1
      rw [List.map_map, List.map_map] at this
      rw [show m.map (·.1) = m.map ((fun q : Value × Value => match q.1 with | .string s => s.data.toList | _ => []) ∘ fun p => (encS p.1, p.2)) from List.map_congr_left fun p _ => by simp, ← this]
      rfl
    rw [e2]
    refine List.map_congr_left fun x hx => ?_
    obtain ⟨s, _, hk, hr⟩ := hread x hx
    simp only [Function.comp, WideElems.rg_of hr, hk]
    simp [strOf]
  have hseq : SeqGives Fence.wide 2 Tryz.prog 72 #[.pointer (some ⟨g, 0, none⟩)] encStr (fun ss => ss.Perm (strKeys (.map ((es.toList.map (WideElems.rg Tryz.prog 9 R)).foldr DataW.insert []) : DataW Unit))) _ w :=
    AnyZ.keys_gives (ρ := Tryz.keys55_ren) { Tryz.keys55 with } Fence.wide _ trivial rfl (by omega) g b es.size _ w (Array.getElem?_eq_some_iff.1 hcell).1 (by simp [World.cell?, hcell]) hown
  have hsz : Maps.size (.map ((es.toList.map (WideElems.rg Tryz.prog 9 R)).foldr DataW.insert []) : DataW Unit) = m.length := by
    have := hperm.length_eq
    rw [hD, List.length_map, List.length_map] at this
    exact this
  refine (callsIn_wide.1 (AnyZ.sorted_in Tryz.sorted54 Fence.wide 5 trivial trivial trivial trivial rfl (by omega) (sortsK _) (enters_of Tryz.func71 (by kernel_rfl) rfl) 72 #[.pointer (some ⟨g, 0, none⟩)] trivial (enters_of Tryz.func72 (by kernel_rfl) rfl) _ _ (by rw [hsz]; simp only [maxLen]; omega) (by rw [hsz]; omega) w hseq)).mono ?_
  rintro e w' ⟨v, ss, he, hS, hrow, hnil, hbel⟩
  have hlen' : (ss.mergeSort fun x y => decide (x ≤ y)).length = ss.length := List.length_mergeSort ..
  have hpm : (ss.mergeSort fun x y => decide (x ≤ y)).Perm (m.map (·.1)) := (List.mergeSort_perm ..).trans (hS.trans hperm)
  have hv : ∃ A c, v = .slice A (ss.mergeSort fun x y => decide (x ≤ y)).length c := by
    rw [hlen']
    rcases hrow.2 with ⟨rfl, e⟩ | ⟨_, cap, _, rfl, _⟩
    · exact ⟨none, 0, by rw [e]⟩
    · exact ⟨_, _, rfl⟩
  obtain ⟨Ad, c, rfl⟩ := hv
  rw [← hlen'] at hrow
  refine ⟨_, H, _, he, LE.rfl, St.belowRow hw hbel hrow, Ad, c, ss.mergeSort fun x y => decide (x ≤ y), rfl, rfl, rfl, hpm.nodup_iff.2 h2, fun x => (hpm.mem_iff).trans (hmem x), ?_⟩
  have hsorted := List.pairwise_mergeSort (le := fun x y : Bs => decide (x ≤ y)) (fun a b c h1 h2 => by simp at *; exact List.le_trans h1 h2) (fun a b => by simp; exact List.le_total a b) ss
  exact hsorted.imp fun h => by simpa using h
end Go.Proofs.YtindlieilabgfaaGreatDoor
/- Walks: term.Free. -/
set_option linter.unusedVariables false
set_option linter.unusedSimpArgs false
set_option linter.unusedSectionVars false
set_option autoImplicit false
set_option relaxedAutoImplicit false
set_option maxRecDepth 10000
namespace Go.Proofs.YtindlieilabgfaaGreatDoor
open Go X
theorem walk_ok : ∀ (t : Tm) (v : Value) (E : World) (H : GH) (L : List It) (gbc gmc gwc gb gm : Nat) (fb fm : Bs → Option Value) (b : Bs → Nat), VT H v t → (∀ x, (fb x).getD (.int .i64 0) = .int .i64 ((b x : Nat) : Int)) → (∀ x, b x + t.size < 1000000000000) →
    (∀ x u, fm x = some u → ∃ n : Int, u = .int .i64 n) → Hc H gbc 0 (.map (some gb)) → Hc H gmc 0 (.map (some gm)) → Hc H gwc 0 (.func (.func 53) #[] #[.pointer (some ⟨gbc, 0, none⟩), .pointer (some ⟨gmc, 0, none⟩), .pointer (some ⟨gwc, 0, none⟩)]) →
    Ok Tryz.prog 53 #[v, .pointer (some ⟨gbc, 0, none⟩), .pointer (some ⟨gmc, 0, none⟩), .pointer (some ⟨gwc, 0, none⟩)] E H (.blk gb (IsMap encS fb) :: .blk gm (IsMap encS fm) :: L) fun r H' L' => r = .tuple #[] ∧ H = H' ∧ ∃ fb' fm', L' = .blk gb (IsMap encS fb') :: .blk gm (IsMap encS fm') :: L ∧
      (∀ x, (fb' x).getD (.int .i64 0) = .int .i64 ((b x : Nat) : Int)) ∧ (∀ x, (fm' x).isSome = ((fm x).isSome || t.fr b x)) ∧ (∀ x u, fm' x = some u → ∃ n : Int, u = .int .i64 n) := by
  intro t
  induction t using Tm.ind with
  | h kd nm nn ks ih =>
  intro v E H L gbc gmc gwc gb gm fb fm b hv hb hbs hmi hbc hmc hwc
  obtain ⟨A, c, rfl, hks⟩ := hv
  have hks : KS H A c ks := hks
  simp only [Tm.size] at hbs
  have hlen := length_le_sizeL ks
  have hb0 := hbs []
  refine enter (N := 57) [(0, _), (1, _), (2, _), (3, _)] Tryz.func53 rfl rfl rfl rfl fun a w h => ?_
  refine sqr ?_
  refine bxA h fun g4 a w h => ?_
  refine nlt ?_
  obtain ⟨Hf, leHf, h, hf4⟩ := h.frz 0
  have l_H_Hf : LE H Hf := leHf
  have hL := hks.up l_H_Hf
  refine sqc (fun a w => ∃ fm1, S E Hf 57 [] [(1, .pointer (some ⟨gbc, 0, none⟩)), (2, .pointer (some ⟨gmc, 0, none⟩)), (3, .pointer (some ⟨gwc, 0, none⟩)), (4, .pointer (some ⟨g4, 0, none⟩))] (.blk gb (IsMap encS fb) :: .blk gm (IsMap encS fm1) :: L) a w ∧ (∀ x, (fm1 x).isSome = ((fm x).isSome || ((kd == 2 && decide (b nm = 0)) && decide (x = nm)))) ∧ (∀ x u, fm1 x = some u → ∃ n : Int, u = .int .i64 n)) ?_ ?_
  ·refine sqr ?_
   refine fa fl24_0 (r := 0) h fun a w h => ?_
   refine ldH t1_3 (Hc.of (LE.rfl _ _ hf4) rfl) h fun a w h => ?_
   refine eqi h fun a w h => ?_
   refine h.spl (fun c10 h => ?_) (fun c10 h => ?_)
   ·refine mv h fun a w h => ?_
    refine ldH t1_99 (hbc.mono l_H_Hf) h fun a w h => ?_
    refine fa fl24_1 (r := 1) h fun a w h => ?_
    refine ldH t1_9 (Hc.of (LE.rfl _ _ hf4) rfl) h fun a w h => ?_
    refine lk1 (f := fb) (q := nm) 0 keyS mapSI zr3 h fun a w h => ?_
    rw [hb nm] at h
    refine eqi h fun a w h => ?_
    refine pkT h fun a w h => ?_
    refine nlt ?_
    refine cdB h (fun c17 => ?_) (fun c17 => ?_)
    ·refine rg0 ?_
     refine ldH t1_99 (hmc.mono l_H_Hf) h fun a w h => ?_
     refine fa fl24_1 (r := 1) h fun a w h => ?_
     refine ldH t1_9 (Hc.of (LE.rfl _ _ hf4) rfl) h fun a w h => ?_
     refine lk1 (f := fm) (q := nm) 1 keyS mapSI zr3 h fun a w h => ?_
     obtain ⟨n0, hn0⟩ : ∃ n : Int, (fm nm).getD (.int .i64 0) = .int .i64 n := by
      cases hx : fm nm with
      | none => exact ⟨0, rfl⟩
      | some u => obtain ⟨n, rfl⟩ := hmi _ _ hx; exact ⟨n, rfl⟩
     rw [hn0] at h
     refine add h fun a w h => ?_
     have h := h.pull 1 rfl rfl
     refine mu 0 keyS mapSI h fun a w h => ?_
     have h : S _ _ _ _ _ (.blk _ (IsMap encS (upd fm nm (some _))) :: _) _ _ := h
     refine nlt ?_
     have h := h.pull 1 rfl rfl
     have k2 : kd = 2 := eq_of_beq c10
     have b0 : b nm = 0 := by have := eq_of_beq c17; omega
     refine ⟨_, h.to 0 _, fun x => ?_, fun x u hu => ?_⟩
     ·unfold upd; rw [k2, b0]; by_cases e : x = nm <;> simp [e]
     ·unfold upd at hu; split at hu; exact ⟨_, (Option.some.inj hu).symm⟩; exact hmi x u hu
    ·refine skt ?_
     have h := h.pull 1 rfl rfl
     have h := h.pull 1 rfl rfl
     refine ⟨fm, h.to 0 _, fun x => ?_, hmi⟩
     have b0 : b nm ≠ 0 := by have := ne_of_beq_false c17; omega
     simp [b0]
   ·refine mv h fun a w h => ?_
    refine sk h (k := fun a w h => ?_)
    refine sk h (k := fun a w h => ?_)
    refine sk h (k := fun a w h => ?_)
    refine sk h (k := fun a w h => ?_)
    refine sk h (k := fun a w h => ?_)
    refine pkF h fun a w h => ?_
    refine nlt ?_
    refine cdF h ?_
    refine skt ?_
    have h := h.pull 1 rfl rfl
    have h := h.pull 1 rfl rfl
    refine ⟨fm, h.to 0 _, fun x => ?_, hmi⟩
    have k2 : kd ≠ 2 := ne_of_beq_false c10
    simp [k2]
  ·rintro a w ⟨fm1, h, hm1, hi1⟩
   refine sqr ?_
   refine fa fl24_3 (r := 3) h fun a w h => ?_
   refine ldH t1_22 (Hc.of (LE.rfl _ _ hf4) rfl) h fun a w h => ?_
   refine ln sli22 h fun a w h => ?_
   refine mv h fun a w h => ?_
   refine nlt ?_
   refine blk ?_
   refine lp (β := Nat × (Bs → Option Value) × (Bs → Option Value)) (fun x a w => match x with | (k, fb1, fm2) => (k ≤ ks.length ∧ (∀ x, (fb1 x).getD (.int .i64 0) = .int .i64 ((b x : Nat) : Int)) ∧ (∀ x, (fm2 x).isSome = ((fm x).isSome || (((kd == 2 && decide (b nm = 0)) && decide (x = nm)) || frT (bnd kd) nm ks k b x))) ∧ (∀ x u, fm2 x = some u → ∃ n : Int, u = .int .i64 n)) ∧ S E Hf 57 [] [(1, .pointer (some ⟨gbc, 0, none⟩)), (2, .pointer (some ⟨gmc, 0, none⟩)), (3, .pointer (some ⟨gwc, 0, none⟩)), (4, .pointer (some ⟨g4, 0, none⟩)), (26, .int .i64 (k : Int)), (25, .int .i64 (ks.length : Int)), (24, .slice A ks.length c)] (.blk gb (IsMap encS fb1) :: .blk gm (IsMap encS fm2) :: L) a w)
    (fun x => match x with | (k, fb1, fm2) => ks.length - k) (0, fb, fm1) ⟨⟨Nat.zero_le _, hb, fun x => by rw [hm1 x, frT_zero, Bool.or_false], hi1⟩, h.to 0 _⟩ ?_
   rintro ⟨k, fb1, fm2⟩ a w ⟨pre, h⟩
   obtain ⟨hk, hb1, hm2, hi2⟩ := pre
   refine sqr ?_
   refine lt h fun a w h => ?_
   refine nlt ?_
   refine sq ?_
   refine cdB h (fun c27 => ?_) (fun c27 => ?_)
   ·have c27 : k < ks.length := by simpa using c27
    obtain ⟨g, off, A2, c2, rfl, hvt, hcell⟩ := KS.get hL c27
    have hsz := size_get_le c27
    refine skt ?_
    refine sq ?_
    refine blk ?_
    refine sqr ?_
    refine mv h fun a w h => ?_
    refine ia sli22 sz24 rfl c27 h fun a w h => ?_
    refine ldHN tN24 rfl hcell h fun a w h => ?_
    refine al zr24 h fun g6 a w h => ?_
    refine as_ h fun a w h => ?_
    refine sw0 tN24 h fun a w h => ?_
    refine nsr ?_
    refine ldHN tN24 rfl (Hc.all (LE.rfl _ _ hf4)) h fun a w h => ?_
    refine cl bod38 (Binder_ok _ _ _ _ E Hf _) h fun r32 H32 L32 a w le32 R h => ?_
    obtain ⟨rfl, rfl, rfl⟩ := R
    refine h.spl (fun c32 h => ?_) (fun c32 h => ?_)
    ·refine mv h fun a w h => ?_
     refine mv h fun a w h => ?_
     refine fa fl24_3 (r := 3) h fun a w h => ?_
     refine ldH t1_22 (Hc.of (LE.rfl _ _ hf4) rfl) h fun a w h => ?_
     refine ln sli22 h fun a w h => ?_
     refine sbr ((ks.length : Int) - 1) (w64 (by omega) (by omega)) h fun a w h => ?_
     refine eqi h fun a w h => ?_
     refine pkT h fun a w h => ?_
     refine as_ h fun a w h => ?_
     refine nlt ?_
     refine sq ?_
     refine sqr ?_
     refine mv h fun a w h => ?_
     refine nlt ?_
     refine cdB h (fun c41 => ?_) (fun c41 => ?_)
     ·refine rg0 ?_
      refine ldH t1_99 (hbc.mono l_H_Hf) h fun a w h => ?_
      refine fa fl24_1 (r := 1) h fun a w h => ?_
      refine ldH t1_9 (Hc.of (LE.rfl _ _ hf4) rfl) h fun a w h => ?_
      refine lk1 (f := fb1) (q := nm) 1 keyS mapSI zr3 h fun a w h => ?_
      rw [hb1 nm] at h
      have hbn := hbs nm
      refine adr ((b nm + 1 : Nat) : Int) ?_ h fun a w h => ?_
      ·rw [w64 (by omega) (by omega)]; omega
      have h := h.pull 1 rfl rfl
      refine mu 0 keyS mapSI h fun a w h => ?_
      have h : S _ _ _ _ _ (.blk _ (IsMap encS (upd fb1 nm (some (.int .i64 ((b nm + 1 : Nat) : Int))))) :: _) _ _ := h
      obtain ⟨fb2, hfb2⟩ : ∃ f, f = upd fb1 nm (some (.int .i64 ((b nm + 1 : Nat) : Int))) := ⟨_, rfl⟩
      rw [← hfb2] at h
      have hb2 : ∀ x, (fb2 x).getD (.int .i64 0) = .int .i64 ((inc1 b nm x : Nat) : Int) := fun x => by rw [hfb2]; unfold upd inc1; split; (rename_i e; subst e; rfl); exact hb1 x
      refine nsr ?_
      refine ldH t1_100 (hwc.mono l_H_Hf) h fun a w h => ?_
      refine ldW 1 tN24 h fun a w h => ?_
      have h := h.pull 2 rfl rfl
      have h := h.pull 1 rfl rfl
      refine cl bod53 (ih _ (List.getElem_mem c27) _ E Hf _ gbc gmc gwc gb gm fb2 fm2 (inc1 b nm) hvt hb2 (fun x => ?_) hi2 (hbc.mono l_H_Hf) (hmc.mono l_H_Hf) (hwc.mono l_H_Hf)) h fun r49 H49 L49 a w le49 R h => ?_
      ·have := hbs x; unfold inc1; split <;> omega
      obtain ⟨rfl, rfl, fb4, fm3, rfl, hb4, hm3, hi3⟩ := R
      refine nsr ?_
      refine mv h fun a w h => ?_
      refine nlt ?_
      refine cdB h (fun c50 => ?_) (fun c50 => ?_)
      ·refine rg0 ?_
       refine ldH t1_99 (hbc.mono l_H_Hf) h fun a w h => ?_
       refine fa fl24_1 (r := 1) h fun a w h => ?_
       refine ldH t1_9 (Hc.of (LE.rfl _ _ hf4) rfl) h fun a w h => ?_
       refine lk1 (f := fb4) (q := nm) 0 keyS mapSI zr3 h fun a w h => ?_
       have e4 : (fb4 nm).getD (.int .i64 0) = .int .i64 ((b nm + 1 : Nat) : Int) := by rw [hb4 nm]; unfold inc1; rw [if_pos rfl]
       rw [e4] at h
       refine sbr ((b nm : Nat) : Int) ?_ h fun a w h => ?_
       ·have hbn := hbs nm; rw [w64 (by omega) (by omega)]; omega
       refine mu 0 keyS mapSI h fun a w h => ?_
       have h : S _ _ _ _ _ (.blk _ (IsMap encS (upd fb4 nm (some (.int .i64 ((b nm : Nat) : Int))))) :: _) _ _ := h
       obtain ⟨fb5, hfb5⟩ : ∃ f, f = upd fb4 nm (some (.int .i64 ((b nm : Nat) : Int))) := ⟨_, rfl⟩
       rw [← hfb5] at h
       refine nl0 ?_
       refine ibN ?_
       refine thN ?_
       refine rg0 ?_
       have h := h.pull 1 rfl rfl
       have h := h.pull 1 rfl rfl
       have h := h.del 2
       have hin : (bnd kd && k + 1 == ks.length) = true := by rw [show bnd kd = true from c32]; have := eq_of_beq c41; simp; omega
       have hb3 : ∀ x, (fb5 x).getD (.int .i64 0) = .int .i64 ((b x : Nat) : Int) := fun x => by
        rw [hfb5]; unfold X.upd; split
        ·rename_i e; subst e; rfl
        ·rename_i e; have := hb4 x; unfold inc1 at this; rw [if_neg e] at this; exact this
       obtain ⟨fb3, hfb3⟩ : ∃ f, f = fb5 := ⟨_, rfl⟩
       rw [← hfb3] at h hb3
       refine inc ?_ h fun a w h => ?_
       ·omega
       refine mv h fun a w h => ?_
       refine nlt ?_
       exact ⟨(k + 1, fb3, fm3), ⟨⟨by omega, hb3, fun x => by rw [hm3 x, hm2 x, frT_succ _ _ _ _ _ c27, hin]; simp only [Bool.or_assoc]; rfl, hi3⟩, h.to 0 _⟩, by show _ - (k + 1) < _ - k; omega⟩
      ·exact absurd (c41.symm.trans c50) (by decide)
     ·refine skt ?_
      refine sqr ?_
      refine ldH t1_100 (hwc.mono l_H_Hf) h fun a w h => ?_
      refine ldW 0 tN24 h fun a w h => ?_
      have h := h.pull 2 rfl rfl
      have h := h.pull 2 rfl rfl
      refine cl bod53 (ih _ (List.getElem_mem c27) _ E Hf _ gbc gmc gwc gb gm fb1 fm2 b hvt hb1 (fun x => ?_) hi2 (hbc.mono l_H_Hf) (hmc.mono l_H_Hf) (hwc.mono l_H_Hf)) h fun r49 H49 L49 a w le49 R h => ?_
      ·have := hbs x; omega
      obtain ⟨rfl, rfl, fb4, fm3, rfl, hb4, hm3, hi3⟩ := R
      refine nsr ?_
      refine mv h fun a w h => ?_
      refine nlt ?_
      refine cdB h (fun c50 => ?_) (fun c50 => ?_)
      ·exact absurd (c41.symm.trans c50) (by decide)
      ·refine sk_ ?_
       refine ibN ?_
       refine thN ?_
       refine rg0 ?_
       have h := h.pull 1 rfl rfl
       have h := h.pull 1 rfl rfl
       have h := h.del 2
       have hin : (bnd kd && k + 1 == ks.length) = false := by rw [show bnd kd = true from c32]; have := ne_of_beq_false c41; simp; omega
       have fb3E := hb4
       obtain ⟨fb3, hfb3⟩ : ∃ f, f = fb4 := ⟨_, rfl⟩
       rw [← hfb3] at h
       have hb3 : ∀ x, (fb3 x).getD (.int .i64 0) = .int .i64 ((b x : Nat) : Int) := by rw [hfb3]; exact hb4
       refine inc ?_ h fun a w h => ?_
       ·omega
       refine mv h fun a w h => ?_
       refine nlt ?_
       exact ⟨(k + 1, fb3, fm3), ⟨⟨by omega, hb3, fun x => by rw [hm3 x, hm2 x, frT_succ _ _ _ _ _ c27, hin]; simp only [Bool.or_assoc]; rfl, hi3⟩, h.to 0 _⟩, by show _ - (k + 1) < _ - k; omega⟩
    ·refine mv h fun a w h => ?_
     refine sk h (k := fun a w h => ?_)
     refine sk h (k := fun a w h => ?_)
     refine sk h (k := fun a w h => ?_)
     refine sk h (k := fun a w h => ?_)
     refine sk h (k := fun a w h => ?_)
     refine sk h (k := fun a w h => ?_)
     refine pkF h fun a w h => ?_
     refine as_ h fun a w h => ?_
     refine nlt ?_
     refine sq ?_
     refine sqr ?_
     refine mv h fun a w h => ?_
     refine nlt ?_
     refine cdF h ?_
     refine skt ?_
     refine sqr ?_
     refine ldH t1_100 (hwc.mono l_H_Hf) h fun a w h => ?_
     refine ldW 0 tN24 h fun a w h => ?_
     have h := h.pull 2 rfl rfl
     have h := h.pull 2 rfl rfl
     refine cl bod53 (ih _ (List.getElem_mem c27) _ E Hf _ gbc gmc gwc gb gm fb1 fm2 b hvt hb1 (fun x => ?_) hi2 (hbc.mono l_H_Hf) (hmc.mono l_H_Hf) (hwc.mono l_H_Hf)) h fun r49 H49 L49 a w le49 R h => ?_
     ·have := hbs x; omega
     obtain ⟨rfl, rfl, fb4, fm3, rfl, hb4, hm3, hi3⟩ := R
     refine nsr ?_
     refine mv h fun a w h => ?_
     refine nlt ?_
     refine cdF h ?_
     refine sk_ ?_
     refine ibN ?_
     refine thN ?_
     refine rg0 ?_
     have h := h.pull 1 rfl rfl
     have h := h.pull 1 rfl rfl
     have h := h.del 2
     have hin : (bnd kd && k + 1 == ks.length) = false := by rw [show bnd kd = false from c32]; rfl
     have fb3E := hb4
     obtain ⟨fb3, hfb3⟩ : ∃ f, f = fb4 := ⟨_, rfl⟩
     rw [← hfb3] at h
     have hb3 : ∀ x, (fb3 x).getD (.int .i64 0) = .int .i64 ((b x : Nat) : Int) := by rw [hfb3]; exact hb4
     refine inc ?_ h fun a w h => ?_
     ·omega
     refine mv h fun a w h => ?_
     refine nlt ?_
     exact ⟨(k + 1, fb3, fm3), ⟨⟨by omega, hb3, fun x => by rw [hm3 x, hm2 x, frT_succ _ _ _ _ _ c27, hin]; simp only [Bool.or_assoc]; rfl, hi3⟩, h.to 0 _⟩, by show _ - (k + 1) < _ - k; omega⟩
   ·have hkk : k = ks.length := by simp at c27; omega
    refine exit_ ?_
    refine thE ?_
    refine thE ?_
    refine ibH ?_
    refine finN0 0 (h.less l_H_Hf) LE.rfl ?_
    refine ⟨rfl, rfl, fb1, fm2, rfl, hb1, fun x => ?_, hi2⟩
    rw [hm2 x, hkk, frT_all]; simp only [Tm.fr]
theorem Free_ok (t : Tm) (v : Value) (E : World) (H : GH) (L : List It) (hv : VT H v t) (hlg : t.long < 1000000000000) (hsz : t.size < 1000000000000) :
    Ok Tryz.prog 23 #[v] E H L fun r H' L' => ∃ A c ss, r = .slice A ss.length c ∧ H = H' ∧ L' = .row (.slice A ss.length c) 9 1 ss.length (ss.map encS) :: L ∧ IsSet ss (t.fr none0) := by
  have hv0 := hv
  obtain ⟨A, c, rfl, hks⟩ := hv
  have hv := hv0
  refine enter (N := 15) [(0, _)] Tryz.func23 rfl rfl rfl rfl fun a w h => ?_
  refine sqr ?_
  refine bxA h fun g1 a w h => ?_
  refine as_ h fun a w h => ?_
  refine nsr ?_
  refine mk0 (enc := encS) h fun m6 a w h => ?_
  refine al zr99 h fun g3 a w h => ?_
  refine st0 (l := [_]) t1_99 h fun a w h => ?_
  refine nsr ?_
  refine mk0 (enc := encS) h fun m7 a w h => ?_
  refine al zr99 h fun g4 a w h => ?_
  refine st0 (l := [_]) t1_99 h fun a w h => ?_
  refine nsr ?_
  refine al zr100 h fun g5 a w h => ?_
  refine nsr ?_
  refine mf h fun a w h => ?_
  refine st0 (l := [_]) t1_100 h fun a w h => ?_
  refine nsr ?_
  obtain ⟨H1, leH1, h, hfw⟩ := h.frz 0
  have l_H_H1 : LE H H1 := leH1
  obtain ⟨H2, leH2, h, hfb⟩ := h.frz 0
  have l_H_H2 : LE H H2 := l_H_H1.trans leH2
  have l_H1_H2 : LE H1 H2 := leH2
  obtain ⟨H3, leH3, h, hfm⟩ := h.frz 1
  have l_H_H3 : LE H H3 := l_H_H2.trans leH3
  have l_H1_H3 : LE H1 H3 := l_H1_H2.trans leH3
  have l_H2_H3 : LE H2 H3 := leH3
  have qb : Hc H3 g4 0 (.map (some m7)) := Hc.of (l_H2_H3 _ _ hfb) rfl
  have qm : Hc H3 g3 0 (.map (some m6)) := Hc.of hfm rfl
  have qw : Hc H3 g5 0 (.func (.func 53) #[] #[.pointer (some ⟨g4, 0, none⟩), .pointer (some ⟨g3, 0, none⟩), .pointer (some ⟨g5, 0, none⟩)]) := Hc.of (l_H1_H3 _ _ hfw) rfl
  refine ldH t1_100 (Hc.of (l_H1_H3 _ _ hfw) rfl) h fun a w h => ?_
  refine ldW 2 tN24 h fun a w h => ?_
  refine cl bod53 (walk_ok t _ E H3 _ g4 g3 g5 m7 m6 (fun _ => none) (fun _ => none) none0 (hv.mono l_H_H3) (fun _ => rfl) (fun x => by unfold none0; omega) (fun _ _ h => by cases h) qb qm qw) h fun r11 H11 L11 a w le11 R h => ?_
  obtain ⟨rfl, rfl, fb1, fm1, rfl, hb1, hm1, hi1⟩ := R
  have hm2 : ∀ x, (fm1 x).isSome = t.fr none0 x := fun x => by rw [hm1 x]; rfl
  refine nsr ?_
  refine ldH t1_99 (Hc.of (LE.rfl _ _ hfm) rfl) h fun a w h => ?_
  refine cl bod55 (keys_ok m6 E H3 _) h fun r13 H13 L13 a w le13 R h => ?_
  obtain ⟨g13, rfl, rfl, rfl⟩ := R
  refine cl bod54 (sorted_ok m6 g13 fm1 2 E H3 _ rfl rfl (fun x hx => by have := names_long t x (fr_names t _ x (by rw [← hm2]; exact hx)); omega) (fun l hl hs => by have := sub_len (m := t.names) hl (fun x hx => fr_names t _ x (by rw [← hm2]; exact hs x hx)); rw [names_len] at this; omega)) h fun r14 H14 L14 a w le14 R h => ?_
  obtain ⟨A14, c14, ss, rfl, rfl, rfl, hset⟩ := R
  refine as_ h fun a w h => ?_
  refine nlt ?_
  refine ret_ ?_
  have h := h.del 4
  have h := h.del 3
  have h := h.del 2
  have h := h.del 1
  refine fin1 2 0 (h.less l_H_H3) LE.rfl ?_
  exact ⟨A14, c14, ss, rfl, rfl, rfl, by rw [show (fun x => (fm1 x).isSome) = t.fr none0 from funext hm2] at hset; exact hset⟩
end Go.Proofs.YtindlieilabgfaaGreatDoor
/- Walks: the renamer's closures. -/
set_option linter.unusedVariables false
set_option linter.unusedSimpArgs false
set_option linter.unusedSectionVars false
set_option autoImplicit false
set_option relaxedAutoImplicit false
set_option maxRecDepth 10000
namespace Go.Proofs.YtindlieilabgfaaGreatDoor
open Go X
open Go.Proofs
theorem mapSS : mapT Tryz.prog 76 = some (9, 9) := by kernel_rfl
def RenOk (t : Tm) : Prop := ∀ (v : Value) (E : World) (H : GH) (L : List It) (gr gt : Nat) (σ : Bs → Option Bs) (f : Bs → Option Value) (n : Int), VT H v t → Laid H → (∀ x, f x = (σ x).map encS) → In64 n →
    Ok Tryz.prog 36 #[.pointer (some ⟨gr, 0, none⟩), v] E H (.obj gr (.cells #[.map (some gt), .int .i64 n] 78 (0, 0)) :: .blk gt (IsMap encS f) :: L) fun r H' L' => VT H' r (t.ren σ n).1 ∧ L' = .obj gr (.cells #[.map (some gt), .int .i64 (t.ren σ n).2] 78 (0, 0)) :: .blk gt (IsMap encS f) :: L
theorem kidr_ok (ks : List Tm) (k : Nat) (hk : k < ks.length) (hr : RenOk ks[k]) (A : Option Addr) (c p2 p3 p9 gr gt : Nat) (σ : Bs → Option Bs) (f : Bs → Option Value) (n : Int) (E : World) (H : GH) (L : List It) (hks : KS H A c ks) (h2 : Hc H p2 0 (.pointer (some ⟨gr, 0, none⟩)))
    (h3 : Hc H p3 3 (.slice A ks.length c)) (h9 : Hc H p9 0 (.int .i64 (k : Int))) (hL : Laid H) (hf : ∀ x, f x = (σ x).map encS) (hn : In64 n) : Ok Tryz.prog 62 #[.pointer (some ⟨p2, 0, none⟩), .pointer (some ⟨p3, 0, none⟩), .pointer (some ⟨p9, 0, none⟩)] E H (.obj gr (.cells #[.map (some gt), .int .i64 n] 78 (0, 0)) :: .blk gt (IsMap encS f) :: L)
      fun r H' L' => VT H' r (ks[k].ren σ n).1 ∧ L' = .obj gr (.cells #[.map (some gt), .int .i64 (ks[k].ren σ n).2] 78 (0, 0)) :: .blk gt (IsMap encS f) :: L := by
  obtain ⟨g, off, A2, c2, rfl, hvt, hcell⟩ := KS.get hks hk
  refine enter (N := 11) [(0, _), (1, _), (2, _)] Tryz.func62 rfl rfl rfl rfl fun a w h => ?_
  refine sqr ?_
  refine al zr24 h fun g3 a w h => ?_
  refine nlt ?_
  refine sq ?_
  refine rgd [] [] [1, 0] [0, 2, 3, 5] 1 mix (by kernel_rfl) h (fun a w h => ?_)
  refine ldHD t1_75 (h2) h fun a w h => ?_
  refine fa fl24_3 (r := 3) h fun a w h => ?_
  refine ldHD t1_22 (h3) h fun a w h => ?_
  refine ldHD t1_3 (h9) h fun a w h => ?_
  refine ia sli22 sz24 rfl hk h fun a w h => ?_
  refine ldHND tN24 rfl hcell h fun a w h => ?_
  have h := h.pull 2 rfl rfl
  have h := h.pull 2 rfl rfl
  refine cl bod36 (hr _ E H _ gr gt σ f n hvt hL hf hn) h fun r10 H10 L10 a w le10 R h => ?_
  obtain ⟨⟨A10, c10, rfl, hk10⟩, rfl⟩ := R
  have l_H_H10 : LE H H10 := le10
  refine sw2 tN24 h fun a w h => ?_
  refine nlt ?_
  refine ret_ ?_
  exact fin (rs := [.cell 3 24]) (vs := [.agg #[_, _, _, _]]) h rfl (.agg (k0 := 2) tN24 rfl rfl rfl .nil) rfl le10 ⟨LE.rfl, (h.del 2).st⟩ ⟨⟨A10, c10, rfl, hk10⟩, rfl⟩
theorem dfr_ok (hd : Bool) (old nm : Bs) (p10 p9 p4 p5 gr gt : Nat) (f : Bs → Option Value) (n : Int) (E : World) (H : GH) (L : List It) (h10 : Hc H p10 0 (.bool hd)) (h9 : Hc H p9 0 (str old)) (h4 : Hc H p4 0 (.pointer (some ⟨gr, 0, none⟩))) (h5 : Hc H p5 0 (str nm)) :
    OkD Tryz.prog 77 #[.pointer (some ⟨p10, 0, none⟩), .pointer (some ⟨p9, 0, none⟩), .pointer (some ⟨p4, 0, none⟩), .pointer (some ⟨p5, 0, none⟩)] E H (.obj gr (.cells #[.map (some gt), .int .i64 n] 78 (0, 0)) :: .blk gt (IsMap encS f) :: L) fun r H' L' => H = H' ∧ L' = .obj gr (.cells #[.map (some gt), .int .i64 n] 78 (0, 0)) :: .blk gt (IsMap encS (upd f nm (if hd then some (str old) else none))) :: L := by
  refine enterR (N := 16) [(0, _), (1, _), (2, _), (3, _)] Tryz.func77 rfl rfl rfl rfl fun a w h => ?_
  refine sqr ?_
  refine ldH t1_4 (h10) h fun a w h => ?_
  refine nlt ?_
  refine cdB h (fun c4 => ?_) (fun c4 => ?_)
  ·refine rgd [0] [_] [0] [0, 3, 4, 5] 1 mix (by kernel_rfl) h (fun a w h => ?_)
   refine ldHD t1_75 (h4) h fun a w h => ?_
   refine nc h fun a w h => ?_
   refine fa fl78_0 (r := 0) h fun a w h => ?_
   refine ldD 0 t1_76 h fun a w h => ?_
   refine ldHD t1_9 (h5) h fun a w h => ?_
   refine ldHD t1_9 (h9) h fun a w h => ?_
   have h := h.pull 1 rfl rfl
   refine mu 0 keyS mapSS h fun a w h => ?_
   refine nl0 ?_
   have h := h.pull 1 rfl rfl
   refine finN0 0 h LE.rfl ?_
   exact ⟨rfl, by rw [show hd = true from c4]; rfl⟩
  ·refine rgd [0] [_] [0] [0, 3, 4] 0 mix (by kernel_rfl) h (fun a w h => ?_)
   refine ldHD t1_75 (h4) h fun a w h => ?_
   refine nc h fun a w h => ?_
   refine fa fl78_0 (r := 0) h fun a w h => ?_
   refine ldD 0 t1_76 h fun a w h => ?_
   refine ldHD t1_9 (h5) h fun a w h => ?_
   have h := h.pull 1 rfl rfl
   refine dl 0 keyS mapSS h fun a w h => ?_
   refine nl0 ?_
   have h := h.pull 1 rfl rfl
   refine finN0 0 h LE.rfl ?_
   exact ⟨rfl, by rw [show hd = false from c4]; rfl⟩
end Go.Proofs.YtindlieilabgfaaGreatDoor
/- Walks: the renamer's bind. -/
set_option linter.unusedVariables false
set_option linter.unusedSimpArgs false
set_option linter.unusedSectionVars false
set_option autoImplicit false
set_option relaxedAutoImplicit false
set_option maxRecDepth 10000
namespace Go.Proofs.YtindlieilabgfaaGreatDoor
open Go X
theorem bind_ok (nm to : Bs) (fd : FuncId) (caps : Array Value) (gr gt : Nat) (σ : Bs → Option Bs) (f : Bs → Option Value) (n n' : Int) (u : Tm) (E : World) (H : GH) (L : List It) (hf : ∀ x, f x = (σ x).map encS) (hbod : bodT Tryz.prog fd = true)
    (hdo : ∀ (H1 : GH) (L1 : List It), LE H H1 → Ok Tryz.prog fd (#[] ++ [].toArray ++ caps) E H1 (.obj gr (.cells #[.map (some gt), .int .i64 n] 78 (0, 0)) :: .blk gt (IsMap encS (upd f nm (some (str to)))) :: L1) fun r H' L' => VT H' r u ∧ L' = .obj gr (.cells #[.map (some gt), .int .i64 n'] 78 (0, 0)) :: .blk gt (IsMap encS (upd f nm (some (str to)))) :: L1) :
    Ok Tryz.prog 63 #[.pointer (some ⟨gr, 0, none⟩), str nm, str to, .func (.func fd) #[] caps] E H (.obj gr (.cells #[.map (some gt), .int .i64 n] 78 (0, 0)) :: .blk gt (IsMap encS f) :: L) fun r H' L' => VT H' r u ∧ L' = .obj gr (.cells #[.map (some gt), .int .i64 n'] 78 (0, 0)) :: .blk gt (IsMap encS f) :: L := by
  obtain ⟨old, hold⟩ : ∃ old, (f nm).getD (.string ⟨#[]⟩) = str old := by
    rw [hf nm]; cases σ nm with
    | none => exact ⟨[], rfl⟩
    | some u => exact ⟨u, rfl⟩
  have hback : upd (upd f nm (some (str to))) nm (if (f nm).isSome then some (str old) else none) = f := by
    funext x
    unfold X.upd
    by_cases e : x = nm
    · subst e
      rw [if_pos rfl]
      rw [hf x] at hold ⊢
      cases hs : σ x with
      | none => rfl
      | some u => rw [hs] at hold; simp at hold ⊢; exact hold.symm
    · rw [if_neg e, if_neg e]
  refine enterD (N := 29) [(0, _), (1, _), (2, _), (3, _)] Tryz.func63 rfl rfl rfl rfl fun a w h => ?_
  refine sqr ?_
  refine bx1 h fun g4 a w h => ?_
  refine bx1 h fun g5 a w h => ?_
  refine al zr24 h fun g8 a w h => ?_
  refine nlt ?_
  refine sq ?_
  obtain ⟨H1, leH1, h, hf4⟩ := h.frz 2
  have l_H_H1 : LE H H1 := leH1
  obtain ⟨H2, leH2, h, hf5⟩ := h.frz 1
  have l_H_H2 : LE H H2 := l_H_H1.trans leH2
  have l_H1_H2 : LE H1 H2 := leH2
  refine rgxF [1, 2] [_, _] [0, 3, 4, 5] 13 mix h (fun a w h => ?_)
  refine tkl 0 true (by kernel_rfl) ?_ (hQ := fun _ _ _ _ _ h => False.elim h)
  refine ldHT t1_75 (Hc.of (l_H1_H2 _ _ hf4) rfl) h fun a w h => ?_
  refine tk0 ?_
  refine tkl 1 false (by kernel_rfl) ?_ (hQ := fun _ _ _ _ _ h => False.elim h)
  refine nc h fun a w h => ?_
  refine tk0 ?_
  refine tkl 2 false (by kernel_rfl) ?_ (hQ := fun _ _ _ _ _ h => False.elim h)
  refine fa fl78_0 (r := 0) h fun a w h => ?_
  refine tk0 ?_
  refine tkl 3 true (by kernel_rfl) ?_ (hQ := fun _ _ _ _ _ h => False.elim h)
  refine ldT 0 t1_76 h fun a w h => ?_
  refine tk0 ?_
  refine tkl 4 true (by kernel_rfl) ?_ (hQ := fun _ _ _ _ _ h => False.elim h)
  refine ldHT t1_9 (Hc.of (LE.rfl _ _ hf5) rfl) h fun a w h => ?_
  refine tk0 ?_
  refine tkl 5 true (by kernel_rfl) ?_ (hQ := fun _ _ _ _ _ h => False.elim h)
  refine lkT (f := f) (q := nm) 1 keyS mapSS zr9 h fun a w h => ?_
  rw [hold] at h
  refine tk0 ?_
  refine tkl 6 false (by kernel_rfl) ?_ (hQ := fun _ _ _ _ _ h => False.elim h)
  refine mv h fun a w h => ?_
  refine tk0 ?_
  refine tkl 7 false (by kernel_rfl) ?_ (hQ := fun _ _ _ _ _ h => False.elim h)
  refine ex h fun a w h => ?_
  refine tk0 ?_
  refine tkl 8 false (by kernel_rfl) ?_ (hQ := fun _ _ _ _ _ h => False.elim h)
  refine ex h fun a w h => ?_
  refine tk0 ?_
  refine brl2 9 10 true true (by kernel_rfl) (by kernel_rfl) (by kernel_rfl) (fun _ => h.st.sees' (by first | exact LE.rfl | assumption) (by simp)) ?_ ?_
  ·refine al zr9 h fun g9 a w h => ?_
   refine br0 ?_
   refine brl1 10 true (by kernel_rfl) (by kernel_rfl) (fun _ => h.st.sees' (by first | exact LE.rfl | assumption) (by simp)) ?_
   refine al zr4 h fun g10 a w h => ?_
   refine br0 ?_
   refine brl1 11 false (by kernel_rfl) (by kernel_rfl) (fun _ => h.st.sees' (by first | exact LE.rfl | assumption) (by simp)) ?_
   refine st1 (l := [_]) t1_9 h fun a w h => ?_
   refine br0 ?_
   refine brl1 12 false (by kernel_rfl) (by kernel_rfl) (fun _ => h.st.sees' (by first | exact LE.rfl | assumption) (by simp)) ?_
   refine st0 (l := [_]) t1_4 h fun a w h => ?_
   refine br0 ?_
   refine en (by kernel_rfl) ?_
   refine npN ?_
   refine thN ?_
   refine sq ?_
   obtain ⟨H3, leH3, h, hf9⟩ := h.frz 1
   have l_H_H3 : LE H H3 := l_H_H2.trans leH3
   have l_H1_H3 : LE H1 H3 := l_H1_H2.trans leH3
   have l_H2_H3 : LE H2 H3 := leH3
   obtain ⟨H4, leH4, h, hf10⟩ := h.frz 0
   have l_H_H4 : LE H H4 := l_H_H3.trans leH4
   have l_H1_H4 : LE H1 H4 := l_H1_H3.trans leH4
   have l_H2_H4 : LE H2 H4 := l_H2_H3.trans leH4
   have l_H3_H4 : LE H3 H4 := leH4
   refine rg0 ?_
   refine mf h fun a w h => ?_
   refine df h fun a w h => ?_
   refine nlt ?_
   refine sq ?_
   refine rgdF [1] [_] [0] [0, 3, 4] 1 mix (by kernel_rfl) h (fun a w h => ?_)
   refine ldHD t1_75 (Hc.of (l_H1_H4 _ _ hf4) rfl) h fun a w h => ?_
   refine nc h fun a w h => ?_
   refine fa fl78_0 (r := 0) h fun a w h => ?_
   refine ldD 0 t1_76 h fun a w h => ?_
   refine ldHD t1_9 (Hc.of (l_H2_H4 _ _ hf5) rfl) h fun a w h => ?_
   refine mv h fun a w h => ?_
   have h := h.pull 2 rfl rfl
   refine mu 0 keyS mapSS h fun a w h => ?_
   refine nl0 ?_
   refine npN ?_
   refine thN ?_
   refine sqr ?_
   refine mv h fun a w h => ?_
   have h := h.pull 2 rfl rfl
   refine cl hbod (hdo H4 _ l_H_H4) h fun r28 H28 L28 a w le28 R h => ?_
   obtain ⟨⟨A28, c28, rfl, hk28⟩, rfl⟩ := R
   have l_H_H28 : LE H H28 := l_H_H4.trans le28
   have l_H1_H28 : LE H1 H28 := l_H1_H4.trans le28
   have l_H2_H28 : LE H2 H28 := l_H2_H4.trans le28
   have l_H3_H28 : LE H3 H28 := l_H3_H4.trans le28
   have l_H4_H28 : LE H4 H28 := le28
   refine sw2 tN24 h fun a w h => ?_
   refine nlt ?_
   refine ret_ ?_
   have h := h.pull 1 rfl rfl
   have h := h.pull 1 rfl rfl
   refine finD h bod77 (dfr_ok (f nm).isSome old nm g10 g9 g4 g5 gr gt _ n' E H28 _ (Hc.of (l_H4_H28 _ _ hf10) rfl) (Hc.of (l_H3_H28 _ _ hf9) rfl) (Hc.of (l_H1_H28 _ _ hf4) rfl) (Hc.of (l_H2_H28 _ _ hf5) rfl)) l_H_H28 fun r0 H0 L0 w' le0 R hS => ?_
   obtain ⟨rfl, rfl⟩ := R
   rw [hback] at hS
   exact ⟨_, _, _, run_results (rs := [.cell 8 24]) (vs := [.agg #[_, _, _, _]]) rfl (.agg (k0 := 2) tN24 rfl rfl rfl .nil) hS, l_H_H28, (hS.del 2).st, ⟨⟨A28, c28, rfl, hk28⟩, rfl⟩⟩
  ·refine al zr4 h fun g10 a w h => ?_
   refine br0 ?_
   refine brl1 9 true (by kernel_rfl) (by kernel_rfl) (fun _ => h.st.sees' (by first | exact LE.rfl | assumption) (by simp)) ?_
   refine al zr9 h fun g9 a w h => ?_
   refine br0 ?_
   refine brl1 11 false (by kernel_rfl) (by kernel_rfl) (fun _ => h.st.sees' (by first | exact LE.rfl | assumption) (by simp)) ?_
   refine st0 (l := [_]) t1_9 h fun a w h => ?_
   refine br0 ?_
   refine brl1 12 false (by kernel_rfl) (by kernel_rfl) (fun _ => h.st.sees' (by first | exact LE.rfl | assumption) (by simp)) ?_
   refine st1 (l := [_]) t1_4 h fun a w h => ?_
   refine br0 ?_
   refine en (by kernel_rfl) ?_
   refine npN ?_
   refine thN ?_
   refine sq ?_
   obtain ⟨H3, leH3, h, hf9⟩ := h.frz 0
   have l_H_H3 : LE H H3 := l_H_H2.trans leH3
   have l_H1_H3 : LE H1 H3 := l_H1_H2.trans leH3
   have l_H2_H3 : LE H2 H3 := leH3
   obtain ⟨H4, leH4, h, hf10⟩ := h.frz 0
   have l_H_H4 : LE H H4 := l_H_H3.trans leH4
   have l_H1_H4 : LE H1 H4 := l_H1_H3.trans leH4
   have l_H2_H4 : LE H2 H4 := l_H2_H3.trans leH4
   have l_H3_H4 : LE H3 H4 := leH4
   refine rg0 ?_
   refine mf h fun a w h => ?_
   refine df h fun a w h => ?_
   refine nlt ?_
   refine sq ?_
   refine rgdF [1] [_] [0] [0, 3, 4] 1 mix (by kernel_rfl) h (fun a w h => ?_)
   refine ldHD t1_75 (Hc.of (l_H1_H4 _ _ hf4) rfl) h fun a w h => ?_
   refine nc h fun a w h => ?_
   refine fa fl78_0 (r := 0) h fun a w h => ?_
   refine ldD 0 t1_76 h fun a w h => ?_
   refine ldHD t1_9 (Hc.of (l_H2_H4 _ _ hf5) rfl) h fun a w h => ?_
   refine mv h fun a w h => ?_
   have h := h.pull 2 rfl rfl
   refine mu 0 keyS mapSS h fun a w h => ?_
   refine nl0 ?_
   refine npN ?_
   refine thN ?_
   refine sqr ?_
   refine mv h fun a w h => ?_
   have h := h.pull 2 rfl rfl
   refine cl hbod (hdo H4 _ l_H_H4) h fun r28 H28 L28 a w le28 R h => ?_
   obtain ⟨⟨A28, c28, rfl, hk28⟩, rfl⟩ := R
   have l_H_H28 : LE H H28 := l_H_H4.trans le28
   have l_H1_H28 : LE H1 H28 := l_H1_H4.trans le28
   have l_H2_H28 : LE H2 H28 := l_H2_H4.trans le28
   have l_H3_H28 : LE H3 H28 := l_H3_H4.trans le28
   have l_H4_H28 : LE H4 H28 := le28
   refine sw2 tN24 h fun a w h => ?_
   refine nlt ?_
   refine ret_ ?_
   have h := h.pull 1 rfl rfl
   have h := h.pull 1 rfl rfl
   refine finD h bod77 (dfr_ok (f nm).isSome old nm g10 g9 g4 g5 gr gt _ n' E H28 _ (Hc.of (l_H4_H28 _ _ hf10) rfl) (Hc.of (l_H3_H28 _ _ hf9) rfl) (Hc.of (l_H1_H28 _ _ hf4) rfl) (Hc.of (l_H2_H28 _ _ hf5) rfl)) l_H_H28 fun r0 H0 L0 w' le0 R hS => ?_
   obtain ⟨rfl, rfl⟩ := R
   rw [hback] at hS
   exact ⟨_, _, _, run_results (rs := [.cell 8 24]) (vs := [.agg #[_, _, _, _]]) rfl (.agg (k0 := 2) tN24 rfl rfl rfl .nil) hS, l_H_H28, (hS.del 2).st, ⟨⟨A28, c28, rfl, hk28⟩, rfl⟩⟩
end Go.Proofs.YtindlieilabgfaaGreatDoor
/- Walks: the renamer's term. -/
set_option linter.unusedVariables false
set_option linter.unusedSimpArgs false
set_option linter.unusedSectionVars false
set_option autoImplicit false
set_option relaxedAutoImplicit false
set_option maxRecDepth 10000
namespace Go.Proofs.YtindlieilabgfaaGreatDoor
open Go X
theorem sub1 {σ : Bs → Option Bs} {f : Bs → Option Value} {nm old : Bs} (hf : ∀ x, f x = (σ x).map encS) (hold : (f nm).getD (.string ⟨#[]⟩) = str old) (hs : (f nm).isSome = true) : σ nm = some old := by
  rw [hf nm] at hold hs
  cases h : σ nm with
  | none => rw [h] at hs; cases hs
  | some u => rw [h] at hold; simp at hold; rw [hold]
theorem sub0 {σ : Bs → Option Bs} {f : Bs → Option Value} {nm : Bs} (hf : ∀ x, f x = (σ x).map encS) (hs : (f nm).isSome = false) : σ nm = none := by
  rw [hf nm] at hs
  cases h : σ nm with
  | none => rfl
  | some u => rw [h] at hs; cases hs
theorem vt_of {H : GH} {B : Option Addr} {k cp : Nat} {ys : List Tm} {kd : Int} {s : Bs} {n : Int} (hk : k = ys.length) (h : RS RT 4 H (.slice B k cp) ys) : VT H (.agg #[.int .i64 kd, str s, .int .i64 n, .slice B k cp]) (.mk kd s n ys) := by
  subst hk; exact ⟨B, cp, rfl, h⟩
theorem ren_ok : ∀ t : Tm, t.size < 1000000000000 → RenOk t := by
  intro t
  induction t using Tm.ind with
  | h kd nm nn ks ih =>
  intro hsz v E H L gr gt σ f n hv hL hf hn
  obtain ⟨A, c, rfl, hks⟩ := hv
  have hks : KS H A c ks := hks
  simp only [Tm.size] at hsz
  have hlen := length_le_sizeL ks
  obtain ⟨old, hold⟩ : ∃ old, (f nm).getD (.string ⟨#[]⟩) = str old := by
    rw [hf nm]; cases σ nm with
    | none => exact ⟨[], rfl⟩
    | some u => exact ⟨u, rfl⟩
  refine enter (N := 89) [(0, _), (1, _)] Tryz.func36 rfl rfl rfl rfl fun a w h => ?_
  refine sqr ?_
  refine bx1 h fun g2 a w h => ?_
  refine bxA h fun g3 a w h => ?_
  refine al zr24 h fun g4 a w h => ?_
  refine nlt ?_
  refine sq ?_
  obtain ⟨H1, leH1, h, hf2⟩ := h.frz 2
  have l_H_H1 : LE H H1 := leH1
  obtain ⟨H2, leH2, h, hf3⟩ := h.frz 1
  have l_H_H2 : LE H H2 := l_H_H1.trans leH2
  have l_H1_H2 : LE H1 H2 := leH2
  have q2 : Hc H2 g2 0 (.pointer (some ⟨gr, 0, none⟩)) := Hc.of (l_H1_H2 _ _ hf2) rfl
  have q3 : Hc H2 g3 3 (.slice A ks.length c) := Hc.of hf3 rfl
  have hks2 := hks.up l_H_H2
  have hL2 := hL.up l_H_H2
  refine rg0 ?_
  refine fa fl24_0 (r := 0) h fun a w h => ?_
  refine ldH t1_3 (Hc.of (LE.rfl _ _ hf3) rfl) h fun a w h => ?_
  refine fa fl24_1 (r := 1) h fun a w h => ?_
  refine ldH t1_9 (Hc.of (LE.rfl _ _ hf3) rfl) h fun a w h => ?_
  refine fa fl24_2 (r := 2) h fun a w h => ?_
  refine ldH t1_2 (Hc.of (LE.rfl _ _ hf3) rfl) h fun a w h => ?_
  refine bdl lay24 zr24 h fun a w h => ?_
  refine al zr24 h fun g5 a w h => ?_
  refine sw0 tN24 h fun a w h => ?_
  refine nlt ?_
  refine sqc (fun a w => S E H2 89 [] [(2, .pointer (some ⟨g2, 0, none⟩)), (3, .pointer (some ⟨g3, 0, none⟩)), (4, .pointer (some ⟨g4, 0, none⟩)), (5, .pointer (some ⟨g5, 0, none⟩))] (.obj g5 (.cells #[.int .i64 kd, str (if kd == 2 then (σ nm).getD nm else nm), .int .i64 nn, .slice none 0 0] 24 (0, 0)) :: .obj g4 (.cells #[.int .i64 0, .string ⟨#[]⟩, .int .i64 0, .slice none 0 0] 24 (0, 0)) :: .obj gr (.cells #[.map (some gt), .int .i64 n] 78 (0, 0)) :: .blk gt (IsMap encS f) :: L) a w) ?_ ?_
  ·refine sq ?_
   refine rgd [2, 3] [_, _] [] [0, 3, 5, 6] 2 mix (by kernel_rfl) h (fun a w h => ?_)
   refine ldHD t1_75 (Hc.of (l_H1_H2 _ _ hf2) rfl) h fun a w h => ?_
   refine nc h fun a w h => ?_
   refine fa fl78_0 (r := 0) h fun a w h => ?_
   refine ldD 0 t1_76 h fun a w h => ?_
   refine fa fl24_1 (r := 1) h fun a w h => ?_
   refine ldHD t1_9 (Hc.of (LE.rfl _ _ hf3) rfl) h fun a w h => ?_
   refine lkD (f := f) (q := nm) 1 keyS mapSS zr9 h fun a w h => ?_
   rw [hold] at h
   refine mv h fun a w h => ?_
   refine ex h fun a w h => ?_
   refine ex h fun a w h => ?_
   refine as_ h fun a w h => ?_
   refine as_ h fun a w h => ?_
   refine nsr ?_
   refine mv h fun a w h => ?_
   refine h.spl (fun c28 h => ?_) (fun c28 h => ?_)
   ·refine mv h fun a w h => ?_
    refine fa fl24_0 (r := 0) h fun a w h => ?_
    refine ldH t1_3 (Hc.of (LE.rfl _ _ hf3) rfl) h fun a w h => ?_
    refine eqi h fun a w h => ?_
    refine pkT h fun a w h => ?_
    refine nlt ?_
    refine cdB h (fun c33 => ?_) (fun c33 => ?_)
    ·refine rg0 ?_
     refine mv h fun a w h => ?_
     refine fa fl24_1 (r := 1) h fun a w h => ?_
     refine st0 (l := [_, _, _, _]) t1_9 h fun a w h => ?_
     refine nlt ?_
     have h := h.pull 3 rfl rfl
     have h := h.pull 3 rfl rfl
     have h := h.pull 3 rfl rfl
     have h := h.pull 3 rfl rfl
     have e1 : (if kd == 2 then (σ nm).getD nm else nm) = old := by rw [if_pos (show (kd == 2) = true from c33), sub1 hf hold c28, Option.getD_some]
     rw [e1]
     exact h.to 0 _
    ·refine skt ?_
     have h := h.pull 3 rfl rfl
     have h := h.pull 3 rfl rfl
     have h := h.pull 3 rfl rfl
     have h := h.pull 3 rfl rfl
     have e1 : (if kd == 2 then (σ nm).getD nm else nm) = nm := if_neg (by rw [show (kd == 2) = false from c33]; simp)
     rw [e1]
     exact h.to 0 _
   ·refine mv h fun a w h => ?_
    refine sk h (k := fun a w h => ?_)
    refine sk h (k := fun a w h => ?_)
    refine sk h (k := fun a w h => ?_)
    refine pkF h fun a w h => ?_
    refine nlt ?_
    refine cdF h ?_
    refine skt ?_
    have h := h.pull 3 rfl rfl
    have h := h.pull 3 rfl rfl
    have h := h.pull 3 rfl rfl
    have h := h.pull 3 rfl rfl
    have e1 : (if kd == 2 then (σ nm).getD nm else nm) = nm := by rw [sub0 hf c28]; split <;> rfl
    rw [e1]
    exact h.to 0 _
  ·rintro a w h
   refine sqr ?_
   refine ldHN tN24 rfl (Hc.all (LE.rfl _ _ hf3)) h fun a w h => ?_
   refine cl bod38 (Binder_ok _ _ _ _ E H2 _) h fun r37 H37 L37 a w le37 R h => ?_
   obtain ⟨rfl, rfl, rfl⟩ := R
   refine as_ h fun a w h => ?_
   refine nlt ?_
   obtain ⟨s', hs'⟩ : ∃ s', s' = renN kd nm σ n := ⟨_, rfl⟩
   obtain ⟨n1, hn1⟩ : ∃ n1, n1 = if bnd kd then nx n else n := ⟨_, rfl⟩
   refine sqc (fun a w => S E H2 89 [] [(2, .pointer (some ⟨g2, 0, none⟩)), (3, .pointer (some ⟨g3, 0, none⟩)), (4, .pointer (some ⟨g4, 0, none⟩)), (5, .pointer (some ⟨g5, 0, none⟩)), (8, .bool (bnd kd))] (.obj g5 (.cells #[.int .i64 kd, str s', .int .i64 nn, .slice none 0 0] 24 (0, 0)) :: .obj g4 (.cells #[.int .i64 0, .string ⟨#[]⟩, .int .i64 0, .slice none 0 0] 24 (0, 0)) :: .obj gr (.cells #[.map (some gt), .int .i64 n1] 78 (0, 0)) :: .blk gt (IsMap encS f) :: L) a w) ?_ ?_
   ·refine sqr ?_
    refine mv h fun a w h => ?_
    refine nlt ?_
    refine cdB h (fun c38 => ?_) (fun c38 => ?_)
    ·refine sqr ?_
     refine ldH t1_75 (Hc.of (l_H1_H2 _ _ hf2) rfl) h fun a w h => ?_
     refine nc h fun a w h => ?_
     refine fa fl78_1 (r := 1) h fun a w h => ?_
     refine ld 2 t1_3 h fun a w h => ?_
     refine cl bod61 (Itoa_ok n E H2 _ hL2 hn.1 hn.2) h fun r43 H43 L43 a w le43 R h => ?_
     obtain ⟨rfl, rfl, rfl⟩ := R
     refine fa fl24_1 (r := 1) h fun a w h => ?_
     refine st0 (l := [_, _, _, _]) t1_9 h fun a w h => ?_
     refine nlt ?_
     refine rg0 ?_
     refine ldH t1_75 (Hc.of (l_H1_H2 _ _ hf2) rfl) h fun a w h => ?_
     refine nc h fun a w h => ?_
     refine fa fl78_1 (r := 1) h fun a w h => ?_
     refine ld 2 t1_3 h fun a w h => ?_
     refine adr (nx n) rfl h fun a w h => ?_
     refine nc h fun a w h => ?_
     refine fa fl78_1 (r := 1) h fun a w h => ?_
     refine st2 (l := [_, _]) t1_3 h fun a w h => ?_
     refine nlt ?_
     have h := h.pull 3 rfl rfl
     have h := h.pull 3 rfl rfl
     have h := h.pull 3 rfl rfl
     have h := h.pull 3 rfl rfl
     rw [hs', hn1]
     unfold renN
     have hb : bnd kd = true := c38
     rw [if_pos hb, if_pos hb]
     exact h.to 0 _
    ·refine skt ?_
     have h := h.pull 3 rfl rfl
     have h := h.pull 3 rfl rfl
     have h := h.pull 3 rfl rfl
     have h := h.pull 3 rfl rfl
     rw [hs', hn1]
     unfold renN
     have hb : ¬ (bnd kd = true) := by rw [show bnd kd = false from c38]; simp
     rw [if_neg hb, if_neg hb]
     exact h.to 0 _
   ·rintro a w h
    refine sq ?_
    refine sq ?_
    have hn1i : In64 n1 := by rw [hn1]; split; exact nx_in n; exact hn
    have h := h.row (e := 24) (sz := 4)
    refine rg0 ?_
    refine fa fl24_3 (r := 3) h fun a w h => ?_
    refine ldH t1_22 (Hc.of (LE.rfl _ _ hf3) rfl) h fun a w h => ?_
    refine ln sli22 h fun a w h => ?_
    refine mv h fun a w h => ?_
    refine nlt ?_
    refine blk ?_
    refine lp (β := Nat × GH × Option Addr × Nat × List Value) (fun x a w => match x with | (k, H3, B, cp, xs) => (k ≤ ks.length ∧ LE H2 H3 ∧ RowR RT 4 H3 xs (renT (bnd kd) nm s' ks σ n1 k).1) ∧ S E H3 89 [] [(2, .pointer (some ⟨g2, 0, none⟩)), (3, .pointer (some ⟨g3, 0, none⟩)), (4, .pointer (some ⟨g4, 0, none⟩)), (5, .pointer (some ⟨g5, 0, none⟩)), (8, .bool (bnd kd)), (55, .int .i64 (k : Int)), (54, .int .i64 (ks.length : Int))] (.row (.slice B k cp) 24 4 k xs :: .obj g5 (.cells #[.int .i64 kd, str s', .int .i64 nn, .slice B k cp] 24 (0, 0)) :: .obj g4 (.cells #[.int .i64 0, .string ⟨#[]⟩, .int .i64 0, .slice none 0 0] 24 (0, 0)) :: .obj gr (.cells #[.map (some gt), .int .i64 (renT (bnd kd) nm s' ks σ n1 k).2] 78 (0, 0)) :: .blk gt (IsMap encS f) :: L) a w)
     (fun x => match x with | (k, H3, B, cp, xs) => ks.length - k) (0, H2, none, 0, []) ⟨⟨Nat.zero_le _, LE.rfl, RowR.nil⟩, h.to 0 _⟩ ?_
    rintro ⟨k, H3, B, cp, xs⟩ a w ⟨pre, h⟩
    obtain ⟨hk, l_H2_H3, hrow⟩ := pre
    have l_H_H3 := l_H_H2.trans l_H2_H3
    have l_H1_H3 := l_H1_H2.trans l_H2_H3
    have hnk : In64 (renT (bnd kd) nm s' ks σ n1 k).2 := renT_in hn1i k
    refine sqr ?_
    refine lt h fun a w h => ?_
    refine nlt ?_
    refine sq ?_
    refine cdB h (fun c56 => ?_) (fun c56 => ?_)
    ·have c56 : k < ks.length := by simpa using c56
     have hsz := size_get_le c56
     refine skt ?_
     refine sq ?_
     refine blk ?_
     refine sqr ?_
     refine mv h fun a w h => ?_
     refine al zr3 h fun g9 a w h => ?_
     refine st0 (l := [_]) t1_3 h fun a w h => ?_
     refine nlt ?_
     refine sq ?_
     obtain ⟨H4, leH4, h, hf9⟩ := h.frz 0
     have l_H_H4 : LE H H4 := l_H_H3.trans leH4
     have l_H1_H4 : LE H1 H4 := l_H1_H3.trans leH4
     have l_H2_H4 : LE H2 H4 := l_H2_H3.trans leH4
     have l_H3_H4 : LE H3 H4 := leH4
     refine rg0 ?_
     refine mf h fun a w h => ?_
     refine as_ h fun a w h => ?_
     refine nlt ?_
     refine sq ?_
     refine sqr ?_
     refine mv h fun a w h => ?_
     refine h.spl (fun c59 h => ?_) (fun c59 h => ?_)
     ·refine mv h fun a w h => ?_
      refine ldH t1_3 (Hc.of (LE.rfl _ _ hf9) rfl) h fun a w h => ?_
      refine fa fl24_3 (r := 3) h fun a w h => ?_
      refine ldH t1_22 (Hc.of (l_H2_H4 _ _ hf3) rfl) h fun a w h => ?_
      refine ln sli22 h fun a w h => ?_
      refine sbr ((ks.length : Int) - 1) ?_ h fun a w h => ?_
      ·show IntKind.i64.wrap ((ks.length : Int) - 1) = _; exact w64 (by omega) (by omega)
      refine eqi h fun a w h => ?_
      refine pkT h fun a w h => ?_
      refine nlt ?_
      refine cdB h (fun c67 => ?_) (fun c67 => ?_)
      ·refine sq ?_
       refine rgx [1] [_] [1, 2, 4, 6] 13 mix h (fun a w h => ?_)
       refine tkl 0 false (by kernel_rfl) ?_
       refine fa fl24_3 (r := 3) h fun a w h => ?_
       refine tk0 ?_
       refine tkl 1 true (by kernel_rfl) ?_
       refine ldT 0 t1_22 h fun a w h => ?_
       refine tk0 ?_
       refine tkl 2 true (by kernel_rfl) ?_
       refine ldHT t1_75 (Hc.of (l_H1_H4 _ _ hf2) rfl) h fun a w h => ?_
       refine tk0 ?_
       refine tkl 3 false (by kernel_rfl) ?_
       refine fa fl24_1 (r := 1) h fun a w h => ?_
       refine tk0 ?_
       refine tkl 4 true (by kernel_rfl) ?_
       refine ldHT t1_9 (Hc.of (l_H2_H4 _ _ hf3) rfl) h fun a w h => ?_
       refine tk0 ?_
       refine tkl 5 false (by kernel_rfl) ?_
       refine fa fl24_1 (r := 1) h fun a w h => ?_
       refine tk0 ?_
       refine tkl 6 true (by kernel_rfl) ?_
       refine ldT 0 t1_9 h fun a w h => ?_
       refine tk0 ?_
       refine tkl 7 false (by kernel_rfl) ?_
       refine mv h fun a w h => ?_
       refine tk0 ?_
       refine brl1 8 true (by kernel_rfl) (by kernel_rfl) (fun _ => h.st.sees' (by first | exact LE.rfl | assumption) (by simp)) ?_
       have h := h.pull 4 rfl rfl
       have h := h.pull 4 rfl rfl
       have hfu : ∀ x, upd f nm (some (str s')) x = (updS σ nm s' x).map encS := fun x => by unfold X.upd updS; split; rfl; exact hf x
       refine cl bod63 (bind_ok nm s' 62 #[.pointer (some ⟨g2, 0, none⟩), .pointer (some ⟨g3, 0, none⟩), .pointer (some ⟨g9, 0, none⟩)] gr gt σ f _ _ _ E H4 _ hf bod62 (fun Hx Lx lx => kidr_ok ks k c56 (ih _ (List.getElem_mem c56) (by omega)) A c g2 g3 g9 gr gt (updS σ nm s') (upd f nm (some (str s'))) _ E Hx _ (hks2.up (l_H2_H4.trans lx)) (q2.mono (l_H2_H4.trans lx)) (q3.mono (l_H2_H4.trans lx)) ((Hc.of hf9 rfl).mono (lx)) (hL2.up (l_H2_H4.trans lx)) hfu hnk)) h (fun r76 H76 L76 a w le76 R h => ?_) (hS := fun _ _ _ _ _ le R hw => by obtain ⟨_, rfl⟩ := R; exact hw.sees' (by first | exact le | exact LE.trans (by assumption) le) (by simp))
       obtain ⟨⟨A76, c76, rfl, hk76⟩, rfl⟩ := R
       have l_H_H76 : LE H H76 := l_H_H4.trans le76
       have l_H1_H76 : LE H1 H76 := l_H1_H4.trans le76
       have l_H2_H76 : LE H2 H76 := l_H2_H4.trans le76
       have l_H3_H76 : LE H3 H76 := l_H3_H4.trans le76
       have l_H4_H76 : LE H4 H76 := le76
       refine br0 ?_
       refine brl1 9 true (by kernel_rfl) (by kernel_rfl) (fun _ => h.st.sees' (by first | exact LE.rfl | assumption) (by simp)) ?_
       refine bsl bs22 h fun g77 a w h => ?_
       refine br0 ?_
       refine brl1 10 true (by kernel_rfl) (by kernel_rfl) (fun _ => h.st.sees' (by first | exact LE.rfl | assumption) (by simp)) ?_
       refine apb 3 0 (L' := fun i => _ :: _ :: _ :: i :: _) [_, _, _, _] row22 h ?_ ?_ fun v78 a w hone h => ?_
       ·omega
       ·omega
       obtain ⟨B2, cp2, rfl⟩ := h.rowv 3
       have hin : (bnd kd && k + 1 == ks.length) = true := by rw [c59]; have := eq_of_beq c67; simp; omega
       have hsucc : (renT (bnd kd) nm s' ks σ n1 (k + 1)) = ((renT (bnd kd) nm s' ks σ n1 k).1 ++ [(ks[k].ren (updS σ nm s') (renT (bnd kd) nm s' ks σ n1 k).2).1], (ks[k].ren (updS σ nm s') (renT (bnd kd) nm s' ks σ n1 k).2).2) := by rw [renT_succ c56, hin]; rfl
       have hrow2 : RowR RT 4 H76 (xs ++ [.int .i64 (ks[k].ren (updS σ nm s') (renT (bnd kd) nm s' ks σ n1 k).2).1.kind, str (ks[k].ren (updS σ nm s') (renT (bnd kd) nm s' ks σ n1 k).2).1.name, .int .i64 (ks[k].ren (updS σ nm s') (renT (bnd kd) nm s' ks σ n1 k).2).1.n, .slice A76 (ks[k].ren (updS σ nm s') (renT (bnd kd) nm s' ks σ n1 k).2).1.kids.length c76]) (renT (bnd kd) nm s' ks σ n1 (k + 1)).1 := by rw [hsucc]; exact (hrow.mono fun cs y _ hr => RT.mono l_H3_H76 y hr).snoc rfl (rt_of_vt (cs := [_, _, _, _]) ⟨A76, c76, rfl, hk76⟩)
       have hnx : (ks[k].ren (updS σ nm s') (renT (bnd kd) nm s' ks σ n1 k).2).2 = (renT (bnd kd) nm s' ks σ n1 (k + 1)).2 := by rw [hsucc]
       rw [hnx] at h
       refine br0 ?_
       refine tkl 11 false (by kernel_rfl) ?_
       refine fa fl24_3 (r := 3) h fun a w h => ?_
       refine tk0 ?_
       refine brl1 12 false (by kernel_rfl) (by kernel_rfl) (fun _ => h.st.sees' (by first | exact LE.rfl | assumption) (by simp)) ?_
       refine st4 (l := [_, _, _, _]) t1_22 h fun a w h => ?_
       refine br0 ?_
       refine en (by kernel_rfl) ?_
       refine thN ?_
       refine exit_ ?_
       refine thE ?_
       refine ibH ?_
       refine thN ?_
       refine rg0 ?_
       have h := h.pull 2 rfl rfl
       have h := h.pull 2 rfl rfl
       have h := h.pull 5 rfl rfl
       have h := h.pull 5 rfl rfl
       have h := h.pull 5 rfl rfl
       have h := h.del 5
       refine inc ?_ h fun a w h => ?_
       ·omega
       refine mv h fun a w h => ?_
       refine nlt ?_
       exact ⟨(k + 1, H76, B2, cp2, _), ⟨⟨by omega, l_H2_H76, hrow2⟩, h.to 0 _⟩, by show _ - (k + 1) < _ - k; omega⟩
      ·refine skt ?_
       refine rgx [1] [_] [1] 8 mix h (fun a w h => ?_)
       refine tkl 0 false (by kernel_rfl) ?_
       refine fa fl24_3 (r := 3) h fun a w h => ?_
       refine tk0 ?_
       refine tkl 1 true (by kernel_rfl) ?_
       refine ldT 0 t1_22 h fun a w h => ?_
       refine tk0 ?_
       refine tkl 2 false (by kernel_rfl) ?_
       refine mv h fun a w h => ?_
       refine tk0 ?_
       refine brl1 3 true (by kernel_rfl) (by kernel_rfl) (fun _ => h.st.sees' (by first | exact LE.rfl | assumption) (by simp)) ?_
       have h := h.pull 4 rfl rfl
       have h := h.pull 4 rfl rfl
       refine cl bod62 (kidr_ok ks k c56 (ih _ (List.getElem_mem c56) (by omega)) A c g2 g3 g9 gr gt σ f _ E H4 _ (hks2.up (l_H2_H4.trans LE.rfl)) (q2.mono (l_H2_H4.trans LE.rfl)) (q3.mono (l_H2_H4.trans LE.rfl)) ((Hc.of hf9 rfl).mono (LE.rfl)) (hL2.up (l_H2_H4.trans LE.rfl)) hf hnk) h (fun r83 H83 L83 a w le83 R h => ?_) (hS := fun _ _ _ _ _ le R hw => by obtain ⟨_, rfl⟩ := R; exact hw.sees' (by first | exact le | exact LE.trans (by assumption) le) (by simp))
       obtain ⟨⟨A83, c83, rfl, hk83⟩, rfl⟩ := R
       have l_H_H83 : LE H H83 := l_H_H4.trans le83
       have l_H1_H83 : LE H1 H83 := l_H1_H4.trans le83
       have l_H2_H83 : LE H2 H83 := l_H2_H4.trans le83
       have l_H3_H83 : LE H3 H83 := l_H3_H4.trans le83
       have l_H4_H83 : LE H4 H83 := le83
       refine br0 ?_
       refine brl1 4 true (by kernel_rfl) (by kernel_rfl) (fun _ => h.st.sees' (by first | exact LE.rfl | assumption) (by simp)) ?_
       refine bsl bs22 h fun g84 a w h => ?_
       refine br0 ?_
       refine brl1 5 false (by kernel_rfl) (by kernel_rfl) (fun _ => h.st.sees' (by first | exact LE.rfl | assumption) (by simp)) ?_
       refine apb 3 0 (L' := fun i => _ :: _ :: _ :: i :: _) [_, _, _, _] row22 h ?_ ?_ fun v85 a w hone h => ?_
       ·omega
       ·omega
       obtain ⟨B2, cp2, rfl⟩ := h.rowv 3
       have hin : (bnd kd && k + 1 == ks.length) = false := by rw [c59]; have := ne_of_beq_false c67; simp; omega
       have hsucc : (renT (bnd kd) nm s' ks σ n1 (k + 1)) = ((renT (bnd kd) nm s' ks σ n1 k).1 ++ [(ks[k].ren σ (renT (bnd kd) nm s' ks σ n1 k).2).1], (ks[k].ren σ (renT (bnd kd) nm s' ks σ n1 k).2).2) := by rw [renT_succ c56, hin]; rfl
       have hrow2 : RowR RT 4 H83 (xs ++ [.int .i64 (ks[k].ren σ (renT (bnd kd) nm s' ks σ n1 k).2).1.kind, str (ks[k].ren σ (renT (bnd kd) nm s' ks σ n1 k).2).1.name, .int .i64 (ks[k].ren σ (renT (bnd kd) nm s' ks σ n1 k).2).1.n, .slice A83 (ks[k].ren σ (renT (bnd kd) nm s' ks σ n1 k).2).1.kids.length c83]) (renT (bnd kd) nm s' ks σ n1 (k + 1)).1 := by rw [hsucc]; exact (hrow.mono fun cs y _ hr => RT.mono l_H3_H83 y hr).snoc rfl (rt_of_vt (cs := [_, _, _, _]) ⟨A83, c83, rfl, hk83⟩)
       have hnx : (ks[k].ren σ (renT (bnd kd) nm s' ks σ n1 k).2).2 = (renT (bnd kd) nm s' ks σ n1 (k + 1)).2 := by rw [hsucc]
       rw [hnx] at h
       refine br0 ?_
       refine tkl 6 false (by kernel_rfl) ?_
       refine fa fl24_3 (r := 3) h fun a w h => ?_
       refine tk0 ?_
       refine brl1 7 false (by kernel_rfl) (by kernel_rfl) (fun _ => h.st.sees' (by first | exact LE.rfl | assumption) (by simp)) ?_
       refine st4 (l := [_, _, _, _]) t1_22 h fun a w h => ?_
       refine br0 ?_
       refine en (by kernel_rfl) ?_
       refine ibN ?_
       refine thN ?_
       refine rg0 ?_
       have h := h.pull 2 rfl rfl
       have h := h.pull 2 rfl rfl
       have h := h.pull 5 rfl rfl
       have h := h.pull 5 rfl rfl
       have h := h.pull 5 rfl rfl
       have h := h.del 5
       refine inc ?_ h fun a w h => ?_
       ·omega
       refine mv h fun a w h => ?_
       refine nlt ?_
       exact ⟨(k + 1, H83, B2, cp2, _), ⟨⟨by omega, l_H2_H83, hrow2⟩, h.to 0 _⟩, by show _ - (k + 1) < _ - k; omega⟩
     ·refine mv h fun a w h => ?_
      refine sk h (k := fun a w h => ?_)
      refine sk h (k := fun a w h => ?_)
      refine sk h (k := fun a w h => ?_)
      refine sk h (k := fun a w h => ?_)
      refine sk h (k := fun a w h => ?_)
      refine sk h (k := fun a w h => ?_)
      refine pkF h fun a w h => ?_
      refine nlt ?_
      refine cdF h ?_
      refine skt ?_
      refine rgx [1] [_] [1] 8 mix h (fun a w h => ?_)
      refine tkl 0 false (by kernel_rfl) ?_
      refine fa fl24_3 (r := 3) h fun a w h => ?_
      refine tk0 ?_
      refine tkl 1 true (by kernel_rfl) ?_
      refine ldT 0 t1_22 h fun a w h => ?_
      refine tk0 ?_
      refine tkl 2 false (by kernel_rfl) ?_
      refine mv h fun a w h => ?_
      refine tk0 ?_
      refine brl1 3 true (by kernel_rfl) (by kernel_rfl) (fun _ => h.st.sees' (by first | exact LE.rfl | assumption) (by simp)) ?_
      have h := h.pull 4 rfl rfl
      have h := h.pull 4 rfl rfl
      refine cl bod62 (kidr_ok ks k c56 (ih _ (List.getElem_mem c56) (by omega)) A c g2 g3 g9 gr gt σ f _ E H4 _ (hks2.up (l_H2_H4.trans LE.rfl)) (q2.mono (l_H2_H4.trans LE.rfl)) (q3.mono (l_H2_H4.trans LE.rfl)) ((Hc.of hf9 rfl).mono (LE.rfl)) (hL2.up (l_H2_H4.trans LE.rfl)) hf hnk) h (fun r83 H83 L83 a w le83 R h => ?_) (hS := fun _ _ _ _ _ le R hw => by obtain ⟨_, rfl⟩ := R; exact hw.sees' (by first | exact le | exact LE.trans (by assumption) le) (by simp))
      obtain ⟨⟨A83, c83, rfl, hk83⟩, rfl⟩ := R
      have l_H_H83 : LE H H83 := l_H_H4.trans le83
      have l_H1_H83 : LE H1 H83 := l_H1_H4.trans le83
      have l_H2_H83 : LE H2 H83 := l_H2_H4.trans le83
      have l_H3_H83 : LE H3 H83 := l_H3_H4.trans le83
      have l_H4_H83 : LE H4 H83 := le83
      refine br0 ?_
      refine brl1 4 true (by kernel_rfl) (by kernel_rfl) (fun _ => h.st.sees' (by first | exact LE.rfl | assumption) (by simp)) ?_
      refine bsl bs22 h fun g84 a w h => ?_
      refine br0 ?_
      refine brl1 5 false (by kernel_rfl) (by kernel_rfl) (fun _ => h.st.sees' (by first | exact LE.rfl | assumption) (by simp)) ?_
      refine apb 3 0 (L' := fun i => _ :: _ :: _ :: i :: _) [_, _, _, _] row22 h ?_ ?_ fun v85 a w hone h => ?_
      ·omega
      ·omega
      obtain ⟨B2, cp2, rfl⟩ := h.rowv 3
      have hin : (bnd kd && k + 1 == ks.length) = false := by rw [c59]; rfl
      have hsucc : (renT (bnd kd) nm s' ks σ n1 (k + 1)) = ((renT (bnd kd) nm s' ks σ n1 k).1 ++ [(ks[k].ren σ (renT (bnd kd) nm s' ks σ n1 k).2).1], (ks[k].ren σ (renT (bnd kd) nm s' ks σ n1 k).2).2) := by rw [renT_succ c56, hin]; rfl
      have hrow2 : RowR RT 4 H83 (xs ++ [.int .i64 (ks[k].ren σ (renT (bnd kd) nm s' ks σ n1 k).2).1.kind, str (ks[k].ren σ (renT (bnd kd) nm s' ks σ n1 k).2).1.name, .int .i64 (ks[k].ren σ (renT (bnd kd) nm s' ks σ n1 k).2).1.n, .slice A83 (ks[k].ren σ (renT (bnd kd) nm s' ks σ n1 k).2).1.kids.length c83]) (renT (bnd kd) nm s' ks σ n1 (k + 1)).1 := by rw [hsucc]; exact (hrow.mono fun cs y _ hr => RT.mono l_H3_H83 y hr).snoc rfl (rt_of_vt (cs := [_, _, _, _]) ⟨A83, c83, rfl, hk83⟩)
      have hnx : (ks[k].ren σ (renT (bnd kd) nm s' ks σ n1 k).2).2 = (renT (bnd kd) nm s' ks σ n1 (k + 1)).2 := by rw [hsucc]
      rw [hnx] at h
      refine br0 ?_
      refine tkl 6 false (by kernel_rfl) ?_
      refine fa fl24_3 (r := 3) h fun a w h => ?_
      refine tk0 ?_
      refine brl1 7 false (by kernel_rfl) (by kernel_rfl) (fun _ => h.st.sees' (by first | exact LE.rfl | assumption) (by simp)) ?_
      refine st4 (l := [_, _, _, _]) t1_22 h fun a w h => ?_
      refine br0 ?_
      refine en (by kernel_rfl) ?_
      refine ibN ?_
      refine thN ?_
      refine rg0 ?_
      have h := h.pull 2 rfl rfl
      have h := h.pull 2 rfl rfl
      have h := h.pull 5 rfl rfl
      have h := h.pull 5 rfl rfl
      have h := h.pull 5 rfl rfl
      have h := h.del 5
      refine inc ?_ h fun a w h => ?_
      ·omega
      refine mv h fun a w h => ?_
      refine nlt ?_
      exact ⟨(k + 1, H83, B2, cp2, _), ⟨⟨by omega, l_H2_H83, hrow2⟩, h.to 0 _⟩, by show _ - (k + 1) < _ - k; omega⟩
    ·have hkk : k = ks.length := by simp at c56; omega
     refine exit_ ?_
     refine thE ?_
     refine thE ?_
     refine ibH ?_
     refine thN ?_
     refine sqr ?_
     refine ldW 1 tN24 h fun a w h => ?_
     refine sw2 tN24 h fun a w h => ?_
     refine nlt ?_
     refine ret_ ?_
     obtain ⟨H5, le5, h, hrs⟩ := h.frw 0 hrow (renT_length hk).symm (fun H6 l6 cs y _ hr => RT.mono l6 y hr)
     have l_H_H5 : LE H H5 := l_H_H3.trans le5
     have l_H1_H5 : LE H1 H5 := l_H1_H3.trans le5
     have l_H2_H5 : LE H2 H5 := l_H2_H3.trans le5
     have l_H3_H5 : LE H3 H5 := le5
     have h := h.pull 3 rfl rfl
     have h := h.pull 3 rfl rfl
     have h := h.pull 3 rfl rfl
     have h := h.del 3
     have e : ((Tm.mk kd nm nn ks).ren σ n) = (.mk kd s' nn (renT (bnd kd) nm s' ks σ n1 k).1, (renT (bnd kd) nm s' ks σ n1 k).2) := by rw [hkk, renT_all]; simp only [Tm.ren]; rw [← hs', ← hn1]
     exact fin (rs := [.cell 4 24]) (vs := [.agg #[_, _, _, _]]) h rfl (.agg (k0 := 0) tN24 rfl rfl rfl .nil) rfl l_H_H5 ⟨LE.rfl, h.st.drop 1⟩ (by rw [e]; exact ⟨vt_of (renT_length hk).symm hrs, rfl⟩)
end Go.Proofs.YtindlieilabgfaaGreatDoor
/- Walks: scope.Rename. -/
set_option linter.unusedVariables false
set_option linter.unusedSimpArgs false
set_option linter.unusedSectionVars false
set_option autoImplicit false
set_option relaxedAutoImplicit false
set_option maxRecDepth 10000
namespace Go.Proofs.YtindlieilabgfaaGreatDoor
open Go X
def noS : Bs → Option Bs := fun _ => none
theorem Rename_ok (t : Tm) (v : Value) (n : Int) (E : World) (H : GH) (L : List It) (hv : VT H v t) (hL : Laid H) (hn : In64 n) (hsz : t.size < 1000000000000) :
    Ok Tryz.prog 10 #[v, .int .i64 n] E H L fun r H' L' => ∃ v', r = .tuple #[v', .int .i64 (t.ren noS n).2] ∧ VT H' v' (t.ren noS n).1 ∧ L' = L := by
  have hv0 := hv
  obtain ⟨A, c, rfl, hks⟩ := hv
  have hv := hv0
  refine enter (N := 20) [(0, _), (1, _)] Tryz.func10 rfl rfl rfl rfl fun a w h => ?_
  refine sqr ?_
  refine bxA h fun g2 a w h => ?_
  refine al zr24 h fun g4 a w h => ?_
  refine as_ h fun a w h => ?_
  refine nsr ?_
  refine mk0 (enc := encS) h fun gt a w h => ?_
  refine mv h fun a w h => ?_
  refine bdl lay78 zr78 h fun a w h => ?_
  refine bxA h fun gr a w h => ?_
  refine as_ h fun a w h => ?_
  refine nsr ?_
  refine mv h fun a w h => ?_
  refine ldW 3 tN24 h fun a w h => ?_
  have h := h.pull 1 rfl rfl
  have h := h.pull 1 rfl rfl
  refine cl bod36 (ren_ok t hsz _ E H _ gr gt (fun _ => none) (fun _ => none) n hv hL (fun _ => rfl) hn) h fun r14 H14 L14 a w le14 R h => ?_
  obtain ⟨⟨A14, c14, rfl, hk14⟩, rfl⟩ := R
  have l_H_H14 : LE H H14 := le14
  refine al zr24 h fun g7 a w h => ?_
  refine sw0 tN24 h fun a w h => ?_
  refine nlt ?_
  refine sq ?_
  refine rgd [0, 1] [_, _] [1] [0, 4] 1 mix (by kernel_rfl) h (fun a w h => ?_)
  refine ldWD 0 tN24 h fun a w h => ?_
  refine mv h fun a w h => ?_
  refine nc h fun a w h => ?_
  refine fa fl78_1 (r := 1) h fun a w h => ?_
  refine ldD 1 t1_3 h fun a w h => ?_
  refine sw3 tN24 h fun a w h => ?_
  refine as_ h fun a w h => ?_
  refine nlt ?_
  refine ret_ ?_
  exact fin (rs := [.cell 4 24, .tmp 5]) (vs := [.agg #[_, _, _, _], .int .i64 _]) h rfl (.agg (k0 := 3) tN24 rfl rfl rfl (.tmp rfl .nil)) rfl le14 ⟨LE.rfl, h.st.drop 5⟩ ⟨_, rfl, ⟨A14, c14, rfl, hk14⟩, rfl⟩
end Go.Proofs.YtindlieilabgfaaGreatDoor
/- Walks: slices.Grow, Concat. -/
set_option linter.unusedVariables false
set_option linter.unusedSimpArgs false
set_option linter.unusedSectionVars false
set_option autoImplicit false
set_option relaxedAutoImplicit false
set_option maxRecDepth 10000
namespace Go.Proofs.YtindlieilabgfaaGreatDoor
open Go X
open Go.Proofs Go.RowKit Go.Shelf
theorem St.rowNil {E w : World} {H : GH} {L : List It} {e sz : Nat} (h : St E H L w) : St E H (.row (.slice none 0 0) e sz 0 [] :: L) w :=
  ⟨h.os, h.tape, h.output, h.fro, fun i hi => by
    cases hi with
    | head => exact World.ownsRow_nil _ _ _ _
    | tail _ hi => exact h.holds i hi, fun i hi g hg => by
    cases hi with
    | head => simp [It.own, Value.ownBlock] at hg
    | tail _ hi => exact h.off i hi g hg, List.pairwise_cons.2 ⟨fun i hi g hg => by simp [It.own, Value.ownBlock] at hg, h.apart⟩⟩
theorem grow_ok (n : Nat) (hn : n < 1000000000000) (E : World) (H : GH) (L : List It) : Ok Tryz.prog 66 #[.slice none 0 0, .int .i64 (n : Int)] E H L fun r H' L' => ∃ A c, r = .slice A 0 c ∧ H = H' ∧ L' = .row (.slice A 0 c) 72 3 0 [] :: L := fun w hw => by
  rcases Nat.eq_zero_or_pos n with rfl | hpos
  · exact (Any8.slices_Grow_room Tryz.grow66 none 0 0 0 w (by omega) (by omega) (by omega) (by omega)).mono fun e w' ⟨h, hw'⟩ => ⟨_, H, _, h, LE.rfl, by subst hw'; exact St.rowNil hw, none, 0, rfl, rfl, rfl⟩
  · obtain ⟨_, i, z, hi, hz, hs, hb, hzs, h0⟩ := row_of row25
    refine (Any8.slices_Grow_grow Tryz.grow66 i z hi hz (by rw [hs]; omega) none 0 0 n [] w (by omega) (by omega) (by rw [hb]; omega) (by omega) (by simp) (fun _ => rfl) (fun a h => by cases h)).mono fun e w' ⟨h, hw'⟩ => ?_
    have hge := grownCap_ge w (0 + n) 0 72
    have hle := grownCap_le_maxLen w (0 + n) 0 72 (by simp only [maxLen]; omega)
    refine ⟨_, H, _, h, LE.rfl, ?_, _, _, rfl, rfl, rfl⟩
    subst hw'
    have hd : St E H L w.drew := hw.drew _
    refine (hd.alloc _).set (k := 0) (i := .obj _ _) (j := .row (.slice (some ⟨w.heap.size, 0, none⟩) 0 (grownCap w (0 + n) 0 72)) 72 3 0 []) rfl ?_ (fun x hx => .inl (by simpa [It.own, Value.ownBlock] using hx)) rfl rfl rfl (fun _ _ _ => rfl)
    refine ⟨rfl, .inr ⟨w.heap.size, _, _, rfl, Nat.zero_le _, (hd.alloc _).holds _ (List.mem_cons_self ..), Nat.zero_le _, hle, ?_, by simp⟩⟩
    have e25 : Tryz.grow66_ren.t 25 = 72 := rfl
    simp only [Array.size_append, size_zeroCells, hzs, List.size_toArray, List.length_nil, e25]
    omega
/-- Slices of slices of declarations. -/
def RCS (H : GH) (cs : List Value) (ds : List Dc) : Prop := ∃ A c, cs = [.slice A ds.length c] ∧ CS H A c ds
theorem rdc_one {H : GH} {ds : List Dc} : ∀ cs y, y ∈ ds → RDc H cs y → ∀ u ∈ cs, u.oneCell' = true := by
  intro cs y _ h u hu
  unfold RDc at h; subst h
  simp at hu; rcases hu with rfl | rfl | rfl <;> rfl
def lenS (dss : List (List Dc)) : Nat := (dss.map List.length).sum
theorem lenS_flat : ∀ dss : List (List Dc), dss.flatten.length = lenS dss
  | [] => rfl
  | d :: l => by simp [lenS, lenS_flat l]
theorem lenS_take {dss : List (List Dc)} {k : Nat} (h : k < dss.length) : lenS (dss.take (k + 1)) = lenS (dss.take k) + dss[k].length := by
  unfold lenS; rw [List.take_succ_eq_append_getElem h, List.map_append, List.sum_append]; simp
theorem lenS_le (dss : List (List Dc)) (k : Nat) : lenS (dss.take k) ≤ lenS dss := by
  rw [← lenS_flat, ← lenS_flat]
  conv => rhs; rw [← List.take_append_drop k dss, List.flatten_append, List.length_append]
  omega
theorem flat_take2 {dss : List (List Dc)} {k : Nat} (h : k < dss.length) : (dss.take (k + 1)).flatten = (dss.take k).flatten ++ dss[k] := by
  rw [List.take_succ_eq_append_getElem h, List.flatten_append]; simp
theorem Concat_ok (dss : List (List Dc)) (v : Value) (E : World) (H : GH) (L : List It) (hss : RS RCS 1 H v dss) (hb : lenS dss < 1000000000000) (hb2 : dss.length < 1000000000000) :
    Ok Tryz.prog 41 #[v] E H L fun r H' L' => ∃ B cp xs, r = .slice B dss.flatten.length cp ∧ H = H' ∧ L' = .row (.slice B dss.flatten.length cp) 72 3 dss.flatten.length xs :: L ∧ RowR RDc 3 H xs dss.flatten := by
  obtain ⟨A, c, rfl, hsc⟩ := id hss
  refine enter (N := 36) [(0, _)] Tryz.func41 rfl rfl rfl rfl fun a w h => ?_
  refine sqr ?_
  refine as_ h fun a w h => ?_
  refine nsr ?_
  refine as_ h fun a w h => ?_
  refine nlt ?_
  refine sq ?_
  refine sqr ?_
  refine mv h fun a w h => ?_
  refine ln sli120 h fun a w h => ?_
  refine mv h fun a w h => ?_
  refine nlt ?_
  refine blk ?_
  refine lp (β := Nat) (fun k a w => (k ≤ dss.length) ∧ S E H 36 [] [(11, .int .i64 (k : Int)), (10, .int .i64 (dss.length : Int)), (9, .slice A dss.length c), (0, .slice A dss.length c), (3, .int .i64 ((lenS (dss.take k) : Nat) : Int))] (L) a w)
   (fun k => dss.length - k) 0 ⟨Nat.zero_le _, h.to 0 _⟩ ?_
  rintro k a w ⟨pre, h⟩
  refine sqr ?_
  refine lt h fun a w h => ?_
  refine nlt ?_
  refine sq ?_
  refine cdB h (fun c12 => ?_) (fun c12 => ?_)
  ·have c12 : k < dss.length := by simpa using c12
   obtain ⟨g, off, cs, rfl, hl, ⟨A2, c2, rfl, hds⟩, hcell⟩ := RS.at_ hss (List.getElem?_eq_getElem c12)
   have hts := lenS_take c12
   have hls := lenS_le dss (k + 1)
   refine skt ?_
   refine sq ?_
   refine blk ?_
   refine sqr ?_
   refine ia sli120 sz25 rfl c12 h fun a w h => ?_
   refine ldH t1_25 (hcell 0 _ rfl) h fun a w h => ?_
   refine as_ h fun a w h => ?_
   refine nsr ?_
   refine mv h fun a w h => ?_
   refine mv h fun a w h => ?_
   refine ln sli25 h fun a w h => ?_
   refine adr ((lenS (dss.take (k + 1)) : Nat) : Int) ?_ h fun a w h => ?_
   ·rw [w64 (by omega) (by omega)]; omega
   refine as_ h fun a w h => ?_
   refine nsr ?_
   refine mv h fun a w h => ?_
   refine lt h fun a w h => ?_
   refine nlt ?_
   refine cdB h (fun c20 => ?_) (fun c20 => ?_)
   ·exact absurd (of_decide_eq_true c20) (by omega)
   ·refine sk_ ?_
    refine ibN ?_
    refine thN ?_
    refine rg0 ?_
    refine inc ?_ h fun a w h => ?_
    ·omega
    refine mv h fun a w h => ?_
    refine nlt ?_
    exact ⟨(k + 1), ⟨by omega, h.to 0 _⟩, by show _ - (k + 1) < _ - k; omega⟩
  ·have hk : k = dss.length := by simp at c12; omega
   rw [hk, List.take_length] at h
   refine exit_ ?_
   refine thE ?_
   refine thE ?_
   refine ibH ?_
   refine thN ?_
   refine sqr ?_
   refine mv h fun a w h => ?_
   refine cl bod66 (grow_ok (lenS dss) hb E H _) h fun r24 H24 L24 a w le24 R h => ?_
   obtain ⟨A24, c24, rfl, rfl, rfl⟩ := R
   refine as_ h fun a w h => ?_
   refine nlt ?_
   refine sq ?_
   refine sqr ?_
   refine mv h fun a w h => ?_
   refine ln sli120 h fun a w h => ?_
   refine mv h fun a w h => ?_
   refine nlt ?_
   refine blk ?_
   refine lp (β := Nat × Option Addr × Nat × Nat × List Value) (fun x a w => match x with | (k, B, n, cp, xs) => (k ≤ dss.length ∧ n = lenS (dss.take k) ∧ RowR RDc 3 H xs (dss.take k).flatten) ∧ S E H 36 [] [(27, .int .i64 (k : Int)), (26, .int .i64 (dss.length : Int)), (25, .slice A dss.length c), (6, .slice B n cp)] (.row (.slice B n cp) 72 3 n xs :: L) a w)
    (fun x => match x with | (k, B, n, cp, xs) => dss.length - k) (0, A24, 0, c24, []) ⟨⟨Nat.zero_le _, rfl, RowR.nil⟩, h.to 0 _⟩ ?_
   rintro ⟨k, B, n, cp, xs⟩ a w ⟨pre, h⟩
   obtain ⟨hk, hn, hrow⟩ := pre
   refine sqr ?_
   refine lt h fun a w h => ?_
   refine nlt ?_
   refine sq ?_
   refine cdB h (fun c28 => ?_) (fun c28 => ?_)
   ·have c28 : k < dss.length := by simpa using c28
    obtain ⟨g, off, cs, rfl, hl, ⟨A2, c2, rfl, hds⟩, hcell⟩ := RS.at_ hss (List.getElem?_eq_getElem c28)
    have hts := lenS_take c28
    have hls := lenS_le dss (k + 1)
    refine skt ?_
    refine sq ?_
    refine blk ?_
    refine sqr ?_
    refine ia sli120 sz25 rfl c28 h fun a w h => ?_
    refine ldH t1_25 (hcell 0 _ rfl) h fun a w h => ?_
    refine as_ h fun a w h => ?_
    refine nlt ?_
    refine rg0 ?_
    refine mv h fun a w h => ?_
    refine mv h fun a w h => ?_
    refine aps 0 (L' := fun i => i :: _) row25 hds rdc_one h ?_ ?_ fun v33 news a w hone hnews h => ?_
    ·omega
    ·omega
    obtain ⟨B2, cp2, rfl⟩ := h.rowv 0
    have hr2 : RowR RDc 3 H (xs ++ news) (dss.take (k + 1)).flatten := by rw [flat_take2 c28]; exact hrow.app hnews
    refine as_ h fun a w h => ?_
    refine nl0 ?_
    refine ibN ?_
    refine thN ?_
    refine rg0 ?_
    refine inc ?_ h fun a w h => ?_
    ·omega
    refine mv h fun a w h => ?_
    refine nlt ?_
    exact ⟨(k + 1, B2, _, cp2, _), ⟨⟨by omega, by rw [lenS_take c28, ← hn], hr2⟩, h.to 0 _⟩, by show _ - (k + 1) < _ - k; omega⟩
   ·have hkk : k = dss.length := by simp at c28; omega
    rw [hkk, List.take_length] at hrow hn
    rw [← lenS_flat] at hn
    subst hn
    refine exit_ ?_
    refine thE ?_
    refine thE ?_
    refine ibH ?_
    refine thN ?_
    refine sqr ?_
    refine mv h fun a w h => ?_
    refine as_ h fun a w h => ?_
    refine nlt ?_
    refine ret_ ?_
    refine fin1 2 0 h LE.rfl ?_
    exact ⟨B, cp, xs, rfl, rfl, rfl, hrow⟩
end Go.Proofs.YtindlieilabgfaaGreatDoor
/- Walks: has, all, texts. -/
set_option linter.unusedVariables false
set_option linter.unusedSimpArgs false
set_option linter.unusedSectionVars false
set_option autoImplicit false
set_option relaxedAutoImplicit false
set_option maxRecDepth 10000
namespace Go.Proofs.YtindlieilabgfaaGreatDoor
open Go X
theorem upto {k j : Nat} (h : j < k + 1) : j < k ∨ j = k := by omega
end Go.Proofs.YtindlieilabgfaaGreatDoor
/- Laws of renaming, plainly. -/
set_option linter.unusedVariables false
set_option linter.unusedSectionVars false
set_option linter.unusedSimpArgs false
set_option autoImplicit false
set_option relaxedAutoImplicit false
namespace Go.Proofs.YtindlieilabgfaaGreatDoor
open Go X
/-- Does a text begin with a digit? -/
def numB : Bs → Bool
  | [] => false
  | c :: _ => decide (48 ≤ c.toNat) && decide (c.toNat ≤ 57)
/-- How a renaming and what is bound, here and there, go together. -/
def Rel (σ : Bs → Option Bs) (b b' : Bs → Nat) : Prop := ∀ s, numB s = false → (σ s = none → b s = 0 ∧ b' s = 0) ∧ (∀ s', σ s = some s' → 0 < b s ∧ 0 < b' s')
theorem Rel.bind {σ : Bs → Option Bs} {b b' : Bs → Nat} (h : Rel σ b b') {s s' : Bs} (hs' : numB s' = true) : Rel (updS σ s s') (inc1 b s) (inc1 b' s') := by
  intro r hr
  obtain ⟨h1, h2⟩ := h r hr
  unfold updS inc1
  by_cases e : r = s
  · subst e
    refine ⟨fun h0 => by simp at h0, fun q hq => ?_⟩
    simp at hq; subst hq; simp
  · rw [if_neg e]
    refine ⟨fun h0 => ?_, fun q hq => ?_⟩
    · have hne : r ≠ s' := fun q => by rw [q, hs'] at hr; cases hr
      rw [if_neg e, if_neg hne]; exact h1 h0
    · rw [if_neg e]; have := h2 q hq; split <;> omega
/-- How two renamings one behind the other go together. -/
def Rel2 (σ τ : Bs → Option Bs) : Prop := ∀ s, numB s = false → (σ s = none → τ s = none) ∧ (∀ s', σ s = some s' → τ s' = some s')
theorem Rel2.bind {σ τ : Bs → Option Bs} (h : Rel2 σ τ) {s s' : Bs} (hs' : numB s' = true) (hσ : ∀ r r', σ r = some r' → numB r' = true) : Rel2 (updS σ s s') (updS τ s' s') := by
  intro r hr
  obtain ⟨h1, h2⟩ := h r hr
  unfold updS
  by_cases e : r = s
  · subst e
    refine ⟨fun h0 => by simp at h0, fun q hq => ?_⟩
    simp at hq; subst hq; simp
  · rw [if_neg e]
    refine ⟨fun h0 => ?_, fun q hq => ?_⟩
    · have hne : r ≠ s' := fun q => by rw [q, hs'] at hr; cases hr
      rw [if_neg hne]; exact h1 h0
    · by_cases e2 : q = s'
      · rw [if_pos e2, e2]
      · rw [if_neg e2]; exact h2 q hq
end Go.Proofs.YtindlieilabgfaaGreatDoor
/- The names that a term binds, in their order. -/
set_option linter.unusedVariables false
set_option linter.unusedSectionVars false
set_option linter.unusedSimpArgs false
set_option autoImplicit false
set_option relaxedAutoImplicit false
namespace Go.Proofs.YtindlieilabgfaaGreatDoor
open Go X
mutual
def Tm.bs : Tm → List Bs
  | .mk k s _ ks => (if bnd k then [s] else []) ++ bsL ks
def bsL : List Tm → List Bs
  | [] => []
  | t :: l => t.bs ++ bsL l
end
end Go.Proofs.YtindlieilabgfaaGreatDoor
/- A name put in the place of another one, and renamed. -/
set_option linter.unusedVariables false
set_option linter.unusedSectionVars false
set_option linter.unusedSimpArgs false
set_option autoImplicit false
set_option relaxedAutoImplicit false
namespace Go.Proofs.YtindlieilabgfaaGreatDoor
open Go X
mutual
/-- Do the variables have no number and no kids? -/
def Tm.lv : Tm → Bool
  | .mk k _ n ks => (!(k == 2) || (n == 0 && ks.isEmpty)) && lvL ks
def lvL : List Tm → Bool
  | [] => true
  | t :: l => t.lv && lvL l
end
theorem lvL_of : ∀ {ks : List Tm}, (∀ t ∈ ks, t.lv = true) → lvL ks = true
  | [], _ => rfl
  | t :: l, h => by simp only [lvL, h t (List.mem_cons_self ..), lvL_of (ks := l) fun t ht => h t (List.mem_cons_of_mem _ ht)]; rfl
mutual
/-- A term, another one in the place of a name that is free in it. -/
def Tm.put : Tm → Bs → Tm → Tm
  | .mk k s n ks, x, u => if (k == 2) && decide (s = x) then u else .mk k s n (putL x u (bnd k && decide (s = x)) ks)
def putL (x : Bs) (u : Tm) (stop : Bool) : List Tm → List Tm
  | [] => []
  | t :: l => (if stop && l.isEmpty then t else t.put x u) :: putL x u stop l
end
def putT (x : Bs) (u : Tm) (stop : Bool) (ks : List Tm) : Nat → List Tm
  | 0 => []
  | k + 1 => match ks[k]? with
    | some t => putT x u stop ks k ++ [if stop && k + 1 == ks.length then t else t.put x u]
    | none => putT x u stop ks k
theorem putT_succ {x : Bs} {u : Tm} {stop : Bool} {ks : List Tm} {k : Nat} (h : k < ks.length) : putT x u stop ks (k + 1) = putT x u stop ks k ++ [if stop && k + 1 == ks.length then ks[k] else ks[k].put x u] := by
  simp only [putT, List.getElem?_eq_getElem h]
theorem putT_len {x : Bs} {u : Tm} {stop : Bool} {ks : List Tm} : ∀ {k : Nat}, k ≤ ks.length → (putT x u stop ks k).length = k
  | 0, _ => rfl
  | k + 1, h => by rw [putT_succ (by omega), List.length_append, putT_len (by omega)]; rfl
theorem putT_all (x : Bs) (u : Tm) (stop : Bool) (ks : List Tm) : putT x u stop ks ks.length = putL x u stop ks := by
  have key : ∀ (l p : List Tm), ks = p ++ l → putT x u stop ks ks.length = putT x u stop ks p.length ++ putL x u stop l := by
    intro l
    induction l with
    | nil => intro p e; simp [e, putL]
    | cons t l ih =>
      intro p e
      have hlt : p.length < ks.length := by simp [e]
      have hk : ks[p.length] = t := by simp [e]
      have hl : (p.length + 1 == ks.length) = l.isEmpty := by rw [e]; cases l <;> simp
      rw [ih (p ++ [t]) (by simp [e]), show (p ++ [t]).length = p.length + 1 by simp, putT_succ hlt, hk, hl]
      simp [putL]
  have := key ks [] rfl
  rw [this]; simp [putT]
theorem putL_empty (x : Bs) (u : Tm) (stop : Bool) (l : List Tm) : (putL x u stop l).isEmpty = l.isEmpty := by
  cases l <;> simp [putL]
mutual
theorem ren_congr : ∀ (t : Tm) (σ τ : Bs → Option Bs) (n : Int), (∀ r ∈ t.names, σ r = τ r) → t.ren σ n = t.ren τ n
  | .mk k s m ks, σ, τ, n, h => by
    have hN : renN k s σ n = renN k s τ n := by unfold renN; rw [h s (by simp [Tm.names])]
    simp only [Tm.ren]
    rw [hN, renL_congr (bnd k) s (renN k s τ n) ks σ τ _ (fun r hr => h r (by simp [Tm.names, hr]))]
theorem renL_congr (bd : Bool) (s s' : Bs) : ∀ (l : List Tm) (σ τ : Bs → Option Bs) (n : Int), (∀ r ∈ namesL l, σ r = τ r) → renL bd s s' l σ n = renL bd s s' l τ n
  | [], _, _, _, _ => rfl
  | t :: l, σ, τ, n, h => by
    have h1 : t.ren (if (bd && l.isEmpty) = true then updS σ s s' else σ) n = t.ren (if (bd && l.isEmpty) = true then updS τ s s' else τ) n := by
      split
      · exact ren_congr t _ _ n fun r hr => by unfold updS; split; rfl; exact h r (by simp [namesL, hr])
      · exact ren_congr t _ _ n fun r hr => h r (by simp [namesL, hr])
    simp only [renL]
    rw [h1, renL_congr bd s s' l σ τ _ (fun r hr => h r (by simp [namesL, hr]))]
end
/-- A fresh name does what another one did. -/
def Rel3 (x f : Bs) (σ τ : Bs → Option Bs) : Prop := (∀ r, r ≠ x → r ≠ f → τ r = σ r) ∧ τ f = σ x ∧ (σ x).isSome = true
theorem Rel3.bind {x f : Bs} {σ τ : Bs → Option Bs} (h : Rel3 x f σ τ) {s s' : Bs} (h1 : s ≠ x) (h2 : s ≠ f) : Rel3 x f (updS σ s s') (updS τ s s') := by
  refine ⟨fun r hx hf => ?_, ?_, ?_⟩
  · unfold updS; split
    · rfl
    · exact h.1 r hx hf
  · unfold updS; rw [if_neg (Ne.symm h2), if_neg (Ne.symm h1)]; exact h.2.1
  · unfold updS; rw [if_neg (Ne.symm h1)]; exact h.2.2
mutual
theorem put_ren (x f : Bs) : ∀ (t : Tm) (σ τ : Bs → Option Bs) (n : Int), t.lv = true → f ∉ t.names → Rel3 x f σ τ → (t.put x (.mk 2 f 0 [])).ren τ n = t.ren σ n
  | .mk k s m ks, σ, τ, n, hl, hf, hr => by
    have hfs : s ≠ f := fun e => hf (by simp [Tm.names, e])
    have hfk : f ∉ namesL ks := fun h => hf (by simp [Tm.names, h])
    simp only [Tm.lv, Bool.and_eq_true] at hl
    simp only [Tm.put]
    by_cases hc : ((k == 2) && decide (s = x)) = true
    · rw [if_pos hc]
      simp only [Bool.and_eq_true, decide_eq_true_eq] at hc
      obtain ⟨hk, hs⟩ := hc
      have h2 := hl.1
      rw [hk] at h2
      simp only [Bool.not_true, Bool.false_or, Bool.and_eq_true, List.isEmpty_iff] at h2
      have hm : m = 0 := eq_of_beq h2.1
      have hks : ks = [] := h2.2
      have hk2 : k = 2 := eq_of_beq hk
      subst hm; subst hks; subst hk2; subst hs
      obtain ⟨q, hq⟩ := Option.isSome_iff_exists.1 hr.2.2
      have hq2 : τ f = some q := hr.2.1.trans hq
      simp [Tm.ren, renL, renN, bnd, hq, hq2]
    · rw [if_neg hc]
      have hN : renN k s τ n = renN k s σ n := by
        unfold renN
        split
        · rfl
        · split
          · rename_i hk
            have hsx : s ≠ x := fun e => hc (by simp [hk, e])
            rw [hr.1 s hsx hfs]
          · rfl
      have key : ∀ n1, renL (bnd k) s (renN k s σ n) (putL x (.mk 2 f 0 []) (bnd k && decide (s = x)) ks) τ n1 = renL (bnd k) s (renN k s σ n) ks σ n1 := fun n1 =>
        putL_ren x f (bnd k) s (renN k s σ n) ks σ τ n1 hl.2 hfk hfs hr
      simp only [Tm.ren]
      rw [hN, key]
theorem putL_ren (x f : Bs) (bd : Bool) (s s' : Bs) : ∀ (l : List Tm) (σ τ : Bs → Option Bs) (n : Int), lvL l = true → f ∉ namesL l → s ≠ f → Rel3 x f σ τ → renL bd s s' (putL x (.mk 2 f 0 []) (bd && decide (s = x)) l) τ n = renL bd s s' l σ n
  | [], _, _, _, _, _, _, _ => rfl
  | t :: l, σ, τ, n, hl, hf, hs, hr => by
    have hft : f ∉ t.names := fun h => hf (by simp [namesL, h])
    have hfl : f ∉ namesL l := fun h => hf (by simp [namesL, h])
    simp only [lvL, Bool.and_eq_true] at hl
    have h1 : (if ((bd && decide (s = x)) && l.isEmpty) = true then t else t.put x (.mk 2 f 0 [])).ren (if (bd && l.isEmpty) = true then updS τ s s' else τ) n = t.ren (if (bd && l.isEmpty) = true then updS σ s s' else σ) n := by
      by_cases hb : (bd && l.isEmpty) = true
      · rw [if_pos hb, if_pos hb]
        simp only [Bool.and_eq_true] at hb
        by_cases hx : s = x
        · rw [if_pos (by simp [hb.1, hb.2, hx])]
          refine ren_congr t _ _ n fun r hrn => ?_
          unfold updS
          split
          · rfl
          · rename_i hrs
            exact hr.1 r (fun e => hrs (by rw [e, hx])) (fun e => hft (e ▸ hrn))
        · rw [if_neg (by simp [hx])]
          exact put_ren x f t _ _ n hl.1 hft (hr.bind hx hs)
      · rw [if_neg hb, if_neg hb, if_neg (fun h => hb (by simp only [Bool.and_eq_true] at h ⊢; exact ⟨h.1.1, h.2⟩))]
        exact put_ren x f t σ τ n hl.1 hft hr
    simp only [putL, renL, putL_empty]
    rw [h1, putL_ren x f bd s s' l σ τ _ hl.2 hfl hs hr]
end
/-- Two functions that differ in the name alone that they bind are renamed alike. -/
theorem alike {x f : Bs} {t : Tm} {n : Int} (hl : t.lv = true) (hf : f ∉ t.names) (hx : x ≠ f) : (Tm.mk 3 f 0 [t.put x (.mk 2 f 0 [])]).ren (fun _ => none) n = (Tm.mk 3 x 0 [t]).ren (fun _ => none) n := by
  have e : (t.put x (.mk 2 f 0 [])).ren (updS (fun _ => none) f (Lib.itoa n)) (nx n) = t.ren (updS (fun _ => none) x (Lib.itoa n)) (nx n) := by
    refine put_ren x f t _ _ _ hl hf ⟨fun r h1 h2 => ?_, ?_, ?_⟩
    · unfold updS; rw [if_neg h2, if_neg h1]
    · unfold updS; rw [if_pos rfl, if_pos rfl]
    · unfold updS; rw [if_pos rfl]; rfl
  simp only [Tm.ren, renL, renN, bnd, List.isEmpty_nil, Bool.and_true]
  simp only [show ((3 : Int) == 3) = true from rfl, Bool.true_or, if_true, e]
mutual
theorem put_size (x : Bs) (u : Tm) (hu : u.size = 1) : ∀ t : Tm, t.lv = true → (t.put x u).size = t.size
  | .mk k s n ks, hl => by
    simp only [Tm.lv, Bool.and_eq_true] at hl
    simp only [Tm.put]
    by_cases hc : ((k == 2) && decide (s = x)) = true
    · rw [if_pos hc]
      simp only [Bool.and_eq_true] at hc
      have h2 := hl.1
      rw [hc.1] at h2
      simp only [Bool.not_true, Bool.false_or, Bool.and_eq_true, List.isEmpty_iff] at h2
      rw [hu, h2.2]; simp [Tm.size, sizeL]
    · rw [if_neg hc]; simp only [Tm.size, putL_size x u hu _ ks hl.2]
theorem putL_size (x : Bs) (u : Tm) (hu : u.size = 1) (stop : Bool) : ∀ l : List Tm, lvL l = true → sizeL (putL x u stop l) = sizeL l
  | [], _ => rfl
  | t :: l, hl => by
    simp only [lvL, Bool.and_eq_true] at hl
    simp only [putL, sizeL, putL_size x u hu stop l hl.2]
    split
    · rfl
    · rw [put_size x u hu t hl.1]
end
end Go.Proofs.YtindlieilabgfaaGreatDoor
/- Walks: the Maker. -/
set_option linter.unusedVariables false
set_option linter.unusedSimpArgs false
set_option linter.unusedSectionVars false
set_option autoImplicit false
set_option relaxedAutoImplicit false
set_option maxRecDepth 10000
namespace Go.Proofs.YtindlieilabgfaaGreatDoor
open Go X
theorem u8_lt (b : UInt8) : b.toNat < 256 := b.toNat_lt
def names5 : List Bs := [[120], [121], [122], [99], [102, 49]]
def ops5 : List Bs := [[43], [45], [42], [60], [61]]
def mkKids : List Int := [0, 0, 0, 1, 2, 2, 3, 2, 1, 2, 1, 2, 2, 2]
def kn (k : Nat) : Nat := (mkKids.getD k 0).toNat
def mkN : List Bs := [] :: (names5 ++ ops5)
theorem kn_eq : ∀ {k : Nat} (h : k < mkKids.length), mkKids[k] = ((kn k : Nat) : Int) := by decide
theorem kn_le : ∀ k : Nat, k < 14 → kn k ≤ 3 ∧ (k ≤ 2 → kn k = 0) := by decide
theorem n5 : ∀ x ∈ names5, x ∈ mkN := by decide
theorem o5 : ∀ x ∈ ops5, x ∈ mkN := by decide
theorem m0 : ([] : Bs) ∈ mkN := by decide
/-- What is made: small, of known names. -/
def Mk (d : Nat) (t : Tm) : Prop := t.size ≤ 4 ^ (d + 1) ∧ (∀ x ∈ t.names, x ∈ mkN) ∧ t.lv = true
theorem mk_leaf {d : Nat} {k : Int} {s : Bs} {n : Int} (hs : s ∈ mkN) (hv : k = 2 → n = 0) : Mk d (.mk k s n []) :=
  ⟨by simp [Tm.size, sizeL]; exact Nat.pow_pos (by omega), fun x hx => by simp [Tm.names, namesL] at hx; exact hx ▸ hs, by
    simp only [Tm.lv, lvL, List.isEmpty_nil, Bool.and_true]
    by_cases h : k = 2
    · rw [hv h]; simp
    · simp [h]⟩
theorem sizeL_le {B : Nat} : ∀ {ks : List Tm}, (∀ t ∈ ks, t.size ≤ B) → sizeL ks ≤ ks.length * B
  | [], _ => by simp [sizeL]
  | t :: l, h => by
    have h1 := h t (List.mem_cons_self ..)
    have h2 := sizeL_le (B := B) (ks := l) fun t ht => h t (List.mem_cons_of_mem _ ht)
    simp only [sizeL, List.length_cons, Nat.succ_mul]; omega
theorem namesL_all {p : Bs → Prop} : ∀ {ks : List Tm}, (∀ t ∈ ks, ∀ x ∈ t.names, p x) → ∀ x ∈ namesL ks, p x
  | [], _, x, hx => by simp [namesL] at hx
  | t :: l, h, x, hx => by
    simp only [namesL, List.mem_append] at hx
    rcases hx with hx | hx
    · exact h t (List.mem_cons_self ..) x hx
    · exact namesL_all (ks := l) (fun t ht => h t (List.mem_cons_of_mem _ ht)) x hx
theorem mk_node {d : Nat} {k : Int} {s : Bs} {n : Int} {ks : List Tm} (hs : s ∈ mkN) (hl : ks.length ≤ 3) (hv : k = 2 → n = 0 ∧ ks = []) (h : ∀ t ∈ ks, Mk d t) : Mk (d + 1) (.mk k s n ks) := by
  refine ⟨?_, fun x hx => ?_, ?_⟩
  · have h1 := sizeL_le (B := 4 ^ (d + 1)) fun t ht => (h t ht).1
    have h2 : ks.length * 4 ^ (d + 1) ≤ 3 * 4 ^ (d + 1) := Nat.mul_le_mul_right _ hl
    have h3 : 0 < 4 ^ (d + 1) := Nat.pow_pos (by omega)
    have h4 : 4 ^ (d + 1 + 1) = 4 * 4 ^ (d + 1) := by rw [Nat.pow_succ]; omega
    simp only [Tm.size]; omega
  · simp only [Tm.names, List.mem_cons] at hx
    rcases hx with rfl | hx
    · exact hs
    · exact namesL_all (fun t ht => (h t ht).2.1) x hx
  · simp only [Tm.lv, lvL_of fun t ht => (h t ht).2.2, Bool.and_true]
    by_cases hk : k = 2
    · obtain ⟨h1, h2⟩ := hv hk
      rw [h1, h2]; simp
    · simp [hk]
theorem mk_end {d k kk : Nat} {kd : Int} {s : Bs} {n : Int} {ks : List Tm} (hs : s ∈ mkN) (h1 : ks.length = k) (h2 : k = kk) (h3 : kk ≤ 3) (h0 : 0 < kk → 0 < d) (hv : kd = 2 → n = 0) (hv2 : kd = 2 → kk = 0) (h : ∀ t ∈ ks, Mk (d - 1) t) : Mk d (.mk kd s n ks) := by
  rcases Nat.eq_zero_or_pos d with rfl | hd
  · have : ks = [] := List.eq_nil_of_length_eq_zero (by omega)
    subst this; exact mk_leaf hs hv
  · obtain ⟨e, rfl⟩ : ∃ e, d = e + 1 := ⟨d - 1, by omega⟩
    exact mk_node hs (by omega) (fun hk => ⟨hv hk, List.eq_nil_of_length_eq_zero (by have := hv2 hk; omega)⟩) h
theorem byte_ok (l : List UInt8) (A : Option Addr) (c gm at_ : Nat) (E : World) (H : GH) (L : List It) (hl : US H A c l) (hb : l.length < 1000000000000) (ha : at_ ≤ l.length) :
    Ok Tryz.prog 65 #[.pointer (some ⟨gm, 0, none⟩)] E H (.obj gm (.cells #[.slice A l.length c, .int .i64 (at_ : Int)] 85 (0, 0)) :: L) fun r H' L' => ∃ b at' : Nat, b < 256 ∧ at_ ≤ at' ∧ at' ≤ l.length ∧ r = .int .i64 (b : Int) ∧ H = H' ∧ L' = .obj gm (.cells #[.slice A l.length c, .int .i64 (at' : Int)] 85 (0, 0)) :: L := by
  refine enter (N := 32) [(0, _)] Tryz.func65 rfl rfl rfl rfl fun a w h => ?_
  refine sqr ?_
  refine as_ h fun a w h => ?_
  refine nlt ?_
  refine sq ?_
  refine sq ?_
  refine rgd [0] [_] [] [3, 7] 0 mix (by kernel_rfl) h (fun a w h => ?_)
  refine mv h fun a w h => ?_
  refine nc h fun a w h => ?_
  refine fa fl85_1 (r := 1) h fun a w h => ?_
  refine ldD 0 t1_3 h fun a w h => ?_
  refine mv h fun a w h => ?_
  refine nc h fun a w h => ?_
  refine fa fl85_0 (r := 0) h fun a w h => ?_
  refine ldD 0 t1_29 h fun a w h => ?_
  refine ln sli29 h fun a w h => ?_
  refine ge h fun a w h => ?_
  refine nlt ?_
  refine cdB h (fun c12 => ?_) (fun c12 => ?_)
  ·have d12 : l.length ≤ at_ := by first | (simpa using c12) | (simp at c12; omega)
   refine sqr ?_
   refine as_ h fun a w h => ?_
   refine nlt ?_
   refine ret_ ?_
   refine thR ?_
   refine fin1 2 0 h LE.rfl ?_
   exact ⟨0, at_, by omega, by omega, ha, rfl, rfl, rfl⟩
  ·have d12 : at_ < l.length := by first | (simpa using c12) | (simp at c12; omega)
   refine skt ?_
   refine sqr ?_
   refine mv h fun a w h => ?_
   refine nc h fun a w h => ?_
   refine fa fl85_1 (r := 1) h fun a w h => ?_
   refine ld 0 t1_3 h fun a w h => ?_
   refine inc ?_ h fun a w h => ?_
   ·omega
   refine nc h fun a w h => ?_
   refine fa fl85_1 (r := 1) h fun a w h => ?_
   refine st0 (l := [_, _]) t1_3 h fun a w h => ?_
   refine nlt ?_
   refine sq ?_
   refine rgd [0] [_] [] [3, 7, 10] 1 mix (by kernel_rfl) h (fun a w h => ?_)
   refine mv h fun a w h => ?_
   refine nc h fun a w h => ?_
   refine fa fl85_0 (r := 0) h fun a w h => ?_
   refine ldD 0 t1_29 h fun a w h => ?_
   refine mv h fun a w h => ?_
   refine nc h fun a w h => ?_
   refine fa fl85_1 (r := 1) h fun a w h => ?_
   refine ldD 0 t1_3 h fun a w h => ?_
   refine sbr (m := ((at_ + 1 : Nat) : Int)) (n := 1) (at_ : Int) (by rw [w64 (by omega) (by omega)]; omega) h fun a w h => ?_
   have hj29 : at_ < l.length := by first | assumption | omega | (simp; done) | (simp; omega)
   obtain ⟨g29, o29, e29, hc29⟩ := US.get hl hj29
   refine iaE sli29 sz5 rfl hj29 e29 h fun a w h => ?_
   refine ldHD t1_5 (hc29) h fun a w h => ?_
   refine cv ((l[at_].toNat : Int)) (by have := u8_lt l[at_]; exact w64 (by omega) (by omega)) it5 it3 h fun a w h => ?_
   refine as_ h fun a w h => ?_
   refine nlt ?_
   refine ret_ ?_
   refine fin1 2 0 h LE.rfl ?_
   exact ⟨l[at_].toNat, at_ + 1, u8_lt _, by omega, by omega, rfl, rfl, rfl⟩
theorem mk_ok (l : List UInt8) (A : Option Addr) (c gm : Nat) : ∀ (d : Nat) (depth : Int) (at_ : Nat) (E : World) (H : GH) (L : List It), -1 ≤ depth → depth ≤ d ∧ depth ≤ 100 → US H A c l → l.length < 1000000000000 → at_ ≤ l.length →
    Ok Tryz.prog 40 #[.pointer (some ⟨gm, 0, none⟩), .int .i64 depth] E H (.obj gm (.cells #[.slice A l.length c, .int .i64 (at_ : Int)] 85 (0, 0)) :: L) fun r H' L' => ∃ (t : Tm) (at' : Nat), Mk d t ∧ at_ ≤ at' ∧ at' ≤ l.length ∧ VT H' r t ∧ L' = .obj gm (.cells #[.slice A l.length c, .int .i64 (at' : Int)] 85 (0, 0)) :: L := by
  intro d
  induction d using Nat.strongRecOn with
  | _ d ih =>
  replace ih := fun depth' (hd : 0 < d) => ih (d - 1) (by omega) depth'
  intro depth at_ E H L hd0 hd1 hl hb ha
  refine enter (N := 82) [(0, _), (1, _)] Tryz.func40 rfl rfl rfl rfl fun a w h => ?_
  refine sqr ?_
  refine al zr24 h fun g4 a w h => ?_
  refine nsr ?_
  refine mv h fun a w h => ?_
  have h := h.pull 1 rfl rfl
  refine cl bod65 (byte_ok l A c gm at_ E H _ hl hb (by omega)) h (fun r10 H10 L10 a w le10 R h => ?_)
  obtain ⟨b10, at10, hb10, ha10, hz10, rfl, rfl, rfl⟩ := R
  refine rm b10 13 (by decide) h fun a w h => ?_
  refine adr (m := 1) (n := (((b10 % 13) : Nat) : Int)) (((1 + (b10 % 13)) : Nat) : Int) (by rw [w64 (by omega) (by omega)]; omega) h fun a w h => ?_
  refine as_ h fun a w h => ?_
  refine nlt ?_
  refine sq ?_
  refine sqc (fun a w => S E H 82 [] [(0, .pointer (some ⟨gm, 0, none⟩)), (1, .int .i64 depth), (4, .pointer (some ⟨g4, 0, none⟩)), (5, .int .i64 (((1 + (b10 % 13)) : Nat) : Int)), (26, .bool ((decide (depth ≤ 0)) || (decide (((l.length : Int) : Int) ≤ (at10 : Int)))))] (.obj gm (.cells #[.slice A l.length c, .int .i64 (at10 : Int)] 85 (0, 0)) :: .obj g4 (.cells #[.int .i64 0, str [], .int .i64 0, .slice none 0 0] 24 (0, 0)) :: L) a w) ?_ ?_
  ·refine rgd [0] [_] [] [6, 10] 0 mix (by kernel_rfl) h (fun a w h => ?_)
   refine mv h fun a w h => ?_
   refine le h fun a w h => ?_
   refine h.spl (fun c14 h => ?_) (fun c14 h => ?_)
   ·have d14 : depth ≤ 0 := by first | (simpa using c14) | (simp at c14; omega)
    refine mv h fun a w h => ?_
    refine sk h (k := fun a w h => ?_)
    refine sk h (k := fun a w h => ?_)
    refine sk h (k := fun a w h => ?_)
    refine sk h (k := fun a w h => ?_)
    refine sk h (k := fun a w h => ?_)
    refine sk h (k := fun a w h => ?_)
    refine sk h (k := fun a w h => ?_)
    refine sk h (k := fun a w h => ?_)
    refine sk h (k := fun a w h => ?_)
    refine sk h (k := fun a w h => ?_)
    refine pkT h fun a w h => ?_
    refine nlt ?_
    have h2 : S E H 82 [] [(0, .pointer (some ⟨gm, 0, none⟩)), (1, .int .i64 depth), (4, .pointer (some ⟨g4, 0, none⟩)), (5, .int .i64 (((1 + (b10 % 13)) : Nat) : Int)), (26, .bool ((decide (depth ≤ 0)) || (decide (((l.length : Int) : Int) ≤ (at10 : Int)))))] (.obj gm (.cells #[.slice A l.length c, .int .i64 (at10 : Int)] 85 (0, 0)) :: .obj g4 (.cells #[.int .i64 0, str [], .int .i64 0, .slice none 0 0] 24 (0, 0)) :: L) a w := by rw [show (.bool ((decide (depth ≤ 0)) || (decide (((l.length : Int) : Int) ≤ (at10 : Int)))) : Value) = .bool true from Eq.symm (by (try rw [c14]) <;> (try simp only [Bool.true_or, Bool.or_true, Bool.false_or, Bool.or_false, Bool.true_and, Bool.and_true, Bool.false_and, Bool.and_false, Bool.not_true, Bool.not_false, cond_true, cond_false]))]; exact h.to 0 _
    exact h2
   ·have d14 : 0 < depth := by first | (simpa using c14) | (simp at c14; omega)
    refine mv h fun a w h => ?_
    refine mv h fun a w h => ?_
    refine nc h fun a w h => ?_
    refine fa fl85_1 (r := 1) h fun a w h => ?_
    refine ldD 0 t1_3 h fun a w h => ?_
    refine mv h fun a w h => ?_
    refine nc h fun a w h => ?_
    refine fa fl85_0 (r := 0) h fun a w h => ?_
    refine ldD 0 t1_29 h fun a w h => ?_
    refine ln sli29 h fun a w h => ?_
    refine ge h fun a w h => ?_
    refine pkF h fun a w h => ?_
    refine nlt ?_
    have h2 : S E H 82 [] [(0, .pointer (some ⟨gm, 0, none⟩)), (1, .int .i64 depth), (4, .pointer (some ⟨g4, 0, none⟩)), (5, .int .i64 (((1 + (b10 % 13)) : Nat) : Int)), (26, .bool ((decide (depth ≤ 0)) || (decide (((l.length : Int) : Int) ≤ (at10 : Int)))))] (.obj gm (.cells #[.slice A l.length c, .int .i64 (at10 : Int)] 85 (0, 0)) :: .obj g4 (.cells #[.int .i64 0, str [], .int .i64 0, .slice none 0 0] 24 (0, 0)) :: L) a w := by rw [show (.bool ((decide (depth ≤ 0)) || (decide (((l.length : Int) : Int) ≤ (at10 : Int)))) : Value) = .bool (decide (((l.length : Int) : Int) ≤ (at10 : Int))) from Eq.symm (by (try rw [c14]) <;> (try simp only [Bool.true_or, Bool.or_true, Bool.false_or, Bool.or_false, Bool.true_and, Bool.and_true, Bool.false_and, Bool.and_false, Bool.not_true, Bool.not_false, cond_true, cond_false]))]; exact h.to 0 _
    exact h2
  ·rintro a w h
   refine thc (fun a w => ∃ (kd : Nat), (1 ≤ kd ∧ kd ≤ 13 ∧ (depth ≤ 0 → kd ≤ 2)) ∧ S E H 82 [] [(0, .pointer (some ⟨gm, 0, none⟩)), (1, .int .i64 depth), (4, .pointer (some ⟨g4, 0, none⟩)), (5, .int .i64 (kd : Int))] (.obj gm (.cells #[.slice A l.length c, .int .i64 (at10 : Int)] 85 (0, 0)) :: .obj g4 (.cells #[.int .i64 0, str [], .int .i64 0, .slice none 0 0] 24 (0, 0)) :: L) a w) ?_ ?_
   ·refine cdB h (fun c26 => ?_) (fun c26 => ?_)
    ·refine rg0 ?_
     refine mv h fun a w h => ?_
     refine rm (1 + (b10 % 13)) 2 (by decide) h fun a w h => ?_
     refine adr (m := 1) (n := ((((1 + (b10 % 13)) % 2) : Nat) : Int)) (((1 + ((1 + (b10 % 13)) % 2)) : Nat) : Int) (by rw [w64 (by omega) (by omega)]; omega) h fun a w h => ?_
     refine as_ h fun a w h => ?_
     refine nlt ?_
     have h2 : S E H 82 [] [(0, .pointer (some ⟨gm, 0, none⟩)), (1, .int .i64 depth), (4, .pointer (some ⟨g4, 0, none⟩)), (5, .int .i64 (((1 + ((1 + (b10 % 13)) % 2)) : Nat) : Int))] (.obj gm (.cells #[.slice A l.length c, .int .i64 (at10 : Int)] 85 (0, 0)) :: .obj g4 (.cells #[.int .i64 0, str [], .int .i64 0, .slice none 0 0] 24 (0, 0)) :: L) a w := h.to 0 _
     exact ⟨(1 + ((1 + (b10 % 13)) % 2)), by (try simp at c26); omega, h2⟩
    ·refine skt ?_
     have h2 : S E H 82 [] [(0, .pointer (some ⟨gm, 0, none⟩)), (1, .int .i64 depth), (4, .pointer (some ⟨g4, 0, none⟩)), (5, .int .i64 (((1 + (b10 % 13)) : Nat) : Int))] (.obj gm (.cells #[.slice A l.length c, .int .i64 (at10 : Int)] 85 (0, 0)) :: .obj g4 (.cells #[.int .i64 0, str [], .int .i64 0, .slice none 0 0] 24 (0, 0)) :: L) a w := h.to 0 _
     exact ⟨(1 + (b10 % 13)), by (try simp at c26); omega, h2⟩
   ·rintro a w ⟨kd, hkd, h⟩
    refine sqr ?_
    refine mv h fun a w h => ?_
    refine bdl lay24 zr24 h fun a w h => ?_
    refine al zr24 h fun g6 a w h => ?_
    refine sw0 tN24 h fun a w h => ?_
    refine nsr ?_
    refine bsl bs58 h fun g32 a w h => ?_
    refine mv h fun a w h => ?_
    have h := h.pull 2 rfl rfl
    refine cl bod65 (byte_ok l A c gm at10 E H _ hl hb (by omega)) h (fun r34 H34 L34 a w le34 R h => ?_)
    obtain ⟨b34, at34, hb34, ha34, hz34, rfl, rfl, rfl⟩ := R
    refine rm b34 5 (by decide) h fun a w h => ?_
    obtain ⟨Hq36, leHq36, h, hsHq36⟩ := h.fsl (R := RStr) (sz := 1) (ys := names5) 1 (rstr_row names5) (fun _ _ _ _ _ hr => hr)
    have hj36 : (b34 % 5) < names5.length := by show _ < 5; omega
    obtain ⟨g36, o36, e36, hc36⟩ := SS.get hsHq36 hj36
    refine iaE sli58 sz9 rfl hj36 e36 h fun a w h => ?_
    refine ldH t1_9 (hc36) h fun a w h => ?_
    refine as_ h fun a w h => ?_
    refine nlt ?_
    refine sqc (fun a w => ∃ (nm : Bs) (nn : Int) (at2 : Nat), (nm ∈ mkN) ∧ ((kd : Int) = 2 → nn = 0) ∧ (at_ ≤ at2 ∧ at2 ≤ l.length) ∧ S E Hq36 82 [] [(0, .pointer (some ⟨gm, 0, none⟩)), (1, .int .i64 depth), (4, .pointer (some ⟨g4, 0, none⟩)), (5, .int .i64 (kd : Int)), (6, .pointer (some ⟨g6, 0, none⟩))] (.obj gm (.cells #[.slice A l.length c, .int .i64 (at2 : Int)] 85 (0, 0)) :: .obj g6 (.cells #[.int .i64 (kd : Int), str nm, .int .i64 nn, .slice none 0 0] 24 (0, 0)) :: .obj g4 (.cells #[.int .i64 0, str [], .int .i64 0, .slice none 0 0] 24 (0, 0)) :: L) a w) ?_ ?_
    ·refine blk ?_
     refine sqr ?_
     refine mv h fun a w h => ?_
     refine eqi h fun a w h => ?_
     refine as_ h fun a w h => ?_
     refine nlt ?_
     refine cdB h (fun c38 => ?_) (fun c38 => ?_)
     ·have d38 : kd = 1 := by first | (simpa using c38) | (simp at c38; omega)
      refine rg0 ?_
      refine mv h fun a w h => ?_
      refine cl bod65 (byte_ok l A c gm at34 E Hq36 _ (hl.up leHq36) hb (by omega)) h (fun r42 H42 L42 a w le42 R h => ?_)
      obtain ⟨b42, at42, hb42, ha42, hz42, rfl, rfl, rfl⟩ := R
      refine ml (IntKind.i64.wrap ((b42 : Int) * 8421504)) rfl h fun a w h => ?_
      refine fa fl24_2 (r := 2) h fun a w h => ?_
      refine st1 (l := [_, _, _, _]) t1_2 h fun a w h => ?_
      refine nl0 ?_
      refine ibN ?_
      refine thN ?_
      have h2 : S E Hq36 82 [] [(0, .pointer (some ⟨gm, 0, none⟩)), (1, .int .i64 depth), (4, .pointer (some ⟨g4, 0, none⟩)), (5, .int .i64 (kd : Int)), (6, .pointer (some ⟨g6, 0, none⟩))] (.obj gm (.cells #[.slice A l.length c, .int .i64 (at42 : Int)] 85 (0, 0)) :: .obj g6 (.cells #[.int .i64 (kd : Int), str [], .int .i64 (IntKind.i64.wrap ((b42 : Int) * 8421504)), .slice none 0 0] 24 (0, 0)) :: .obj g4 (.cells #[.int .i64 0, str [], .int .i64 0, .slice none 0 0] 24 (0, 0)) :: L) a w := h.to 0 _
      exact ⟨[], (IntKind.i64.wrap ((b42 : Int) * 8421504)), at42, (by first | exact m0 | exact n5 _ (List.getElem_mem _) | exact o5 _ (List.getElem_mem _)), (by first | exact fun _ => rfl | (intro h2; exfalso; omega)), by omega, h2⟩
     ·have d38 : kd ≠ 1 := by first | (simpa using c38) | (simp at c38; omega)
      refine sqr ?_
      refine mv h fun a w h => ?_
      refine eqi h fun a w h => ?_
      refine as_ h fun a w h => ?_
      refine nlt ?_
      refine cdB h (fun c45 => ?_) (fun c45 => ?_)
      ·have d45 : kd = 12 := by first | (simpa using c45) | (simp at c45; omega)
       refine rg0 ?_
       refine bsl bs58 h fun g48 a w h => ?_
       refine mv h fun a w h => ?_
       have h := h.pull 1 rfl rfl
       refine cl bod65 (byte_ok l A c gm at34 E Hq36 _ (hl.up leHq36) hb (by omega)) h (fun r50 H50 L50 a w le50 R h => ?_)
       obtain ⟨b50, at50, hb50, ha50, hz50, rfl, rfl, rfl⟩ := R
       refine rm b50 5 (by decide) h fun a w h => ?_
       obtain ⟨Hq52, leHq52, h, hsHq52⟩ := h.fsl (R := RStr) (sz := 1) (ys := ops5) 1 (rstr_row ops5) (fun _ _ _ _ _ hr => hr)
       have hj52 : (b50 % 5) < ops5.length := by show _ < 5; omega
       obtain ⟨g52, o52, e52, hc52⟩ := SS.get hsHq52 hj52
       refine iaE sli58 sz9 rfl hj52 e52 h fun a w h => ?_
       refine ldH t1_9 (hc52) h fun a w h => ?_
       refine fa fl24_1 (r := 1) h fun a w h => ?_
       refine st1 (l := [_, _, _, _]) t1_9 h fun a w h => ?_
       refine nl0 ?_
       refine ibN ?_
       refine thN ?_
       have h := h.less leHq52
       have h2 : S E Hq36 82 [] [(0, .pointer (some ⟨gm, 0, none⟩)), (1, .int .i64 depth), (4, .pointer (some ⟨g4, 0, none⟩)), (5, .int .i64 (kd : Int)), (6, .pointer (some ⟨g6, 0, none⟩))] (.obj gm (.cells #[.slice A l.length c, .int .i64 (at50 : Int)] 85 (0, 0)) :: .obj g6 (.cells #[.int .i64 (kd : Int), str (ops5[(b50 % 5)]), .int .i64 0, .slice none 0 0] 24 (0, 0)) :: .obj g4 (.cells #[.int .i64 0, str [], .int .i64 0, .slice none 0 0] 24 (0, 0)) :: L) a w := h.to 0 _
       exact ⟨ops5[(b50 % 5)], 0, at50, (by first | exact m0 | exact n5 _ (List.getElem_mem _) | exact o5 _ (List.getElem_mem _)), (by first | exact fun _ => rfl | (intro h2; exfalso; omega)), by omega, h2⟩
      ·have d45 : kd ≠ 12 := by first | (simpa using c45) | (simp at c45; omega)
       refine sqc (fun a w => S E Hq36 82 [] [(0, .pointer (some ⟨gm, 0, none⟩)), (1, .int .i64 depth), (4, .pointer (some ⟨g4, 0, none⟩)), (5, .int .i64 (kd : Int)), (6, .pointer (some ⟨g6, 0, none⟩)), (7, str (names5[(b34 % 5)])), (55, .bool ((((kd : Int) : Int) == 2) || (bnd (kd : Int))))] (.obj gm (.cells #[.slice A l.length c, .int .i64 (at34 : Int)] 85 (0, 0)) :: .obj g6 (.cells #[.int .i64 (kd : Int), str [], .int .i64 0, .slice none 0 0] 24 (0, 0)) :: .obj g4 (.cells #[.int .i64 0, str [], .int .i64 0, .slice none 0 0] 24 (0, 0)) :: L) a w) ?_ ?_
       ·refine rg0 ?_
        refine mv h fun a w h => ?_
        refine eqi h fun a w h => ?_
        refine h.spl (fun c57 h => ?_) (fun c57 h => ?_)
        ·have d57 : kd = 2 := by first | (simpa using c57) | (simp at c57; omega)
         refine mv h fun a w h => ?_
         refine sk h (k := fun a w h => ?_)
         refine sk h (k := fun a w h => ?_)
         refine pkT h fun a w h => ?_
         refine as_ h fun a w h => ?_
         refine nlt ?_
         have h2 : S E Hq36 82 [] [(0, .pointer (some ⟨gm, 0, none⟩)), (1, .int .i64 depth), (4, .pointer (some ⟨g4, 0, none⟩)), (5, .int .i64 (kd : Int)), (6, .pointer (some ⟨g6, 0, none⟩)), (7, str (names5[(b34 % 5)])), (55, .bool ((((kd : Int) : Int) == 2) || (bnd (kd : Int))))] (.obj gm (.cells #[.slice A l.length c, .int .i64 (at34 : Int)] 85 (0, 0)) :: .obj g6 (.cells #[.int .i64 (kd : Int), str [], .int .i64 0, .slice none 0 0] 24 (0, 0)) :: .obj g4 (.cells #[.int .i64 0, str [], .int .i64 0, .slice none 0 0] 24 (0, 0)) :: L) a w := by rw [show (.bool ((((kd : Int) : Int) == 2) || (bnd (kd : Int))) : Value) = .bool true from Eq.symm (by (try rw [c57]) <;> (try simp only [Bool.true_or, Bool.or_true, Bool.false_or, Bool.or_false, Bool.true_and, Bool.and_true, Bool.false_and, Bool.and_false, Bool.not_true, Bool.not_false, cond_true, cond_false]))]; exact h.to 0 _
         exact h2
        ·have d57 : kd ≠ 2 := by first | (simpa using c57) | (simp at c57; omega)
         refine mv h fun a w h => ?_
         refine ldW 1 tN24 h fun a w h => ?_
         refine cl bod38 (Binder_ok _ _ _ _ _ _ _) h (fun r60 H60 L60 a w le60 R h => ?_)
         obtain ⟨rfl, rfl, rfl⟩ := R
         refine pkF h fun a w h => ?_
         refine as_ h fun a w h => ?_
         refine nlt ?_
         have h2 : S E Hq36 82 [] [(0, .pointer (some ⟨gm, 0, none⟩)), (1, .int .i64 depth), (4, .pointer (some ⟨g4, 0, none⟩)), (5, .int .i64 (kd : Int)), (6, .pointer (some ⟨g6, 0, none⟩)), (7, str (names5[(b34 % 5)])), (55, .bool ((((kd : Int) : Int) == 2) || (bnd (kd : Int))))] (.obj gm (.cells #[.slice A l.length c, .int .i64 (at34 : Int)] 85 (0, 0)) :: .obj g6 (.cells #[.int .i64 (kd : Int), str [], .int .i64 0, .slice none 0 0] 24 (0, 0)) :: .obj g4 (.cells #[.int .i64 0, str [], .int .i64 0, .slice none 0 0] 24 (0, 0)) :: L) a w := by rw [show (.bool ((((kd : Int) : Int) == 2) || (bnd (kd : Int))) : Value) = .bool (bnd (kd : Int)) from Eq.symm (by (try rw [c57]) <;> (try simp only [Bool.true_or, Bool.or_true, Bool.false_or, Bool.or_false, Bool.true_and, Bool.and_true, Bool.false_and, Bool.and_false, Bool.not_true, Bool.not_false, cond_true, cond_false]))]; exact h.to 0 _
         exact h2
       ·rintro a w h
        refine cdB h (fun c55 => ?_) (fun c55 => ?_)
        ·refine rg0 ?_
         refine mv h fun a w h => ?_
         refine fa fl24_1 (r := 1) h fun a w h => ?_
         refine st1 (l := [_, _, _, _]) t1_9 h fun a w h => ?_
         refine nl0 ?_
         refine ibN ?_
         refine thN ?_
         have h2 : S E Hq36 82 [] [(0, .pointer (some ⟨gm, 0, none⟩)), (1, .int .i64 depth), (4, .pointer (some ⟨g4, 0, none⟩)), (5, .int .i64 (kd : Int)), (6, .pointer (some ⟨g6, 0, none⟩))] (.obj gm (.cells #[.slice A l.length c, .int .i64 (at34 : Int)] 85 (0, 0)) :: .obj g6 (.cells #[.int .i64 (kd : Int), str (names5[(b34 % 5)]), .int .i64 0, .slice none 0 0] 24 (0, 0)) :: .obj g4 (.cells #[.int .i64 0, str [], .int .i64 0, .slice none 0 0] 24 (0, 0)) :: L) a w := h.to 0 _
         exact ⟨names5[(b34 % 5)], 0, at34, (by first | exact m0 | exact n5 _ (List.getElem_mem _) | exact o5 _ (List.getElem_mem _)), (by first | exact fun _ => rfl | (intro h2; exfalso; omega)), by omega, h2⟩
        ·refine sk_ ?_
         refine ibN ?_
         refine thN ?_
         have h2 : S E Hq36 82 [] [(0, .pointer (some ⟨gm, 0, none⟩)), (1, .int .i64 depth), (4, .pointer (some ⟨g4, 0, none⟩)), (5, .int .i64 (kd : Int)), (6, .pointer (some ⟨g6, 0, none⟩))] (.obj gm (.cells #[.slice A l.length c, .int .i64 (at34 : Int)] 85 (0, 0)) :: .obj g6 (.cells #[.int .i64 (kd : Int), str [], .int .i64 0, .slice none 0 0] 24 (0, 0)) :: .obj g4 (.cells #[.int .i64 0, str [], .int .i64 0, .slice none 0 0] 24 (0, 0)) :: L) a w := h.to 0 _
         exact ⟨[], 0, at34, (by first | exact m0 | exact n5 _ (List.getElem_mem _) | exact o5 _ (List.getElem_mem _)), (by first | exact fun _ => rfl | (intro h2; exfalso; omega)), by omega, h2⟩
    ·rintro a w ⟨nm, nn, at2, hnm, hnn, hat2, h⟩
     refine sq ?_
     refine sqr ?_
     refine as_ h fun a w h => ?_
     refine nlt ?_
     refine blk ?_
     have h := h.row (e := 24) (sz := 4)
     have h2 : S E Hq36 82 [] [(0, .pointer (some ⟨gm, 0, none⟩)), (1, .int .i64 depth), (4, .pointer (some ⟨g4, 0, none⟩)), (5, .int .i64 (kd : Int)), (6, .pointer (some ⟨g6, 0, none⟩)), (8, .int .i64 (0 : Int))] (.row (.slice none ([] : List Tm).length 0) 24 4 ([] : List Tm).length [] :: .obj gm (.cells #[.slice A l.length c, .int .i64 (at2 : Int)] 85 (0, 0)) :: .obj g6 (.cells #[.int .i64 (kd : Int), str nm, .int .i64 nn, .slice none ([] : List Tm).length 0] 24 (0, 0)) :: .obj g4 (.cells #[.int .i64 0, str [], .int .i64 0, .slice none 0 0] 24 (0, 0)) :: L) a w := h.to 0 _
     refine lp (β := Nat × GH × (Option Addr) × Nat × (List Value) × (List Tm) × Nat) (fun x a w => match x with | (k, HL1, Brk, prk, xrk, ks, at3) => ((k ≤ (kn kd)) ∧ (LE Hq36 HL1) ∧ (RowR RT 4 HL1 xrk ks) ∧ (ks.length = k ∧ at_ ≤ at3 ∧ at3 ≤ l.length ∧ ∀ t ∈ ks, Mk (d - 1) t)) ∧ S E HL1 82 [] [(0, .pointer (some ⟨gm, 0, none⟩)), (1, .int .i64 depth), (4, .pointer (some ⟨g4, 0, none⟩)), (5, .int .i64 (kd : Int)), (6, .pointer (some ⟨g6, 0, none⟩)), (8, .int .i64 (k : Int))] (.row (.slice Brk ks.length prk) 24 4 ks.length xrk :: .obj gm (.cells #[.slice A l.length c, .int .i64 (at3 : Int)] 85 (0, 0)) :: .obj g6 (.cells #[.int .i64 (kd : Int), str nm, .int .i64 nn, .slice Brk ks.length prk] 24 (0, 0)) :: .obj g4 (.cells #[.int .i64 0, str [], .int .i64 0, .slice none 0 0] 24 (0, 0)) :: L) a w)
      (fun x => match x with | (k, HL1, Brk, prk, xrk, ks, at3) => (kn kd) - k) (0, Hq36, none, 0, [], ([] : List Tm), at2) ⟨⟨Nat.zero_le _, LE.rfl, (RowR.nil : RowR RT 4 Hq36 [] ([] : List Tm)), ⟨rfl, by omega, by omega, fun _ h => absurd h List.not_mem_nil⟩⟩, h2⟩ ?_
     rintro ⟨k, HL1, Brk, prk, xrk, ks, at3⟩ a w ⟨⟨hk, leHL1, hrrk, hi⟩, h⟩
     obtain ⟨hi1, hi2, hi3, hi4⟩ := id hi
     refine sq ?_
     refine sqr ?_
     refine mv h fun a w h => ?_
     refine bsl bs119 h fun g65 a w h => ?_
     refine mv h fun a w h => ?_
     obtain ⟨Hq67, leHq67, h, hsHq67⟩ := h.fsl (R := RInt) (sz := 1) (ys := mkKids) 0 (rint_row mkKids) (fun _ _ _ _ _ hr => hr)
     have hj67 : kd < mkKids.length := by show _ < 14; omega
     obtain ⟨g67, o67, e67, hc67⟩ := IS.get hsHq67 hj67
     refine iaE sli119 sz3 rfl hj67 e67 h fun a w h => ?_
     refine ldH t1_3 (hc67) h fun a w h => ?_
     rw [kn_eq hj67] at h
     refine lt h fun a w h => ?_
     refine nlt ?_
     refine cdB h (fun c69 => ?_) (fun c69 => ?_)
     ·have d69 : k < (kn kd) := by first | (simpa using c69) | (simp at c69; omega)
      refine skt ?_
      refine sq ?_
      refine blk ?_
      refine rgd [2] [_] [4, 3, 2, 0] [1] 3 mix (by kernel_rfl) h (fun a w h => ?_)
      refine fa fl24_3 (r := 3) h fun a w h => ?_
      refine ldD 0 t1_22 h fun a w h => ?_
      refine mv h fun a w h => ?_
      refine mv h fun a w h => ?_
      refine sbr (depth - 1) (w64 (by omega) (by omega)) h fun a w h => ?_
      have hkn := kn_le kd (by omega)
      have h := h.pull 1 rfl rfl
      have l_H_Hq67 : LE H Hq67 := (leHq36.trans leHL1).trans leHq67
      refine cl bod40 (ih (depth - 1) (by omega) at3 E Hq67 _ (by omega) (by omega) (hl.up l_H_Hq67) hb (by omega)) h (fun r77 H77 L77 a w le77 R h => ?_) (hS := fun _ _ _ _ _ le R hw => by obtain ⟨_, _, _, _, _, _, rfl⟩ := R; exact hw.sees' (by first | exact le | exact LE.trans (by assumption) le) (by simp))
      obtain ⟨t77, at77, hmk77, ha77, hz77, ⟨A77, c77, rfl, hk77⟩, rfl⟩ := R
      refine bsl bs22 h fun g78 a w h => ?_
      refine apn (n := ks.length) (m := 1) 2 0 (L' := fun i => _ :: _ :: i :: _) [_, _, _, _] ((ks ++ [t77]).length) (by first | (simp; done) | (simp; omega)) row22 h (by first | omega | (simp; done) | (simp; omega) | (simp; omega)) (by first | omega | (simp; done) | (simp; omega) | (simp; omega)) fun v79 a w hone79 h => ?_
      obtain ⟨B79, cp79, rfl⟩ := h.rowv 2
      have l_HL1_H77 : LE HL1 H77 := leHq67.trans le77
      have hr79 : RowR RT 4 H77 (xrk ++ [.int .i64 t77.kind, str t77.name, .int .i64 t77.n, .slice A77 t77.kids.length c77]) (ks ++ [t77]) := (hrrk.mono fun cs y _ hr => RT.mono l_HL1_H77 y hr).snoc rfl (rt_of_vt (cs := [_, _, _, _]) ⟨_, _, rfl, hk77⟩)
      refine fa fl24_3 (r := 3) h fun a w h => ?_
      refine st3 (l := [_, _, _, _]) t1_22 h fun a w h => ?_
      refine nl0 ?_
      refine ibN ?_
      refine thN ?_
      refine rg0 ?_
      refine mv h fun a w h => ?_
      refine inc ?_ h fun a w h => ?_
      ·omega
      refine as_ h fun a w h => ?_
      refine nlt ?_
      have h := h.del 0
      have h := h.pull 3 rfl rfl
      have h := h.pull 3 rfl rfl
      have h := h.pull 2 rfl rfl
      have h := h.pull 3 rfl rfl
      have h2 : S E H77 82 [] [(0, .pointer (some ⟨gm, 0, none⟩)), (1, .int .i64 depth), (4, .pointer (some ⟨g4, 0, none⟩)), (5, .int .i64 (kd : Int)), (6, .pointer (some ⟨g6, 0, none⟩)), (8, .int .i64 ((k + 1) : Int))] (.row (.slice B79 (ks ++ [t77]).length cp79) 24 4 (ks ++ [t77]).length (xrk ++ [.int .i64 t77.kind, str t77.name, .int .i64 t77.n, .slice A77 t77.kids.length c77]) :: .obj gm (.cells #[.slice A l.length c, .int .i64 (at77 : Int)] 85 (0, 0)) :: .obj g6 (.cells #[.int .i64 (kd : Int), str nm, .int .i64 nn, .slice B79 (ks ++ [t77]).length cp79] 24 (0, 0)) :: .obj g4 (.cells #[.int .i64 0, str [], .int .i64 0, .slice none 0 0] 24 (0, 0)) :: L) a w := h.to 0 _
      have l_Hq36_H77 : LE Hq36 H77 := (leHL1.trans leHq67).trans le77
      exact ⟨((k + 1), H77, B79, cp79, (xrk ++ [.int .i64 t77.kind, str t77.name, .int .i64 t77.n, .slice A77 t77.kids.length c77]), (ks ++ [t77]), at77), ⟨⟨by omega, l_Hq36_H77, hr79, ⟨by simp; omega, by omega, by omega, fun t ht => by simp only [List.mem_append, List.mem_singleton] at ht; rcases ht with ht | rfl; exact hi.2.2.2 t ht; exact hmk77⟩⟩, h2⟩, by show _ - (k + 1) < _ - k; omega⟩
     ·have d69 : (kn kd) ≤ k := by first | (simpa using c69) | (simp at c69; omega)
      refine exit_ ?_
      refine thE ?_
      refine thE ?_
      refine ibH ?_
      refine thN ?_
      refine sqr ?_
      refine ldW 2 tN24 h fun a w h => ?_
      refine sw3 tN24 h fun a w h => ?_
      refine nlt ?_
      refine ret_ ?_
      have h := h.pull 1 rfl rfl
      have h := h.pull 3 rfl rfl
      have h := h.pull 3 rfl rfl
      have h := h.pull 3 rfl rfl
      obtain ⟨Hrrk, leHrrk, h, hsHrrk⟩ := h.frw 0 (hrrk.mono fun cs y _ hr => RT.mono leHq67 y hr) rfl (fun _ l cs y _ hr => RT.mono l y hr)
      obtain ⟨hi1, hi2, hi3, hi4⟩ := id hi
      have hkk : k = kn kd := by omega
      have hkn := kn_le kd (by omega)
      have l_H_Hrrk : LE H Hrrk := ((leHq36.trans leHL1).trans leHq67).trans leHrrk
      exact fin (rs := [.cell 4 24]) (vs := [.agg #[_, _, _, _]]) h rfl (.agg (k0 := 1) tN24 rfl rfl rfl .nil) rfl l_H_Hrrk ⟨LE.rfl, h.st.drop 2⟩ ⟨.mk (kd : Int) nm nn ks, at3, mk_end hnm hi1 hkk hkn.1 (fun h0 => by omega) hnn (fun h2 => hkn.2 (by omega)) hi4, by omega, by omega, ⟨_, _, rfl, hsHrrk⟩, rfl⟩
theorem made_ok (l : List UInt8) (A : Option Addr) (c : Nat) (E : World) (H : GH) (L : List It) (hl : US H A c l) (hb : l.length < 1000000000000) : Ok Tryz.prog 21 #[.slice A l.length c] E H L fun r H' L' => ∃ t, Mk 6 t ∧ VT H' r t ∧ L = L' := by
  refine enter (N := 13) [(0, _)] Tryz.func21 rfl rfl rfl rfl fun a w h => ?_
  refine sqr ?_
  refine al zr24 h fun g2 a w h => ?_
  refine nsr ?_
  refine mv h fun a w h => ?_
  refine mv h fun a w h => ?_
  refine ln sli29 h fun a w h => ?_
  refine mn (m := (l.length : Int)) (n := 60) (((min l.length 60) : Nat) : Int) (by split <;> omega) h fun a w h => ?_
  have hb8 : (min l.length 60) ≤ l.length := by first | omega | (simp; omega)
  have hcp8 := RS.capl hl
  have hs8 : US H A c (l.take (min l.length 60)) := RS.front hl hb8
  refine slhN (c := c) (min l.length 60) (l.take (min l.length 60)).length (by rw [List.length_take]; omega) sli29 sz5 (by omega) h fun a w h => ?_
  have e8 : l.take (min l.length 60) = l.take 60 := by rw [List.take_eq_take_iff]; omega
  rw [e8] at h hs8
  refine bdl lay85 zr85 h fun a w h => ?_
  refine bxA h fun g10 a w h => ?_
  refine as_ h fun a w h => ?_
  refine nsr ?_
  refine mv h fun a w h => ?_
  refine cl bod40 (mk_ok (l.take 60) _ _ g10 6 6 0 E H _ (by omega) (by omega) hs8 (by simp; omega) (by omega)) h (fun r12 H12 L12 a w le12 R h => ?_)
  obtain ⟨t12, at12, hmk12, ha12, hz12, ⟨A12, c12, rfl, hk12⟩, rfl⟩ := R
  refine sw1 tN24 h fun a w h => ?_
  refine nlt ?_
  refine ret_ ?_
  exact fin (rs := [.cell 2 24]) (vs := [.agg #[_, _, _, _]]) h rfl (.agg (k0 := 1) tN24 rfl rfl rfl .nil) rfl le12 ⟨LE.rfl, h.st.drop 2⟩ ⟨_, hmk12, ⟨_, _, rfl, hk12⟩, rfl⟩
end Go.Proofs.YtindlieilabgfaaGreatDoor
/- Walks: slices.Clip. -/
set_option linter.unusedVariables false
set_option linter.unusedSimpArgs false
set_option linter.unusedSectionVars false
set_option autoImplicit false
set_option relaxedAutoImplicit false
set_option maxRecDepth 10000
namespace Go.Proofs.YtindlieilabgfaaGreatDoor
open Go X
theorem Clip_ok (A : Option Addr) (n c : Nat) (hc : n ≤ c) (E : World) (H : GH) (L : List It) :
    Ok Tryz.prog 42 #[.slice A n c] E H L fun r H' L' => r = .slice A n n ∧ H = H' ∧ L = L' := by
  refine enter (N := 9) [(0, _)] Tryz.func42 rfl rfl rfl rfl fun a w h => ?_
  refine sqr ?_
  refine as_ h fun a w h => ?_
  refine nsr ?_
  refine mv h fun a w h => ?_
  refine mv h fun a w h => ?_
  refine ln sli58 h fun a w h => ?_
  refine mv h fun a w h => ?_
  refine ln sli58 h fun a w h => ?_
  refine sl (l := 0) (h' := n) (m := n) sli58 sz9 (fun w => ?_) h fun a w h => ?_
  ·simp [Instr.sliceBounds, h.ag.ev (x := .tmp 5) rfl, h.ag.ev (x := .tmp 7) rfl, asIntOf, Instr.sliceBound, hc]
  refine as_ h fun a w h => ?_
  refine nlt ?_
  refine ret_ ?_
  refine fin1 2 0 h LE.rfl ?_
  have e : (if n = 0 then A else A.map (·.add (0 * 1))) = A := by
   split; rfl
   cases A with
   | none => rfl
   | some q => simp [Addr.add]
  exact ⟨by rw [e]; rfl, rfl, rfl⟩
theorem isnew_ok (known : List Bs) (s : Bs) (B : Option Addr) (cp gk : Nat) (E : World) (H : GH) (L : List It) (hk : SS H B cp known) (hc : Hc H gk 0 (.slice B known.length cp)) (hb : known.length < 1000000000000) :
    Ok Tryz.prog 46 #[str s, .pointer (some ⟨gk, 0, none⟩)] E H L fun r H' L' => r = .bool (!known.contains s) ∧ H = H' ∧ L = L' := by
  refine enter (N := 8) [(0, _), (1, _)] Tryz.func46 rfl rfl rfl rfl fun a w h => ?_
  refine sqr ?_
  refine as_ h fun a w h => ?_
  refine nsr ?_
  refine ldH t1_58 hc h fun a w h => ?_
  refine mv h fun a w h => ?_
  refine cl bod47 (Contains_ok known s B cp E H _ hk hb) h fun r6 H6 L6 a w le6 R h => ?_
  obtain ⟨rfl, rfl, rfl⟩ := R
  refine nt h fun a w h => ?_
  refine as_ h fun a w h => ?_
  refine nlt ?_
  refine ret_ ?_
  refine fin1 3 0 h LE.rfl ?_
  exact ⟨rfl, rfl, rfl⟩
theorem rowS {H : GH} : ∀ ss : List Bs, RowR RStr 1 H (ss.map encS) ss
  | [] => RowR.nil
  | s :: l => RowR.cons1 rfl (rowS l)
theorem strange_ok (t : Tm) (v : Value) (known : List Bs) (B : Option Addr) (cp gk : Nat) (E : World) (H : GH) (L : List It) (hv : VT H v t) (hlg : t.long < 1000000000000) (hsz : t.size < 1000000000000) (hk : SS H B cp known) (hc : Hc H gk 0 (.slice B known.length cp)) (hb : known.length < 1000000000000) :
    Ok Tryz.prog 44 #[v, .pointer (some ⟨gk, 0, none⟩)] E H L fun r H' L' => r = .bool (t.strange known) ∧ H = H' ∧ L = L' := by
  have hv0 := hv
  obtain ⟨A, c, rfl, hks⟩ := hv
  have hv := hv0
  refine enter (N := 8) [(0, _), (1, _)] Tryz.func44 rfl rfl rfl rfl fun a w h => ?_
  refine sqr ?_
  refine bxA h fun g2 a w h => ?_
  refine as_ h fun a w h => ?_
  refine nsr ?_
  refine ldW 0 tN24 h fun a w h => ?_
  refine cl bod23 (Free_ok t _ E H _ hv hlg hsz) h fun r5 H5 L5 a w le5 R h => ?_
  obtain ⟨A5, c5, ss, rfl, rfl, rfl, hset⟩ := R
  refine mf h fun a w h => ?_
  obtain ⟨H2, le2, h, hrs⟩ := h.frw 0 (rowS ss) rfl (fun _ _ _ _ _ h => h)
  have l_H_H2 : LE H H2 := le2
  have hsl : ss.length < 1000000000000 := by have := sub_len (m := t.names) hset.1 (fun x hx => fr_names t _ x ((hset.2.1 x).1 hx)); rw [names_len] at this; omega
  refine cl bod45 (ContainsFunc_Bs_ok ss A5 c5 (fun s => !known.contains s) 46 #[.pointer (some ⟨gk, 0, none⟩)] E H2 _ hrs hsl bod46 (fun j hj v hvj => by subst hvj; exact isnew_ok known _ B cp gk E H2 _ (hk.up le2) (hc.mono le2) hb)) h fun r7 H7 L7 a w le7 R h => ?_
  obtain ⟨rfl, rfl, rfl⟩ := R
  refine as_ h fun a w h => ?_
  refine nlt ?_
  refine ret_ ?_
  have h := h.del 0
  refine fin1 3 0 (h.less le2) LE.rfl ?_
  exact ⟨by rw [strange_of hset], rfl, rfl⟩
end Go.Proofs.YtindlieilabgfaaGreatDoor
/- Words for Resolve. -/
set_option linter.unusedVariables false
set_option linter.unusedSimpArgs false
set_option linter.unusedSectionVars false
set_option autoImplicit false
set_option relaxedAutoImplicit false
set_option maxRecDepth 10000
namespace Go.Proofs.YtindlieilabgfaaGreatDoor
open Go X
theorem known_succ (p : Pg) {k : Nat} (h : k < p.defs.length) : p.known (k + 1) = p.known k ++ [p.defs[k].name] := by
  unfold Pg.known; rw [List.take_succ_eq_append_getElem h]; simp only [List.map_append, List.append_assoc]; rfl
theorem known_len (p : Pg) (k : Nat) : (p.known k).length ≤ p.inputs.length + p.cells.length + p.defs.length := by
  unfold Pg.known; simp only [List.length_append, List.length_map, List.length_take]; omega
theorem rs_le {α : Type} {R : GH → List Value → α → Prop} {sz : Nat} {H : GH} {A : Option Addr} {n c : Nat} {ys : List α} (h : RS R sz H (.slice A n c) ys) : n ≤ c := by
  obtain ⟨A', c', e, h1, _⟩ := h
  cases e; exact h1
theorem rs_clip {α : Type} {R : GH → List Value → α → Prop} {sz : Nat} {H : GH} {A : Option Addr} {c : Nat} {ys : List α} (h : RS R sz H (.slice A ys.length c) ys) : RS R sz H (.slice A ys.length ys.length) ys := by
  obtain ⟨A', c', e, h1, h2⟩ := h
  cases e
  exact ⟨A, ys.length, rfl, Nat.le_refl _, h2⟩
theorem go_none {p : Pg} {k : Nat} (h : p.go k = none) : ∀ m, k ≤ m → p.go m = none := by
  intro m hm
  induction m with
  | zero => have : k = 0 := by omega
            subst this; exact h
  | succ m ih =>
    by_cases e : k = m + 1
    · subst e; exact h
    · simp only [Pg.go, ih (by omega)]
theorem go_succ {p : Pg} {k : Nat} {ds : List Df} {n : Int} (h : p.go k = some (ds, n)) (hk : k < p.defs.length) :
    p.go (k + 1) = if p.defs[k].t.strange (p.known k) then none else some (ds ++ [⟨p.defs[k].name, (p.defs[k].t.ren (fun _ => none) n).1⟩], (p.defs[k].t.ren (fun _ => none) n).2) := by
  simp only [Pg.go, h, List.getElem?_eq_getElem hk]
theorem vp_zero (H : GH) : VP H (.agg #[.slice none 0 0, .slice none 0 0, .slice none 0 0, .int .i64 0, str [], .int .i64 0, .slice none 0 0]) Pg.zero :=
  ⟨none, 0, none, 0, none, 0, none, 0, rfl, RS.nil _ _ _, RS.nil _ _ _, RS.nil _ _ _, RS.nil _ _ _⟩
theorem twice_yes {p : Pg} {k : Nat} (hk : k < (p.known p.defs.length).length) (h : decide (indexL (p.known p.defs.length) (p.known p.defs.length)[k] < (k : Int)) = true) : p.twice = true := by
  unfold Pg.twice
  rw [List.any_eq_true]
  exact ⟨k, List.mem_range.2 hk, by simpa [List.getD, List.getElem?_eq_getElem hk] using h⟩
theorem twice_no {p : Pg} (h : ∀ j (hj : j < (p.known p.defs.length).length), decide (indexL (p.known p.defs.length) (p.known p.defs.length)[j] < (j : Int)) = false) : p.twice = false := by
  unfold Pg.twice
  rw [List.any_eq_false]
  intro j hj
  have hj := List.mem_range.1 hj
  have := h j hj
  simp only [List.getD, List.getElem?_eq_getElem hj, Option.getD_some, this]
  simp
section
variable {P : Program} {ops : Array Oper} {Q : Exit → Act → World → Prop} {γ : Gd P ops Q} {rest : List Oper} {o : Oper} {E w : World} {H : GH} {N : Nat} {D : List Deferred} {F : List (Nat × Value)} {L : List It} {a : Act}
variable {t : TypeId} {x y : Operand} {g off : Nat} {cs : Array Value} {ty : TypeId}
/-- A struct, stored within an own block. -/
theorem stN (k0 : Nat) {n : Nat} {vs : List Value} {L' : List It} (ht : tyN P t n = true) (h : S E H N D F L a w) (k : ∀ a w, S E H N D F L' a w → γ.G rest a w) (out : List Value)
    (ho : o.op = .store t x y := by rfl) (hx : ev F x = some (.pointer (some ⟨g, off, none⟩)) := by rfl) (hy : ev F y = some (.agg vs.toArray) := by rfl)
    (hk : L[k0]? = some (.obj g (.cells cs ty (0, 0))) := by rfl) (hout : (wr cs off vs).toList = out := by rfl) (hL : L.set k0 (.obj g (.cells out.toArray ty (0, 0))) = L' := by rfl) (hn : vs.length = n := by rfl) (hf : Nat.ble (off + n) cs.size = true := by rfl) (h1 : vs.all (·.oneCell') = true := by rfl)
    (hw : wn ops F o = some true := by rfl) (hd : o.dst = none := by rfl) (hE : γ.isE rest.length = true := by rfl) (hS : γ.isN rest.length = true → ∀ w, St E H L' w → γ.S w := by exact fun e => Bool.noConfusion (show false = true from e)) : γ.G (o :: rest) a w := by
  obtain ⟨w', hrun, r1, r2, r3, r4, r5⟩ := run_stores (P := P) (g := g) (off := off) (ty := ty) vs 0 cs w (item_at h.st.sees hk) (by simp [Nat.ble_eq] at hf; omega) (fun v hv => List.all_eq_true.1 h1 v hv)
  subst hL
  have hoa : out.toArray = wr cs off vs := by rw [← hout]
  refine unit_ h hw hd hE hS (w' := w') ?_ (h.st.wrote hk r1 r2 r3 (by rw [hoa]; simpa using r5)) k
  obtain ⟨d', hu, hr, hi⟩ := und_ofN ht
  obtain ⟨i, hi', hs⟩ := Option.map_eq_some_iff.1 hi
  simp [execOp, ho, h.ag.ev hx, h.ag.ev hy, Instr.storeAt, Instr.sureAddr, storeVar, sizeOf, typeInfo, hi', hs, Value.cells, hn, hrun]
end
end Go.Proofs.YtindlieilabgfaaGreatDoor
