/- Walks: show.within. -/
import Derived.Test.YtindlieilabgfaaGreatDoorW8
set_option linter.unusedVariables false
set_option linter.unusedSimpArgs false
set_option linter.unusedSectionVars false
set_option autoImplicit false
set_option relaxedAutoImplicit false
set_option maxRecDepth 10000
namespace Go.Proofs.YtindlieilabgfaaGreatDoor
open Go X
theorem within_ok (t : Tm) (hto : ToksOk t) (hlen : t.toks.length < 100000000000) : WithinOk t := by
  intro v E H L hv hL
  have hv0 := hv
  obtain ⟨A, c, rfl, hks⟩ := hv
  have hv := hv0
  refine enter (N := 23) [(0, _)] Tryz.func150 rfl rfl rfl rfl fun a w h => ?_
  refine sq ?_
  refine rg0 ?_
  refine bxA h fun g1 a w h => ?_
  refine as_ h fun a w h => ?_
  refine nl0 ?_
  refine thN ?_
  refine sq ?_
  refine sq ?_
  refine rg0 ?_
  refine fa fl24_0 (r := 0) h fun a w h => ?_
  refine ld 0 t1_3 h fun a w h => ?_
  refine eqi h fun a w h => ?_
  refine h.spl (fun c5 h => ?_) (fun c5 h => ?_)
  · refine mv h fun a w h => ?_
    refine sk h (k := fun a w h => ?_)
    refine sk h (k := fun a w h => ?_)
    refine sk h (k := fun a w h => ?_)
    refine pkT h fun a w h => ?_
    refine nl0 ?_
    refine thN ?_
    refine cdT h ?_
    refine sq ?_
    refine rg0 ?_
    refine ldW 0 tN24 h fun a w h => ?_
    refine cl bod94 (hto _ E H _ (hv.mono LE.rfl) (hL.up LE.rfl)) h fun r12 H12 L12 a w le12 R h => ?_
    obtain ⟨A12, c12, xs12, rfl, rfl, hr12⟩ := R
    have l_H_H12 : LE H H12 := le12
    refine as_ h fun a w h => ?_
    refine nl0 ?_
    refine thN ?_
    refine ret_ ?_
    refine thR ?_
    have h := h.del 1
    refine fin1 2 0 h l_H_H12 ?_
    unfold RowTk Tm.within
    rw [if_pos (by simp only [c5]; rfl)]
    exact ⟨_, _, _, rfl, rfl, hr12⟩
  · refine mv h fun a w h => ?_
    refine fa fl24_0 (r := 0) h fun a w h => ?_
    refine ld 0 t1_3 h fun a w h => ?_
    refine eqi h fun a w h => ?_
    refine pkF h fun a w h => ?_
    refine nl0 ?_
    refine thN ?_
    refine cdB h (fun c10 => ?_) (fun c10 => ?_)
    · refine sq ?_
      refine rg0 ?_
      refine ldW 0 tN24 h fun a w h => ?_
      refine cl bod94 (hto _ E H _ (hv.mono LE.rfl) (hL.up LE.rfl)) h fun r12 H12 L12 a w le12 R h => ?_
      obtain ⟨A12, c12, xs12, rfl, rfl, hr12⟩ := R
      have l_H_H12 : LE H H12 := le12
      refine as_ h fun a w h => ?_
      refine nl0 ?_
      refine thN ?_
      refine ret_ ?_
      refine thR ?_
      have h := h.del 1
      refine fin1 2 0 h l_H_H12 ?_
      unfold RowTk Tm.within
      rw [if_pos (by simp only [c5, c10]; rfl)]
      exact ⟨_, _, _, rfl, rfl, hr12⟩
    · refine sk_ ?_
      refine thN ?_
      refine sq ?_
      refine rgx [0] [_] [3] 11 mix h (fun a w h => ?_)
      refine tkl 0 false (by kernel_rfl) ?_
      refine mi cnc175 h fun a w h => ?_
      refine tk0 ?_
      refine tkl 3 true (by kernel_rfl) ?_
      refine ldWT 0 tN24 h fun a w h => ?_
      refine tk0 ?_
      refine tkl 6 false (by kernel_rfl) ?_
      refine mi cnc175 h fun a w h => ?_
      refine tk0 ?_
      refine brl2 1 7 true true (by kernel_rfl) (by kernel_rfl) (by kernel_rfl) (fun _ => h.st.sees' (by first | exact LE.rfl | assumption) (by simp)) ?_ ?_
      · refine bsl bs204 h fun g14 a w h => ?_
        refine br0 ?_
        refine brl2 2 7 true true (by kernel_rfl) (by kernel_rfl) (by kernel_rfl) (fun _ => h.st.sees' (by first | exact LE.rfl | assumption) (by simp)) ?_ ?_
        · obtain ⟨Hl14, leHl14, h, hp14⟩ := h.fsl (α := Pt) (R := RPt) 0 (ys := [.mark [40]]) (.cons1 rfl .nil) (fun _ l _ _ _ hr => rpt_up l hr)
          have l_H_Hl14 : LE H Hl14 := leHl14
          refine cl bod123 (laid_ok [.mark [40]] _ E Hl14 _ hp14 (hL.up l_H_Hl14) (fun t ht => by simp at ht) (by decide) (by decide)) h fun r15 H15 L15 a w le15 R h => ?_
          obtain ⟨A15, c15, xs15, rfl, rfl, hr15⟩ := R
          have l_H_H15 : LE H H15 := l_H_Hl14.trans le15
          have l_Hl14_H15 : LE Hl14 H15 := le15
          refine br0 ?_
          refine brl2 4 7 false true (by kernel_rfl) (by kernel_rfl) (by kernel_rfl) (fun _ => h.st.sees' (by first | exact LE.rfl | assumption) (by simp)) ?_ ?_
          · refine cl bod94 (hto _ E H15 _ (hv.mono l_H_H15) (hL.up l_H_H15)) h fun r17 H17 L17 a w le17 R h => ?_
            obtain ⟨A17, c17, xs17, rfl, rfl, hr17⟩ := R
            have l_H_H17 : LE H H17 := l_H_H15.trans le17
            have l_Hl14_H17 : LE Hl14 H17 := l_Hl14_H15.trans le17
            have l_H15_H17 : LE H15 H17 := le17
            refine br0 ?_
            refine brl2 5 7 true true (by kernel_rfl) (by kernel_rfl) (by kernel_rfl) (fun _ => h.st.sees' (by first | exact LE.rfl | assumption) (by simp)) ?_ ?_
            · obtain ⟨Ha18, leHa18, h, hs18⟩ := h.frw 0 (n := (t.toks).length) hr17 rfl (fun _ _ _ _ _ h => h)
              have l_H_Ha18 : LE H Ha18 := l_H_H17.trans leHa18
              have l_Hl14_Ha18 : LE Hl14 Ha18 := l_Hl14_H17.trans leHa18
              have l_H15_Ha18 : LE H15 Ha18 := l_H15_H17.trans leHa18
              have l_H17_Ha18 : LE H17 Ha18 := leHa18
              refine aps 0 (L' := fun i => i :: _) row141 hs18 rtk_one h ?_ ?_ fun v18 news18 a w hone hnews18 h => ?_
              · have := hlen; simp only [List.length_cons, List.length_append, List.length_nil, laidL, List.flatMap_cons, List.flatMap_nil, Pt.toks] at this ⊢; omega
              · have := hlen; simp only [List.length_cons, List.length_append, List.length_nil, laidL, List.flatMap_cons, List.flatMap_nil, Pt.toks] at this ⊢; omega
              obtain ⟨Ar18, cr18, rfl⟩ := h.rowv 0
              refine br0 ?_
              refine brl1 7 true (by kernel_rfl) (by kernel_rfl) (fun _ => h.st.sees' (by first | exact LE.rfl | assumption) (by simp)) ?_
              refine bsl bs204 h fun g20 a w h => ?_
              refine br0 ?_
              refine brl1 8 true (by kernel_rfl) (by kernel_rfl) (fun _ => h.st.sees' (by first | exact LE.rfl | assumption) (by simp)) ?_
              obtain ⟨Hl20, leHl20, h, hp20⟩ := h.fsl (α := Pt) (R := RPt) 0 (ys := [.mark [41]]) (.cons1 rfl .nil) (fun _ l _ _ _ hr => rpt_up l hr)
              have l_H_Hl20 : LE H Hl20 := l_H_Ha18.trans leHl20
              have l_Hl14_Hl20 : LE Hl14 Hl20 := l_Hl14_Ha18.trans leHl20
              have l_H15_Hl20 : LE H15 Hl20 := l_H15_Ha18.trans leHl20
              have l_H17_Hl20 : LE H17 Hl20 := l_H17_Ha18.trans leHl20
              have l_Ha18_Hl20 : LE Ha18 Hl20 := leHl20
              refine cl bod123 (laid_ok [.mark [41]] _ E Hl20 _ hp20 (hL.up l_H_Hl20) (fun t ht => by simp at ht) (by decide) (by decide)) h fun r21 H21 L21 a w le21 R h => ?_
              obtain ⟨A21, c21, xs21, rfl, rfl, hr21⟩ := R
              have l_H_H21 : LE H H21 := l_H_Hl20.trans le21
              have l_Hl14_H21 : LE Hl14 H21 := l_Hl14_Hl20.trans le21
              have l_H15_H21 : LE H15 H21 := l_H15_Hl20.trans le21
              have l_H17_H21 : LE H17 H21 := l_H17_Hl20.trans le21
              have l_Ha18_H21 : LE Ha18 H21 := l_Ha18_Hl20.trans le21
              have l_Hl20_H21 : LE Hl20 H21 := le21
              refine br0 ?_
              refine brl1 9 true (by kernel_rfl) (by kernel_rfl) (fun _ => h.st.sees' (by first | exact LE.rfl | assumption) (by simp)) ?_
              obtain ⟨Ha22, leHa22, h, hs22⟩ := h.frw 0 (n := ((laidL [.mark [41]])).length) hr21 rfl (fun _ _ _ _ _ h => h)
              have l_H_Ha22 : LE H Ha22 := l_H_H21.trans leHa22
              have l_Hl14_Ha22 : LE Hl14 Ha22 := l_Hl14_H21.trans leHa22
              have l_H15_Ha22 : LE H15 Ha22 := l_H15_H21.trans leHa22
              have l_H17_Ha22 : LE H17 Ha22 := l_H17_H21.trans leHa22
              have l_Ha18_Ha22 : LE Ha18 Ha22 := l_Ha18_H21.trans leHa22
              have l_Hl20_Ha22 : LE Hl20 Ha22 := l_Hl20_H21.trans leHa22
              have l_H21_Ha22 : LE H21 Ha22 := leHa22
              refine aps 0 (L' := fun i => i :: _) row141 hs22 rtk_one h ?_ ?_ fun v22 news22 a w hone hnews22 h => ?_
              · have := hlen; simp only [List.length_cons, List.length_append, List.length_nil, laidL, List.flatMap_cons, List.flatMap_nil, Pt.toks] at this ⊢; omega
              · have := hlen; simp only [List.length_cons, List.length_append, List.length_nil, laidL, List.flatMap_cons, List.flatMap_nil, Pt.toks] at this ⊢; omega
              obtain ⟨Ar22, cr22, rfl⟩ := h.rowv 0
              refine br0 ?_
              refine tkl 10 false (by kernel_rfl) ?_
              refine as_ h fun a w h => ?_
              refine tk0 ?_
              refine en (by kernel_rfl) ?_
              refine thN ?_
              refine ret_ ?_
              have h := h.del 1
              have e : (laidL [.mark [40]]).length + t.toks.length + (laidL [.mark [41]]).length = (⟨4, [40], 0⟩ :: (t.toks ++ [⟨4, [41], 0⟩]) : List Tk).length := by simp [laidL, Pt.toks]; omega
              rw [e] at h
              refine fin1 2 0 h l_H_Ha22 ?_
              unfold RowTk Tm.within
              rw [if_neg (by simp only [c5, c10]; decide)]
              exact ⟨_, _, _, rfl, rfl, ((rtkR hr15).app (rtkR hnews18)).app (rtkR hnews22)⟩
            · refine bsl bs204 h fun g20 a w h => ?_
              refine br0 ?_
              refine brl1 5 true (by kernel_rfl) (by kernel_rfl) (fun _ => h.st.sees' (by first | exact LE.rfl | assumption) (by simp)) ?_
              obtain ⟨Ha18, leHa18, h, hs18⟩ := h.frw 1 (n := (t.toks).length) hr17 rfl (fun _ _ _ _ _ h => h)
              have l_H_Ha18 : LE H Ha18 := l_H_H17.trans leHa18
              have l_Hl14_Ha18 : LE Hl14 Ha18 := l_Hl14_H17.trans leHa18
              have l_H15_Ha18 : LE H15 Ha18 := l_H15_H17.trans leHa18
              have l_H17_Ha18 : LE H17 Ha18 := leHa18
              refine aps 1 (L' := fun i => _ :: i :: _) row141 hs18 rtk_one h ?_ ?_ fun v18 news18 a w hone hnews18 h => ?_
              · have := hlen; simp only [List.length_cons, List.length_append, List.length_nil, laidL, List.flatMap_cons, List.flatMap_nil, Pt.toks] at this ⊢; omega
              · have := hlen; simp only [List.length_cons, List.length_append, List.length_nil, laidL, List.flatMap_cons, List.flatMap_nil, Pt.toks] at this ⊢; omega
              obtain ⟨Ar18, cr18, rfl⟩ := h.rowv 1
              refine br0 ?_
              refine brl1 8 true (by kernel_rfl) (by kernel_rfl) (fun _ => h.st.sees' (by first | exact LE.rfl | assumption) (by simp)) ?_
              obtain ⟨Hl20, leHl20, h, hp20⟩ := h.fsl (α := Pt) (R := RPt) 0 (ys := [.mark [41]]) (.cons1 rfl .nil) (fun _ l _ _ _ hr => rpt_up l hr)
              have l_H_Hl20 : LE H Hl20 := l_H_Ha18.trans leHl20
              have l_Hl14_Hl20 : LE Hl14 Hl20 := l_Hl14_Ha18.trans leHl20
              have l_H15_Hl20 : LE H15 Hl20 := l_H15_Ha18.trans leHl20
              have l_H17_Hl20 : LE H17 Hl20 := l_H17_Ha18.trans leHl20
              have l_Ha18_Hl20 : LE Ha18 Hl20 := leHl20
              refine cl bod123 (laid_ok [.mark [41]] _ E Hl20 _ hp20 (hL.up l_H_Hl20) (fun t ht => by simp at ht) (by decide) (by decide)) h fun r21 H21 L21 a w le21 R h => ?_
              obtain ⟨A21, c21, xs21, rfl, rfl, hr21⟩ := R
              have l_H_H21 : LE H H21 := l_H_Hl20.trans le21
              have l_Hl14_H21 : LE Hl14 H21 := l_Hl14_Hl20.trans le21
              have l_H15_H21 : LE H15 H21 := l_H15_Hl20.trans le21
              have l_H17_H21 : LE H17 H21 := l_H17_Hl20.trans le21
              have l_Ha18_H21 : LE Ha18 H21 := l_Ha18_Hl20.trans le21
              have l_Hl20_H21 : LE Hl20 H21 := le21
              refine br0 ?_
              refine brl1 9 true (by kernel_rfl) (by kernel_rfl) (fun _ => h.st.sees' (by first | exact LE.rfl | assumption) (by simp)) ?_
              obtain ⟨Ha22, leHa22, h, hs22⟩ := h.frw 0 (n := ((laidL [.mark [41]])).length) hr21 rfl (fun _ _ _ _ _ h => h)
              have l_H_Ha22 : LE H Ha22 := l_H_H21.trans leHa22
              have l_Hl14_Ha22 : LE Hl14 Ha22 := l_Hl14_H21.trans leHa22
              have l_H15_Ha22 : LE H15 Ha22 := l_H15_H21.trans leHa22
              have l_H17_Ha22 : LE H17 Ha22 := l_H17_H21.trans leHa22
              have l_Ha18_Ha22 : LE Ha18 Ha22 := l_Ha18_H21.trans leHa22
              have l_Hl20_Ha22 : LE Hl20 Ha22 := l_Hl20_H21.trans leHa22
              have l_H21_Ha22 : LE H21 Ha22 := leHa22
              refine aps 0 (L' := fun i => i :: _) row141 hs22 rtk_one h ?_ ?_ fun v22 news22 a w hone hnews22 h => ?_
              · have := hlen; simp only [List.length_cons, List.length_append, List.length_nil, laidL, List.flatMap_cons, List.flatMap_nil, Pt.toks] at this ⊢; omega
              · have := hlen; simp only [List.length_cons, List.length_append, List.length_nil, laidL, List.flatMap_cons, List.flatMap_nil, Pt.toks] at this ⊢; omega
              obtain ⟨Ar22, cr22, rfl⟩ := h.rowv 0
              refine br0 ?_
              refine tkl 10 false (by kernel_rfl) ?_
              refine as_ h fun a w h => ?_
              refine tk0 ?_
              refine en (by kernel_rfl) ?_
              refine thN ?_
              refine ret_ ?_
              have h := h.del 1
              have e : (laidL [.mark [40]]).length + t.toks.length + (laidL [.mark [41]]).length = (⟨4, [40], 0⟩ :: (t.toks ++ [⟨4, [41], 0⟩]) : List Tk).length := by simp [laidL, Pt.toks]; omega
              rw [e] at h
              refine fin1 2 0 h l_H_Ha22 ?_
              unfold RowTk Tm.within
              rw [if_neg (by simp only [c5, c10]; decide)]
              exact ⟨_, _, _, rfl, rfl, ((rtkR hr15).app (rtkR hnews18)).app (rtkR hnews22)⟩
          · refine bsl bs204 h fun g20 a w h => ?_
            refine br0 ?_
            refine brl1 4 false (by kernel_rfl) (by kernel_rfl) (fun _ => h.st.sees' (by first | exact LE.rfl | assumption) (by simp)) ?_
            refine cl bod94 (hto _ E H15 _ (hv.mono l_H_H15) (hL.up l_H_H15)) h fun r17 H17 L17 a w le17 R h => ?_
            obtain ⟨A17, c17, xs17, rfl, rfl, hr17⟩ := R
            have l_H_H17 : LE H H17 := l_H_H15.trans le17
            have l_Hl14_H17 : LE Hl14 H17 := l_Hl14_H15.trans le17
            have l_H15_H17 : LE H15 H17 := le17
            refine br0 ?_
            refine brl1 5 true (by kernel_rfl) (by kernel_rfl) (fun _ => h.st.sees' (by first | exact LE.rfl | assumption) (by simp)) ?_
            obtain ⟨Ha18, leHa18, h, hs18⟩ := h.frw 0 (n := (t.toks).length) hr17 rfl (fun _ _ _ _ _ h => h)
            have l_H_Ha18 : LE H Ha18 := l_H_H17.trans leHa18
            have l_Hl14_Ha18 : LE Hl14 Ha18 := l_Hl14_H17.trans leHa18
            have l_H15_Ha18 : LE H15 Ha18 := l_H15_H17.trans leHa18
            have l_H17_Ha18 : LE H17 Ha18 := leHa18
            refine aps 1 (L' := fun i => _ :: i :: _) row141 hs18 rtk_one h ?_ ?_ fun v18 news18 a w hone hnews18 h => ?_
            · have := hlen; simp only [List.length_cons, List.length_append, List.length_nil, laidL, List.flatMap_cons, List.flatMap_nil, Pt.toks] at this ⊢; omega
            · have := hlen; simp only [List.length_cons, List.length_append, List.length_nil, laidL, List.flatMap_cons, List.flatMap_nil, Pt.toks] at this ⊢; omega
            obtain ⟨Ar18, cr18, rfl⟩ := h.rowv 1
            refine br0 ?_
            refine brl1 8 true (by kernel_rfl) (by kernel_rfl) (fun _ => h.st.sees' (by first | exact LE.rfl | assumption) (by simp)) ?_
            obtain ⟨Hl20, leHl20, h, hp20⟩ := h.fsl (α := Pt) (R := RPt) 0 (ys := [.mark [41]]) (.cons1 rfl .nil) (fun _ l _ _ _ hr => rpt_up l hr)
            have l_H_Hl20 : LE H Hl20 := l_H_Ha18.trans leHl20
            have l_Hl14_Hl20 : LE Hl14 Hl20 := l_Hl14_Ha18.trans leHl20
            have l_H15_Hl20 : LE H15 Hl20 := l_H15_Ha18.trans leHl20
            have l_H17_Hl20 : LE H17 Hl20 := l_H17_Ha18.trans leHl20
            have l_Ha18_Hl20 : LE Ha18 Hl20 := leHl20
            refine cl bod123 (laid_ok [.mark [41]] _ E Hl20 _ hp20 (hL.up l_H_Hl20) (fun t ht => by simp at ht) (by decide) (by decide)) h fun r21 H21 L21 a w le21 R h => ?_
            obtain ⟨A21, c21, xs21, rfl, rfl, hr21⟩ := R
            have l_H_H21 : LE H H21 := l_H_Hl20.trans le21
            have l_Hl14_H21 : LE Hl14 H21 := l_Hl14_Hl20.trans le21
            have l_H15_H21 : LE H15 H21 := l_H15_Hl20.trans le21
            have l_H17_H21 : LE H17 H21 := l_H17_Hl20.trans le21
            have l_Ha18_H21 : LE Ha18 H21 := l_Ha18_Hl20.trans le21
            have l_Hl20_H21 : LE Hl20 H21 := le21
            refine br0 ?_
            refine brl1 9 true (by kernel_rfl) (by kernel_rfl) (fun _ => h.st.sees' (by first | exact LE.rfl | assumption) (by simp)) ?_
            obtain ⟨Ha22, leHa22, h, hs22⟩ := h.frw 0 (n := ((laidL [.mark [41]])).length) hr21 rfl (fun _ _ _ _ _ h => h)
            have l_H_Ha22 : LE H Ha22 := l_H_H21.trans leHa22
            have l_Hl14_Ha22 : LE Hl14 Ha22 := l_Hl14_H21.trans leHa22
            have l_H15_Ha22 : LE H15 Ha22 := l_H15_H21.trans leHa22
            have l_H17_Ha22 : LE H17 Ha22 := l_H17_H21.trans leHa22
            have l_Ha18_Ha22 : LE Ha18 Ha22 := l_Ha18_H21.trans leHa22
            have l_Hl20_Ha22 : LE Hl20 Ha22 := l_Hl20_H21.trans leHa22
            have l_H21_Ha22 : LE H21 Ha22 := leHa22
            refine aps 0 (L' := fun i => i :: _) row141 hs22 rtk_one h ?_ ?_ fun v22 news22 a w hone hnews22 h => ?_
            · have := hlen; simp only [List.length_cons, List.length_append, List.length_nil, laidL, List.flatMap_cons, List.flatMap_nil, Pt.toks] at this ⊢; omega
            · have := hlen; simp only [List.length_cons, List.length_append, List.length_nil, laidL, List.flatMap_cons, List.flatMap_nil, Pt.toks] at this ⊢; omega
            obtain ⟨Ar22, cr22, rfl⟩ := h.rowv 0
            refine br0 ?_
            refine tkl 10 false (by kernel_rfl) ?_
            refine as_ h fun a w h => ?_
            refine tk0 ?_
            refine en (by kernel_rfl) ?_
            refine thN ?_
            refine ret_ ?_
            have h := h.del 1
            have e : (laidL [.mark [40]]).length + t.toks.length + (laidL [.mark [41]]).length = (⟨4, [40], 0⟩ :: (t.toks ++ [⟨4, [41], 0⟩]) : List Tk).length := by simp [laidL, Pt.toks]; omega
            rw [e] at h
            refine fin1 2 0 h l_H_Ha22 ?_
            unfold RowTk Tm.within
            rw [if_neg (by simp only [c5, c10]; decide)]
            exact ⟨_, _, _, rfl, rfl, ((rtkR hr15).app (rtkR hnews18)).app (rtkR hnews22)⟩
        · refine bsl bs204 h fun g20 a w h => ?_
          refine br0 ?_
          refine brl1 2 true (by kernel_rfl) (by kernel_rfl) (fun _ => h.st.sees' (by first | exact LE.rfl | assumption) (by simp)) ?_
          obtain ⟨Hl14, leHl14, h, hp14⟩ := h.fsl (α := Pt) (R := RPt) 1 (ys := [.mark [40]]) (.cons1 rfl .nil) (fun _ l _ _ _ hr => rpt_up l hr)
          have l_H_Hl14 : LE H Hl14 := leHl14
          refine cl bod123 (laid_ok [.mark [40]] _ E Hl14 _ hp14 (hL.up l_H_Hl14) (fun t ht => by simp at ht) (by decide) (by decide)) h fun r15 H15 L15 a w le15 R h => ?_
          obtain ⟨A15, c15, xs15, rfl, rfl, hr15⟩ := R
          have l_H_H15 : LE H H15 := l_H_Hl14.trans le15
          have l_Hl14_H15 : LE Hl14 H15 := le15
          refine br0 ?_
          refine brl1 4 false (by kernel_rfl) (by kernel_rfl) (fun _ => h.st.sees' (by first | exact LE.rfl | assumption) (by simp)) ?_
          refine cl bod94 (hto _ E H15 _ (hv.mono l_H_H15) (hL.up l_H_H15)) h fun r17 H17 L17 a w le17 R h => ?_
          obtain ⟨A17, c17, xs17, rfl, rfl, hr17⟩ := R
          have l_H_H17 : LE H H17 := l_H_H15.trans le17
          have l_Hl14_H17 : LE Hl14 H17 := l_Hl14_H15.trans le17
          have l_H15_H17 : LE H15 H17 := le17
          refine br0 ?_
          refine brl1 5 true (by kernel_rfl) (by kernel_rfl) (fun _ => h.st.sees' (by first | exact LE.rfl | assumption) (by simp)) ?_
          obtain ⟨Ha18, leHa18, h, hs18⟩ := h.frw 0 (n := (t.toks).length) hr17 rfl (fun _ _ _ _ _ h => h)
          have l_H_Ha18 : LE H Ha18 := l_H_H17.trans leHa18
          have l_Hl14_Ha18 : LE Hl14 Ha18 := l_Hl14_H17.trans leHa18
          have l_H15_Ha18 : LE H15 Ha18 := l_H15_H17.trans leHa18
          have l_H17_Ha18 : LE H17 Ha18 := leHa18
          refine aps 0 (L' := fun i => i :: _) row141 hs18 rtk_one h ?_ ?_ fun v18 news18 a w hone hnews18 h => ?_
          · have := hlen; simp only [List.length_cons, List.length_append, List.length_nil, laidL, List.flatMap_cons, List.flatMap_nil, Pt.toks] at this ⊢; omega
          · have := hlen; simp only [List.length_cons, List.length_append, List.length_nil, laidL, List.flatMap_cons, List.flatMap_nil, Pt.toks] at this ⊢; omega
          obtain ⟨Ar18, cr18, rfl⟩ := h.rowv 0
          refine br0 ?_
          refine brl1 8 true (by kernel_rfl) (by kernel_rfl) (fun _ => h.st.sees' (by first | exact LE.rfl | assumption) (by simp)) ?_
          obtain ⟨Hl20, leHl20, h, hp20⟩ := h.fsl (α := Pt) (R := RPt) 1 (ys := [.mark [41]]) (.cons1 rfl .nil) (fun _ l _ _ _ hr => rpt_up l hr)
          have l_H_Hl20 : LE H Hl20 := l_H_Ha18.trans leHl20
          have l_Hl14_Hl20 : LE Hl14 Hl20 := l_Hl14_Ha18.trans leHl20
          have l_H15_Hl20 : LE H15 Hl20 := l_H15_Ha18.trans leHl20
          have l_H17_Hl20 : LE H17 Hl20 := l_H17_Ha18.trans leHl20
          have l_Ha18_Hl20 : LE Ha18 Hl20 := leHl20
          refine cl bod123 (laid_ok [.mark [41]] _ E Hl20 _ hp20 (hL.up l_H_Hl20) (fun t ht => by simp at ht) (by decide) (by decide)) h fun r21 H21 L21 a w le21 R h => ?_
          obtain ⟨A21, c21, xs21, rfl, rfl, hr21⟩ := R
          have l_H_H21 : LE H H21 := l_H_Hl20.trans le21
          have l_Hl14_H21 : LE Hl14 H21 := l_Hl14_Hl20.trans le21
          have l_H15_H21 : LE H15 H21 := l_H15_Hl20.trans le21
          have l_H17_H21 : LE H17 H21 := l_H17_Hl20.trans le21
          have l_Ha18_H21 : LE Ha18 H21 := l_Ha18_Hl20.trans le21
          have l_Hl20_H21 : LE Hl20 H21 := le21
          refine br0 ?_
          refine brl1 9 true (by kernel_rfl) (by kernel_rfl) (fun _ => h.st.sees' (by first | exact LE.rfl | assumption) (by simp)) ?_
          obtain ⟨Ha22, leHa22, h, hs22⟩ := h.frw 0 (n := ((laidL [.mark [41]])).length) hr21 rfl (fun _ _ _ _ _ h => h)
          have l_H_Ha22 : LE H Ha22 := l_H_H21.trans leHa22
          have l_Hl14_Ha22 : LE Hl14 Ha22 := l_Hl14_H21.trans leHa22
          have l_H15_Ha22 : LE H15 Ha22 := l_H15_H21.trans leHa22
          have l_H17_Ha22 : LE H17 Ha22 := l_H17_H21.trans leHa22
          have l_Ha18_Ha22 : LE Ha18 Ha22 := l_Ha18_H21.trans leHa22
          have l_Hl20_Ha22 : LE Hl20 Ha22 := l_Hl20_H21.trans leHa22
          have l_H21_Ha22 : LE H21 Ha22 := leHa22
          refine aps 0 (L' := fun i => i :: _) row141 hs22 rtk_one h ?_ ?_ fun v22 news22 a w hone hnews22 h => ?_
          · have := hlen; simp only [List.length_cons, List.length_append, List.length_nil, laidL, List.flatMap_cons, List.flatMap_nil, Pt.toks] at this ⊢; omega
          · have := hlen; simp only [List.length_cons, List.length_append, List.length_nil, laidL, List.flatMap_cons, List.flatMap_nil, Pt.toks] at this ⊢; omega
          obtain ⟨Ar22, cr22, rfl⟩ := h.rowv 0
          refine br0 ?_
          refine tkl 10 false (by kernel_rfl) ?_
          refine as_ h fun a w h => ?_
          refine tk0 ?_
          refine en (by kernel_rfl) ?_
          refine thN ?_
          refine ret_ ?_
          have h := h.del 1
          have e : (laidL [.mark [40]]).length + t.toks.length + (laidL [.mark [41]]).length = (⟨4, [40], 0⟩ :: (t.toks ++ [⟨4, [41], 0⟩]) : List Tk).length := by simp [laidL, Pt.toks]; omega
          rw [e] at h
          refine fin1 2 0 h l_H_Ha22 ?_
          unfold RowTk Tm.within
          rw [if_neg (by simp only [c5, c10]; decide)]
          exact ⟨_, _, _, rfl, rfl, ((rtkR hr15).app (rtkR hnews18)).app (rtkR hnews22)⟩
      · refine bsl bs204 h fun g20 a w h => ?_
        refine br0 ?_
        refine brl1 1 true (by kernel_rfl) (by kernel_rfl) (fun _ => h.st.sees' (by first | exact LE.rfl | assumption) (by simp)) ?_
        refine bsl bs204 h fun g14 a w h => ?_
        refine br0 ?_
        refine brl1 2 true (by kernel_rfl) (by kernel_rfl) (fun _ => h.st.sees' (by first | exact LE.rfl | assumption) (by simp)) ?_
        obtain ⟨Hl14, leHl14, h, hp14⟩ := h.fsl (α := Pt) (R := RPt) 0 (ys := [.mark [40]]) (.cons1 rfl .nil) (fun _ l _ _ _ hr => rpt_up l hr)
        have l_H_Hl14 : LE H Hl14 := leHl14
        refine cl bod123 (laid_ok [.mark [40]] _ E Hl14 _ hp14 (hL.up l_H_Hl14) (fun t ht => by simp at ht) (by decide) (by decide)) h fun r15 H15 L15 a w le15 R h => ?_
        obtain ⟨A15, c15, xs15, rfl, rfl, hr15⟩ := R
        have l_H_H15 : LE H H15 := l_H_Hl14.trans le15
        have l_Hl14_H15 : LE Hl14 H15 := le15
        refine br0 ?_
        refine brl1 4 false (by kernel_rfl) (by kernel_rfl) (fun _ => h.st.sees' (by first | exact LE.rfl | assumption) (by simp)) ?_
        refine cl bod94 (hto _ E H15 _ (hv.mono l_H_H15) (hL.up l_H_H15)) h fun r17 H17 L17 a w le17 R h => ?_
        obtain ⟨A17, c17, xs17, rfl, rfl, hr17⟩ := R
        have l_H_H17 : LE H H17 := l_H_H15.trans le17
        have l_Hl14_H17 : LE Hl14 H17 := l_Hl14_H15.trans le17
        have l_H15_H17 : LE H15 H17 := le17
        refine br0 ?_
        refine brl1 5 true (by kernel_rfl) (by kernel_rfl) (fun _ => h.st.sees' (by first | exact LE.rfl | assumption) (by simp)) ?_
        obtain ⟨Ha18, leHa18, h, hs18⟩ := h.frw 0 (n := (t.toks).length) hr17 rfl (fun _ _ _ _ _ h => h)
        have l_H_Ha18 : LE H Ha18 := l_H_H17.trans leHa18
        have l_Hl14_Ha18 : LE Hl14 Ha18 := l_Hl14_H17.trans leHa18
        have l_H15_Ha18 : LE H15 Ha18 := l_H15_H17.trans leHa18
        have l_H17_Ha18 : LE H17 Ha18 := leHa18
        refine aps 0 (L' := fun i => i :: _) row141 hs18 rtk_one h ?_ ?_ fun v18 news18 a w hone hnews18 h => ?_
        · have := hlen; simp only [List.length_cons, List.length_append, List.length_nil, laidL, List.flatMap_cons, List.flatMap_nil, Pt.toks] at this ⊢; omega
        · have := hlen; simp only [List.length_cons, List.length_append, List.length_nil, laidL, List.flatMap_cons, List.flatMap_nil, Pt.toks] at this ⊢; omega
        obtain ⟨Ar18, cr18, rfl⟩ := h.rowv 0
        refine br0 ?_
        refine brl1 8 true (by kernel_rfl) (by kernel_rfl) (fun _ => h.st.sees' (by first | exact LE.rfl | assumption) (by simp)) ?_
        obtain ⟨Hl20, leHl20, h, hp20⟩ := h.fsl (α := Pt) (R := RPt) 1 (ys := [.mark [41]]) (.cons1 rfl .nil) (fun _ l _ _ _ hr => rpt_up l hr)
        have l_H_Hl20 : LE H Hl20 := l_H_Ha18.trans leHl20
        have l_Hl14_Hl20 : LE Hl14 Hl20 := l_Hl14_Ha18.trans leHl20
        have l_H15_Hl20 : LE H15 Hl20 := l_H15_Ha18.trans leHl20
        have l_H17_Hl20 : LE H17 Hl20 := l_H17_Ha18.trans leHl20
        have l_Ha18_Hl20 : LE Ha18 Hl20 := leHl20
        refine cl bod123 (laid_ok [.mark [41]] _ E Hl20 _ hp20 (hL.up l_H_Hl20) (fun t ht => by simp at ht) (by decide) (by decide)) h fun r21 H21 L21 a w le21 R h => ?_
        obtain ⟨A21, c21, xs21, rfl, rfl, hr21⟩ := R
        have l_H_H21 : LE H H21 := l_H_Hl20.trans le21
        have l_Hl14_H21 : LE Hl14 H21 := l_Hl14_Hl20.trans le21
        have l_H15_H21 : LE H15 H21 := l_H15_Hl20.trans le21
        have l_H17_H21 : LE H17 H21 := l_H17_Hl20.trans le21
        have l_Ha18_H21 : LE Ha18 H21 := l_Ha18_Hl20.trans le21
        have l_Hl20_H21 : LE Hl20 H21 := le21
        refine br0 ?_
        refine brl1 9 true (by kernel_rfl) (by kernel_rfl) (fun _ => h.st.sees' (by first | exact LE.rfl | assumption) (by simp)) ?_
        obtain ⟨Ha22, leHa22, h, hs22⟩ := h.frw 0 (n := ((laidL [.mark [41]])).length) hr21 rfl (fun _ _ _ _ _ h => h)
        have l_H_Ha22 : LE H Ha22 := l_H_H21.trans leHa22
        have l_Hl14_Ha22 : LE Hl14 Ha22 := l_Hl14_H21.trans leHa22
        have l_H15_Ha22 : LE H15 Ha22 := l_H15_H21.trans leHa22
        have l_H17_Ha22 : LE H17 Ha22 := l_H17_H21.trans leHa22
        have l_Ha18_Ha22 : LE Ha18 Ha22 := l_Ha18_H21.trans leHa22
        have l_Hl20_Ha22 : LE Hl20 Ha22 := l_Hl20_H21.trans leHa22
        have l_H21_Ha22 : LE H21 Ha22 := leHa22
        refine aps 0 (L' := fun i => i :: _) row141 hs22 rtk_one h ?_ ?_ fun v22 news22 a w hone hnews22 h => ?_
        · have := hlen; simp only [List.length_cons, List.length_append, List.length_nil, laidL, List.flatMap_cons, List.flatMap_nil, Pt.toks] at this ⊢; omega
        · have := hlen; simp only [List.length_cons, List.length_append, List.length_nil, laidL, List.flatMap_cons, List.flatMap_nil, Pt.toks] at this ⊢; omega
        obtain ⟨Ar22, cr22, rfl⟩ := h.rowv 0
        refine br0 ?_
        refine tkl 10 false (by kernel_rfl) ?_
        refine as_ h fun a w h => ?_
        refine tk0 ?_
        refine en (by kernel_rfl) ?_
        refine thN ?_
        refine ret_ ?_
        have h := h.del 1
        have e : (laidL [.mark [40]]).length + t.toks.length + (laidL [.mark [41]]).length = (⟨4, [40], 0⟩ :: (t.toks ++ [⟨4, [41], 0⟩]) : List Tk).length := by simp [laidL, Pt.toks]; omega
        rw [e] at h
        refine fin1 2 0 h l_H_Ha22 ?_
        unfold RowTk Tm.within
        rw [if_neg (by simp only [c5, c10]; decide)]
        exact ⟨_, _, _, rfl, rfl, ((rtkR hr15).app (rtkR hnews18)).app (rtkR hnews22)⟩
end Go.Proofs.YtindlieilabgfaaGreatDoor
