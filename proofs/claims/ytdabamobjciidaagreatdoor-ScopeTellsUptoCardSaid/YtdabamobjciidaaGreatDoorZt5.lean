/- Parts of the proof: W51, W20, W21, W22, X17, X18, X21, W52, T11, W30, X28, W53, W23. -/
import Derived.Test.YtdabamobjciidaaGreatDoorZt4
import Derived.Laws.CopyRow
import Derived.Lib.AppendZerosOnto
import Derived.Lib.Overlaps
import Derived.Laws.Externs
set_option autoImplicit false
set_option linter.unnecessarySimpa false
set_option linter.unusedSectionVars false
set_option linter.unusedSimpArgs false
set_option linter.unusedVariables false
set_option maxHeartbeats 8000000
set_option maxRecDepth 100000
set_option relaxedAutoImplicit false
namespace Go.Proofs.YtdabamobjciidaaGreatDoor
open Go X
theorem vp_eq {H : GH} {v : Value} {q p : Pg} (e : q = p) (h : VP H v q) : VP H v p := e ▸ h
theorem refProg_ok (p : Pg) (v : Value) (E : World) (H : GH) (L : List It) (hv : VP H v p) (hi : p.inputs.length < 1000000000000) (hc : p.cells.length < 1000000000000) (hd : p.defs.length < 1000000000000) (hf : ∀ d ∈ p.defs, d.t.size < 1000000000000) (hb : p.body.size < 1000000000000) : Ok Tryz.prog 14 #[v] E H L fun r H' L' => VP H' r p ∧ L = L' := by
 obtain ⟨Ap0, cp0, Ap1, cp1, Ap2, cp2, Ap3, cp3, rfl, hp0, hp1, hp2, hp3⟩ := hv
 refine enter (N := 100) [(0, _)] Tryz.func14 rfl rfl rfl rfl fun a w h => ?_
 refine au [1,2] h ?_
 refine bxA h fun g1 a w h => ?_
 refine al zr50 h fun g2 a w h => ?_
 refine au [0,2,0,7] h ?_; intro a w h
 refine ldN (l := [_, _, _, _]) 1 tN24 h fun a w h => ?_
 refine cl bod7 (refTerm_ok p.body _ E H _ ⟨Ap3, cp3, rfl, hp3⟩ hb) h (fun r9 H9 L9 a w le9 R h => ?_)
 obtain ⟨⟨A9_0, c9_0, rfl, hk9_0⟩, rfl⟩ := R
 refine bdl lay50 zr50 h fun a w h => ?_
 refine al zr50 h fun g3 a w h => ?_
 refine au [5,5,0,3,0,4,1,2,0,6,0,3,1,5] h ?_; intro a w h
 have h := h.row (e := 88) (sz := 3)
 obtain ⟨Hg1, leHg1, h, hfg1⟩ := h.frz 3
 refine lp (β := Nat × GH × (Option Addr) × Nat × (List Value)) (fun x a w => match x with | (k, HL0, Bri, pri, xri) => ((k ≤ p.inputs.length) ∧ (LE Hg1 HL0) ∧ (RowR RDc 3 HL0 xri (p.inputs.take k))) ∧ S E HL0 100 [] [(1, .pointer (some ⟨g1, 0, none⟩)), (2, .pointer (some ⟨g2, 0, none⟩)), (3, .pointer (some ⟨g3, 0, none⟩)), (4, .int .i64 (k : Int))] (.row (.slice Bri ((p.inputs.take k).length) pri) 88 3 ((p.inputs.take k).length) xri :: .obj g3 (.cells #[.slice Bri ((p.inputs.take k).length) pri, .slice none 0 0, .slice none 0 0, .int .i64 p.body.kind, str p.body.name, .int .i64 p.body.n, .slice A9_0 p.body.kids.length c9_0] 50 (0, 0)) :: .obj g2 (.cells #[.slice none 0 0, .slice none 0 0, .slice none 0 0, .int .i64 0, str [], .int .i64 0, .slice none 0 0] 50 (0, 0)) :: L) a w)
  (fun x => match x with | (k, HL0, Bri, pri, xri) => p.inputs.length - k) (0, Hg1, none, 0, []) ⟨⟨Nat.zero_le _, LE.rfl, ((RowR.nil : RowR RDc 3 H9 [] ([] : List Dc)).mono fun cs y _ hr => hr)⟩, h.to 0 _⟩ ?_
 rintro ⟨k, HL0, Bri, pri, xri⟩ a w ⟨⟨hk, leHL0, hrri⟩, h⟩
 refine au [0,4,1,2,0,0,0,7] h ?_; intro a w h
 refine ldH t1_25 (Hc.of (leHL0 _ _ hfg1) rfl) h fun a w h => ?_
 refine au [6,0,6,4,0,3] h ?_; intro a w h
 refine cdB h (fun c15 => ?_) (fun c15 => ?_)
 ·have d15 : k < p.inputs.length := cd_ c15
  refine au [1,8,1,0,0,4,1,5] h ?_
  refine rgd [1] [_] [3, 2, 0] [1, 3, 7, 9, 13, 15, 19] 2 mix (by kernel_rfl) h (fun a w h => ?_)
  refine au [0,7,4,2,0,7] h ?_; intro a w h
  refine ldHD t1_25 (Hc.of (leHL0 _ _ hfg1) rfl) h fun a w h => ?_
  refine mv h fun a w h => ?_
  have l_H_HL0 : LE H HL0 := (le9.trans leHg1).trans leHL0
  have hj23 : k < p.inputs.length := by first | assumption | omega | (simp; done) | (simp; omega)
  obtain ⟨g23, o23, e23, hv23, hc23⟩ := CS.get (CS.up hp0 l_H_HL0) hj23
  refine iaE sli25 sz59 rfl hj23 e23 h fun a w h => ?_
  refine fa fl59_0 (r := o23 + k * 3 + 0) h fun a w h => ?_
  refine ldHD t1_9 (hc23 0 _ rfl) h fun a w h => ?_
  refine fa fl28_0 (r := 0) h fun a w h => ?_
  refine ldHD t1_25 (Hc.of (leHL0 _ _ hfg1) rfl) h fun a w h => ?_
  refine mv h fun a w h => ?_
  have hj29 : k < p.inputs.length := by first | assumption | omega | (simp; done) | (simp; omega)
  obtain ⟨g29, o29, e29, hv29, hc29⟩ := CS.get (CS.up hp0 l_H_HL0) hj29
  refine iaE sli25 sz59 rfl hj29 e29 h fun a w h => ?_
  refine fa fl59_1 (r := o29 + k * 3 + 1) h fun a w h => ?_
  refine ldHD t1_9 (hc29 1 _ rfl) h fun a w h => ?_
  refine fa fl28_0 (r := 0) h fun a w h => ?_
  refine ldHD t1_25 (Hc.of (leHL0 _ _ hfg1) rfl) h fun a w h => ?_
  refine mv h fun a w h => ?_
  have hj35 : k < p.inputs.length := by first | assumption | omega | (simp; done) | (simp; omega)
  obtain ⟨g35, o35, e35, hv35, hc35⟩ := CS.get (CS.up hp0 l_H_HL0) hj35
  refine iaE sli25 sz59 rfl hj35 e35 h fun a w h => ?_
  refine fa fl59_2 (r := o35 + k * 3 + 2) h fun a w h => ?_
  refine ldHD t1_2 (hc35 2 _ rfl) h fun a w h => ?_
  refine bdl lay88 zr88 h fun a w h => ?_
  refine bsl bs47 h fun g39 a w h => ?_
  refine apn (n := ((p.inputs.take k).length)) (m := 1) 1 0 (L' := fun i => _ :: i :: _) [_, _, _] (((p.inputs.take k) ++ [(Dc.mk p.inputs[k].name p.inputs[k].label p.inputs[k].n : Dc)]).length) (by first | (simp; done) | (simp; omega)) row47 h (by first | omega | (simp; done) | (simp; omega) | (simp; omega)) (by first | omega | (simp; done) | (simp; omega) | (simp; omega)) fun v40 a w hone40 h => ?_
  obtain ⟨B40, cp40, rfl⟩ := h.rowv 1
  have hr40 : RowR RDc 3 HL0 (xri ++ [str p.inputs[k].name, str p.inputs[k].label, .int .i64 p.inputs[k].n]) ((p.inputs.take k) ++ [(Dc.mk p.inputs[k].name p.inputs[k].label p.inputs[k].n : Dc)]) := hrri.snoc rfl rfl
  refine au [0,7,5,3,1,1,1,7,1,0,0,5,0,0] h ?_; intro a w h
  refine inc ?_ h fun a w h => ?_
  ·omega
  refine au [0,6,0,3] h ?_; intro a w h
  have h := h.del 0
  exact ⟨((k + 1), HL0, B40, cp40, _), ⟨⟨by omega, leHL0, (by have q := hr40; rwa [show ((p.inputs.take k) ++ [(Dc.mk p.inputs[k].name p.inputs[k].label p.inputs[k].n : Dc)]) = (p.inputs.take (k + 1)) from by rw [take_snoc d15]] at q)⟩, (by show S _ _ _ _ _ _ _ _; rw [show ((p.inputs.take (k + 1)).length) = ((p.inputs.take k) ++ [(Dc.mk p.inputs[k].name p.inputs[k].label p.inputs[k].n : Dc)]).length from Eq.symm (by first | rfl | (simp; done) | (simp; omega) | (congr 1; simp; omega) | (congr 1; omega))]; exact h.to 0 _)⟩, by show _ - (k + 1) < _ - k; omega⟩
 ·have d15 : p.inputs.length ≤ k := cd_ c15
  refine au [2,5,2,2,2,2,2,3,1,0,0,4,1,2,0,6,0,3,1,5] h ?_; intro a w h
  have h := h.row (e := 88) (sz := 3)
  obtain ⟨Hrri, leHrri, h, hsHrri⟩ := h.frw 1 hrri rfl (fun _ l cs y _ hr => hr)
  refine lp (β := Nat × GH × (Option Addr) × Nat × (List Value)) (fun x a w => match x with | (k2, HL2, Brc, prc, xrc) => ((k2 ≤ p.cells.length) ∧ (LE Hrri HL2) ∧ (RowR RDc 3 HL2 xrc (p.cells.take k2))) ∧ S E HL2 100 [] [(1, .pointer (some ⟨g1, 0, none⟩)), (2, .pointer (some ⟨g2, 0, none⟩)), (3, .pointer (some ⟨g3, 0, none⟩)), (4, .int .i64 (k : Int)), (5, .int .i64 (k2 : Int)), (11, .int .i64 (k : Int)), (12, .pointer (some ⟨g1, 0, none⟩)), (13, .slice Ap0 p.inputs.length cp0), (14, .int .i64 (p.inputs.length : Int)), (15, .bool (decide (((k : Int) : Int) < (p.inputs.length : Int))))] (.row (.slice Brc ((p.cells.take k2).length) prc) 88 3 ((p.cells.take k2).length) xrc :: .obj g3 (.cells #[.slice Bri (p.inputs.take k).length pri, .slice Brc ((p.cells.take k2).length) prc, .slice none 0 0, .int .i64 p.body.kind, str p.body.name, .int .i64 p.body.n, .slice A9_0 p.body.kids.length c9_0] 50 (0, 0)) :: .obj g2 (.cells #[.slice none 0 0, .slice none 0 0, .slice none 0 0, .int .i64 0, str [], .int .i64 0, .slice none 0 0] 50 (0, 0)) :: L) a w)
   (fun x => match x with | (k2, HL2, Brc, prc, xrc) => p.cells.length - k2) (0, Hrri, none, 0, []) ⟨⟨Nat.zero_le _, LE.rfl, ((RowR.nil : RowR RDc 3 HL0 [] ([] : List Dc)).mono fun cs y _ hr => hr)⟩, h.to 0 _⟩ ?_
  rintro ⟨k2, HL2, Brc, prc, xrc⟩ a w ⟨⟨hk, leHL2, hrrc⟩, h⟩
  refine au [0,4,1,2,0,0,0,7] h ?_; intro a w h
  have l_Hg1_HL2 : LE Hg1 HL2 := (leHL0.trans leHrri).trans leHL2
  refine ldH t1_25 (Hc.of (l_Hg1_HL2 _ _ hfg1) rfl) h fun a w h => ?_
  refine au [6,0,6,4,0,3] h ?_; intro a w h
  refine cdB h (fun c46 => ?_) (fun c46 => ?_)
  ·have d46 : k2 < p.cells.length := cd_ c46
   refine au [1,8,1,0,0,4,1,5] h ?_
   refine rgd [1] [_] [3, 2, 0] [1, 3, 7, 9, 13, 15, 19] 2 mix (by kernel_rfl) h (fun a w h => ?_)
   refine au [0,7,4,2,0,7] h ?_; intro a w h
   refine ldHD t1_25 (Hc.of (l_Hg1_HL2 _ _ hfg1) rfl) h fun a w h => ?_
   refine mv h fun a w h => ?_
   have l_H_HL2 : LE H HL2 := (((le9.trans leHg1).trans leHL0).trans leHrri).trans leHL2
   have hj54 : k2 < p.cells.length := by first | assumption | omega | (simp; done) | (simp; omega)
   obtain ⟨g54, o54, e54, hv54, hc54⟩ := CS.get (CS.up hp1 l_H_HL2) hj54
   refine iaE sli25 sz59 rfl hj54 e54 h fun a w h => ?_
   refine fa fl59_0 (r := o54 + k2 * 3 + 0) h fun a w h => ?_
   refine ldHD t1_9 (hc54 0 _ rfl) h fun a w h => ?_
   refine fa fl28_1 (r := 1) h fun a w h => ?_
   refine ldHD t1_25 (Hc.of (l_Hg1_HL2 _ _ hfg1) rfl) h fun a w h => ?_
   refine mv h fun a w h => ?_
   have hj60 : k2 < p.cells.length := by first | assumption | omega | (simp; done) | (simp; omega)
   obtain ⟨g60, o60, e60, hv60, hc60⟩ := CS.get (CS.up hp1 l_H_HL2) hj60
   refine iaE sli25 sz59 rfl hj60 e60 h fun a w h => ?_
   refine fa fl59_1 (r := o60 + k2 * 3 + 1) h fun a w h => ?_
   refine ldHD t1_9 (hc60 1 _ rfl) h fun a w h => ?_
   refine fa fl28_1 (r := 1) h fun a w h => ?_
   refine ldHD t1_25 (Hc.of (l_Hg1_HL2 _ _ hfg1) rfl) h fun a w h => ?_
   refine mv h fun a w h => ?_
   have hj66 : k2 < p.cells.length := by first | assumption | omega | (simp; done) | (simp; omega)
   obtain ⟨g66, o66, e66, hv66, hc66⟩ := CS.get (CS.up hp1 l_H_HL2) hj66
   refine iaE sli25 sz59 rfl hj66 e66 h fun a w h => ?_
   refine fa fl59_2 (r := o66 + k2 * 3 + 2) h fun a w h => ?_
   refine ldHD t1_2 (hc66 2 _ rfl) h fun a w h => ?_
   refine bdl lay88 zr88 h fun a w h => ?_
   refine bsl bs47 h fun g70 a w h => ?_
   refine apn (n := ((p.cells.take k2).length)) (m := 1) 1 0 (L' := fun i => _ :: i :: _) [_, _, _] (((p.cells.take k2) ++ [(Dc.mk p.cells[k2].name p.cells[k2].label p.cells[k2].n : Dc)]).length) (by first | (simp; done) | (simp; omega)) row47 h (by first | omega | (simp; done) | (simp; omega) | (simp; omega)) (by first | omega | (simp; done) | (simp; omega) | (simp; omega)) fun v71 a w hone71 h => ?_
   obtain ⟨B71, cp71, rfl⟩ := h.rowv 1
   have hr71 : RowR RDc 3 HL2 (xrc ++ [str p.cells[k2].name, str p.cells[k2].label, .int .i64 p.cells[k2].n]) ((p.cells.take k2) ++ [(Dc.mk p.cells[k2].name p.cells[k2].label p.cells[k2].n : Dc)]) := hrrc.snoc rfl rfl
   refine au [0,7,5,3,1,1,1,7,1,0,0,5,0,0] h ?_; intro a w h
   refine inc ?_ h fun a w h => ?_
   ·omega
   refine au [0,6,0,3] h ?_; intro a w h
   have h := h.del 0
   exact ⟨((k2 + 1), HL2, B71, cp71, _), ⟨⟨by omega, leHL2, (by have q := hr71; rwa [show ((p.cells.take k2) ++ [(Dc.mk p.cells[k2].name p.cells[k2].label p.cells[k2].n : Dc)]) = (p.cells.take (k2 + 1)) from by rw [take_snoc d46]] at q)⟩, (by show S _ _ _ _ _ _ _ _; rw [show ((p.cells.take (k2 + 1)).length) = ((p.cells.take k2) ++ [(Dc.mk p.cells[k2].name p.cells[k2].label p.cells[k2].n : Dc)]).length from Eq.symm (by first | rfl | (simp; done) | (simp; omega) | (congr 1; simp; omega) | (congr 1; omega))]; exact h.to 0 _)⟩, by show _ - (k2 + 1) < _ - k2; omega⟩
  ·have d46 : p.cells.length ≤ k2 := cd_ c46
   refine au [2,5,2,2,2,2,2,3,1,0,0,4,1,2,0,6,0,3,1,5] h ?_; intro a w h
   have h := h.row (e := 86) (sz := 5)
   obtain ⟨Hrrc, leHrrc, h, hsHrrc⟩ := h.frw 1 hrrc rfl (fun _ l cs y _ hr => hr)
   refine lp (β := Nat × GH × (Option Addr) × Nat × (List Value)) (fun x a w => match x with | (k3, HL4, Brf, prf, xrf) => ((k3 ≤ p.defs.length) ∧ (LE Hrrc HL4) ∧ (RowR RDf 5 HL4 xrf (p.defs.take k3))) ∧ S E HL4 100 [] [(1, .pointer (some ⟨g1, 0, none⟩)), (2, .pointer (some ⟨g2, 0, none⟩)), (3, .pointer (some ⟨g3, 0, none⟩)), (4, .int .i64 (k : Int)), (5, .int .i64 (k2 : Int)), (6, .int .i64 (k3 : Int)), (11, .int .i64 (k : Int)), (12, .pointer (some ⟨g1, 0, none⟩)), (13, .slice Ap0 p.inputs.length cp0), (14, .int .i64 (p.inputs.length : Int)), (15, .bool (decide (((k : Int) : Int) < (p.inputs.length : Int)))), (42, .int .i64 (k2 : Int)), (43, .pointer (some ⟨g1, 1, none⟩)), (44, .slice Ap1 p.cells.length cp1), (45, .int .i64 (p.cells.length : Int)), (46, .bool (decide (((k2 : Int) : Int) < (p.cells.length : Int))))] (.row (.slice Brf ((p.defs.take k3).length) prf) 86 5 ((p.defs.take k3).length) xrf :: .obj g3 (.cells #[.slice Bri (p.inputs.take k).length pri, .slice Brc (p.cells.take k2).length prc, .slice Brf ((p.defs.take k3).length) prf, .int .i64 p.body.kind, str p.body.name, .int .i64 p.body.n, .slice A9_0 p.body.kids.length c9_0] 50 (0, 0)) :: .obj g2 (.cells #[.slice none 0 0, .slice none 0 0, .slice none 0 0, .int .i64 0, str [], .int .i64 0, .slice none 0 0] 50 (0, 0)) :: L) a w)
    (fun x => match x with | (k3, HL4, Brf, prf, xrf) => p.defs.length - k3) (0, Hrrc, none, 0, []) ⟨⟨Nat.zero_le _, LE.rfl, ((RowR.nil : RowR RDf 5 HL2 [] ([] : List Df)).mono fun cs y _ hr => RDf.mono leHrrc hr)⟩, h.to 0 _⟩ ?_
   rintro ⟨k3, HL4, Brf, prf, xrf⟩ a w ⟨⟨hk, leHL4, hrrf⟩, h⟩
   refine au [0,4,1,2,0,0,0,7] h ?_; intro a w h
   have l_Hg1_HL4 : LE Hg1 HL4 := (((leHL0.trans leHrri).trans leHL2).trans leHrrc).trans leHL4
   refine ldH t1_26 (Hc.of (l_Hg1_HL4 _ _ hfg1) rfl) h fun a w h => ?_
   refine au [6,0,6,4,0,3] h ?_; intro a w h
   refine cdB h (fun c77 => ?_) (fun c77 => ?_)
   ·have d77 : k3 < p.defs.length := cd_ c77
    refine au [1,8,1,0,0,4,1,5] h ?_
    refine rgd [1] [_] [5, 3, 2, 0] [1, 3, 7, 9, 13] 2 mix (by kernel_rfl) h (fun a w h => ?_)
    refine au [0,7,4,2,0,7] h ?_; intro a w h
    refine ldHD t1_26 (Hc.of (l_Hg1_HL4 _ _ hfg1) rfl) h fun a w h => ?_
    refine mv h fun a w h => ?_
    have l_H_HL4 : LE H HL4 := (((((le9.trans leHg1).trans leHL0).trans leHrri).trans leHL2).trans leHrrc).trans leHL4
    have hj85 : k3 < p.defs.length := by first | assumption | omega | (simp; done) | (simp; omega)
    obtain ⟨g85, o85, A85_0, c85_0, e85, hv85, hc85⟩ := FS.get (FS.up hp2 l_H_HL4) hj85
    obtain ⟨_, _, q85, hk85_0⟩ := hv85; cases q85
    refine iaE sli26 sz61 rfl hj85 e85 h fun a w h => ?_
    refine fa fl61_0 (r := o85 + k3 * 5 + 0) h fun a w h => ?_
    refine ldHD t1_9 (hc85 0 _ rfl) h fun a w h => ?_
    refine fa fl28_2 (r := 2) h fun a w h => ?_
    refine ldHD t1_26 (Hc.of (l_Hg1_HL4 _ _ hfg1) rfl) h fun a w h => ?_
    refine mv h fun a w h => ?_
    have hj91 : k3 < p.defs.length := by first | assumption | omega | (simp; done) | (simp; omega)
    obtain ⟨g91, o91, A91_0, c91_0, e91, hv91, hc91⟩ := FS.get (FS.up hp2 l_H_HL4) hj91
    obtain ⟨_, _, q91, hk91_0⟩ := hv91; cases q91
    refine iaE sli26 sz61 rfl hj91 e91 h fun a w h => ?_
    refine fa fl61_1 (r := o91 + k3 * 5 + 1) h fun a w h => ?_
    refine ldHND (l := [_, _, _, _]) tN24 rfl (sbL 1 4 hc91) h fun a w h => ?_
    refine clG bod7 (refTerm_ok p.defs[k3].t _ E HL4 _ ⟨A91_0, c91_0, rfl, hk91_0⟩ (hf _ (List.getElem_mem d77))) h (fun r94 H94 L94 a w le94 R h => ?_)
    obtain ⟨⟨A94_0, c94_0, rfl, hk94_0⟩, rfl⟩ := R
    refine bdl lay86 zr86 h fun a w h => ?_
    refine bsl bs48 h fun g96 a w h => ?_
    refine apn (n := ((p.defs.take k3).length)) (m := 1) 1 0 (L' := fun i => _ :: i :: _) [_, _, _, _, _] (((p.defs.take k3) ++ [(Df.mk p.defs[k3].name (Tm.mk p.defs[k3].t.kind p.defs[k3].t.name p.defs[k3].t.n p.defs[k3].t.kids : Tm) : Df)]).length) (by first | (simp; done) | (simp; omega)) row48 h (by first | omega | (simp; done) | (simp; omega) | (simp; omega)) (by first | omega | (simp; done) | (simp; omega) | (simp; omega)) fun v97 a w hone97 h => ?_
    obtain ⟨B97, cp97, rfl⟩ := h.rowv 1
    have hr97 : RowR RDf 5 H94 (xrf ++ [str p.defs[k3].name, .int .i64 p.defs[k3].t.kind, str p.defs[k3].t.name, .int .i64 p.defs[k3].t.n, .slice A94_0 p.defs[k3].t.kids.length c94_0]) ((p.defs.take k3) ++ [(Df.mk p.defs[k3].name (Tm.mk p.defs[k3].t.kind p.defs[k3].t.name p.defs[k3].t.n p.defs[k3].t.kids : Tm) : Df)]) := (hrrf.mono fun cs y _ hr => RDf.mono le94 hr).snoc rfl (⟨_, rfl, rt_of_vt (cs := [_, _, _, _]) ⟨_, _, rfl, hk94_0⟩⟩)
    refine au [0,7,5,3,1,1,1,7,1,0,0,5,0,0] h ?_; intro a w h
    refine inc ?_ h fun a w h => ?_
    ·omega
    refine au [0,6,0,3] h ?_; intro a w h
    have h := h.del 0
    have l_Hrrc_H94 : LE Hrrc H94 := leHL4.trans le94
    exact ⟨((k3 + 1), H94, B97, cp97, _), ⟨⟨by omega, l_Hrrc_H94, (by have q := hr97; rwa [show ((p.defs.take k3) ++ [(Df.mk p.defs[k3].name (Tm.mk p.defs[k3].t.kind p.defs[k3].t.name p.defs[k3].t.n p.defs[k3].t.kids : Tm) : Df)]) = (p.defs.take (k3 + 1)) from by rw [take_snoc d77]; congr 2; cases p.defs[k3] with | mk n t => cases t; rfl] at q)⟩, (by show S _ _ _ _ _ _ _ _; rw [show ((p.defs.take (k3 + 1)).length) = ((p.defs.take k3) ++ [(Df.mk p.defs[k3].name (Tm.mk p.defs[k3].t.kind p.defs[k3].t.name p.defs[k3].t.n p.defs[k3].t.kids : Tm) : Df)]).length from Eq.symm (by first | rfl | (simp; done) | (simp; omega) | (congr 1; simp; omega) | (congr 1; omega))]; exact h.to 0 _)⟩, by show _ - (k3 + 1) < _ - k3; omega⟩
   ·have d77 : p.defs.length ≤ k3 := cd_ c77
    refine au [2,5,2,2,2,2,2,3,1,0,1,2,3,4,5,7,0,3,1,3] h ?_; intro a w h
    obtain ⟨Hrrf, leHrrf, h, hsHrrf⟩ := h.frw 0 hrrf rfl (fun _ l cs y _ hr => RDf.mono l hr)
    have e1 : p.inputs.take k = p.inputs := List.take_of_length_le (by omega)
    have e2 : p.cells.take k2 = p.cells := List.take_of_length_le (by omega)
    have e3 : p.defs.take k3 = p.defs := List.take_of_length_le (by omega)
    have l_Hrri_Hrrf : LE Hrri Hrrf := ((leHL2.trans leHrrc).trans leHL4).trans leHrrf
    have l_Hrrc_Hrrf : LE Hrrc Hrrf := leHL4.trans leHrrf
    have l_H9_Hrrf : LE H9 Hrrf := (((((leHg1.trans leHL0).trans leHrri).trans leHL2).trans leHrrc).trans leHL4).trans leHrrf
    have l_H_Hrrf : LE H Hrrf := ((((((le9.trans leHg1).trans leHL0).trans leHrri).trans leHL2).trans leHrrc).trans leHL4).trans leHrrf
    exact fin (rs := [.cell 2 50]) (vs := [.agg #[_, _, _, _, _, _, _]]) h rfl (.agg (k0 := 1) tN50 rfl rfl rfl .nil) rfl l_H_Hrrf ⟨LE.rfl, h.st.drop 2⟩ ⟨vp_eq (q := ⟨p.inputs.take k, p.cells.take k2, p.defs.take k3, p.body⟩) (by rw [e1, e2, e3]) ⟨Bri, pri, Brc, prc, Brf, prf, A9_0, c9_0, rfl, (CS.up hsHrri l_Hrri_Hrrf), (CS.up hsHrrc l_Hrrc_Hrrf), hsHrrf, (KS.up hk9_0 l_H9_Hrrf)⟩, rfl⟩
theorem Clip_ok (A : Option Addr) (n c : Nat) (hc : n ≤ c) (E : World) (H : GH) (L : List It) :
   Ok Tryz.prog 25 #[.slice A n c] E H L fun r H' L' => r = .slice A n n ∧ H = H' ∧ L = L' := by
 refine enter (N := 9) [(0, _)] Tryz.func25 rfl rfl rfl rfl fun a w h => ?_
 refine au [1,2,0,6,0,2,0,0,0,0,6,0,0,0,6,0] h ?_; intro a w h
 refine sl (l := 0) (h' := n) (m := n) sli70 sz9 (fun w => ?_) h fun a w h => ?_
 ·simp [Instr.sliceBounds, h.ag.ev (x := .tmp 5) rfl, h.ag.ev (x := .tmp 7) rfl, asIntOf, Instr.sliceBound, hc]
 refine au [0,6,0,3,1,3] h ?_; intro a w h
 refine fin1 2 0 h LE.rfl ?_
 have e : (if n = 0 then A else A.map (·.add (0 * 1))) = A := by
  split; rfl
  cases A with
  | none => rfl
  | some q => simp [Addr.add]
 exact ⟨by rw [e]; rfl, rfl, rfl⟩
theorem isnew_ok (known : List Bs) (s : Bs) (B : Option Addr) (cp gk : Nat) (E : World) (H : GH) (L : List It) (hk : SS H B cp known) (hc : Hc H gk 0 (.slice B known.length cp)) (hb : known.length < 1000000000000) :
   Ok Tryz.prog 30 #[str s, .pointer (some ⟨gk, 0, none⟩)] E H L fun r H' L' => r = .bool (!known.contains s) ∧ H = H' ∧ L = L' := by
 refine enter (N := 8) [(0, _), (1, _)] Tryz.func30 rfl rfl rfl rfl fun a w h => ?_
 refine au [1,2,0,6,0,2] h ?_; intro a w h
 refine ldH t1_70 hc h fun a w h => ?_
 refine mv h fun a w h => ?_
 refine cl bod31 (Contains_ok known s B cp E H _ hk hb) h fun r6 H6 L6 a w le6 R h => ?_
 obtain ⟨rfl, rfl, rfl⟩ := R
 refine au [7,1,0,6,0,3,1,3] h ?_; intro a w h
 refine fin1 3 0 h LE.rfl ?_
 exact ⟨rfl, rfl, rfl⟩
theorem rowS {H : GH} : ∀ ss : List Bs, RowR RStr 1 H (ss.map encS) ss
 | [] => RowR.nil
 | s :: l => RowR.cons1 rfl (rowS l)
theorem strange_ok (t : Tm) (v : Value) (known : List Bs) (B : Option Addr) (cp gk : Nat) (E : World) (H : GH) (L : List It) (hv : VT H v t) (hlg : t.long < 1000000000000) (hsz : t.size < 1000000000000) (hk : SS H B cp known) (hc : Hc H gk 0 (.slice B known.length cp)) (hb : known.length < 1000000000000) :
   Ok Tryz.prog 27 #[v, .pointer (some ⟨gk, 0, none⟩)] E H L fun r H' L' => r = .bool (t.strange known) ∧ H = H' ∧ L = L' := by
 have hv0 := hv
 obtain ⟨A, c, rfl, hks⟩ := hv
 have hv := hv0
 refine enter (N := 8) [(0, _), (1, _)] Tryz.func27 rfl rfl rfl rfl fun a w h => ?_
 refine au [1,2] h ?_
 refine bxA h fun g2 a w h => ?_
 refine au [0,6,0,2,3,3] h ?_; intro a w h
 refine cl bod29 (Free_ok t _ E H _ hv hlg hsz) h fun r5 H5 L5 a w le5 R h => ?_
 obtain ⟨A5, c5, ss, rfl, rfl, rfl, hset⟩ := R
 refine mf h fun a w h => ?_
 obtain ⟨H2, le2, h, hrs⟩ := h.frw 0 (rowS ss) rfl (fun _ _ _ _ _ h => h)
 have l_H_H2 : LE H H2 := le2
 have hsl : ss.length < 1000000000000 := by have := sub_len (m := t.names) hset.1 (fun x hx => fr_names t _ x ((hset.2.1 x).1 hx)); rw [names_len] at this; omega
 refine cl bod28 (ContainsFunc_Bs_ok ss A5 c5 (fun s => !known.contains s) 30 #[.pointer (some ⟨gk, 0, none⟩)] E H2 _ hrs hsl bod30 (fun j hj v hvj => by subst hvj; exact isnew_ok known _ B cp gk E H2 _ (hk.up le2) (hc.mono le2) hb)) h fun r7 H7 L7 a w le7 R h => ?_
 obtain ⟨rfl, rfl, rfl⟩ := R
 refine au [0,6,0,3,1,3] h ?_; intro a w h
 have h := h.del 0
 refine fin1 3 0 (h.less le2) LE.rfl ?_
 exact ⟨by rw [strange_of hset], rfl, rfl⟩
theorem known_succ (p : Pg) {k : Nat} (h : k < p.defs.length) : p.known (k + 1) = p.known k ++ [p.defs[k].name] := by
 unfold Pg.known; rw [List.take_succ_eq_append_getElem h]; simp only [List.map_append, List.append_assoc]; rfl
theorem known_len (p : Pg) (k : Nat) : (p.known k).length ≤ p.inputs.length + p.cells.length + p.defs.length := by
 unfold Pg.known; simp only [List.length_append, List.length_map, List.length_take]; omega
theorem rs_le {α : Type} {R : GH → List Value → α → Prop} {sz : Nat} {H : GH} {A : Option Addr} {n c : Nat} {ys : List α} (h : RS R sz H (.slice A n c) ys) : n ≤ c := by
 obtain ⟨A', c', e, h1, _⟩ := h
 cases e; exact h1
theorem rs_clip {α : Type} {R : GH → List Value → α → Prop} {sz : Nat} {H : GH} {A : Option Addr} {c : Nat} {ys : List α} (h : RS R sz H (.slice A ys.length c) ys) : RS R sz H (.slice A ys.length ys.length) ys := by
 obtain ⟨A', c', e, h1, h2⟩ := h
 cases e
 exact ⟨A, ys.length, rfl, Nat.le_refl _, h2⟩
theorem go_none {p : Pg} {k : Nat} (h : p.go k = none) : ∀ m, k ≤ m → p.go m = none := by
 intro m hm
 induction m with
 | zero => have : k = 0 := by omega
           subst this; exact h
 | succ m ih =>
   by_cases e : k = m + 1
   · subst e; exact h
   · simp only [Pg.go, ih (by omega)]
theorem go_succ {p : Pg} {k : Nat} {ds : List Df} {n : Int} (h : p.go k = some (ds, n)) (hk : k < p.defs.length) :
   p.go (k + 1) = if p.defs[k].t.strange (p.known k) then none else some (ds ++ [⟨p.defs[k].name, (p.defs[k].t.ren (fun _ => none) n).1⟩], (p.defs[k].t.ren (fun _ => none) n).2) := by
 simp only [Pg.go, h, List.getElem?_eq_getElem hk]
theorem vp_zero (H : GH) : VP H (.agg #[.slice none 0 0, .slice none 0 0, .slice none 0 0, .int .i64 0, str [], .int .i64 0, .slice none 0 0]) Pg.zero :=
 ⟨none, 0, none, 0, none, 0, none, 0, rfl, RS.nil _ _ _, RS.nil _ _ _, RS.nil _ _ _, RS.nil _ _ _⟩
theorem twice_yes {p : Pg} {k : Nat} (hk : k < (p.known p.defs.length).length) (h : decide (indexL (p.known p.defs.length) (p.known p.defs.length)[k] < (k : Int)) = true) : p.twice = true := by
 unfold Pg.twice
 rw [List.any_eq_true]
 exact ⟨k, List.mem_range.2 hk, by simpa [List.getD, List.getElem?_eq_getElem hk] using h⟩
theorem twice_no {p : Pg} (h : ∀ j (hj : j < (p.known p.defs.length).length), decide (indexL (p.known p.defs.length) (p.known p.defs.length)[j] < (j : Int)) = false) : p.twice = false := by
 unfold Pg.twice
 rw [List.any_eq_false]
 intro j hj
 have hj := List.mem_range.1 hj
 have := h j hj
 simp only [List.getD, List.getElem?_eq_getElem hj, Option.getD_some, this]
 simp
section
variable {P : Program} {ops : Array Oper} {Q : Exit → Act → World → Prop} {γ : Gd P ops Q} {rest : List Oper} {o : Oper} {E w : World} {H : GH} {N : Nat} {D : List Deferred} {F : List (Nat × Value)} {L : List It} {a : Act}
variable {t : TypeId} {x y : Operand} {g off : Nat} {cs : Array Value} {ty : TypeId}
theorem stN (k0 : Nat) {n : Nat} {vs : List Value} {L' : List It} (ht : tyN P t n = true) (h : S E H N D F L a w) (k : ∀ a w, S E H N D F L' a w → γ.G rest a w) (out : List Value)
   (ho : o.op = .store t x y := by rfl) (hx : ev F x = some (.pointer (some ⟨g, off, none⟩)) := by rfl) (hy : ev F y = some (.agg vs.toArray) := by rfl)
   (hk : L[k0]? = some (.obj g (.cells cs ty (0, 0))) := by rfl) (hout : (wr cs off vs).toList = out := by rfl) (hL : L.set k0 (.obj g (.cells out.toArray ty (0, 0))) = L' := by rfl) (hn : vs.length = n := by rfl) (hf : Nat.ble (off + n) cs.size = true := by rfl) (h1 : vs.all (·.oneCell') = true := by rfl)
   (hw : wn ops F o = some true := by rfl) (hd : o.dst = none := by rfl) (hE : γ.isE rest.length = true := by rfl) (hS : γ.isN rest.length = true → ∀ w, St E H L' w → γ.S w := by exact fun e => Bool.noConfusion (show false = true from e)) : γ.G (o :: rest) a w := by
 obtain ⟨w', hrun, r1, r2, r3, r4, r5⟩ := run_stores (P := P) (g := g) (off := off) (ty := ty) vs 0 cs w (item_at h.st.sees hk) (by simp [Nat.ble_eq] at hf; omega) (fun v hv => List.all_eq_true.1 h1 v hv)
 subst hL
 have hoa : out.toArray = wr cs off vs := by rw [← hout]
 refine unit_ h hw hd hE hS (w' := w') ?_ (h.st.wrote hk r1 r2 r3 (by rw [hoa]; simpa using r5)) k
 obtain ⟨d', hu, hr, hi⟩ := und_ofN ht
 obtain ⟨i, hi', hs⟩ := Option.map_eq_some_iff.1 hi
 simp [execOp, ho, h.ag.ev hx, h.ag.ev hy, Instr.storeAt, Instr.sureAddr, storeVar, sizeOf, typeInfo, hi', hs, Value.cells, hn, hrun]
end
theorem vp_of {H : GH} {p : Pg} {A1 A2 C A4 : Option Addr} {c1 c2 k cq c4 : Nat} {ds : List Df} {t : Tm} (h1 : CS H A1 c1 p.inputs) (h2 : CS H A2 c2 p.cells) (hk : k = ds.length) (h3 : RS RDf 5 H (.slice C k cq) ds) (h4 : KS H A4 c4 t.kids) :
   VP H (.agg #[.slice A1 p.inputs.length c1, .slice A2 p.cells.length c2, .slice C k cq, .int .i64 t.kind, str t.name, .int .i64 t.n, .slice A4 t.kids.length c4]) ⟨p.inputs, p.cells, ds, t⟩ := by
 subst hk; exact ⟨A1, c1, A2, c2, C, cq, A4, c4, rfl, h1, h2, h3, h4⟩
theorem fits_right {p : Pg} (h : p.right = true) : p.fits = true := by
 unfold Pg.right Pg.print at h
 by_cases hf : p.fits = true
 · exact hf
 · rw [if_neg hf] at h; simp at h
theorem Resolve_ok (p : Pg) (v : Value) (E : World) (H : GH) (L : List It) (hv : VP H v p) (hL : Laid H) (hb : Mild p) :
   Ok Tryz.prog 12 #[v] E H L fun r H' L' => ∃ v', r = .tuple #[v', .int .i64 p.resolve.2] ∧ VP H' v' p.resolve.1 ∧ L' = L := by
 have hv0 := hv
 obtain ⟨A1, c1, A2, c2, A3, c3, A4, c4, rfl, hi, hc, hd, hk⟩ := hv
 have hv := hv0
 have b1 := hb.li
 have b2 := hb.lc
 have b3 := hb.lf
 refine enter (N := 124) [(0, _)] Tryz.func12 rfl rfl rfl rfl fun a w h => ?_
 refine au [1,2] h ?_
 refine bxA h fun g1 a w h => ?_
 refine al zr28 h fun g2 a w h => ?_
 refine au [0,6,0,3,0,4,0,4] h ?_; intro a w h
 obtain ⟨Hf, leHf, h, hf1⟩ := h.frz 1
 have l_H_Hf : LE H Hf := leHf
 have hvf := hv.mono l_H_Hf
 have hLf := hL.up l_H_Hf
 have hif := hi.up l_H_Hf
 have hcf := hc.up l_H_Hf
 have hdf := hd.up l_H_Hf
 have hkf := hk.up l_H_Hf
 refine rg0 ?_
 refine ldHN tN28 rfl (Hc.all (LE.rfl _ _ hf1)) h fun a w h => ?_
 refine cl bod23 (RightP_ok p _ E Hf _ hvf hLf hb) h fun r20 H20 L20 a w le20 R h => ?_
 obtain ⟨rfl, rfl, rfl⟩ := R
 refine au [7,1,0,3] h ?_; intro a w h
 refine cdB h (fun c21 => ?_) (fun c21 => ?_)
 ·have er : p.resolve = (Pg.zero, 11) := by unfold Pg.resolve; rw [if_pos c21]
  refine au [1,2,7,5,5,5,0,6,0,3,1,3,1,4] h ?_; intro a w h
  rw [er]
  exact fin (rs := [.cell 2 28, .tmp 3]) (vs := [.agg #[_, _, _, _, _, _, _], .int .i64 _]) h rfl (.agg (k0 := 0) tN28 rfl rfl rfl (.tmp rfl .nil)) rfl l_H_Hf ⟨LE.rfl, h.st.drop 1⟩ ⟨_, rfl, vp_zero _, rfl⟩
 ·have hrt : p.right = true := by simpa using c21
  have hfit := fits_right hrt
  obtain ⟨hl1, hl2, hl3, _, _, hw3, hbr⟩ := fits_of hfit
  refine au [1,8,1,0,1,2] h ?_
  refine al zr70 h fun g4 a w h => ?_
  refine au [0,3,0,4,1,2,0,7] h ?_; intro a w h
  refine ldH t1_25 (Hc.of (LE.rfl _ _ hf1) rfl) h fun a w h => ?_
  refine fa fl28_1 (r := 1) h fun a w h => ?_
  refine ldH t1_25 (Hc.of (LE.rfl _ _ hf1) rfl) h fun a w h => ?_
  refine bsl bs100 h fun g27 a w h => ?_
  obtain ⟨Hl, leHl, h, hpl⟩ := h.fsl (α := List Dc) (R := RCS) 0 (ys := [p.inputs, p.cells]) (.cons1 ⟨A1, c1, rfl, hif⟩ (.cons1 ⟨A2, c2, rfl, hcf⟩ .nil)) (fun _ l _ _ _ ⟨A, c, e, hr⟩ => ⟨A, c, e, hr.up l⟩)
  have l_H_Hl : LE H Hl := l_H_Hf.trans leHl
  have l_Hf_Hl : LE Hf Hl := leHl
  refine cl bod24 (Concat_ok [p.inputs, p.cells] _ E Hl _ hpl (by simp only [lenS, List.map_cons, List.map_nil, List.sum_cons, List.sum_nil]; omega) (by simp only [List.length_cons, List.length_nil]; omega)) h fun r28 H28 L28 a w le28 R h => ?_
  obtain ⟨B28, cp28, xs28, rfl, rfl, rfl, hr28⟩ := R
  rw [show [p.inputs, p.cells].flatten = p.inputs ++ p.cells from by simp] at h hr28
  obtain ⟨Hd, leHd, h, hds⟩ := h.frw 0 (n := (p.inputs ++ p.cells).length) hr28 rfl (fun _ _ _ _ _ h => h)
  have l_H_Hd : LE H Hd := l_H_Hl.trans leHd
  have l_Hf_Hd : LE Hf Hd := l_Hf_Hl.trans leHd
  have l_Hl_Hd : LE Hl Hd := leHd
  have hdsl : (p.inputs ++ p.cells).length ≤ 64 := by rw [List.length_append]; omega
  refine ln sli25 h fun a w h => ?_
  have h := h.row (e := 9) (sz := 1)
  refine au [0,0,0,3,1,5] h ?_; intro a w h
  have h := h.pull 2 rfl rfl
  have h := h.pull 1 rfl rfl
  have h := h.pull 2 rfl rfl
  refine lp (β := Nat × Option Addr × Nat × List Value) (fun x a w => match x with | (k, B, cp, xs) => (k ≤ (p.inputs ++ p.cells).length ∧ RowR RStr 1 Hd xs (((p.inputs ++ p.cells).take k).map (·.name))) ∧ S E Hd 124 [] [(30, .int .i64 (k : Int)), (29, .int .i64 ((p.inputs ++ p.cells).length : Int)), (28, .slice B28 (p.inputs ++ p.cells).length cp28), (1, .pointer (some ⟨g1, 0, none⟩)), (2, .pointer (some ⟨g2, 0, none⟩)), (4, .pointer (some ⟨g4, 0, none⟩)), (3, .int .i64 0)] (.obj g4 (.cells #[.slice B k cp] 70 (0, 0)) :: .row (.slice B k cp) 9 1 k xs :: .obj g2 (.cells #[.slice none 0 0, .slice none 0 0, .slice none 0 0, .int .i64 0, .string ⟨#[]⟩, .int .i64 0, .slice none 0 0] 28 (0, 0)) :: L) a w)
   (fun x => match x with | (k, B, cp, xs) => (p.inputs ++ p.cells).length - k) (0, none, 0, []) ⟨⟨Nat.zero_le _, RowR.nil⟩, h.to 0 _⟩ ?_
  rintro ⟨k, B, cp, xs⟩ a w ⟨pre, h⟩
  refine au [1,2,6,4,0,3,0,4] h ?_; intro a w h
  refine cdB h (fun c31 => ?_) (fun c31 => ?_)
  ·have c31 : k < (p.inputs ++ p.cells).length := by have := of_decide_eq_true c31; omega
   obtain ⟨g, off, rfl, hvt, hcell⟩ := CS.get hds c31
   refine au [1,8,1,0,0,4,1,5,1,2] h ?_
   refine ia sli25 sz59 rfl c31 h fun a w h => ?_
   refine ldHN tN59 rfl hcell h fun a w h => ?_
   refine al zr59 h fun g6 a w h => ?_
   refine au [5,5,0,3,0,5,2,8,0,7,0,8] h ?_; intro a w h
   refine bsl bs70 h fun g37 a w h => ?_
   refine apb 3 0 (L' := fun i => _ :: _ :: _ :: i :: _) [_] row70 h ?_ ?_ fun v38 a w hone h => ?_
   ·omega
   ·omega
   obtain ⟨B2, cp2, rfl⟩ := h.rowv 3
   have hr2 : RowR RStr 1 Hd (xs ++ [str (p.inputs ++ p.cells)[k].name]) (((p.inputs ++ p.cells).take (k + 1)).map (·.name)) := by rw [List.take_succ_eq_append_getElem c31, List.map_append]; exact pre.2.app (.one rfl rfl)
   refine au [5,3,1,1,1,7,1,0,0,5] h ?_; intro a w h
   have h := h.pull 4 rfl rfl
   have h := h.pull 4 rfl rfl
   have h := h.pull 4 rfl rfl
   have h := h.del 4
   have h := h.del 3
   refine inc ?_ h fun a w h => ?_
   ·omega
   refine au [0,0,0,3] h ?_; intro a w h
   exact ⟨(k + 1, B2, cp2, _), ⟨⟨by omega, hr2⟩, h.to 0 _⟩, by show _ - (k + 1) < _ - k; omega⟩
  ·have hkk : k = (p.inputs ++ p.cells).length := by have := of_decide_eq_false c31; omega
   have hrow := pre.2
   rw [hkk, List.take_length, show (p.inputs ++ p.cells).map (·.name) = p.known 0 from by simp [Pg.known]] at hrow
   have hk2 : k = (p.known 0).length := by rw [hkk]; simp [Pg.known]
   subst hk2
   refine au [2,5,2,2,2,2,2,3,1,0,1,2,0,8,0,6,0,3,0,4,0,4] h ?_; intro a w h
   obtain ⟨Hk, leHk, h, hk0, back1⟩ := h.lendR 1 (ys := p.known 0) hrow rfl (fun _ _ _ _ _ h => h)
   have l_H_Hk : LE H Hk := l_H_Hd.trans leHk
   have l_Hf_Hk : LE Hf Hk := l_Hf_Hd.trans leHk
   have l_Hl_Hk : LE Hl Hk := l_Hl_Hd.trans leHk
   have l_Hd_Hk : LE Hd Hk := leHk
   refine au [0,5,0,7] h ?_; intro a w h
   refine ldH t1_26 (Hc.of (l_Hf_Hk _ _ hf1) rfl) h fun a w h => ?_
   refine au [6,0,0,0,0,3,1,5] h ?_; intro a w h
   refine lp (β := Nat × GH × Option Addr × Nat) (fun x a w => match x with | (k, H3, Aa, ca) => (k ≤ p.defs.length ∧ LE Hk H3 ∧ SS H3 Aa ca (p.known k)) ∧ S E H3 124 [] [(44, .int .i64 (k : Int)), (43, .int .i64 (p.defs.length : Int)), (42, .slice A3 p.defs.length c3), (7, .slice Aa (p.known k).length ca), (1, .pointer (some ⟨g1, 0, none⟩)), (2, .pointer (some ⟨g2, 0, none⟩)), (4, .pointer (some ⟨g4, 0, none⟩)), (3, .int .i64 0)] (.obj g4 (.cells #[.slice B (p.known 0).length cp] 70 (0, 0)) :: .obj g2 (.cells #[.slice none 0 0, .slice none 0 0, .slice none 0 0, .int .i64 0, .string ⟨#[]⟩, .int .i64 0, .slice none 0 0] 28 (0, 0)) :: L) a w)
    (fun x => match x with | (k, H3, Aa, ca) => p.defs.length - k) (0, Hk, B, cp) ⟨⟨Nat.zero_le _, LE.rfl, hk0⟩, h.to 0 _⟩ ?_
   rintro ⟨k, H3, Aa, ca⟩ a w ⟨pre, h⟩
   obtain ⟨hkk, l_Hk_H3, hsa⟩ := pre
   have l_Hd_H3 := l_Hd_Hk.trans l_Hk_H3
   have l_Hf_H3 := l_Hf_Hk.trans l_Hk_H3
   have l_H_H3 := l_H_Hk.trans l_Hk_H3
   have hkn := known_len p k
   refine au [1,2,6,4,0,3,0,4] h ?_; intro a w h
   refine cdB h (fun c45 => ?_) (fun c45 => ?_)
   ·have c45 : k < p.defs.length := by simpa using c45
    obtain ⟨g, off, A6, c6, rfl, hvt, hcell⟩ := FS.get (hdf.up l_Hf_H3) c45
    refine au [1,8,1,0,0,4,1,5,1,2] h ?_
    refine ia sli26 sz61 rfl c45 h fun a w h => ?_
    refine ldHN tN61 rfl hcell h fun a w h => ?_
    refine al zr61 h fun g9 a w h => ?_
    refine au [5,5,0,3] h ?_; intro a w h
    refine rgx [0] [_] [3] 7 mix h (fun a w h => ?_)
    refine au [8,0,0,0,2,6,8,2,0,7,2,6,8,3,3,8,2,6] h ?_; intro a w h
    refine brl2 1 4 true false (by kernel_rfl) (by kernel_rfl) (by kernel_rfl) (fun _ => h.st.sees' (by first | exact LE.rfl | assumption) (by simp)) ?_ ?_
    ·refine cl bod25 (Clip_ok Aa (p.known k).length ca (rs_le hsa) E H3 _) h (fun r49 H49 L49 a w le49 R h => ?_) (hS := fun _ _ _ _ _ le R hw => by obtain ⟨rfl, rfl, rfl⟩ := R; exact hw.sees' (by first | exact le | exact LE.trans (by assumption) le) (by simp))
     obtain ⟨rfl, rfl, rfl⟩ := R
     refine br0 ?_
     refine brl1 4 false (by kernel_rfl) (by kernel_rfl) (fun _ => h.st.sees' (by first | exact LE.rfl | assumption) (by simp)) ?_
     refine bsl bs70 h fun g52 a w h => ?_
     refine br0 ?_
     refine brl1 5 true (by kernel_rfl) (by kernel_rfl) (fun _ => h.st.sees' (by first | exact LE.rfl | assumption) (by simp)) ?_
     refine apc 0 [_] row70 (rs_clip hsa) h ?_ ?_ fun A53 c53 olds a w hol h => ?_
     ·omega
     ·omega
     have hkl : (p.known k).length + 1 = (p.known (k + 1)).length := by rw [known_succ p c45, List.length_append]; rfl
     have hr53 : RowR RStr 1 H3 (olds ++ [str p.defs[k].name]) (p.known (k + 1)) := by rw [known_succ p c45]; exact hol.snoc rfl rfl
     rw [hkl] at h
     obtain ⟨H4, leH4, h, hsa2⟩ := h.frw 0 (ys := p.known (k + 1)) hr53 rfl (fun _ _ _ _ _ h => h)
     have l_H_H4 : LE H H4 := l_H_H3.trans leH4
     have l_Hf_H4 : LE Hf H4 := l_Hf_H3.trans leH4
     have l_Hd_H4 : LE Hd H4 := l_Hd_H3.trans leH4
     have l_Hk_H4 : LE Hk H4 := l_Hk_H3.trans leH4
     have l_H3_H4 : LE H3 H4 := leH4
     refine au [2,7,8,6,0,6,2,6] h ?_; intro a w h
     refine en (by kernel_rfl) ?_
     refine au [1,7,1,0,0,5] h ?_
     have h := h.pull 3 rfl rfl
     have h := h.pull 3 rfl rfl
     have h := h.del 3
     have h := h.del 2
     refine inc ?_ h fun a w h => ?_
     ·omega
     refine au [0,0,0,3] h ?_; intro a w h
     exact ⟨(k + 1, H4, A53, c53), ⟨⟨by omega, l_Hk_H4, hsa2⟩, h.to 0 _⟩, by show _ - (k + 1) < _ - k; omega⟩
    ·refine bsl bs70 h fun g52 a w h => ?_
     refine br0 ?_
     refine brl1 1 true (by kernel_rfl) (by kernel_rfl) (fun _ => h.st.sees' (by first | exact LE.rfl | assumption) (by simp)) ?_
     refine cl bod25 (Clip_ok Aa (p.known k).length ca (rs_le hsa) E H3 _) h (fun r49 H49 L49 a w le49 R h => ?_) (hS := fun _ _ _ _ _ le R hw => by obtain ⟨rfl, rfl, rfl⟩ := R; exact hw.sees' (by first | exact le | exact LE.trans (by assumption) le) (by simp))
     obtain ⟨rfl, rfl, rfl⟩ := R
     refine br0 ?_
     refine brl1 5 true (by kernel_rfl) (by kernel_rfl) (fun _ => h.st.sees' (by first | exact LE.rfl | assumption) (by simp)) ?_
     refine apc 0 [_] row70 (rs_clip hsa) h ?_ ?_ fun A53 c53 olds a w hol h => ?_
     ·omega
     ·omega
     have hkl : (p.known k).length + 1 = (p.known (k + 1)).length := by rw [known_succ p c45, List.length_append]; rfl
     have hr53 : RowR RStr 1 H3 (olds ++ [str p.defs[k].name]) (p.known (k + 1)) := by rw [known_succ p c45]; exact hol.snoc rfl rfl
     rw [hkl] at h
     obtain ⟨H4, leH4, h, hsa2⟩ := h.frw 0 (ys := p.known (k + 1)) hr53 rfl (fun _ _ _ _ _ h => h)
     have l_H_H4 : LE H H4 := l_H_H3.trans leH4
     have l_Hf_H4 : LE Hf H4 := l_Hf_H3.trans leH4
     have l_Hd_H4 : LE Hd H4 := l_Hd_H3.trans leH4
     have l_Hk_H4 : LE Hk H4 := l_Hk_H3.trans leH4
     have l_H3_H4 : LE H3 H4 := leH4
     refine au [2,7,8,6,0,6,2,6] h ?_; intro a w h
     refine en (by kernel_rfl) ?_
     refine au [1,7,1,0,0,5] h ?_
     have h := h.pull 3 rfl rfl
     have h := h.pull 3 rfl rfl
     have h := h.del 3
     have h := h.del 2
     refine inc ?_ h fun a w h => ?_
     ·omega
     refine au [0,0,0,3] h ?_; intro a w h
     exact ⟨(k + 1, H4, A53, c53), ⟨⟨by omega, l_Hk_H4, hsa2⟩, h.to 0 _⟩, by show _ - (k + 1) < _ - k; omega⟩
   ·have hke : k = p.defs.length := by simp at c45; omega
    subst hke
    refine au [2,5,2,2,2,2,2,3,1,0,0,4,1,2,0,0,6,0,0,0,0,3,1,5] h ?_; intro a w h
    refine lp (β := Nat) (fun j a w => (j ≤ (p.known p.defs.length).length ∧ ∀ i (hi : i < (p.known p.defs.length).length), i < j → decide (indexL (p.known p.defs.length) (p.known p.defs.length)[i] < (i : Int)) = false) ∧ S E H3 124 [] [(57, .int .i64 (j : Int)), (56, .int .i64 ((p.known p.defs.length).length : Int)), (55, .slice Aa (p.known p.defs.length).length ca), (7, .slice Aa (p.known p.defs.length).length ca), (1, .pointer (some ⟨g1, 0, none⟩)), (2, .pointer (some ⟨g2, 0, none⟩)), (4, .pointer (some ⟨g4, 0, none⟩)), (3, .int .i64 0)] (.obj g4 (.cells #[.slice B (p.known 0).length cp] 70 (0, 0)) :: .obj g2 (.cells #[.slice none 0 0, .slice none 0 0, .slice none 0 0, .int .i64 0, .string ⟨#[]⟩, .int .i64 0, .slice none 0 0] 28 (0, 0)) :: L) a w)
     (fun j => (p.known p.defs.length).length - j) 0 ⟨⟨Nat.zero_le _, fun i hi h0 => absurd h0 (by omega)⟩, h.to 0 _⟩ ?_
    rintro j a w ⟨pre, h⟩
    refine au [1,2,6,4,0,3,0,4] h ?_; intro a w h
    refine cdB h (fun c58 => ?_) (fun c58 => ?_)
    ·have c58 : j < (p.known p.defs.length).length := by simpa using c58
     obtain ⟨g, off, rfl, hcell⟩ := SS.get hsa c58
     refine au [1,8,1,0,0,4,1,5,1,2,0,0] h ?_; intro a w h
     refine ia sli70 sz9 rfl c58 h fun a w h => ?_
     refine ldH t1_9 hcell h fun a w h => ?_
     refine au [0,6,0,6,0,2,0,0,0,0] h ?_; intro a w h
     refine cl bod26 (Index_ok (p.known p.defs.length) _ _ ca E H3 _ hsa (by omega)) h fun r64 H64 L64 a w le64 R h => ?_
     obtain ⟨rfl, rfl, rfl⟩ := R
     refine au [0,0,6,4,0,3] h ?_; intro a w h
     refine cdB h (fun c66 => ?_) (fun c66 => ?_)
     ·have er : p.resolve = (Pg.zero, 6) := by unfold Pg.resolve; rw [if_neg (by rw [hrt]; simp), if_pos (twice_yes c58 c66)]
      refine au [1,2,7,5,5,6,0,6,0,3,1,3,1,6,1,4,1,4,1,6,1,4] h ?_; intro a w h
      rw [er]
      exact fin (rs := [.cell 2 28, .tmp 3]) (vs := [.agg #[_, _, _, _, _, _, _], .int .i64 _]) h rfl (.agg (k0 := 1) tN28 rfl rfl rfl (.tmp rfl .nil)) rfl l_H_H3 ⟨LE.rfl, h.st.drop 2⟩ ⟨_, rfl, vp_zero _, rfl⟩
     ·refine au [1,8,1,7,1,0,0,5] h ?_
      have h := h.pull 1 rfl rfl
      have h := h.pull 1 rfl rfl
      refine inc ?_ h fun a w h => ?_
      ·omega
      refine au [0,0,0,3] h ?_; intro a w h
      exact ⟨(j + 1), ⟨⟨by omega, fun i hi hij => by rcases Nat.lt_succ_iff_lt_or_eq.1 hij with h0 | rfl <;> first | exact c66 | exact pre.2 i hi h0⟩, h.to 0 _⟩, by show _ - (j + 1) < _ - j; omega⟩
    ·have hje : j = (p.known p.defs.length).length := by simp at c58; omega
     have htw : p.twice = false := twice_no fun i hi => pre.2 i hi (by omega)
     refine au [2,5,2,2,2,2,2,3,1,0,0,4] h ?_
     have h := back1.get l_Hk_H3 h
     refine au [0,5,7,3,0,6,0,3,0,4] h ?_; intro a w h
     have e0 : (p.known 0).length ≤ 64 := by have := known_len p 0; unfold Pg.known at *; simp at *; omega
     refine au [0,5,0,7] h ?_; intro a w h
     refine ldH t1_25 (Hc.of (l_Hf_Hd _ _ hf1) rfl) h fun a w h => ?_
     refine fa fl28_1 (r := 1) h fun a w h => ?_
     refine ldH t1_25 (Hc.of (l_Hf_Hd _ _ hf1) rfl) h fun a w h => ?_
     refine bdl lay28 zr28 h fun a w h => ?_
     refine al zr28 h fun g13 a w h => ?_
     refine au [5,5,0,2,0,6,0,3,0,4,0,4] h ?_; intro a w h
     have h := h.row (e := 61) (sz := 5)
     have hdg := hdf.up l_Hf_Hd
     have hkg := hkf.up l_Hf_Hd
     have hLg := hLf.up l_Hf_Hd
     refine au [0,5,0,7] h ?_; intro a w h
     refine ldH t1_26 (Hc.of (l_Hf_Hd _ _ hf1) rfl) h fun a w h => ?_
     refine au [6,0,0,0,0,3,1,5] h ?_; intro a w h
     have h := h.pull 4 rfl rfl
     have h := h.pull 1 rfl rfl
     have h := h.pull 2 rfl rfl
     have h := h.pull 3 rfl rfl
     have h := h.pull 4 rfl rfl
     refine lp (β := Nat × GH × List Df × Int × Option Addr × Nat × List Value × Option Addr × Nat × List Value) (fun x a w => match x with | (k, H5, ds, n, B5, cp5, xs5, C, cq, ys) => (k ≤ p.defs.length ∧ LE Hd H5 ∧ p.go k = some (ds, n) ∧ In64 n ∧ ds.length = k ∧ RowR RStr 1 H5 xs5 (p.known k) ∧ RowR RDf 5 H5 ys ds) ∧ S E H5 124 [] [(78, .int .i64 (k : Int)), (77, .int .i64 (p.defs.length : Int)), (76, .slice A3 p.defs.length c3), (12, .func (.func 27) #[] #[.pointer (some ⟨g4, 0, none⟩)]), (14, .int .i64 n), (1, .pointer (some ⟨g1, 0, none⟩)), (2, .pointer (some ⟨g2, 0, none⟩)), (4, .pointer (some ⟨g4, 0, none⟩)), (13, .pointer (some ⟨g13, 0, none⟩)), (3, .int .i64 0)] (.obj g4 (.cells #[.slice B5 (p.known k).length cp5] 70 (0, 0)) :: .row (.slice B5 (p.known k).length cp5) 9 1 (p.known k).length xs5 :: .obj g13 (.cells #[.slice A1 p.inputs.length c1, .slice A2 p.cells.length c2, .slice C k cq, .int .i64 0, .string ⟨#[]⟩, .int .i64 0, .slice none 0 0] 28 (0, 0)) :: .row (.slice C k cq) 61 5 k ys :: .obj g2 (.cells #[.slice none 0 0, .slice none 0 0, .slice none 0 0, .int .i64 0, .string ⟨#[]⟩, .int .i64 0, .slice none 0 0] 28 (0, 0)) :: L) a w)
      (fun x => match x with | (k, H5, ds, n, B5, cp5, xs5, C, cq, ys) => p.defs.length - k) (0, Hd, [], 1, B, cp, xs, none, 0, []) ⟨⟨Nat.zero_le _, LE.rfl, rfl, ⟨by decide, by decide⟩, rfl, hrow, RowR.nil⟩, h.to 0 _⟩ ?_
     rintro ⟨k, H5, ds, n, B5, cp5, xs5, C, cq, ys⟩ a w ⟨pre, h⟩
     obtain ⟨hkk, l_Hd_H5, hgo, hn, hdl, hrk, hrd⟩ := pre
     have l_Hf_H5 := l_Hf_Hd.trans l_Hd_H5
     have l_H_H5 := l_H_Hd.trans l_Hd_H5
     have hkn := known_len p k
     refine au [1,2,6,4,0,3,0,4] h ?_; intro a w h
     refine cdB h (fun c79 => ?_) (fun c79 => ?_)
     ·have c79 : k < p.defs.length := by simpa using c79
      obtain ⟨g, off, A6, c6, rfl, hvt, hcell⟩ := FS.get (hdg.up l_Hd_H5) c79
      obtain ⟨A7, c7, e7, hkt⟩ := hvt
      cases e7
      refine au [1,8,1,0,0,4,1,5,1,2] h ?_
      refine ia sli26 sz61 rfl c79 h fun a w h => ?_
      refine ldHN tN61 rfl hcell h fun a w h => ?_
      refine al zr61 h fun g16 a w h => ?_
      refine au [5,5,0,3,0,4,1,2,0,0,0,7] h ?_; intro a w h
      refine ldN 0 tN24 h fun a w h => ?_
      obtain ⟨Ha, leHa, h, hka, backa⟩ := h.lendR 2 (ys := (p.known k)) hrk rfl (fun _ _ _ _ _ h => h)
      obtain ⟨Hb, leHb, h, hfb, backb⟩ := h.lendO 1
      refine cl bod27 (strange_ok p.defs[k].t _ (p.known k) B5 cp5 g4 E Hb _ (VDf.t (hkt.up (leHa.trans leHb))) ((hb.f _ (List.getElem_mem c79)).2.1) ((hb.f _ (List.getElem_mem c79)).2.2) (SS.up hka leHb) (Hc.of hfb rfl) (by omega)) h fun r85 H85 L85 a w le85 R h => ?_
      obtain ⟨rfl, rfl, rfl⟩ := R
      have h := backb.get LE.rfl h
      have h := backa.get LE.rfl h
      refine au [0,3] h ?_
      refine cdB h (fun c85 => ?_) (fun c85 => ?_)
      ·have hgo3 : p.go (k + 1) = none := by rw [go_succ hgo c79, if_pos c85]
       have er : p.resolve = (Pg.zero, 5) := by unfold Pg.resolve; rw [if_neg (by rw [hrt]; simp), if_neg (by rw [htw]; simp), go_none hgo3 _ (by omega)]
       refine au [1,2,7,5] h ?_; intro a w h
       refine sw5 tN28 h fun a w h => ?_
       refine au [0,6,0,3,1,3,1,4,1,6,1,4,1,4,1,6,1,4] h ?_; intro a w h
       rw [er]
       exact fin (rs := [.cell 2 28, .tmp 3]) (vs := [.agg #[_, _, _, _, _, _, _], .int .i64 _]) h rfl (.agg (k0 := 5) tN28 rfl rfl rfl (.tmp rfl .nil)) rfl l_H_H5 ⟨LE.rfl, h.st.drop 6⟩ ⟨_, rfl, vp_zero _, rfl⟩
      ·have hgo2 : p.go (k + 1) = some (ds ++ [⟨p.defs[k].name, (p.defs[k].t.ren noS n).1⟩], (p.defs[k].t.ren noS n).2) := by rw [go_succ hgo c79, if_neg (by rw [c85]; simp)]; rfl
       refine au [1,8,1,0,1,2,0,7] h ?_; intro a w h
       refine ldN 2 tN24 h fun a w h => ?_
       refine mv h fun a w h => ?_
       refine cl bod5 (Rename_ok p.defs[k].t _ n E H5 _ (VDf.t hkt) (hLg.up l_Hd_H5) hn ((hb.f _ (List.getElem_mem c79)).2.2)) h fun r91 H91 L91 a w le91 R h => ?_
       obtain ⟨v91, rfl, ⟨A91, c91, rfl, hk91⟩, rfl⟩ := R
       have l_H_H91 : LE H H91 := l_H_H5.trans le91
       have l_Hf_H91 : LE Hf H91 := l_Hf_H5.trans le91
       have l_Hd_H91 : LE Hd H91 := l_Hd_H5.trans le91
       have l_H5_H91 : LE H5 H91 := le91
       refine au [0,0,4,7,4,7] h ?_; intro a w h
       refine al zr24 h fun g17 a w h => ?_
       refine au [5,5,0,6,0,2,0,0,0,6,0,2,0,7,3,2,0,7,3,1,3,3,7,5] h ?_; intro a w h
       refine bsl bs26 h fun g101 a w h => ?_
       refine apb 6 0 (L' := fun i => _ :: _ :: _ :: _ :: _ :: _ :: i :: _) [_, _, _, _, _] row26 h ?_ ?_ fun v102 a w hone h => ?_
       ·omega
       ·omega
       obtain ⟨C8, cq8, rfl⟩ := h.rowv 6
       have hrd2 : RowR RDf 5 H91 (ys ++ [str p.defs[k].name, .int .i64 (p.defs[k].t.ren noS n).1.kind, str (p.defs[k].t.ren noS n).1.name, .int .i64 (p.defs[k].t.ren noS n).1.n, .slice A91 (p.defs[k].t.ren noS n).1.kids.length c91]) (ds ++ [⟨p.defs[k].name, (p.defs[k].t.ren noS n).1⟩]) := (hrd.mono fun cs y _ hr => RDf.mono l_H5_H91 hr).snoc rfl ⟨_, rfl, rt_of_vt (cs := [_, _, _, _]) ⟨A91, c91, rfl, hk91⟩⟩
       refine fa fl28_2 (r := 2) h fun a w h => ?_
       refine st5 (l := [_, _, _, _, _, _, _]) t1_26 h fun a w h => ?_
       refine au [0,3,0,5,3,1,0,7,3,2] h ?_; intro a w h
       refine bsl bs70 h fun g107 a w h => ?_
       refine apb 3 0 (L' := fun i => _ :: _ :: _ :: i :: _) [_] row70 h ?_ ?_ fun v108 a w hone h => ?_
       ·omega
       ·omega
       obtain ⟨B8, cp8, rfl⟩ := h.rowv 3
       have hrk2 : RowR RStr 1 H91 (xs5 ++ [str p.defs[k].name]) (p.known (k + 1)) := by rw [known_succ p c79]; exact (hrk.mono fun _ _ _ h => h).snoc rfl rfl
       have hkl : (p.known k).length + 1 = (p.known (k + 1)).length := by rw [known_succ p c79, List.length_append]; rfl
       rw [hkl] at h
       refine st4 (l := [_]) t1_70 h fun a w h => ?_
       refine au [1,1,1,7,1,0,0,5] h ?_
       have h := h.pull 8 rfl rfl
       have h := h.pull 8 rfl rfl
       have h := h.pull 8 rfl rfl
       have h := h.pull 6 rfl rfl
       have h := h.pull 7 rfl rfl
       have h := h.del 8
       have h := h.del 7
       have h := h.del 6
       have h := h.del 5
       refine inc ?_ h fun a w h => ?_
       ·omega
       refine au [0,0,0,3] h ?_; intro a w h
       exact ⟨(k + 1, H91, _, _, B8, cp8, _, C8, cq8, _), ⟨⟨by omega, l_Hd_H91, hgo2, ren_in _ _ _ hn, by rw [List.length_append, hdl]; rfl, hrk2, hrd2⟩, h.to 0 _⟩, by show _ - (k + 1) < _ - k; omega⟩
     ·have hke : k = p.defs.length := by simp at c79; omega
      subst hke
      refine au [2,5,2,2,2,2,2,3,1,0,0,4,1,2,0,0,0,7] h ?_; intro a w h
      refine ldHN (l := [_, _, _, _]) tN24 rfl (Hc.sub 3 4 (l_Hf_H5 _ _ hf1)) h fun a w h => ?_
      obtain ⟨Ha, leHa, h, hka, backa⟩ := h.lendR 1 (ys := (p.known p.defs.length)) hrk rfl (fun _ _ _ _ _ h => h)
      obtain ⟨Hb, leHb, h, hfb, backb⟩ := h.lendO 0
      refine cl bod27 (strange_ok p.body _ (p.known p.defs.length) B5 cp5 g4 E Hb _ (⟨A4, c4, rfl, hkg.up ((l_Hd_H5).trans (leHa.trans leHb))⟩) (hb.b1) (hb.b2) (SS.up hka leHb) (Hc.of hfb rfl) (by omega)) h fun r113 H113 L113 a w le113 R h => ?_
      obtain ⟨rfl, rfl, rfl⟩ := R
      have h := backb.get LE.rfl h
      have h := backa.get LE.rfl h
      refine au [0,3] h ?_
      refine cdB h (fun c113 => ?_) (fun c113 => ?_)
      ·have er : p.resolve = (Pg.zero, 5) := by unfold Pg.resolve; rw [if_neg (by rw [hrt]; simp), if_neg (by rw [htw]; simp), hgo]; exact if_pos c113
       refine au [1,2,7,5] h ?_; intro a w h
       refine sw4 tN28 h fun a w h => ?_
       refine au [0,6,0,3,1,3,1,4] h ?_; intro a w h
       rw [er]
       exact fin (rs := [.cell 2 28, .tmp 3]) (vs := [.agg #[_, _, _, _, _, _, _], .int .i64 _]) h rfl (.agg (k0 := 4) tN28 rfl rfl rfl (.tmp rfl .nil)) rfl l_H_H5 ⟨LE.rfl, h.st.drop 5⟩ ⟨_, rfl, vp_zero _, rfl⟩
      ·have er : p.resolve = (⟨p.inputs, p.cells, ds, (p.body.ren noS n).1⟩, 0) := by unfold Pg.resolve; rw [if_neg (by rw [hrt]; simp), if_neg (by rw [htw]; simp), hgo]; exact if_neg (by rw [c113]; simp)
       refine au [1,8,1,0,1,2,0,7] h ?_; intro a w h
       refine ldHN (l := [_, _, _, _]) tN24 rfl (Hc.sub 3 4 (l_Hf_H5 _ _ hf1)) h fun a w h => ?_
       refine mv h fun a w h => ?_
       refine cl bod5 (Rename_ok p.body _ n E H5 _ (⟨A4, c4, rfl, hkg.up l_Hd_H5⟩) (hLg.up l_Hd_H5) hn (hb.b2)) h fun r119 H119 L119 a w le119 R h => ?_
       obtain ⟨v119, rfl, ⟨A119, c119, rfl, hk119⟩, rfl⟩ := R
       have l_H_H119 : LE H H119 := l_H_H5.trans le119
       have l_Hf_H119 : LE Hf H119 := l_Hf_H5.trans le119
       have l_Hd_H119 : LE Hd H119 := l_Hd_H5.trans le119
       have l_H5_H119 : LE H5 H119 := le119
       refine au [0,0,4,7,4,7,0,7] h ?_; intro a w h
       refine stN (vs := [_, _, _, _]) 2 tN24 h (fun a w h => ?_) [_, _, _, _, _, _, _]
       refine au [0,2,3,5] h ?_; intro a w h
       refine sw4 tN28 h fun a w h => ?_
       refine au [0,6,0,3,1,3] h ?_; intro a w h
       obtain ⟨He, leHe, h, hrs⟩ := h.frw (R := RDf) 3 (hrd.mono fun cs y _ hr => RDf.mono l_H5_H119 hr) hdl.symm (fun H6 l6 cs y _ hr => RDf.mono l6 hr)
       have l_H_He : LE H He := l_H_H119.trans leHe
       have l_Hf_He : LE Hf He := l_Hf_H119.trans leHe
       have l_Hd_He : LE Hd He := l_Hd_H119.trans leHe
       have l_H5_He : LE H5 He := l_H5_H119.trans leHe
       have l_H119_He : LE H119 He := leHe
       rw [er]
       exact fin (rs := [.cell 2 28, .tmp 3]) (vs := [.agg #[_, _, _, _, _, _, _], .int .i64 _]) h rfl (.agg (k0 := 3) tN28 rfl rfl rfl (.tmp rfl .nil)) rfl l_H_He ⟨LE.rfl, h.st.drop 4⟩ ⟨_, rfl, vp_of (hi.up l_H_He) (hc.up l_H_He) hdl.symm hrs (KS.up hk119 l_H119_He), rfl⟩
end Go.Proofs.YtdabamobjciidaaGreatDoor
namespace Go.Proofs.YtdabamobjciidaaGreatDoor.X
open Go
section
variable {P : Program} {ops : Array Oper} {Q : Exit → Act → World → Prop} {γ : Gd P ops Q} {rest : List Oper} {o : Oper} {E w : World} {H : GH} {N : Nat} {D : List Deferred} {F : List (Nat × Value)} {L LP : List It} {a : Act} {v : Value} {Pn : Prop}
variable {x : Operand} {d : Nat}
end
section
variable {P : Program} {ops : Array Oper} {Q : Exit → Act → World → Prop} {γ : Gd P ops Q} {rest : List Oper} {o : Oper} {E w : World} {H : GH} {N : Nat} {D : List Deferred} {F : List (Nat × Value)} {L : List It} {a : Act}
variable {t u t' : TypeId} {x y : Operand} {d : Nat} {v : Value} {g off : Nat} {kd : IntKind}
end
section
variable {P : Program} {ops : Array Oper} {Q : Exit → Act → World → Prop} {γ : Gd P ops Q} {rest : List Oper} {o : Oper} {E w : World} {H : GH} {N : Nat} {D : List Deferred} {F : List (Nat × Value)} {L : List It} {a : Act}
variable {t u kt et : TypeId} {x y : Operand} {d : Nat} {v : Value} {g : Nat}
variable {κ : Type} [DecidableEq κ] {enc : κ → Value} {kind : TypeDesc} {f : κ → Option Value}
def setV : List Value → Nat → Value → Option (List Value)
 | [], _, _ => none
 | _ :: l, 0, v => some (v :: l)
 | x :: l, n + 1, v => match setV l n v with
   | some l' => some (x :: l')
   | none => none
theorem setV_set : ∀ {l l' : List Value} {n : Nat} {v : Value}, setV l n v = some l' → l.set n v = l' ∧ n < l.length
 | [], _, _, _, h => by simp [setV] at h
 | x :: l, l', 0, v, h => by simp only [setV, Option.some.injEq] at h; subst h; simp
 | x :: l, l', n + 1, v, h => by
   simp only [setV] at h
   split at h
   · rename_i l2 e; cases h; obtain ⟨h1, h2⟩ := setV_set e; simp [h1, h2]
   · cases h
theorem setV_eq {cs : Array Value} {l : List Value} {n : Nat} {v : Value} (h : setV cs.toList n v = some l) : cs.setIfInBounds n v = l.toArray ∧ Nat.blt n cs.size = true := by
 obtain ⟨h1, h2⟩ := setV_set h
 refine ⟨?_, by simpa [Nat.blt_eq] using h2⟩
 rw [← h1, ← Array.toList_setIfInBounds]
def setVs (cs : List Value) (o : Nat) : List Value → Option (List Value)
 | [] => some cs
 | v :: l => match setV cs o v with
   | some cs' => setVs cs' (o + 1) l
   | none => none
theorem setVs_wr : ∀ (vs cs out : List Value) (o : Nat), o + vs.length ≤ cs.length → setVs cs o vs = some out → wr cs.toArray o vs = out.toArray
 | [], cs, out, o, _, h => by simp only [setVs, Option.some.injEq] at h; subst h; rfl
 | v :: l, cs, out, o, hle, h => by
   simp only [setVs] at h
   split at h
   · rename_i cs' e
     have h1 := setV_eq (cs := cs.toArray) (by simpa using e)
     have h2 := (setV_set e).1
     simp only [List.length_cons] at hle
     have := setVs_wr l cs' out (o + 1) (by rw [← h2, List.length_set]; omega) h
     rw [wr, h1.1]; exact this
   · cases h
theorem stp (k0 : Nat) {n off : Nat} {vs cs : Array Value} {ty : TypeId} {l : List Value} {L' : List It} (ht : tyN P t n = true) (h : S E H N D F L a w) (k : ∀ a w, S E H N D F L' a w → γ.G rest a w)
   (ho : o.op = .store t x y := by rfl) (hx : ev F x = some (.pointer (some ⟨g, off, none⟩)) := by rfl) (hy : ev F y = some (.agg vs) := by rfl)
   (hk : L[k0]? = some (.obj g (.cells cs ty (0, 0))) := by rfl) (hl : setVs cs.toList off vs.toList = some l := by rfl) (hL : L.set k0 (.obj g (.cells l.toArray ty (0, 0))) = L' := by rfl) (hn : vs.size = n := by rfl) (hle : Nat.ble (off + vs.size) cs.size = true := by rfl) (h1 : vs.toList.all (·.oneCell') = true := by rfl)
   (hw : wn ops F o = some true := by rfl) (hd : o.dst = none := by rfl) (hE : γ.isE rest.length = true := by rfl) (hS : γ.isN rest.length = true → ∀ w, St E H L' w → γ.S w := by first | exact fun e => Bool.noConfusion (show false = true from e) | exact fun _ _ hw => hw.sees' LE.rfl (by simp) | exact fun _ _ hw => hw.sees' (by assumption) (by simp)) : γ.G (o :: rest) a w := by
 subst hL
 have hle' : off + vs.size ≤ cs.size := by simpa [Nat.ble_eq] using hle
 obtain ⟨d', hu, hr, hi⟩ := und_ofN ht
 have hwr := setVs_wr _ _ _ _ (by simpa using hle') hl
 obtain ⟨w', hrun, r1, r2, r3, r4, r5⟩ := run_stores (P := P) (g := g) (off := off) (ty := ty) vs.toList 0 cs w (item_at h.st.sees hk) (by simpa using hle') (fun v hv => List.all_eq_true.1 h1 v hv)
 refine unit_ h hw hd hE hS (w' := w') ?_ (h.st.wrote hk r1 r2 r3 (by rw [← hwr]; simpa using r5)) k
 have hsz : (P.info? t).map (·.size) = some vs.size := by rw [hi, hn]
 cases hinfo : P.info? t with
 | none => rw [hinfo] at hsz; cases hsz
 | some i =>
   rw [hinfo] at hsz
   simp at hsz
   simp [execOp, ho, h.ag.ev hx, h.ag.ev hy, Instr.storeAt, Instr.sureAddr, storeVar, sizeOf, typeInfo, hinfo, hsz, Value.cells, hrun]
end
end Go.Proofs.YtdabamobjciidaaGreatDoor.X
namespace Go.Proofs.YtdabamobjciidaaGreatDoor
open Go X
theorem tm_eta (t : Tm) : Tm.mk t.kind t.name t.n t.kids = t := by cases t; rfl
def goL (p : Pg) (k : Nat) : List Df × Int := (p.go k).getD ([], 1)
def GoOk (p : Pg) (k : Nat) : Prop := p.go k = some (goL p k) ∧ In64 (goL p k).2
theorem goL_zero (p : Pg) : GoOk p 0 := ⟨rfl, by show In64 1; exact ⟨by decide, by decide⟩⟩
theorem goL_succ {p : Pg} {k : Nat} (h : GoOk p k) (hk : k < p.defs.length) (hs : p.defs[k].t.strange (p.known k) = false) :
   goL p (k + 1) = ((goL p k).1 ++ [⟨p.defs[k].name, (p.defs[k].t.ren (lookR []) (goL p k).2).1⟩], (p.defs[k].t.ren (lookR []) (goL p k).2).2) ∧ GoOk p (k + 1) := by
 have e := go_succ (ds := (goL p k).1) (n := (goL p k).2) h.1 hk
 rw [if_neg (by rw [hs]; simp)] at e
 have e2 : goL p (k + 1) = ((goL p k).1 ++ [⟨p.defs[k].name, (p.defs[k].t.ren (lookR []) (goL p k).2).1⟩], (p.defs[k].t.ren (lookR []) (goL p k).2).2) := by unfold goL at *; rw [e]; rfl
 exact ⟨e2, by rw [e2]; exact e, by rw [e2]; exact ren_in _ _ _ h.2⟩
theorem res_bad {p : Pg} (h : (!p.right) = true) : p.resolve = (Pg.zero, 11) := by unfold Pg.resolve; rw [if_pos h]
theorem res_tw {p : Pg} {m i : Nat} (hr : (!p.right) = false) (hm : m = p.defs.length) (hi : i < (p.known m).length) (h : ((p.known m).take i).contains (p.known m)[i] = true) : p.resolve = (Pg.zero, 6) := by
 subst hm; unfold Pg.resolve; rw [if_neg (by rw [hr]; simp), if_pos (twice_t hi h)]
theorem res_nt {p : Pg} {m : Nat} (hm : m = p.defs.length) (h : ∀ i (hi : i < (p.known m).length), ((p.known m).take i).contains (p.known m)[i] = false) : p.twice = false := by subst hm; exact twice_f h
theorem res_st {p : Pg} {k : Nat} (hr : (!p.right) = false) (ht : p.twice = false) (h : GoOk p k) (hk : k < p.defs.length) (hs : p.defs[k].t.strange (p.known k) = true) : p.resolve = (Pg.zero, 5) := by
 have e := go_succ (ds := (goL p k).1) (n := (goL p k).2) h.1 hk
 rw [if_pos hs] at e
 unfold Pg.resolve; rw [if_neg (by rw [hr]; simp), if_neg (by rw [ht]; simp), go_none e _ (by omega)]
theorem res_sb {p : Pg} {k : Nat} (hr : (!p.right) = false) (ht : p.twice = false) (h : GoOk p k) (hk : k = p.defs.length) (hs : p.body.strange (p.known k) = true) : p.resolve = (Pg.zero, 5) := by
 subst hk; unfold Pg.resolve; rw [if_neg (by rw [hr]; simp), if_neg (by rw [ht]; simp), h.1]; exact if_pos hs
theorem res_ok {p : Pg} {k : Nat} (hr : (!p.right) = false) (ht : p.twice = false) (h : GoOk p k) (hk : k = p.defs.length) (hs : p.body.strange (p.known k) = false) : p.resolve = (⟨p.inputs, p.cells, (goL p k).1, (p.body.ren (lookR []) (goL p k).2).1⟩, 0) := by
 subst hk; unfold Pg.resolve; rw [if_neg (by rw [hr]; simp), if_neg (by rw [ht]; simp), h.1]; exact if_neg (by rw [hs]; simp)
theorem go_len {p : Pg} : ∀ {k : Nat} {ds : List Df} {n : Int}, p.go k = some (ds, n) → ds.length = k
 | 0, ds, n, h => by simp only [Pg.go, Option.some.injEq, Prod.mk.injEq] at h; rw [← h.1]; rfl
 | k + 1, ds, n, h => by
   simp only [Pg.go] at h
   split at h
   · rename_i ds0 n0 d hg hd
     have := go_len hg
     split at h
     · cases h
     · simp only [Option.some.injEq, Prod.mk.injEq] at h
       rw [← h.1]; simp [this]
   · cases h
theorem Resolve7_ok (p : Pg) (v : Value) (E : World) (H : GH) (L : List It) (hv : VP H v p) (hM : Mild p) (hi0 : p.inputs.length < 100000000000) (hc0 : p.cells.length < 100000000000) (hd0 : p.defs.length < 100000000000) (hf : ∀ d ∈ p.defs, d.t.size < 1000000000) (hb : p.body.size < 1000000000) : Ok Tryz.prog 13 #[v] E H L fun r H' L' => ∃ v', r = .tuple #[v', .int .i64 p.resolve.2] ∧ VP H' v' p.resolve.1 ∧ L = L' := by
 obtain ⟨Ap0, cp0, Ap1, cp1, Ap2, cp2, Ap3, cp3, rfl, hp0, hp1, hp2, hp3⟩ := hv
 refine enter (N := 123) [(0, _)] Tryz.func13 rfl rfl rfl rfl fun a w h => ?_
 refine au [1,2] h ?_
 refine bxA h fun g1 a w h => ?_
 refine al zr50 h fun g2 a w h => ?_
 refine au [0,6,0,3,0,4,1,2,3,4] h ?_; intro a w h
 refine cl bod32 (Right6_ok p _ E H _ ⟨Ap0, cp0, Ap1, cp1, Ap2, cp2, Ap3, cp3, rfl, hp0, hp1, hp2, hp3⟩ (by assumption)) h (fun r14 H14 L14 a w le14 R h => ?_)
 obtain ⟨rfl, rfl⟩ := R
 refine au [7,1,0,3] h ?_; intro a w h
 refine cdB h (fun c15 => ?_) (fun c15 => ?_)
 ·have d15 : p.right = false := cd_ c15
  refine au [1,2,7,5,5,5,0,6,0,3,1,3,1,4] h ?_; intro a w h
  have er := res_bad c15
  exact fin (rs := [.cell 2 50, .tmp 3]) (vs := [.agg #[_, _, _, _, _, _, _], _]) h rfl (.agg (k0 := 0) tN50 rfl rfl rfl (.tmp rfl .nil)) rfl le14 ⟨LE.rfl, h.st.drop 2⟩ ⟨_, by rw [er]; rfl, by rw [er]; exact vp_zero _, rfl⟩
 ·have d15 : p.right = true := cd_ c15
  refine au [1,8,1,0,1,2,3,4] h ?_; intro a w h
  refine cl bod33 (names7_ok p _ E H14 _ ⟨Ap0, cp0, Ap1, cp1, Ap2, cp2, Ap3, cp3, rfl, (CS.up hp0 le14), (CS.up hp1 le14), (FS.up hp2 le14), (KS.up hp3 le14)⟩ (by omega) (by omega)) h (fun r18 H18 L18 a w le18 R h => ?_)
  obtain ⟨A18, c18, x18, rfl, rfl, hr18⟩ := R
  refine au [0,6,0,3,0,4,1,2,0,6,0,3,1,5] h ?_; intro a w h
  obtain ⟨Hg1, leHg1, h, hfg1⟩ := h.frz 2
  refine lp (β := Nat × GH × (Option Addr) × Nat × (List Value)) (fun x a w => match x with | (k, HL0, Brn, prn, xrn) => ((k ≤ p.defs.length) ∧ (LE Hg1 HL0) ∧ (RowR RStr 1 HL0 xrn (p.known k))) ∧ S E HL0 123 [] [(1, .pointer (some ⟨g1, 0, none⟩)), (2, .pointer (some ⟨g2, 0, none⟩)), (3, .int .i64 0), (4, .slice Brn ((p.known k).length) prn), (5, .int .i64 (k : Int))] (.row (.slice Brn ((p.known k).length) prn) 9 1 ((p.known k).length) xrn :: .obj g2 (.cells #[.slice none 0 0, .slice none 0 0, .slice none 0 0, .int .i64 0, str [], .int .i64 0, .slice none 0 0] 50 (0, 0)) :: L) a w)
   (fun x => match x with | (k, HL0, Brn, prn, xrn) => p.defs.length - k) (0, Hg1, A18, c18, x18) ⟨⟨Nat.zero_le _, LE.rfl, (by have q := (hr18.mono fun cs y _ hr => hr); rwa [show (p.inputs.map (·.name) ++ p.cells.map (·.name)) = (p.known 0) from by simp [Pg.known]] at q)⟩, (by show S _ _ _ _ _ _ _ _; rw [show ((p.known 0).length) = (p.inputs.map (·.name) ++ p.cells.map (·.name)).length from Eq.symm (by simp [Pg.known])]; exact h.to 0 _)⟩ ?_
  rintro ⟨k, HL0, Brn, prn, xrn⟩ a w ⟨⟨hk, leHL0, hrrn⟩, h⟩
  have hkl := known_len p k
  refine au [0,4,1,2,0,0,0,7] h ?_; intro a w h
  refine ldH t1_48 (Hc.of (leHL0 _ _ hfg1) rfl) h fun a w h => ?_
  refine au [6,0,6,4,0,3] h ?_; intro a w h
  refine cdB h (fun c23 => ?_) (fun c23 => ?_)
  ·have d23 : k < p.defs.length := cd_ c23
   refine au [1,8,1,0,0,4,1,5,0,5,0,0,0,7] h ?_; intro a w h
   refine ldH t1_48 (Hc.of (leHL0 _ _ hfg1) rfl) h fun a w h => ?_
   refine mv h fun a w h => ?_
   have l_H_HL0 : LE H HL0 := ((le14.trans le18).trans leHg1).trans leHL0
   have hj30 : k < p.defs.length := by first | assumption | omega | (simp; done) | (simp; omega)
   obtain ⟨g30, o30, A30_0, c30_0, e30, hv30, hc30⟩ := FS.get (FS.up hp2 l_H_HL0) hj30
   obtain ⟨_, _, q30, hk30_0⟩ := hv30; cases q30
   refine iaE sli48 sz86 rfl hj30 e30 h fun a w h => ?_
   refine fa fl86_0 (r := o30 + k * 5 + 0) h fun a w h => ?_
   refine ldH t1_9 (hc30 0 _ rfl) h fun a w h => ?_
   refine bsl bs70 h fun g33 a w h => ?_
   refine apn (n := ((p.known k).length)) (m := 1) 1 0 (L' := fun i => _ :: i :: _) [_] (((p.known k) ++ [p.defs[k].name]).length) (by first | (simp; done) | (simp; omega)) row70 h (by first | omega | (simp; done) | (simp; omega) | (simp; omega)) (by first | omega | (simp; done) | (simp; omega) | (simp; omega)) fun v34 a w hone34 h => ?_
   obtain ⟨B34, cp34, rfl⟩ := h.rowv 1
   have hr34 : RowR RStr 1 HL0 (xrn ++ [str p.defs[k].name]) ((p.known k) ++ [p.defs[k].name]) := hrrn.snoc rfl rfl
   refine au [0,6,1,1,1,7,1,0,0,5,0,0] h ?_; intro a w h
   refine inc ?_ h fun a w h => ?_
   ·omega
   refine au [0,6,0,3] h ?_; intro a w h
   have h := h.del 0
   exact ⟨((k + 1), HL0, B34, cp34, _), ⟨⟨by omega, leHL0, (by have q := hr34; rwa [show ((p.known k) ++ [p.defs[k].name]) = (p.known (k + 1)) from by rw [known_succ p d23]] at q)⟩, (by show S _ _ _ _ _ _ _ _; rw [show ((p.known (k + 1)).length) = ((p.known k) ++ [p.defs[k].name]).length from Eq.symm (by rw [known_succ p d23])]; exact h.to 0 _)⟩, by show _ - (k + 1) < _ - k; omega⟩
  ·have d23 : p.defs.length ≤ k := cd_ c23
   refine au [2,5,2,2,2,2,2,3,1,0,0,4,1,2,0,6,0,3,1,5] h ?_; intro a w h
   have hke : k = p.defs.length := by omega
   obtain ⟨Hrrn, leHrrn, h, hsHrrn⟩ := h.frw 0 hrrn rfl (fun _ l cs y _ hr => hr)
   refine lp (β := Nat) (fun k2 a w => ((k2 ≤ (p.known k).length) ∧ (∀ i (hi : i < (p.known k).length), i < k2 → ((p.known k).take i).contains (p.known k)[i] = false)) ∧ S E Hrrn 123 [] [(1, .pointer (some ⟨g1, 0, none⟩)), (2, .pointer (some ⟨g2, 0, none⟩)), (4, .slice Brn (p.known k).length prn), (5, .int .i64 (k : Int)), (6, .int .i64 (k2 : Int)), (19, .int .i64 (k : Int)), (20, .pointer (some ⟨g1, 2, none⟩)), (21, .slice Ap2 p.defs.length cp2), (22, .int .i64 (p.defs.length : Int)), (23, .bool (decide (((k : Int) : Int) < (p.defs.length : Int))))] (.obj g2 (.cells #[.slice none 0 0, .slice none 0 0, .slice none 0 0, .int .i64 0, str [], .int .i64 0, .slice none 0 0] 50 (0, 0)) :: L) a w)
    (fun k2 => (p.known k).length - k2) 0 ⟨⟨Nat.zero_le _, fun _ _ h => absurd h (by omega)⟩, h.to 0 _⟩ ?_
   rintro k2 a w ⟨⟨hk, hi⟩, h⟩
   have hi2 := hi
   refine au [0,4,1,2,0,0,0,0,6,0,6,4,0,3] h ?_; intro a w h
   refine cdB h (fun c38 => ?_) (fun c38 => ?_)
   ·have d38 : k2 < (p.known k).length := cd_ c38
    refine au [1,8,1,0,0,4,1,5,0,4] h ?_
    refine rgd [] [] [0] [6] 2 mix (by kernel_rfl) h (fun a w h => ?_)
    refine au [0,0,0,0] h ?_; intro a w h
    have hb43 : k2 ≤ (p.known k).length := by first | omega | (simp; omega)
    have hcp43 := RS.capl hsHrrn
    have hs43 : SS Hrrn Brn prn ((p.known k).take k2) := RS.front hsHrrn hb43
    refine slhN (c := prn) k2 ((p.known k).take k2).length (by rw [List.length_take]; omega) sli70 sz9 (by omega) h fun a w h => ?_
    refine au [0,0,0,0] h ?_; intro a w h
    have hj46 : k2 < (p.known k).length := by first | assumption | omega | (simp; done) | (simp; omega)
    obtain ⟨g46, o46, e46, hc46⟩ := SS.get hsHrrn hj46
    refine iaE sli70 sz9 rfl hj46 e46 h fun a w h => ?_
    refine ldHD t1_9 (hc46) h fun a w h => ?_
    refine clG bod34 (has7_ok ((p.known k).take k2) ((p.known k)[k2]) _ _ E Hrrn _ hs43 (by have := known_len p k; simp; omega)) h (fun r48 H48 L48 a w le48 R h => ?_)
    obtain ⟨rfl, rfl, rfl⟩ := R
    refine au [0,3] h ?_
    refine cdB h (fun c48 => ?_) (fun c48 => ?_)
    ·refine au [1,2,7,5,5,5,0,6,0,3,1,3,1,6,1,4,1,4,1,6,1,4] h ?_; intro a w h
     have er := res_tw c15 hke d38 c48
     have l_H_Hrrn : LE H Hrrn := (((le14.trans le18).trans leHg1).trans leHL0).trans leHrrn
     exact fin (rs := [.cell 2 50, .tmp 3]) (vs := [.agg #[_, _, _, _, _, _, _], _]) h rfl (.agg (k0 := 0) tN50 rfl rfl rfl (.tmp rfl .nil)) rfl l_H_Hrrn ⟨LE.rfl, h.st.drop 1⟩ ⟨_, by rw [er]; rfl, by rw [er]; exact vp_zero _, rfl⟩
    ·refine au [1,8,1,7,1,0,0,5,0,0] h ?_; intro a w h
     refine inc ?_ h fun a w h => ?_
     ·omega
     refine au [0,6,0,3] h ?_; intro a w h
     exact ⟨(k2 + 1), ⟨⟨by omega, fun j hj h0 => by rcases upto h0 with h0 | rfl; exact hi2 j hj h0; exact c48⟩, h.to 0 _⟩, by show _ - (k2 + 1) < _ - k2; omega⟩
   ·have d38 : (p.known k).length ≤ k2 := cd_ c38
    refine au [2,5,2,2,2,2,2,3,1,0,0,4] h ?_
    have htw := res_nt hke fun i hi => hi2 i hi (by omega)
    refine rg0 ?_
    have l_Hg1_Hrrn : LE Hg1 Hrrn := leHL0.trans leHrrn
    refine ldHN tN50 rfl (Hc.all (l_Hg1_Hrrn _ _ hfg1)) h fun a w h => ?_
    have l_H_Hrrn : LE H Hrrn := (((le14.trans le18).trans leHg1).trans leHL0).trans leHrrn
    refine cl bod33 (names7_ok p _ E Hrrn _ ⟨Ap0, cp0, Ap1, cp1, Ap2, cp2, Ap3, cp3, rfl, (CS.up hp0 l_H_Hrrn), (CS.up hp1 l_H_Hrrn), (FS.up hp2 l_H_Hrrn), (KS.up hp3 l_H_Hrrn)⟩ (by omega) (by omega)) h (fun r51 H51 L51 a w le51 R h => ?_)
    obtain ⟨A51, c51, x51, rfl, rfl, hr51⟩ := R
    refine au [0,6,0,2,0,7] h ?_; intro a w h
    have l_Hg1_H51 : LE Hg1 H51 := (leHL0.trans leHrrn).trans le51
    refine ldH t1_47 (Hc.of (l_Hg1_H51 _ _ hfg1) rfl) h fun a w h => ?_
    refine fa fl50_1 (r := 1) h fun a w h => ?_
    refine ldH t1_47 (Hc.of (l_Hg1_H51 _ _ hfg1) rfl) h fun a w h => ?_
    refine bdl lay50 zr50 h fun a w h => ?_
    refine al zr50 h fun g8 a w h => ?_
    refine au [5,5,0,2,0,6,0,3,0,4,1,2,0,6,0,3,1,5] h ?_; intro a w h
    have h := h.row (e := 86) (sz := 5)
    refine lp (β := Nat × GH × (Option Addr) × Nat × (List Value) × (Option Addr) × Nat × (List Value)) (fun x a w => match x with | (k3, HL4, Brd, prd, xrd, Brl, prl, xrl) => ((k3 ≤ p.defs.length) ∧ (LE H51 HL4) ∧ (RowR RDf 5 HL4 xrd ((goL p k3).1)) ∧ (RowR RStr 1 HL4 xrl (p.known k3)) ∧ (GoOk p k3)) ∧ S E HL4 123 [] [(1, .pointer (some ⟨g1, 0, none⟩)), (2, .pointer (some ⟨g2, 0, none⟩)), (4, .slice Brn (p.known k).length prn), (5, .int .i64 (k : Int)), (6, .int .i64 (k2 : Int)), (7, .slice Brl ((p.known k3).length) prl), (8, .pointer (some ⟨g8, 0, none⟩)), (9, .int .i64 ((goL p k3).2)), (10, .int .i64 (k3 : Int)), (19, .int .i64 (k : Int)), (20, .pointer (some ⟨g1, 2, none⟩)), (21, .slice Ap2 p.defs.length cp2), (22, .int .i64 (p.defs.length : Int)), (23, .bool (decide (((k : Int) : Int) < (p.defs.length : Int)))), (35, .int .i64 (k2 : Int)), (36, .slice Brn (p.known k).length prn), (37, .int .i64 ((p.known k).length : Int)), (38, .bool (decide (((k2 : Int) : Int) < ((p.known k).length : Int))))] (.row (.slice Brd (((goL p k3).1).length) prd) 86 5 (((goL p k3).1).length) xrd :: .obj g8 (.cells #[.slice Ap0 p.inputs.length cp0, .slice Ap1 p.cells.length cp1, .slice Brd (((goL p k3).1).length) prd, .int .i64 0, str [], .int .i64 0, .slice none 0 0] 50 (0, 0)) :: .row (.slice Brl ((p.known k3).length) prl) 9 1 ((p.known k3).length) xrl :: .obj g2 (.cells #[.slice none 0 0, .slice none 0 0, .slice none 0 0, .int .i64 0, str [], .int .i64 0, .slice none 0 0] 50 (0, 0)) :: L) a w)
     (fun x => match x with | (k3, HL4, Brd, prd, xrd, Brl, prl, xrl) => p.defs.length - k3) (0, H51, none, 0, [], A51, c51, x51) ⟨⟨Nat.zero_le _, LE.rfl, (RowR.nil : RowR RDf 5 H51 [] ([] : List Df)), (by have q := hr51; rwa [show (p.inputs.map (·.name) ++ p.cells.map (·.name)) = (p.known 0) from by simp [Pg.known]] at q), goL_zero p⟩, (by show S _ _ _ _ _ _ _ _; rw [show ((p.known 0).length) = (p.inputs.map (·.name) ++ p.cells.map (·.name)).length from Eq.symm (by simp [Pg.known]), show (.int .i64 ((goL p 0).2) : Value) = .int .i64 1 from Eq.symm (by rfl)]; exact h.to 0 _)⟩ ?_
    rintro ⟨k3, HL4, Brd, prd, xrd, Brl, prl, xrl⟩ a w ⟨⟨hk, leHL4, hrrd, hrrl, hi⟩, h⟩
    have hgo := hi
    have hkn : (p.known k3).length < 1000000000000 := by have := known_len p k3; omega
    have hgl : (goL p k3).1.length = k3 := go_len (n := (goL p k3).2) hgo.1
    refine au [0,4,1,2,0,0,0,7] h ?_; intro a w h
    have l_Hg1_HL4 : LE Hg1 HL4 := ((leHL0.trans leHrrn).trans le51).trans leHL4
    refine ldH t1_48 (Hc.of (l_Hg1_HL4 _ _ hfg1) rfl) h fun a w h => ?_
    refine au [6,0,6,4,0,3] h ?_; intro a w h
    refine cdB h (fun c61 => ?_) (fun c61 => ?_)
    ·have d61 : k3 < p.defs.length := cd_ c61
     refine au [1,8,1,0,0,4,1,5,0,4,1,2,0,7] h ?_; intro a w h
     refine ldH t1_48 (Hc.of (l_Hg1_HL4 _ _ hfg1) rfl) h fun a w h => ?_
     refine mv h fun a w h => ?_
     have l_H_HL4 : LE H HL4 := (((((le14.trans le18).trans leHg1).trans leHL0).trans leHrrn).trans le51).trans leHL4
     have hj67 : k3 < p.defs.length := by first | assumption | omega | (simp; done) | (simp; omega)
     obtain ⟨g67, o67, A67_0, c67_0, e67, hv67, hc67⟩ := FS.get (FS.up hp2 l_H_HL4) hj67
     obtain ⟨_, _, q67, hk67_0⟩ := hv67; cases q67
     refine iaE sli48 sz86 rfl hj67 e67 h fun a w h => ?_
     refine fa fl86_1 (r := o67 + k3 * 5 + 1) h fun a w h => ?_
     refine ldHN (l := [_, _, _, _]) tN35 rfl (sbL 1 4 hc67) h fun a w h => ?_
     refine mv h fun a w h => ?_
     obtain ⟨Hn71_1, leHn71_1, h, hsHn71_1, backHn71_1⟩ := h.lendR 2 hrrl rfl (fun _ l cs y _ hr => hr)
     refine cl bod35 (known_ok p.defs[k3].t (p.known k3) _ _ _ E Hn71_1 _ ⟨A67_0, c67_0, rfl, (KS.up hk67_0 leHn71_1)⟩ hsHn71_1 (by have := hf _ (List.getElem_mem d61); omega) hkn) h (fun r71 H71 L71 a w le71 R h => ?_)
     obtain ⟨rfl, rfl⟩ := R
     have h := backHn71_1.get le71 h
     refine au [7,1,0,3] h ?_; intro a w h
     refine cdB h (fun c72 => ?_) (fun c72 => ?_)
     ·have d72 : (!p.defs[k3].t.strange (p.known k3)) = false := cd_ c72
      refine au [1,2,7,5,5,8,0,6,0,3,1,3,1,4,1,6,1,4,1,4,1,6,1,4] h ?_; intro a w h
      have er := res_st c15 htw hgo d61 (by simpa using c72)
      exact fin (rs := [.cell 2 50, .tmp 3]) (vs := [.agg #[_, _, _, _, _, _, _], _]) h rfl (.agg (k0 := 3) tN50 rfl rfl rfl (.tmp rfl .nil)) rfl l_H_HL4 ⟨LE.rfl, h.st.drop 4⟩ ⟨_, by rw [er]; rfl, by rw [er]; exact vp_zero _, rfl⟩
     ·have d72 : (!p.defs[k3].t.strange (p.known k3)) = true := cd_ c72
      refine au [1,8,1,0,1,2,0,7] h ?_; intro a w h
      refine ldH t1_48 (Hc.of (l_Hg1_HL4 _ _ hfg1) rfl) h fun a w h => ?_
      refine mv h fun a w h => ?_
      have hj78 : k3 < p.defs.length := by first | assumption | omega | (simp; done) | (simp; omega)
      obtain ⟨g78, o78, A78_0, c78_0, e78, hv78, hc78⟩ := FS.get (FS.up hp2 l_H_HL4) hj78
      obtain ⟨_, _, q78, hk78_0⟩ := hv78; cases q78
      refine iaE sli48 sz86 rfl hj78 e78 h fun a w h => ?_
      refine fa fl86_1 (r := o78 + k3 * 5 + 1) h fun a w h => ?_
      refine ldHN (l := [_, _, _, _]) tN35 rfl (sbL 1 4 hc78) h fun a w h => ?_
      refine mv h fun a w h => ?_
      refine cl bod6 (Rename7_ok p.defs[k3].t ((goL p k3).2) _ E HL4 _ ⟨A78_0, c78_0, rfl, hk78_0⟩ hgo.2 (hf _ (List.getElem_mem d61))) h (fun r82 H82 L82 a w le82 R h => ?_)
      obtain ⟨_, rfl, ⟨A82_0_0, c82_0_0, rfl, hk82_0_0⟩, rfl⟩ := R
      refine au [0,0,4,7,4,7] h ?_; intro a w h
      refine al zr35 h fun g11 a w h => ?_
      refine au [5,5,0,6,0,3,0,4] h ?_; intro a w h
      have hgs := goL_succ hgo d61 (by simpa using c72)
      refine au [0,5,0,0,0,6,0,3,0,4] h ?_; intro a w h
      refine rgd [3, 0] [_, _] [3, 2, 0] [1, 3, 7, 8] 2 mix (by kernel_rfl) h (fun a w h => ?_)
      refine au [0,7,4,2,0,7] h ?_; intro a w h
      have l_Hg1_H82 : LE Hg1 H82 := (((leHL0.trans leHrrn).trans le51).trans leHL4).trans le82
      refine ldHD t1_48 (Hc.of (l_Hg1_H82 _ _ hfg1) rfl) h fun a w h => ?_
      refine mv h fun a w h => ?_
      have l_H_H82 : LE H H82 := ((((((le14.trans le18).trans leHg1).trans leHL0).trans leHrrn).trans le51).trans leHL4).trans le82
      have hj91 : k3 < p.defs.length := by first | assumption | omega | (simp; done) | (simp; omega)
      obtain ⟨g91, o91, A91_0, c91_0, e91, hv91, hc91⟩ := FS.get (FS.up hp2 l_H_H82) hj91
      obtain ⟨_, _, q91, hk91_0⟩ := hv91; cases q91
      refine iaE sli48 sz86 rfl hj91 e91 h fun a w h => ?_
      refine fa fl86_0 (r := o91 + k3 * 5 + 0) h fun a w h => ?_
      refine ldHD t1_9 (hc91 0 _ rfl) h fun a w h => ?_
      refine ldWD 1 tN35 h fun a w h => ?_
      refine bdl lay86 zr86 h fun a w h => ?_
      refine bsl bs48 h fun g96 a w h => ?_
      refine apn (n := (((goL p k3).1).length)) (m := 1) 3 0 (L' := fun i => _ :: _ :: _ :: i :: _) [_, _, _, _, _] (((goL p k3).1 ++ [(Df.mk p.defs[k3].name (Tm.mk (((p.defs[k3].t.ren (lookR []) ((goL p k3).2)).1).kind) (((p.defs[k3].t.ren (lookR []) ((goL p k3).2)).1).name) (((p.defs[k3].t.ren (lookR []) ((goL p k3).2)).1).n) (((p.defs[k3].t.ren (lookR []) ((goL p k3).2)).1).kids) : Tm) : Df)]).length) (by first | (simp; done) | (simp; omega)) row48 h (by first | omega | (simp; done) | (simp; omega) | (simp; omega)) (by first | omega | (simp; done) | (simp; omega) | (simp; omega)) fun v97 a w hone97 h => ?_
      obtain ⟨B97, cp97, rfl⟩ := h.rowv 3
      have hr97 : RowR RDf 5 H82 (xrd ++ [str p.defs[k3].name, .int .i64 (((p.defs[k3].t.ren (lookR []) ((goL p k3).2)).1).kind), str (((p.defs[k3].t.ren (lookR []) ((goL p k3).2)).1).name), .int .i64 (((p.defs[k3].t.ren (lookR []) ((goL p k3).2)).1).n), .slice A82_0_0 (((p.defs[k3].t.ren (lookR []) ((goL p k3).2)).1).kids).length c82_0_0]) ((goL p k3).1 ++ [(Df.mk p.defs[k3].name (Tm.mk (((p.defs[k3].t.ren (lookR []) ((goL p k3).2)).1).kind) (((p.defs[k3].t.ren (lookR []) ((goL p k3).2)).1).name) (((p.defs[k3].t.ren (lookR []) ((goL p k3).2)).1).n) (((p.defs[k3].t.ren (lookR []) ((goL p k3).2)).1).kids) : Tm) : Df)]) := (hrrd.mono fun cs y _ hr => RDf.mono le82 hr).snoc rfl (⟨_, rfl, rt_of_vt (cs := [_, _, _, _]) ⟨_, _, rfl, hk82_0_0⟩⟩)
      refine fa fl50_2 (r := 2) h fun a w h => ?_
      refine st4 (l := [_, _, _, _, _, _, _]) t1_48 h fun a w h => ?_
      refine au [0,3,0,5,0,0,0,7] h ?_; intro a w h
      refine ldH t1_48 (Hc.of (l_Hg1_H82 _ _ hfg1) rfl) h fun a w h => ?_
      refine mv h fun a w h => ?_
      have hj103 : k3 < p.defs.length := by first | assumption | omega | (simp; done) | (simp; omega)
      obtain ⟨g103, o103, A103_0, c103_0, e103, hv103, hc103⟩ := FS.get (FS.up hp2 l_H_H82) hj103
      obtain ⟨_, _, q103, hk103_0⟩ := hv103; cases q103
      refine iaE sli48 sz86 rfl hj103 e103 h fun a w h => ?_
      refine fa fl86_0 (r := o103 + k3 * 5 + 0) h fun a w h => ?_
      refine ldH t1_9 (hc103 0 _ rfl) h fun a w h => ?_
      refine bsl bs70 h fun g106 a w h => ?_
      refine apn (n := ((p.known k3).length)) (m := 1) 3 0 (L' := fun i => _ :: _ :: _ :: i :: _) [_] (((p.known k3) ++ [p.defs[k3].name]).length) (by first | (simp; done) | (simp; omega)) row70 h (by first | omega | (simp; done) | (simp; omega) | (simp; omega)) (by first | omega | (simp; done) | (simp; omega) | (simp; omega)) fun v107 a w hone107 h => ?_
      obtain ⟨B107, cp107, rfl⟩ := h.rowv 3
      have hr107 : RowR RStr 1 H82 (xrl ++ [str p.defs[k3].name]) ((p.known k3) ++ [p.defs[k3].name]) := (hrrl.mono fun cs y _ hr => hr).snoc rfl rfl
      refine au [0,6,1,1,1,7,1,0,0,5,0,0] h ?_; intro a w h
      refine inc ?_ h fun a w h => ?_
      ·omega
      refine au [0,6,0,3] h ?_; intro a w h
      have h := h.del 0
      have h := h.del 0
      have h := h.del 0
      have h := h.pull 3 rfl rfl
      have h := h.pull 1 rfl rfl
      have h := h.pull 3 rfl rfl
      have h := h.pull 3 rfl rfl
      have l_H51_H82 : LE H51 H82 := leHL4.trans le82
      exact ⟨((k3 + 1), H82, B97, cp97, _, B107, cp107, _), ⟨⟨by omega, l_H51_H82, (by have q := hr97; rwa [show ((goL p k3).1 ++ [(Df.mk p.defs[k3].name (Tm.mk (((p.defs[k3].t.ren (lookR []) ((goL p k3).2)).1).kind) (((p.defs[k3].t.ren (lookR []) ((goL p k3).2)).1).name) (((p.defs[k3].t.ren (lookR []) ((goL p k3).2)).1).n) (((p.defs[k3].t.ren (lookR []) ((goL p k3).2)).1).kids) : Tm) : Df)]) = (goL p (k3 + 1)).1 from by rw [hgs.1, tm_eta]] at q), (by have q := hr107; rwa [show ((p.known k3) ++ [p.defs[k3].name]) = (p.known (k3 + 1)) from by rw [known_succ p d61]] at q), hgs.2⟩, (by show S _ _ _ _ _ _ _ _; rw [show (((goL p (k3 + 1)).1).length) = ((goL p k3).1 ++ [(Df.mk p.defs[k3].name (Tm.mk (((p.defs[k3].t.ren (lookR []) ((goL p k3).2)).1).kind) (((p.defs[k3].t.ren (lookR []) ((goL p k3).2)).1).name) (((p.defs[k3].t.ren (lookR []) ((goL p k3).2)).1).n) (((p.defs[k3].t.ren (lookR []) ((goL p k3).2)).1).kids) : Tm) : Df)]).length from Eq.symm (by rw [hgs.1] <;> simp), show ((p.known (k3 + 1)).length) = ((p.known k3) ++ [p.defs[k3].name]).length from Eq.symm (by rw [known_succ p d61]), show (.int .i64 ((goL p (k3 + 1)).2) : Value) = .int .i64 ((p.defs[k3].t.ren (lookR []) ((goL p k3).2)).2) from Eq.symm (by rw [hgs.1] <;> simp)]; exact h.to 0 _)⟩, by show _ - (k3 + 1) < _ - k3; omega⟩
    ·have d61 : p.defs.length ≤ k3 := cd_ c61
     refine au [2,5,2,2,2,2,2,3,1,0,0,4,0,4] h ?_
     have hk3 : k3 = p.defs.length := by omega
     refine au [0,5,0,7] h ?_; intro a w h
     refine ldHN (l := [_, _, _, _]) tN35 rfl (Hc.sub 3 4 (l_Hg1_HL4 _ _ hfg1)) h fun a w h => ?_
     refine mv h fun a w h => ?_
     obtain ⟨Hn111_1, leHn111_1, h, hsHn111_1, backHn111_1⟩ := h.lendR 2 hrrl rfl (fun _ l cs y _ hr => hr)
     have l_H_Hn111_1 : LE H Hn111_1 := ((((((le14.trans le18).trans leHg1).trans leHL0).trans leHrrn).trans le51).trans leHL4).trans leHn111_1
     refine cl bod35 (known_ok p.body (p.known k3) _ _ _ E Hn111_1 _ ⟨Ap3, cp3, rfl, (KS.up hp3 l_H_Hn111_1)⟩ hsHn111_1 (by omega) hkn) h (fun r111 H111 L111 a w le111 R h => ?_)
     obtain ⟨rfl, rfl⟩ := R
     have h := backHn111_1.get le111 h
     refine au [7,1,0,3] h ?_; intro a w h
     refine cdB h (fun c112 => ?_) (fun c112 => ?_)
     ·have d112 : (!p.body.strange (p.known k3)) = false := cd_ c112
      refine au [1,2,7,5,5,8,0,6,0,3,1,3,1,4] h ?_; intro a w h
      have er := res_sb c15 htw hgo hk3 (by simpa using c112)
      have l_H_HL4 : LE H HL4 := (((((le14.trans le18).trans leHg1).trans leHL0).trans leHrrn).trans le51).trans leHL4
      exact fin (rs := [.cell 2 50, .tmp 3]) (vs := [.agg #[_, _, _, _, _, _, _], _]) h rfl (.agg (k0 := 3) tN50 rfl rfl rfl (.tmp rfl .nil)) rfl l_H_HL4 ⟨LE.rfl, h.st.drop 4⟩ ⟨_, by rw [er]; rfl, by rw [er]; exact vp_zero _, rfl⟩
     ·have d112 : (!p.body.strange (p.known k3)) = true := cd_ c112
      refine au [1,8,1,0,0,4] h ?_
      obtain ⟨Hrrd, leHrrd, h, hsHrrd⟩ := h.frw 1 hrrd rfl (fun _ l cs y _ hr => RDf.mono l hr)
      refine au [0,5,0,7] h ?_; intro a w h
      have l_Hg1_Hrrd : LE Hg1 Hrrd := (((leHL0.trans leHrrn).trans le51).trans leHL4).trans leHrrd
      refine ldHN (l := [_, _, _, _]) tN35 rfl (Hc.sub 3 4 (l_Hg1_Hrrd _ _ hfg1)) h fun a w h => ?_
      refine mv h fun a w h => ?_
      have l_H_Hrrd : LE H Hrrd := ((((((le14.trans le18).trans leHg1).trans leHL0).trans leHrrn).trans le51).trans leHL4).trans leHrrd
      refine cl bod6 (Rename7_ok p.body ((goL p k3).2) _ E Hrrd _ ⟨Ap3, cp3, rfl, (KS.up hp3 l_H_Hrrd)⟩ hgo.2 hb) h (fun r118 H118 L118 a w le118 R h => ?_)
      obtain ⟨_, rfl, ⟨A118_0_0, c118_0_0, rfl, hk118_0_0⟩, rfl⟩ := R
      refine au [0,0,4,7,4,7,0,7] h ?_; intro a w h
      refine stp (l := [_, _, _, _, _, _, _]) 1 tN35 h fun a w h => ?_
      refine au [0,2,3,4,5,7,0,6,0,3,1,3] h ?_; intro a w h
      have er := res_ok c15 htw hgo hk3 (by simpa using c112)
      have l_H_H118 : LE H H118 := (((((((le14.trans le18).trans leHg1).trans leHL0).trans leHrrn).trans le51).trans leHL4).trans leHrrd).trans le118
      exact fin (rs := [.cell 2 50, .tmp 3]) (vs := [.agg #[_, _, _, _, _, _, _], _]) h rfl (.agg (k0 := 2) tN50 rfl rfl rfl (.tmp rfl .nil)) rfl l_H_H118 ⟨LE.rfl, h.st.drop 3⟩ ⟨_, by rw [er]; rfl, by rw [er]; exact ⟨Ap0, cp0, Ap1, cp1, Brd, prd, A118_0_0, c118_0_0, rfl, (CS.up hp0 l_H_H118), (CS.up hp1 l_H_H118), (FS.up hsHrrd le118), hk118_0_0⟩, rfl⟩
mutual
def Tm.lv : Tm → Bool
 | .mk k _ n ks => (!(k == 2) || (n == 0 && ks.isEmpty)) && lvL ks
def lvL : List Tm → Bool
 | [] => true
 | t :: l => t.lv && lvL l
end
theorem lvL_of : ∀ {ks : List Tm}, (∀ t ∈ ks, t.lv = true) → lvL ks = true
 | [], _ => rfl
 | t :: l, h => by simp only [lvL, h t (List.mem_cons_self ..), lvL_of (ks := l) fun t ht => h t (List.mem_cons_of_mem _ ht)]; rfl
mutual
def Tm.put : Tm → Bs → Tm → Tm
 | .mk k s n ks, x, u => if (k == 2) && decide (s = x) then u else .mk k s n (putL x u (bnd k && decide (s = x)) ks)
def putL (x : Bs) (u : Tm) (stop : Bool) : List Tm → List Tm
 | [] => []
 | t :: l => (if stop && l.isEmpty then t else t.put x u) :: putL x u stop l
end
theorem u8_lt (b : UInt8) : b.toNat < 256 := b.toNat_lt
def names5 : List Bs := [[120], [121], [122], [99], [102, 49]]
def ops5 : List Bs := [[43], [45], [42], [60], [61]]
def mkKids : List Int := [0, 0, 0, 1, 2, 2, 3, 2, 1, 2, 1, 2, 2, 2]
def kn (k : Nat) : Nat := (mkKids.getD k 0).toNat
def mkN : List Bs := [] :: (names5 ++ ops5)
theorem kn_eq : ∀ {k : Nat} (h : k < mkKids.length), mkKids[k] = ((kn k : Nat) : Int) := by decide
theorem kn_le : ∀ k : Nat, k < 14 → kn k ≤ 3 ∧ (k ≤ 2 → kn k = 0) := by decide
theorem n5 : ∀ x ∈ names5, x ∈ mkN := by decide
theorem o5 : ∀ x ∈ ops5, x ∈ mkN := by decide
theorem m0 : ([] : Bs) ∈ mkN := by decide
def Mk (d : Nat) (t : Tm) : Prop := t.size ≤ 4 ^ (d + 1) ∧ (∀ x ∈ t.names, x ∈ mkN) ∧ t.lv = true
theorem mk_leaf {d : Nat} {k : Int} {s : Bs} {n : Int} (hs : s ∈ mkN) (hv : k = 2 → n = 0) : Mk d (.mk k s n []) :=
 ⟨by simp [Tm.size, sizeL]; exact Nat.pow_pos (by omega), fun x hx => by simp [Tm.names, namesL] at hx; exact hx ▸ hs, by
   simp only [Tm.lv, lvL, List.isEmpty_nil, Bool.and_true]
   by_cases h : k = 2
   · rw [hv h]; simp
   · simp [h]⟩
theorem sizeL_le {B : Nat} : ∀ {ks : List Tm}, (∀ t ∈ ks, t.size ≤ B) → sizeL ks ≤ ks.length * B
 | [], _ => by simp [sizeL]
 | t :: l, h => by
   have h1 := h t (List.mem_cons_self ..)
   have h2 := sizeL_le (B := B) (ks := l) fun t ht => h t (List.mem_cons_of_mem _ ht)
   simp only [sizeL, List.length_cons, Nat.succ_mul]; omega
theorem namesL_all {p : Bs → Prop} : ∀ {ks : List Tm}, (∀ t ∈ ks, ∀ x ∈ t.names, p x) → ∀ x ∈ namesL ks, p x
 | [], _, x, hx => by simp [namesL] at hx
 | t :: l, h, x, hx => by
   simp only [namesL, List.mem_append] at hx
   rcases hx with hx | hx
   · exact h t (List.mem_cons_self ..) x hx
   · exact namesL_all (ks := l) (fun t ht => h t (List.mem_cons_of_mem _ ht)) x hx
theorem mk_node {d : Nat} {k : Int} {s : Bs} {n : Int} {ks : List Tm} (hs : s ∈ mkN) (hl : ks.length ≤ 3) (hv : k = 2 → n = 0 ∧ ks = []) (h : ∀ t ∈ ks, Mk d t) : Mk (d + 1) (.mk k s n ks) := by
 refine ⟨?_, fun x hx => ?_, ?_⟩
 · have h1 := sizeL_le (B := 4 ^ (d + 1)) fun t ht => (h t ht).1
   have h2 : ks.length * 4 ^ (d + 1) ≤ 3 * 4 ^ (d + 1) := Nat.mul_le_mul_right _ hl
   have h3 : 0 < 4 ^ (d + 1) := Nat.pow_pos (by omega)
   have h4 : 4 ^ (d + 1 + 1) = 4 * 4 ^ (d + 1) := by rw [Nat.pow_succ]; omega
   simp only [Tm.size]; omega
 · simp only [Tm.names, List.mem_cons] at hx
   rcases hx with rfl | hx
   · exact hs
   · exact namesL_all (fun t ht => (h t ht).2.1) x hx
 · simp only [Tm.lv, lvL_of fun t ht => (h t ht).2.2, Bool.and_true]
   by_cases hk : k = 2
   · obtain ⟨h1, h2⟩ := hv hk
     rw [h1, h2]; simp
   · simp [hk]
theorem mk_end {d k kk : Nat} {kd : Int} {s : Bs} {n : Int} {ks : List Tm} (hs : s ∈ mkN) (h1 : ks.length = k) (h2 : k = kk) (h3 : kk ≤ 3) (h0 : 0 < kk → 0 < d) (hv : kd = 2 → n = 0) (hv2 : kd = 2 → kk = 0) (h : ∀ t ∈ ks, Mk (d - 1) t) : Mk d (.mk kd s n ks) := by
 rcases Nat.eq_zero_or_pos d with rfl | hd
 · have : ks = [] := List.eq_nil_of_length_eq_zero (by omega)
   subst this; exact mk_leaf hs hv
 · obtain ⟨e, rfl⟩ : ∃ e, d = e + 1 := ⟨d - 1, by omega⟩
   exact mk_node hs (by omega) (fun hk => ⟨hv hk, List.eq_nil_of_length_eq_zero (by have := hv2 hk; omega)⟩) h
theorem byte_ok (l : List UInt8) (A : Option Addr) (c gm at_ : Nat) (E : World) (H : GH) (L : List It) (hl : US H A c l) (hb : l.length < 1000000000000) (ha : at_ ≤ l.length) :
   Ok Tryz.prog 41 #[.pointer (some ⟨gm, 0, none⟩)] E H (.obj gm (.cells #[.slice A l.length c, .int .i64 (at_ : Int)] 73 (0, 0)) :: L) fun r H' L' => ∃ b at' : Nat, b < 256 ∧ at_ ≤ at' ∧ at' ≤ l.length ∧ r = .int .i64 (b : Int) ∧ H = H' ∧ L' = .obj gm (.cells #[.slice A l.length c, .int .i64 (at' : Int)] 73 (0, 0)) :: L := by
 refine enter (N := 32) [(0, _)] Tryz.func41 rfl rfl rfl rfl fun a w h => ?_
 refine au [1,2,0,6,0,3,0,4,0,4] h ?_; intro a w h
 refine rgd [0] [_] [] [3, 7] 0 mix (by kernel_rfl) h (fun a w h => ?_)
 refine au [0,0,7,2,0,7,4,2,0,0,7,2,0,7,4,2,6,0,6,7,0,3] h ?_; intro a w h
 refine cdB h (fun c12 => ?_) (fun c12 => ?_)
 ·have d12 : l.length ≤ at_ := cd_ c12
  refine au [1,2,0,6,0,3,1,3,1,4] h ?_; intro a w h
  refine fin1 2 0 h LE.rfl ?_
  exact ⟨0, at_, by omega, by omega, ha, rfl, rfl, rfl⟩
 ·have d12 : at_ < l.length := cd_ c12
  refine au [1,8,1,0,1,2,0,0,7,2,0,7,0,8] h ?_; intro a w h
  refine inc ?_ h fun a w h => ?_
  ·omega
  refine au [7,2,0,7,5,1,0,3,0,4] h ?_; intro a w h
  refine rgd [0] [_] [] [3, 7, 10] 1 mix (by kernel_rfl) h (fun a w h => ?_)
  refine au [0,0,7,2,0,7,4,2,0,0,7,2,0,7,4,2] h ?_; intro a w h
  refine sbr (m := ((at_ + 1 : Nat) : Int)) (n := 1) (at_ : Int) (by rw [w64 (by omega) (by omega)]; omega) h fun a w h => ?_
  have hj29 : at_ < l.length := by first | assumption | omega | (simp; done) | (simp; omega)
  obtain ⟨g29, o29, e29, hc29⟩ := US.get hl hj29
  refine iaE sli29 sz5 rfl hj29 e29 h fun a w h => ?_
  refine ldHD t1_5 (hc29) h fun a w h => ?_
  refine cv ((l[at_].toNat : Int)) (by have := u8_lt l[at_]; exact w64 (by omega) (by omega)) it5 it3 h fun a w h => ?_
  refine au [0,6,0,3,1,3] h ?_; intro a w h
  refine fin1 2 0 h LE.rfl ?_
  exact ⟨l[at_].toNat, at_ + 1, u8_lt _, by omega, by omega, rfl, rfl, rfl⟩
theorem mk_ok (l : List UInt8) (A : Option Addr) (c gm : Nat) : ∀ (d : Nat) (depth : Int) (at_ : Nat) (E : World) (H : GH) (L : List It), -1 ≤ depth → depth ≤ d ∧ depth ≤ 100 → US H A c l → l.length < 1000000000000 → at_ ≤ l.length →
   Ok Tryz.prog 22 #[.pointer (some ⟨gm, 0, none⟩), .int .i64 depth] E H (.obj gm (.cells #[.slice A l.length c, .int .i64 (at_ : Int)] 73 (0, 0)) :: L) fun r H' L' => ∃ (t : Tm) (at' : Nat), Mk d t ∧ at_ ≤ at' ∧ at' ≤ l.length ∧ VT H' r t ∧ L' = .obj gm (.cells #[.slice A l.length c, .int .i64 (at' : Int)] 73 (0, 0)) :: L := by
 intro d
 induction d using Nat.strongRecOn with
 | _ d ih =>
 replace ih := fun depth' (hd : 0 < d) => ih (d - 1) (by omega) depth'
 intro depth at_ E H L hd0 hd1 hl hb ha
 refine enter (N := 82) [(0, _), (1, _)] Tryz.func22 rfl rfl rfl rfl fun a w h => ?_
 refine au [1,2] h ?_
 refine al zr24 h fun g4 a w h => ?_
 refine au [0,2,0,0] h ?_; intro a w h
 have h := h.pull 1 rfl rfl
 refine cl bod41 (byte_ok l A c gm at_ E H _ hl hb (by omega)) h (fun r10 H10 L10 a w le10 R h => ?_)
 obtain ⟨b10, at10, hb10, ha10, hz10, rfl, rfl, rfl⟩ := R
 refine rm b10 13 (by decide) h fun a w h => ?_
 refine adr (m := 1) (n := (((b10 % 13) : Nat) : Int)) (((1 + (b10 % 13)) : Nat) : Int) (by rw [w64 (by omega) (by omega)]; omega) h fun a w h => ?_
 refine au [0,6,0,3,0,4] h ?_; intro a w h
 refine sqc (fun a w => S E H 82 [] [(0, .pointer (some ⟨gm, 0, none⟩)), (1, .int .i64 depth), (4, .pointer (some ⟨g4, 0, none⟩)), (5, .int .i64 (((1 + (b10 % 13)) : Nat) : Int)), (26, .bool ((decide (depth ≤ 0)) || (decide (((l.length : Int) : Int) ≤ (at10 : Int)))))] (.obj gm (.cells #[.slice A l.length c, .int .i64 (at10 : Int)] 73 (0, 0)) :: .obj g4 (.cells #[.int .i64 0, str [], .int .i64 0, .slice none 0 0] 24 (0, 0)) :: L) a w) ?_ ?_
 ·refine rgd [0] [_] [] [6, 10] 0 mix (by kernel_rfl) h (fun a w h => ?_)
  refine au [0,0,6,5] h ?_; intro a w h
  refine h.spl (fun c14 h => ?_) (fun c14 h => ?_)
  ·have d14 : depth ≤ 0 := cd_ c14
   refine au [0,0,0,1,0,1,0,1,0,1,0,1,0,1,0,1,0,1,0,1,0,1,4,8,0,3] h ?_; intro a w h
   exact (by show S _ _ _ _ _ _ _ _; rw [show (.bool ((decide (depth ≤ 0)) || (decide (((l.length : Int) : Int) ≤ (at10 : Int)))) : Value) = .bool true from Eq.symm (by first | ((try rw [c14]) <;> (try simp only [Bool.true_or, Bool.or_true, Bool.false_or, Bool.or_false, Bool.true_and, Bool.and_true, Bool.false_and, Bool.and_false, Bool.not_true, Bool.not_false, cond_true, cond_false]); done) | (exfalso; omega))]; exact h.to 0 _)
  ·have d14 : 0 < depth := cd_ c14
   refine au [0,0,0,0,7,2,0,7,4,2,0,0,7,2,0,7,4,2,6,0,6,7,5,0,0,3] h ?_; intro a w h
   exact (by show S _ _ _ _ _ _ _ _; rw [show (.bool ((decide (depth ≤ 0)) || (decide (((l.length : Int) : Int) ≤ (at10 : Int)))) : Value) = .bool (decide (((l.length : Int) : Int) ≤ (at10 : Int))) from Eq.symm (by first | ((try rw [c14]) <;> (try simp only [Bool.true_or, Bool.or_true, Bool.false_or, Bool.or_false, Bool.true_and, Bool.and_true, Bool.false_and, Bool.and_false, Bool.not_true, Bool.not_false, cond_true, cond_false]); done) | (exfalso; omega))]; exact h.to 0 _)
 ·rintro a w h
  refine thc (fun a w => ∃ (kd : Nat), (1 ≤ kd ∧ kd ≤ 13 ∧ (depth ≤ 0 → kd ≤ 2)) ∧ S E H 82 [] [(0, .pointer (some ⟨gm, 0, none⟩)), (1, .int .i64 depth), (4, .pointer (some ⟨g4, 0, none⟩)), (5, .int .i64 (kd : Int))] (.obj gm (.cells #[.slice A l.length c, .int .i64 (at10 : Int)] 73 (0, 0)) :: .obj g4 (.cells #[.int .i64 0, str [], .int .i64 0, .slice none 0 0] 24 (0, 0)) :: L) a w) ?_ ?_
  ·refine cdB h (fun c26 => ?_) (fun c26 => ?_)
   ·refine au [0,5,0,0] h ?_; intro a w h
    refine rm (1 + (b10 % 13)) 2 (by decide) h fun a w h => ?_
    refine adr (m := 1) (n := ((((1 + (b10 % 13)) % 2) : Nat) : Int)) (((1 + ((1 + (b10 % 13)) % 2)) : Nat) : Int) (by rw [w64 (by omega) (by omega)]; omega) h fun a w h => ?_
    refine au [0,6,0,3] h ?_; intro a w h
    exact ⟨(1 + ((1 + (b10 % 13)) % 2)), by (try simp at c26); omega, h.to 0 _⟩
   ·refine au [1,8,1,0] h ?_
    exact ⟨(1 + (b10 % 13)), by (try simp at c26); omega, h.to 0 _⟩
  ·rintro a w ⟨kd, hkd, h⟩
   refine au [1,2,0,0,7,5] h ?_; intro a w h
   refine al zr24 h fun g6 a w h => ?_
   refine au [5,5,0,2] h ?_; intro a w h
   refine bsl bs70 h fun g32 a w h => ?_
   refine mv h fun a w h => ?_
   have h := h.pull 2 rfl rfl
   refine cl bod41 (byte_ok l A c gm at10 E H _ hl hb (by omega)) h (fun r34 H34 L34 a w le34 R h => ?_)
   obtain ⟨b34, at34, hb34, ha34, hz34, rfl, rfl, rfl⟩ := R
   refine rm b34 5 (by decide) h fun a w h => ?_
   obtain ⟨Hq36, leHq36, h, hsHq36⟩ := h.fsl (R := RStr) (sz := 1) (ys := names5) 1 (rstr_row names5) (fun _ _ _ _ _ hr => hr)
   have hj36 : (b34 % 5) < names5.length := by show _ < 5; omega
   obtain ⟨g36, o36, e36, hc36⟩ := SS.get hsHq36 hj36
   refine iaE sli70 sz9 rfl hj36 e36 h fun a w h => ?_
   refine ldH t1_9 (hc36) h fun a w h => ?_
   refine au [0,6,0,3] h ?_; intro a w h
   refine sqc (fun a w => ∃ (nm : Bs) (nn : Int) (at2 : Nat), (nm ∈ mkN) ∧ ((kd : Int) = 2 → nn = 0) ∧ (at_ ≤ at2 ∧ at2 ≤ l.length) ∧ S E Hq36 82 [] [(0, .pointer (some ⟨gm, 0, none⟩)), (1, .int .i64 depth), (4, .pointer (some ⟨g4, 0, none⟩)), (5, .int .i64 (kd : Int)), (6, .pointer (some ⟨g6, 0, none⟩))] (.obj gm (.cells #[.slice A l.length c, .int .i64 (at2 : Int)] 73 (0, 0)) :: .obj g6 (.cells #[.int .i64 (kd : Int), str nm, .int .i64 nn, .slice none 0 0] 24 (0, 0)) :: .obj g4 (.cells #[.int .i64 0, str [], .int .i64 0, .slice none 0 0] 24 (0, 0)) :: L) a w) ?_ ?_
   ·refine au [1,5,1,2,0,0,6,2,0,6,0,3] h ?_; intro a w h
    refine cdB h (fun c38 => ?_) (fun c38 => ?_)
    ·have d38 : kd = 1 := cd_ c38
     refine au [0,5,0,0] h ?_; intro a w h
     refine cl bod41 (byte_ok l A c gm at34 E Hq36 _ (hl.up leHq36) hb (by omega)) h (fun r42 H42 L42 a w le42 R h => ?_)
     obtain ⟨b42, at42, hb42, ha42, hz42, rfl, rfl, rfl⟩ := R
     refine ml (IntKind.i64.wrap ((b42 : Int) * 8421504)) rfl h fun a w h => ?_
     refine au [0,7,5,2,1,1,1,7,1,0] h ?_; intro a w h
     exact ⟨[], (IntKind.i64.wrap ((b42 : Int) * 8421504)), at42, (by first | exact m0 | exact n5 _ (List.getElem_mem _) | exact o5 _ (List.getElem_mem _)), (by first | exact fun _ => rfl | (intro h2; exfalso; omega)), by omega, h.to 0 _⟩
    ·have d38 : kd ≠ 1 := cd_ c38
     refine au [1,2,0,0,6,2,0,6,0,3] h ?_; intro a w h
     refine cdB h (fun c45 => ?_) (fun c45 => ?_)
     ·have d45 : kd = 12 := cd_ c45
      refine rg0 ?_
      refine bsl bs70 h fun g48 a w h => ?_
      refine mv h fun a w h => ?_
      have h := h.pull 1 rfl rfl
      refine cl bod41 (byte_ok l A c gm at34 E Hq36 _ (hl.up leHq36) hb (by omega)) h (fun r50 H50 L50 a w le50 R h => ?_)
      obtain ⟨b50, at50, hb50, ha50, hz50, rfl, rfl, rfl⟩ := R
      refine rm b50 5 (by decide) h fun a w h => ?_
      obtain ⟨Hq52, leHq52, h, hsHq52⟩ := h.fsl (R := RStr) (sz := 1) (ys := ops5) 1 (rstr_row ops5) (fun _ _ _ _ _ hr => hr)
      have hj52 : (b50 % 5) < ops5.length := by show _ < 5; omega
      obtain ⟨g52, o52, e52, hc52⟩ := SS.get hsHq52 hj52
      refine iaE sli70 sz9 rfl hj52 e52 h fun a w h => ?_
      refine ldH t1_9 (hc52) h fun a w h => ?_
      refine au [0,7,5,2,1,1,1,7,1,0] h ?_; intro a w h
      have h := h.less leHq52
      exact ⟨ops5[(b50 % 5)], 0, at50, (by first | exact m0 | exact n5 _ (List.getElem_mem _) | exact o5 _ (List.getElem_mem _)), (by first | exact fun _ => rfl | (intro h2; exfalso; omega)), by omega, h.to 0 _⟩
     ·have d45 : kd ≠ 12 := cd_ c45
      refine sqc (fun a w => S E Hq36 82 [] [(0, .pointer (some ⟨gm, 0, none⟩)), (1, .int .i64 depth), (4, .pointer (some ⟨g4, 0, none⟩)), (5, .int .i64 (kd : Int)), (6, .pointer (some ⟨g6, 0, none⟩)), (7, str (names5[(b34 % 5)])), (55, .bool ((((kd : Int) : Int) == 2) || (bnd (kd : Int))))] (.obj gm (.cells #[.slice A l.length c, .int .i64 (at34 : Int)] 73 (0, 0)) :: .obj g6 (.cells #[.int .i64 (kd : Int), str [], .int .i64 0, .slice none 0 0] 24 (0, 0)) :: .obj g4 (.cells #[.int .i64 0, str [], .int .i64 0, .slice none 0 0] 24 (0, 0)) :: L) a w) ?_ ?_
      ·refine au [0,5,0,0,6,2] h ?_; intro a w h
       refine h.spl (fun c57 h => ?_) (fun c57 h => ?_)
       ·have d57 : kd = 2 := cd_ c57
        refine au [0,0,0,1,0,1,4,8,0,6,0,3] h ?_; intro a w h
        exact (by show S _ _ _ _ _ _ _ _; rw [show (.bool ((((kd : Int) : Int) == 2) || (bnd (kd : Int))) : Value) = .bool true from Eq.symm (by first | ((try rw [c57]) <;> (try simp only [Bool.true_or, Bool.or_true, Bool.false_or, Bool.or_false, Bool.true_and, Bool.and_true, Bool.false_and, Bool.and_false, Bool.not_true, Bool.not_false, cond_true, cond_false]); done) | (exfalso; omega))]; exact h.to 0 _)
       ·have d57 : kd ≠ 2 := cd_ c57
        refine au [0,0,3,4] h ?_; intro a w h
        refine cl bod20 (Binder_ok _ _ _ _ _ _ _) h (fun r60 H60 L60 a w le60 R h => ?_)
        obtain ⟨rfl, rfl, rfl⟩ := R
        refine au [5,0,0,6,0,3] h ?_; intro a w h
        exact (by show S _ _ _ _ _ _ _ _; rw [show (.bool ((((kd : Int) : Int) == 2) || (bnd (kd : Int))) : Value) = .bool (bnd (kd : Int)) from Eq.symm (by first | ((try rw [c57]) <;> (try simp only [Bool.true_or, Bool.or_true, Bool.false_or, Bool.or_false, Bool.true_and, Bool.and_true, Bool.false_and, Bool.and_false, Bool.not_true, Bool.not_false, cond_true, cond_false]); done) | (exfalso; omega))]; exact h.to 0 _)
      ·rintro a w h
       refine cdB h (fun c55 => ?_) (fun c55 => ?_)
       ·refine au [0,5,0,0,0,7,5,2,1,1,1,7,1,0] h ?_; intro a w h
        exact ⟨names5[(b34 % 5)], 0, at34, (by first | exact m0 | exact n5 _ (List.getElem_mem _) | exact o5 _ (List.getElem_mem _)), (by first | exact fun _ => rfl | (intro h2; exfalso; omega)), by omega, h.to 0 _⟩
       ·refine au [1,8,1,7,1,0] h ?_
        exact ⟨[], 0, at34, (by first | exact m0 | exact n5 _ (List.getElem_mem _) | exact o5 _ (List.getElem_mem _)), (by first | exact fun _ => rfl | (intro h2; exfalso; omega)), by omega, h.to 0 _⟩
   ·rintro a w ⟨nm, nn, at2, hnm, hnn, hat2, h⟩
    refine au [0,4,1,2,0,6,0,3,1,5] h ?_; intro a w h
    have h := h.row (e := 24) (sz := 4)
    refine lp (β := Nat × GH × (Option Addr) × Nat × (List Value) × (List Tm) × Nat) (fun x a w => match x with | (k, HL1, Brk, prk, xrk, ks, at3) => ((k ≤ (kn kd)) ∧ (LE Hq36 HL1) ∧ (RowR RT 4 HL1 xrk ks) ∧ (ks.length = k ∧ at_ ≤ at3 ∧ at3 ≤ l.length ∧ ∀ t ∈ ks, Mk (d - 1) t)) ∧ S E HL1 82 [] [(0, .pointer (some ⟨gm, 0, none⟩)), (1, .int .i64 depth), (4, .pointer (some ⟨g4, 0, none⟩)), (5, .int .i64 (kd : Int)), (6, .pointer (some ⟨g6, 0, none⟩)), (8, .int .i64 (k : Int))] (.row (.slice Brk ks.length prk) 24 4 ks.length xrk :: .obj gm (.cells #[.slice A l.length c, .int .i64 (at3 : Int)] 73 (0, 0)) :: .obj g6 (.cells #[.int .i64 (kd : Int), str nm, .int .i64 nn, .slice Brk ks.length prk] 24 (0, 0)) :: .obj g4 (.cells #[.int .i64 0, str [], .int .i64 0, .slice none 0 0] 24 (0, 0)) :: L) a w)
     (fun x => match x with | (k, HL1, Brk, prk, xrk, ks, at3) => (kn kd) - k) (0, Hq36, none, 0, [], ([] : List Tm), at2) ⟨⟨Nat.zero_le _, LE.rfl, (RowR.nil : RowR RT 4 Hq36 [] ([] : List Tm)), ⟨rfl, by omega, by omega, fun _ h => absurd h List.not_mem_nil⟩⟩, h.to 0 _⟩ ?_
    rintro ⟨k, HL1, Brk, prk, xrk, ks, at3⟩ a w ⟨⟨hk, leHL1, hrrk, hi⟩, h⟩
    obtain ⟨hi1, hi2, hi3, hi4⟩ := id hi
    refine au [0,4,1,2,0,0] h ?_; intro a w h
    refine bsl bs98 h fun g65 a w h => ?_
    refine mv h fun a w h => ?_
    obtain ⟨Hq67, leHq67, h, hsHq67⟩ := h.fsl (R := RInt) (sz := 1) (ys := mkKids) 0 (rint_row mkKids) (fun _ _ _ _ _ hr => hr)
    have hj67 : kd < mkKids.length := by show _ < 14; omega
    obtain ⟨g67, o67, e67, hc67⟩ := IS.get hsHq67 hj67
    refine iaE sli98 sz3 rfl hj67 e67 h fun a w h => ?_
    refine ldH t1_3 (hc67) h fun a w h => ?_
    rw [kn_eq hj67] at h
    refine au [6,4,0,3] h ?_; intro a w h
    refine cdB h (fun c69 => ?_) (fun c69 => ?_)
    ·have d69 : k < (kn kd) := cd_ c69
     refine au [1,8,1,0,0,4,1,5] h ?_
     refine rgd [2] [_] [4, 3, 2, 0] [1] 3 mix (by kernel_rfl) h (fun a w h => ?_)
     refine au [0,7,4,2,0,0,0,0] h ?_; intro a w h
     refine sbr (depth - 1) (w64 (by omega) (by omega)) h fun a w h => ?_
     have hkn := kn_le kd (by omega)
     have h := h.pull 1 rfl rfl
     have l_H_Hq67 : LE H Hq67 := (leHq36.trans leHL1).trans leHq67
     refine clG bod22 (ih (depth - 1) (by omega) at3 E Hq67 _ (by omega) (by omega) (hl.up l_H_Hq67) hb (by omega)) h (fun r77 H77 L77 a w le77 R h => ?_)
     obtain ⟨t77, at77, hmk77, ha77, hz77, ⟨A77, c77, rfl, hk77⟩, rfl⟩ := R
     refine bsl bs22 h fun g78 a w h => ?_
     refine apn (n := ks.length) (m := 1) 2 0 (L' := fun i => _ :: _ :: i :: _) [_, _, _, _] ((ks ++ [t77]).length) (by first | (simp; done) | (simp; omega)) row22 h (by first | omega | (simp; done) | (simp; omega) | (simp; omega)) (by first | omega | (simp; done) | (simp; omega) | (simp; omega)) fun v79 a w hone79 h => ?_
     obtain ⟨B79, cp79, rfl⟩ := h.rowv 2
     have l_HL1_H77 : LE HL1 H77 := leHq67.trans le77
     have hr79 : RowR RT 4 H77 (xrk ++ [.int .i64 t77.kind, str t77.name, .int .i64 t77.n, .slice A77 t77.kids.length c77]) (ks ++ [t77]) := (hrrk.mono fun cs y _ hr => RT.mono l_HL1_H77 y hr).snoc rfl (rt_of_vt (cs := [_, _, _, _]) ⟨_, _, rfl, hk77⟩)
     refine au [0,7,5,4,1,1,1,7,1,0,0,5,0,0] h ?_; intro a w h
     refine inc ?_ h fun a w h => ?_
     ·omega
     refine au [0,6,0,3] h ?_; intro a w h
     have h := h.del 0
     have h := h.pull 3 rfl rfl
     have h := h.pull 3 rfl rfl
     have h := h.pull 2 rfl rfl
     have h := h.pull 3 rfl rfl
     have l_Hq36_H77 : LE Hq36 H77 := (leHL1.trans leHq67).trans le77
     exact ⟨((k + 1), H77, B79, cp79, _, (ks ++ [t77]), at77), ⟨⟨by omega, l_Hq36_H77, hr79, ⟨by simp; omega, by omega, by omega, fun t ht => by simp only [List.mem_append, List.mem_singleton] at ht; rcases ht with ht | rfl; exact hi.2.2.2 t ht; exact hmk77⟩⟩, h.to 0 _⟩, by show _ - (k + 1) < _ - k; omega⟩
    ·have d69 : (kn kd) ≤ k := cd_ c69
     refine au [2,5,2,2,2,2,2,3,1,0,1,2,3,5,5,8,0,3,1,3] h ?_; intro a w h
     have h := h.pull 1 rfl rfl
     have h := h.pull 3 rfl rfl
     have h := h.pull 3 rfl rfl
     have h := h.pull 3 rfl rfl
     obtain ⟨Hrrk, leHrrk, h, hsHrrk⟩ := h.frw 0 (hrrk.mono fun cs y _ hr => RT.mono leHq67 y hr) rfl (fun _ l cs y _ hr => RT.mono l y hr)
     obtain ⟨hi1, hi2, hi3, hi4⟩ := id hi
     have hkk : k = kn kd := by omega
     have hkn := kn_le kd (by omega)
     have l_H_Hrrk : LE H Hrrk := ((leHq36.trans leHL1).trans leHq67).trans leHrrk
     exact fin (rs := [.cell 4 24]) (vs := [.agg #[_, _, _, _]]) h rfl (.agg (k0 := 1) tN24 rfl rfl rfl .nil) rfl l_H_Hrrk ⟨LE.rfl, h.st.drop 2⟩ ⟨.mk (kd : Int) nm nn ks, at3, mk_end hnm hi1 hkk hkn.1 (fun h0 => by omega) hnn (fun h2 => hkn.2 (by omega)) hi4, by omega, by omega, ⟨_, _, rfl, hsHrrk⟩, rfl⟩
end Go.Proofs.YtdabamobjciidaaGreatDoor
namespace Go.Proofs.YtdabamobjciidaaGreatDoor.X
open Go Go.RowKit
section
variable {P : Program} {ops : Array Oper} {Q : Exit → Act → World → Prop} {rest : List Oper} {o : Oper} {E w : World} {H : GH} {N : Nat} {D : List Deferred} {F : List (Nat × Value)} {L : List It} {a : Act} {d g : Nat} {t u e : TypeId} {x y : Operand}
theorem cvbB {H1 : GH} {L1 : List It} {K : Act → World → Prop} {nd : Bool} (k0 : Nat) {n : Nat} {ty : TypeId} {z : Nat × Nat} (hs : sliT P t = some e) (hi : intT P e = some .u8) (hu : strT P u = true) (h : S E H N D F L a w)
   (k : ∀ a w, S E H N D ((d, .string ⟨([UInt8.ofNat n] : List UInt8).toArray⟩) :: F) L a w → (gb P ops Q (Sees H1 L1) nd K).G rest a w)
   (ho : o.op = .convert t u x := by rfl) (hx : ev F x = some (.slice (some ⟨g, 0, none⟩) 1 1) := by rfl) (hk : L[k0]? = some (.obj g (.cells #[.int .u8 (n : Int)] ty z)) := by rfl)
   (hw : wn ops F o = some true := by rfl) (hd : o.dst = some d := by rfl) (hN : Nat.blt d N = true := by rfl) (hSub : ∀ i ∈ L1, i ∈ L := by simp) (hLe : LE H1 H := by exact le_) : (gb P ops Q (Sees H1 L1) nd K).G (o :: rest) a w := by
 have hs' : P.underlying t = some (.slice e) := by
   unfold sliT at hs; split at hs
   · cases hs; assumption
   · cases hs
 refine rdv h rfl (h.st.sees' hLe hSub) (fun w' e' => ?_) k hw hd hN
 subst e'
 have hc : w'.cell? ⟨g, 0, none⟩ = some (.int .u8 (n : Int)) := by rw [cell_own (item_at h.st.sees hk)]; rfl
 simp [execOp, ho, h.ag.ev hx, convert, run_underlying hs', run_underlying (und_str hu), run_underlying (und_int hi), run_byte hc]
end
end Go.Proofs.YtdabamobjciidaaGreatDoor.X
namespace Go.Proofs.YtdabamobjciidaaGreatDoor
open Go X
def loHi : List Bs := [[76, 111], [72, 105]]
def hiLo : List Bs := [[72, 105], [76, 111]]
theorem lh_len : ∀ s ∈ loHi, s.length ≤ 10 := by decide
theorem hl_len : ∀ s ∈ hiLo, s.length ≤ 10 := by decide
mutual
theorem long_of {B : Nat} : ∀ t : Tm, (∀ s ∈ t.names, s.length ≤ B) → t.long ≤ B
 | .mk k s n ks, h => by
   have h1 := h s (by simp [Tm.names])
   have h2 := longL_of (B := B) ks (fun r hr => h r (by simp [Tm.names, hr]))
   simp only [Tm.long]; omega
theorem longL_of {B : Nat} : ∀ l : List Tm, (∀ s ∈ namesL l, s.length ≤ B) → longL l ≤ B
 | [], _ => by simp [longL]
 | t :: l, h => by
   have h1 := long_of (B := B) t (fun r hr => h r (by simp [namesL, hr]))
   have h2 := longL_of (B := B) l (fun r hr => h r (by simp [namesL, hr]))
   simp only [longL]; omega
end
theorem mk_long {t : Tm} {d : Nat} (h : Mk d t) : t.long ≤ 2 := long_of t fun s hs => (by decide : ∀ s ∈ mkN, s.length ≤ 2) s (h.2.1 s hs)
structure Made (p : Pg) : Prop where
 li : p.inputs.length ≤ 4
 lc : p.cells.length ≤ 4
 lf : p.defs.length ≤ 4
 i : ∀ d ∈ p.inputs, d.name.length ≤ 10 ∧ d.label.length ≤ 10
 c : ∀ d ∈ p.cells, d.name.length ≤ 10 ∧ d.label.length ≤ 10
 f : ∀ d ∈ p.defs, d.name.length ≤ 10 ∧ Mk 5 d.t
 b : Mk 5 p.body
theorem Made.mild {p : Pg} (h : Made p) : Mild p :=
 ⟨by have := h.li; omega, by have := h.lc; omega, by have := h.lf; omega, fun d hd => by have := h.i d hd; omega, fun d hd => by have := h.c d hd; omega,
  fun d hd => by have h1 := h.f d hd; have h2 := mk_long h1.2; have h3 := h1.2.1; omega, by have := mk_long h.b; omega, by have := h.b.1; omega⟩
theorem mk_fun {t : Tm} (h : Mk 4 t) : Mk 5 (.mk 3 [120] 0 [t]) := mk_node (by decide) (by simp) (fun e => absurd e (by decide)) fun x hx => by simp only [List.mem_singleton] at hx; exact hx ▸ h
theorem program_ok (l : List UInt8) (n : Nat) (A : Option Addr) (c : Nat) (E : World) (H : GH) (L : List It) (hl : US H A c l) (hb : l.length < 1000000000000) (hn : n < 256) : Ok Tryz.prog 11 #[.slice A l.length c, .int .u8 (n : Int)] E H L fun r H' L' => ∃ p, Made p ∧ VP H' r p ∧ L = L' := by
 refine enter (N := 97) [(0, _), (1, _)] Tryz.func11 rfl rfl rfl rfl fun a w h => ?_
 refine au [1,2] h ?_
 refine al zr28 h fun g4 a w h => ?_
 refine au [0,2] h ?_
 refine al zr28 h fun g5 a w h => ?_
 refine au [0,3,0,4,1,2,0,6,0,3,1,5] h ?_; intro a w h
 have h := h.row (e := 59) (sz := 3)
 refine lp (β := Nat × GH × (Option Addr) × Nat × (List Value) × (List Dc)) (fun x a w => match x with | (k, HL0, Bri, pri, xri, di) => ((k ≤ (n % 4)) ∧ (LE H HL0) ∧ (RowR RDc 3 HL0 xri di) ∧ (di.length = k ∧ ∀ d ∈ di, d.name.length ≤ 10 ∧ d.label.length ≤ 10)) ∧ S E HL0 97 [] [(0, .slice A l.length c), (1, .int .u8 (n : Int)), (4, .pointer (some ⟨g4, 0, none⟩)), (5, .pointer (some ⟨g5, 0, none⟩)), (6, .int .i64 (k : Int))] (.row (.slice Bri di.length pri) 59 3 di.length xri :: .obj g5 (.cells #[.slice Bri di.length pri, .slice none 0 0, .slice none 0 0, .int .i64 0, str [], .int .i64 0, .slice none 0 0] 28 (0, 0)) :: .obj g4 (.cells #[.slice none 0 0, .slice none 0 0, .slice none 0 0, .int .i64 0, str [], .int .i64 0, .slice none 0 0] 28 (0, 0)) :: L) a w)
  (fun x => match x with | (k, HL0, Bri, pri, xri, di) => (n % 4) - k) (0, H, none, 0, [], ([] : List Dc)) ⟨⟨Nat.zero_le _, LE.rfl, (RowR.nil : RowR RDc 3 H [] ([] : List Dc)), ⟨rfl, fun _ h => absurd h List.not_mem_nil⟩⟩, h.to 0 _⟩ ?_
 rintro ⟨k, HL0, Bri, pri, xri, di⟩ a w ⟨⟨hk, leHL0, hrri, hi⟩, h⟩
 obtain ⟨hi1, hi2⟩ := hi
 refine au [0,4,1,2,0,0,0,0] h ?_; intro a w h
 refine rm n 4 (by decide) h fun a w h => ?_
 refine cv ((((n % 4) : Nat) : Int)) (by first | rfl | exact w64 (by omega) (by omega) | (show IntKind.wrap _ _ = _; simp [IntKind.wrap, IntKind.bits, IntKind.signed]; omega)) it5 it3 h fun a w h => ?_
 refine au [6,4,0,3] h ?_; intro a w h
 refine cdB h (fun c14 => ?_) (fun c14 => ?_)
 ·have d14 : k < (n % 4) := cd_ c14
  refine au [1,8,1,0,0,4,1,5] h ?_
  refine rgx [1] [_] [1] 18 mix h (fun a w h => ?_)
  refine au [8,0,0,7,2,6,8,1,3,8,2,6,8,2,0,0,2,6,8,3] h ?_; intro a w h
  refine cv (n := (k : Int)) ((k : Int)) (by first | rfl | exact w64 (by omega) (by omega) | (show IntKind.wrap _ _ = _; simp [IntKind.wrap, IntKind.bits, IntKind.signed]; omega)) it3 it5 h fun a w h => ?_
  refine au [2,6,8,4] h ?_
  refine adr (m := 97) (n := (k : Int)) (((97 + k) : Nat) : Int) (by show IntKind.u8.wrap _ = _; simp [IntKind.wrap, IntKind.bits, IntKind.signed]; omega) h fun a w h => ?_
  refine au [2,6,8,9,0,0,2,6,8,10] h ?_; intro a w h
  refine rm k 2 (by decide) h fun a w h => ?_
  refine tk0 ?_
  refine bg2 5 8 true true h ?_ ?_
  ·refine bsl bs29 h fun g22 a w h => ?_
   refine br0 ?_
   refine bg2 6 8 true true h ?_ ?_
   ·refine cvbB (n := (97 + k)) 0 sli29 it5 str9 h fun a w h => ?_
    refine au [2,7,8,7] h ?_
    refine catB h ?_ fun a w h => ?_
    ·(try simp only [List.length_append, List.length_cons, List.length_nil]); omega
    refine tk0 ?_
    refine bg1 8 true h ?_
    refine bsl bs70 h fun g25 a w h => ?_
    refine au [2,7,8,11] h ?_
    obtain ⟨Hq28, leHq28, h, hsHq28⟩ := h.fsl (R := RStr) (sz := 1) (ys := loHi) 0 (rstr_row loHi) (fun _ _ _ _ _ hr => hr)
    have hj28 : (k % 2) < loHi.length := Nat.mod_lt _ (by omega)
    obtain ⟨g28, o28, e28, hc28⟩ := SS.get hsHq28 hj28
    refine iaE sli70 sz9 rfl hj28 e28 h fun a w h => ?_
    refine tk0 ?_
    refine bg1 12 true h ?_
    refine ldHB t1_9 (hc28) h fun a w h => ?_
    refine au [2,7,8,13,7,5,2,6] h ?_; intro a w h
    refine bg1 14 true h ?_
    refine bsl bs25 h fun g31 a w h => ?_
    refine br0 ?_
    refine bf1 15 ?_
    refine apn (n := di.length) (m := 1) 2 0 (L' := fun i => _ :: _ :: i :: _) [_, _, _] ((di ++ [(Dc.mk ([105, 110] ++ [UInt8.ofNat (97 + k)]) (loHi[(k % 2)]) 0 : Dc)]).length) (by first | (simp; done) | (simp; omega)) row25 h (by first | omega | (simp; done) | (simp; omega) | (simp; omega)) (by first | omega | (simp; done) | (simp; omega) | (simp; omega)) fun v32 a w hone32 h => ?_
    obtain ⟨B32, cp32, rfl⟩ := h.rowv 2
    have hr32 : RowR RDc 3 Hq28 (xri ++ [str ([105, 110] ++ [UInt8.ofNat (97 + k)]), str (loHi[(k % 2)]), .int .i64 0]) (di ++ [(Dc.mk ([105, 110] ++ [UInt8.ofNat (97 + k)]) (loHi[(k % 2)]) 0 : Dc)]) := (hrri.mono fun cs y _ hr => hr).snoc rfl rfl
    refine au [2,7,8,16,0,7,2,6] h ?_; intro a w h
    refine bf1 17 ?_
    refine au [5,4,2,7] h ?_; intro a w h
    refine en (by kernel_rfl) ?_
    refine au [1,7,1,0,0,5,0,0] h ?_; intro a w h
    refine inc ?_ h fun a w h => ?_
    ·omega
    refine au [0,6,0,3] h ?_; intro a w h
    have h := h.del 0
    have h := h.del 0
    have l_H_Hq28 : LE H Hq28 := leHL0.trans leHq28
    exact ⟨((k + 1), Hq28, B32, cp32, _, (di ++ [(Dc.mk ([105, 110] ++ [UInt8.ofNat (97 + k)]) (loHi[(k % 2)]) 0 : Dc)])), ⟨⟨by omega, l_H_Hq28, hr32, ⟨by simp [hi1], fun d hd => by rcases List.mem_append.1 hd with hd | hd; exact hi2 d hd; simp only [List.mem_singleton] at hd; subst hd; exact ⟨by simp, lh_len _ (List.getElem_mem hj28)⟩⟩⟩, h.to 0 _⟩, by show _ - (k + 1) < _ - k; omega⟩
   ·refine bsl bs70 h fun g25 a w h => ?_
    refine au [2,7,8,11] h ?_
    obtain ⟨Hq28, leHq28, h, hsHq28⟩ := h.fsl (R := RStr) (sz := 1) (ys := loHi) 0 (rstr_row loHi) (fun _ _ _ _ _ hr => hr)
    have hj28 : (k % 2) < loHi.length := Nat.mod_lt _ (by omega)
    obtain ⟨g28, o28, e28, hc28⟩ := SS.get hsHq28 hj28
    refine iaE sli70 sz9 rfl hj28 e28 h fun a w h => ?_
    refine tk0 ?_
    refine bg2 6 12 true true h ?_ ?_
    ·refine cvbB (n := (97 + k)) 0 sli29 it5 str9 h fun a w h => ?_
     refine au [2,7,8,7] h ?_
     refine catB h ?_ fun a w h => ?_
     ·(try simp only [List.length_append, List.length_cons, List.length_nil]); omega
     refine tk0 ?_
     refine bg1 12 true h ?_
     refine ldHB t1_9 (hc28) h fun a w h => ?_
     refine au [2,7,8,13,7,5,2,6] h ?_; intro a w h
     refine bg1 14 true h ?_
     refine bsl bs25 h fun g31 a w h => ?_
     refine br0 ?_
     refine bf1 15 ?_
     refine apn (n := di.length) (m := 1) 2 0 (L' := fun i => _ :: _ :: i :: _) [_, _, _] ((di ++ [(Dc.mk ([105, 110] ++ [UInt8.ofNat (97 + k)]) (loHi[(k % 2)]) 0 : Dc)]).length) (by first | (simp; done) | (simp; omega)) row25 h (by first | omega | (simp; done) | (simp; omega) | (simp; omega)) (by first | omega | (simp; done) | (simp; omega) | (simp; omega)) fun v32 a w hone32 h => ?_
     obtain ⟨B32, cp32, rfl⟩ := h.rowv 2
     have hr32 : RowR RDc 3 Hq28 (xri ++ [str ([105, 110] ++ [UInt8.ofNat (97 + k)]), str (loHi[(k % 2)]), .int .i64 0]) (di ++ [(Dc.mk ([105, 110] ++ [UInt8.ofNat (97 + k)]) (loHi[(k % 2)]) 0 : Dc)]) := (hrri.mono fun cs y _ hr => hr).snoc rfl rfl
     refine au [2,7,8,16,0,7,2,6] h ?_; intro a w h
     refine bf1 17 ?_
     refine au [5,4,2,7] h ?_; intro a w h
     refine en (by kernel_rfl) ?_
     refine au [1,7,1,0,0,5,0,0] h ?_; intro a w h
     refine inc ?_ h fun a w h => ?_
     ·omega
     refine au [0,6,0,3] h ?_; intro a w h
     have h := h.del 0
     have h := h.del 0
     have l_H_Hq28 : LE H Hq28 := leHL0.trans leHq28
     exact ⟨((k + 1), Hq28, B32, cp32, _, (di ++ [(Dc.mk ([105, 110] ++ [UInt8.ofNat (97 + k)]) (loHi[(k % 2)]) 0 : Dc)])), ⟨⟨by omega, l_H_Hq28, hr32, ⟨by simp [hi1], fun d hd => by rcases List.mem_append.1 hd with hd | hd; exact hi2 d hd; simp only [List.mem_singleton] at hd; subst hd; exact ⟨by simp, lh_len _ (List.getElem_mem hj28)⟩⟩⟩, h.to 0 _⟩, by show _ - (k + 1) < _ - k; omega⟩
    ·refine ldHB t1_9 (hc28) h fun a w h => ?_
     refine br0 ?_
     refine bg1 6 true h ?_
     refine cvbB (n := (97 + k)) 0 sli29 it5 str9 h fun a w h => ?_
     refine au [2,7,8,7] h ?_
     refine catB h ?_ fun a w h => ?_
     ·(try simp only [List.length_append, List.length_cons, List.length_nil]); omega
     refine au [2,6,8,13,7,5,2,6] h ?_; intro a w h
     refine bg1 14 true h ?_
     refine bsl bs25 h fun g31 a w h => ?_
     refine br0 ?_
     refine bf1 15 ?_
     refine apn (n := di.length) (m := 1) 2 0 (L' := fun i => _ :: _ :: i :: _) [_, _, _] ((di ++ [(Dc.mk ([105, 110] ++ [UInt8.ofNat (97 + k)]) (loHi[(k % 2)]) 0 : Dc)]).length) (by first | (simp; done) | (simp; omega)) row25 h (by first | omega | (simp; done) | (simp; omega) | (simp; omega)) (by first | omega | (simp; done) | (simp; omega) | (simp; omega)) fun v32 a w hone32 h => ?_
     obtain ⟨B32, cp32, rfl⟩ := h.rowv 2
     have hr32 : RowR RDc 3 Hq28 (xri ++ [str ([105, 110] ++ [UInt8.ofNat (97 + k)]), str (loHi[(k % 2)]), .int .i64 0]) (di ++ [(Dc.mk ([105, 110] ++ [UInt8.ofNat (97 + k)]) (loHi[(k % 2)]) 0 : Dc)]) := (hrri.mono fun cs y _ hr => hr).snoc rfl rfl
     refine au [2,7,8,16,0,7,2,6] h ?_; intro a w h
     refine bf1 17 ?_
     refine au [5,4,2,7] h ?_; intro a w h
     refine en (by kernel_rfl) ?_
     refine au [1,7,1,0,0,5,0,0] h ?_; intro a w h
     refine inc ?_ h fun a w h => ?_
     ·omega
     refine au [0,6,0,3] h ?_; intro a w h
     have h := h.del 0
     have h := h.del 0
     have l_H_Hq28 : LE H Hq28 := leHL0.trans leHq28
     exact ⟨((k + 1), Hq28, B32, cp32, _, (di ++ [(Dc.mk ([105, 110] ++ [UInt8.ofNat (97 + k)]) (loHi[(k % 2)]) 0 : Dc)])), ⟨⟨by omega, l_H_Hq28, hr32, ⟨by simp [hi1], fun d hd => by rcases List.mem_append.1 hd with hd | hd; exact hi2 d hd; simp only [List.mem_singleton] at hd; subst hd; exact ⟨by simp, lh_len _ (List.getElem_mem hj28)⟩⟩⟩, h.to 0 _⟩, by show _ - (k + 1) < _ - k; omega⟩
  ·refine bsl bs70 h fun g25 a w h => ?_
   refine au [2,7,8,11] h ?_
   obtain ⟨Hq28, leHq28, h, hsHq28⟩ := h.fsl (R := RStr) (sz := 1) (ys := loHi) 0 (rstr_row loHi) (fun _ _ _ _ _ hr => hr)
   have hj28 : (k % 2) < loHi.length := Nat.mod_lt _ (by omega)
   obtain ⟨g28, o28, e28, hc28⟩ := SS.get hsHq28 hj28
   refine iaE sli70 sz9 rfl hj28 e28 h fun a w h => ?_
   refine tk0 ?_
   refine bg2 5 12 true true h ?_ ?_
   ·refine bsl bs29 h fun g22 a w h => ?_
    refine br0 ?_
    refine bg2 6 12 true true h ?_ ?_
    ·refine cvbB (n := (97 + k)) 0 sli29 it5 str9 h fun a w h => ?_
     refine au [2,7,8,7] h ?_
     refine catB h ?_ fun a w h => ?_
     ·(try simp only [List.length_append, List.length_cons, List.length_nil]); omega
     refine tk0 ?_
     refine bg1 12 true h ?_
     refine ldHB t1_9 (hc28) h fun a w h => ?_
     refine au [2,7,8,13,7,5,2,6] h ?_; intro a w h
     refine bg1 14 true h ?_
     refine bsl bs25 h fun g31 a w h => ?_
     refine br0 ?_
     refine bf1 15 ?_
     refine apn (n := di.length) (m := 1) 2 0 (L' := fun i => _ :: _ :: i :: _) [_, _, _] ((di ++ [(Dc.mk ([105, 110] ++ [UInt8.ofNat (97 + k)]) (loHi[(k % 2)]) 0 : Dc)]).length) (by first | (simp; done) | (simp; omega)) row25 h (by first | omega | (simp; done) | (simp; omega) | (simp; omega)) (by first | omega | (simp; done) | (simp; omega) | (simp; omega)) fun v32 a w hone32 h => ?_
     obtain ⟨B32, cp32, rfl⟩ := h.rowv 2
     have hr32 : RowR RDc 3 Hq28 (xri ++ [str ([105, 110] ++ [UInt8.ofNat (97 + k)]), str (loHi[(k % 2)]), .int .i64 0]) (di ++ [(Dc.mk ([105, 110] ++ [UInt8.ofNat (97 + k)]) (loHi[(k % 2)]) 0 : Dc)]) := (hrri.mono fun cs y _ hr => hr).snoc rfl rfl
     refine au [2,7,8,16,0,7,2,6] h ?_; intro a w h
     refine bf1 17 ?_
     refine au [5,4,2,7] h ?_; intro a w h
     refine en (by kernel_rfl) ?_
     refine au [1,7,1,0,0,5,0,0] h ?_; intro a w h
     refine inc ?_ h fun a w h => ?_
     ·omega
     refine au [0,6,0,3] h ?_; intro a w h
     have h := h.del 0
     have h := h.del 0
     have l_H_Hq28 : LE H Hq28 := leHL0.trans leHq28
     exact ⟨((k + 1), Hq28, B32, cp32, _, (di ++ [(Dc.mk ([105, 110] ++ [UInt8.ofNat (97 + k)]) (loHi[(k % 2)]) 0 : Dc)])), ⟨⟨by omega, l_H_Hq28, hr32, ⟨by simp [hi1], fun d hd => by rcases List.mem_append.1 hd with hd | hd; exact hi2 d hd; simp only [List.mem_singleton] at hd; subst hd; exact ⟨by simp, lh_len _ (List.getElem_mem hj28)⟩⟩⟩, h.to 0 _⟩, by show _ - (k + 1) < _ - k; omega⟩
    ·refine ldHB t1_9 (hc28) h fun a w h => ?_
     refine br0 ?_
     refine bg1 6 true h ?_
     refine cvbB (n := (97 + k)) 0 sli29 it5 str9 h fun a w h => ?_
     refine au [2,7,8,7] h ?_
     refine catB h ?_ fun a w h => ?_
     ·(try simp only [List.length_append, List.length_cons, List.length_nil]); omega
     refine au [2,6,8,13,7,5,2,6] h ?_; intro a w h
     refine bg1 14 true h ?_
     refine bsl bs25 h fun g31 a w h => ?_
     refine br0 ?_
     refine bf1 15 ?_
     refine apn (n := di.length) (m := 1) 2 0 (L' := fun i => _ :: _ :: i :: _) [_, _, _] ((di ++ [(Dc.mk ([105, 110] ++ [UInt8.ofNat (97 + k)]) (loHi[(k % 2)]) 0 : Dc)]).length) (by first | (simp; done) | (simp; omega)) row25 h (by first | omega | (simp; done) | (simp; omega) | (simp; omega)) (by first | omega | (simp; done) | (simp; omega) | (simp; omega)) fun v32 a w hone32 h => ?_
     obtain ⟨B32, cp32, rfl⟩ := h.rowv 2
     have hr32 : RowR RDc 3 Hq28 (xri ++ [str ([105, 110] ++ [UInt8.ofNat (97 + k)]), str (loHi[(k % 2)]), .int .i64 0]) (di ++ [(Dc.mk ([105, 110] ++ [UInt8.ofNat (97 + k)]) (loHi[(k % 2)]) 0 : Dc)]) := (hrri.mono fun cs y _ hr => hr).snoc rfl rfl
     refine au [2,7,8,16,0,7,2,6] h ?_; intro a w h
     refine bf1 17 ?_
     refine au [5,4,2,7] h ?_; intro a w h
     refine en (by kernel_rfl) ?_
     refine au [1,7,1,0,0,5,0,0] h ?_; intro a w h
     refine inc ?_ h fun a w h => ?_
     ·omega
     refine au [0,6,0,3] h ?_; intro a w h
     have h := h.del 0
     have h := h.del 0
     have l_H_Hq28 : LE H Hq28 := leHL0.trans leHq28
     exact ⟨((k + 1), Hq28, B32, cp32, _, (di ++ [(Dc.mk ([105, 110] ++ [UInt8.ofNat (97 + k)]) (loHi[(k % 2)]) 0 : Dc)])), ⟨⟨by omega, l_H_Hq28, hr32, ⟨by simp [hi1], fun d hd => by rcases List.mem_append.1 hd with hd | hd; exact hi2 d hd; simp only [List.mem_singleton] at hd; subst hd; exact ⟨by simp, lh_len _ (List.getElem_mem hj28)⟩⟩⟩, h.to 0 _⟩, by show _ - (k + 1) < _ - k; omega⟩
   ·refine ldHB t1_9 (hc28) h fun a w h => ?_
    refine br0 ?_
    refine bg1 5 true h ?_
    refine bsl bs29 h fun g22 a w h => ?_
    refine br0 ?_
    refine bg1 6 true h ?_
    refine cvbB (n := (97 + k)) 0 sli29 it5 str9 h fun a w h => ?_
    refine au [2,7,8,7] h ?_
    refine catB h ?_ fun a w h => ?_
    ·(try simp only [List.length_append, List.length_cons, List.length_nil]); omega
    refine au [2,6,8,13,7,5,2,6] h ?_; intro a w h
    refine bg1 14 true h ?_
    refine bsl bs25 h fun g31 a w h => ?_
    refine br0 ?_
    refine bf1 15 ?_
    refine apn (n := di.length) (m := 1) 2 0 (L' := fun i => _ :: _ :: i :: _) [_, _, _] ((di ++ [(Dc.mk ([105, 110] ++ [UInt8.ofNat (97 + k)]) (loHi[(k % 2)]) 0 : Dc)]).length) (by first | (simp; done) | (simp; omega)) row25 h (by first | omega | (simp; done) | (simp; omega) | (simp; omega)) (by first | omega | (simp; done) | (simp; omega) | (simp; omega)) fun v32 a w hone32 h => ?_
    obtain ⟨B32, cp32, rfl⟩ := h.rowv 2
    have hr32 : RowR RDc 3 Hq28 (xri ++ [str ([105, 110] ++ [UInt8.ofNat (97 + k)]), str (loHi[(k % 2)]), .int .i64 0]) (di ++ [(Dc.mk ([105, 110] ++ [UInt8.ofNat (97 + k)]) (loHi[(k % 2)]) 0 : Dc)]) := (hrri.mono fun cs y _ hr => hr).snoc rfl rfl
    refine au [2,7,8,16,0,7,2,6] h ?_; intro a w h
    refine bf1 17 ?_
    refine au [5,4,2,7] h ?_; intro a w h
    refine en (by kernel_rfl) ?_
    refine au [1,7,1,0,0,5,0,0] h ?_; intro a w h
    refine inc ?_ h fun a w h => ?_
    ·omega
    refine au [0,6,0,3] h ?_; intro a w h
    have h := h.del 0
    have h := h.del 0
    have l_H_Hq28 : LE H Hq28 := leHL0.trans leHq28
    exact ⟨((k + 1), Hq28, B32, cp32, _, (di ++ [(Dc.mk ([105, 110] ++ [UInt8.ofNat (97 + k)]) (loHi[(k % 2)]) 0 : Dc)])), ⟨⟨by omega, l_H_Hq28, hr32, ⟨by simp [hi1], fun d hd => by rcases List.mem_append.1 hd with hd | hd; exact hi2 d hd; simp only [List.mem_singleton] at hd; subst hd; exact ⟨by simp, lh_len _ (List.getElem_mem hj28)⟩⟩⟩, h.to 0 _⟩, by show _ - (k + 1) < _ - k; omega⟩
 ·have d14 : (n % 4) ≤ k := cd_ c14
  refine au [2,5,2,2,2,2,2,3,1,0,0,4,1,2,0,6,0,3,1,5] h ?_; intro a w h
  have h := h.row (e := 59) (sz := 3)
  obtain ⟨Hrri, leHrri, h, hsHrri⟩ := h.frw 1 hrri rfl (fun _ l cs y _ hr => hr)
  refine lp (β := Nat × GH × (Option Addr) × Nat × (List Value) × (List Dc)) (fun x a w => match x with | (k2, HL2, Brc, prc, xrc, dc) => ((k2 ≤ (n / 4 % 4)) ∧ (LE Hrri HL2) ∧ (RowR RDc 3 HL2 xrc dc) ∧ (dc.length = k2 ∧ ∀ d ∈ dc, d.name.length ≤ 10 ∧ d.label.length ≤ 10)) ∧ S E HL2 97 [] [(0, .slice A l.length c), (1, .int .u8 (n : Int)), (4, .pointer (some ⟨g4, 0, none⟩)), (5, .pointer (some ⟨g5, 0, none⟩)), (6, .int .i64 (k : Int)), (7, .int .i64 (k2 : Int)), (10, .int .i64 (k : Int)), (11, .int .u8 (n : Int)), (12, .int .u8 (((n % 4) : Nat) : Int)), (13, .int .i64 (((n % 4) : Nat) : Int)), (14, .bool (decide (((k : Int) : Int) < (((n % 4) : Nat) : Int))))] (.row (.slice Brc dc.length prc) 59 3 dc.length xrc :: .obj g5 (.cells #[.slice Bri di.length pri, .slice Brc dc.length prc, .slice none 0 0, .int .i64 0, str [], .int .i64 0, .slice none 0 0] 28 (0, 0)) :: .obj g4 (.cells #[.slice none 0 0, .slice none 0 0, .slice none 0 0, .int .i64 0, str [], .int .i64 0, .slice none 0 0] 28 (0, 0)) :: L) a w)
   (fun x => match x with | (k2, HL2, Brc, prc, xrc, dc) => (n / 4 % 4) - k2) (0, Hrri, none, 0, [], ([] : List Dc)) ⟨⟨Nat.zero_le _, LE.rfl, ((RowR.nil : RowR RDc 3 HL0 [] ([] : List Dc)).mono fun cs y _ hr => hr), ⟨rfl, fun _ h => absurd h List.not_mem_nil⟩⟩, h.to 0 _⟩ ?_
  rintro ⟨k2, HL2, Brc, prc, xrc, dc⟩ a w ⟨⟨hk, leHL2, hrrc, hi⟩, h⟩
  obtain ⟨hj1, hj2⟩ := hi
  refine au [0,4,1,2,0,0,0,0] h ?_; intro a w h
  refine qu n 4 (by decide) (by show IntKind.u8.wrap _ = _; simp [IntKind.wrap, IntKind.bits, IntKind.signed]; omega) h fun a w h => ?_
  refine rm (n / 4) 4 (by decide) h fun a w h => ?_
  refine cv (((((n / 4) % 4) : Nat) : Int)) (by first | rfl | exact w64 (by omega) (by omega) | (show IntKind.wrap _ _ = _; simp [IntKind.wrap, IntKind.bits, IntKind.signed]; omega)) it5 it3 h fun a w h => ?_
  refine au [6,4,0,3] h ?_; intro a w h
  refine cdB h (fun c39 => ?_) (fun c39 => ?_)
  ·have d39 : k2 < ((n / 4) % 4) := cd_ c39
   refine au [1,8,1,0,0,4,1,5] h ?_
   refine rgx [1] [_] [1] 21 mix h (fun a w h => ?_)
   refine au [8,0,0,7,2,6,8,1,3,8,2,6,8,2,0,0,2,6,8,3] h ?_; intro a w h
   refine cv (n := (k2 : Int)) ((k2 : Int)) (by first | rfl | exact w64 (by omega) (by omega) | (show IntKind.wrap _ _ = _; simp [IntKind.wrap, IntKind.bits, IntKind.signed]; omega)) it3 it5 h fun a w h => ?_
   refine au [2,6,8,4] h ?_
   refine adr (m := 97) (n := (k2 : Int)) (((97 + k2) : Nat) : Int) (by show IntKind.u8.wrap _ = _; simp [IntKind.wrap, IntKind.bits, IntKind.signed]; omega) h fun a w h => ?_
   refine au [2,6,8,9,0,0,2,6,8,10] h ?_; intro a w h
   refine rm k2 2 (by decide) h fun a w h => ?_
   refine au [2,6,8,13,0,0,2,6,8,14] h ?_; intro a w h
   refine cv ((n : Int)) (by first | rfl | exact w64 (by omega) (by omega) | (show IntKind.wrap _ _ = _; simp [IntKind.wrap, IntKind.bits, IntKind.signed]; omega)) it5 it2 h fun a w h => ?_
   refine au [2,6,8,15] h ?_
   refine ml (IntKind.i64.wrap ((n : Int) * 1000)) rfl h fun a w h => ?_
   refine tk0 ?_
   refine bg2 5 8 true true h ?_ ?_
   ·refine bsl bs29 h fun g47 a w h => ?_
    refine br0 ?_
    refine bg2 6 8 true true h ?_ ?_
    ·refine cvbB (n := (97 + k2)) 0 sli29 it5 str9 h fun a w h => ?_
     refine au [2,7,8,7] h ?_
     refine catB h ?_ fun a w h => ?_
     ·(try simp only [List.length_append, List.length_cons, List.length_nil]); omega
     refine tk0 ?_
     refine bg1 8 true h ?_
     refine bsl bs70 h fun g50 a w h => ?_
     refine au [2,7,8,11] h ?_
     obtain ⟨Hq53, leHq53, h, hsHq53⟩ := h.fsl (R := RStr) (sz := 1) (ys := hiLo) 0 (rstr_row hiLo) (fun _ _ _ _ _ hr => hr)
     have hj53 : (k2 % 2) < hiLo.length := Nat.mod_lt _ (by omega)
     obtain ⟨g53, o53, e53, hc53⟩ := SS.get hsHq53 hj53
     refine iaE sli70 sz9 rfl hj53 e53 h fun a w h => ?_
     refine tk0 ?_
     refine bg1 12 true h ?_
     refine ldHB t1_9 (hc53) h fun a w h => ?_
     refine au [2,7,8,16,7,5,2,6] h ?_; intro a w h
     refine bg1 17 true h ?_
     refine bsl bs25 h fun g59 a w h => ?_
     refine br0 ?_
     refine bf1 18 ?_
     refine apn (n := dc.length) (m := 1) 2 0 (L' := fun i => _ :: _ :: i :: _) [_, _, _] ((dc ++ [(Dc.mk ([99] ++ [UInt8.ofNat (97 + k2)]) (hiLo[(k2 % 2)]) (IntKind.i64.wrap ((n : Int) * 1000)) : Dc)]).length) (by first | (simp; done) | (simp; omega)) row25 h (by first | omega | (simp; done) | (simp; omega) | (simp; omega)) (by first | omega | (simp; done) | (simp; omega) | (simp; omega)) fun v60 a w hone60 h => ?_
     obtain ⟨B60, cp60, rfl⟩ := h.rowv 2
     have hr60 : RowR RDc 3 Hq53 (xrc ++ [str ([99] ++ [UInt8.ofNat (97 + k2)]), str (hiLo[(k2 % 2)]), .int .i64 (IntKind.i64.wrap ((n : Int) * 1000))]) (dc ++ [(Dc.mk ([99] ++ [UInt8.ofNat (97 + k2)]) (hiLo[(k2 % 2)]) (IntKind.i64.wrap ((n : Int) * 1000)) : Dc)]) := (hrrc.mono fun cs y _ hr => hr).snoc rfl rfl
     refine au [2,7,8,19,0,7,2,6] h ?_; intro a w h
     refine bf1 20 ?_
     refine au [5,4,2,7] h ?_; intro a w h
     refine en (by kernel_rfl) ?_
     refine au [1,7,1,0,0,5,0,0] h ?_; intro a w h
     refine inc ?_ h fun a w h => ?_
     ·omega
     refine au [0,6,0,3] h ?_; intro a w h
     have h := h.del 0
     have h := h.del 0
     have l_Hrri_Hq53 : LE Hrri Hq53 := leHL2.trans leHq53
     exact ⟨((k2 + 1), Hq53, B60, cp60, _, (dc ++ [(Dc.mk ([99] ++ [UInt8.ofNat (97 + k2)]) (hiLo[(k2 % 2)]) (IntKind.i64.wrap ((n : Int) * 1000)) : Dc)])), ⟨⟨by omega, l_Hrri_Hq53, hr60, ⟨by simp [hj1], fun d hd => by rcases List.mem_append.1 hd with hd | hd; exact hj2 d hd; simp only [List.mem_singleton] at hd; subst hd; exact ⟨by simp, hl_len _ (List.getElem_mem hj53)⟩⟩⟩, h.to 0 _⟩, by show _ - (k2 + 1) < _ - k2; omega⟩
    ·refine bsl bs70 h fun g50 a w h => ?_
     refine au [2,7,8,11] h ?_
     obtain ⟨Hq53, leHq53, h, hsHq53⟩ := h.fsl (R := RStr) (sz := 1) (ys := hiLo) 0 (rstr_row hiLo) (fun _ _ _ _ _ hr => hr)
     have hj53 : (k2 % 2) < hiLo.length := Nat.mod_lt _ (by omega)
     obtain ⟨g53, o53, e53, hc53⟩ := SS.get hsHq53 hj53
     refine iaE sli70 sz9 rfl hj53 e53 h fun a w h => ?_
     refine tk0 ?_
     refine bg2 6 12 true true h ?_ ?_
     ·refine cvbB (n := (97 + k2)) 0 sli29 it5 str9 h fun a w h => ?_
      refine au [2,7,8,7] h ?_
      refine catB h ?_ fun a w h => ?_
      ·(try simp only [List.length_append, List.length_cons, List.length_nil]); omega
      refine tk0 ?_
      refine bg1 12 true h ?_
      refine ldHB t1_9 (hc53) h fun a w h => ?_
      refine au [2,7,8,16,7,5,2,6] h ?_; intro a w h
      refine bg1 17 true h ?_
      refine bsl bs25 h fun g59 a w h => ?_
      refine br0 ?_
      refine bf1 18 ?_
      refine apn (n := dc.length) (m := 1) 2 0 (L' := fun i => _ :: _ :: i :: _) [_, _, _] ((dc ++ [(Dc.mk ([99] ++ [UInt8.ofNat (97 + k2)]) (hiLo[(k2 % 2)]) (IntKind.i64.wrap ((n : Int) * 1000)) : Dc)]).length) (by first | (simp; done) | (simp; omega)) row25 h (by first | omega | (simp; done) | (simp; omega) | (simp; omega)) (by first | omega | (simp; done) | (simp; omega) | (simp; omega)) fun v60 a w hone60 h => ?_
      obtain ⟨B60, cp60, rfl⟩ := h.rowv 2
      have hr60 : RowR RDc 3 Hq53 (xrc ++ [str ([99] ++ [UInt8.ofNat (97 + k2)]), str (hiLo[(k2 % 2)]), .int .i64 (IntKind.i64.wrap ((n : Int) * 1000))]) (dc ++ [(Dc.mk ([99] ++ [UInt8.ofNat (97 + k2)]) (hiLo[(k2 % 2)]) (IntKind.i64.wrap ((n : Int) * 1000)) : Dc)]) := (hrrc.mono fun cs y _ hr => hr).snoc rfl rfl
      refine au [2,7,8,19,0,7,2,6] h ?_; intro a w h
      refine bf1 20 ?_
      refine au [5,4,2,7] h ?_; intro a w h
      refine en (by kernel_rfl) ?_
      refine au [1,7,1,0,0,5,0,0] h ?_; intro a w h
      refine inc ?_ h fun a w h => ?_
      ·omega
      refine au [0,6,0,3] h ?_; intro a w h
      have h := h.del 0
      have h := h.del 0
      have l_Hrri_Hq53 : LE Hrri Hq53 := leHL2.trans leHq53
      exact ⟨((k2 + 1), Hq53, B60, cp60, _, (dc ++ [(Dc.mk ([99] ++ [UInt8.ofNat (97 + k2)]) (hiLo[(k2 % 2)]) (IntKind.i64.wrap ((n : Int) * 1000)) : Dc)])), ⟨⟨by omega, l_Hrri_Hq53, hr60, ⟨by simp [hj1], fun d hd => by rcases List.mem_append.1 hd with hd | hd; exact hj2 d hd; simp only [List.mem_singleton] at hd; subst hd; exact ⟨by simp, hl_len _ (List.getElem_mem hj53)⟩⟩⟩, h.to 0 _⟩, by show _ - (k2 + 1) < _ - k2; omega⟩
     ·refine ldHB t1_9 (hc53) h fun a w h => ?_
      refine br0 ?_
      refine bg1 6 true h ?_
      refine cvbB (n := (97 + k2)) 0 sli29 it5 str9 h fun a w h => ?_
      refine au [2,7,8,7] h ?_
      refine catB h ?_ fun a w h => ?_
      ·(try simp only [List.length_append, List.length_cons, List.length_nil]); omega
      refine au [2,6,8,16,7,5,2,6] h ?_; intro a w h
      refine bg1 17 true h ?_
      refine bsl bs25 h fun g59 a w h => ?_
      refine br0 ?_
      refine bf1 18 ?_
      refine apn (n := dc.length) (m := 1) 2 0 (L' := fun i => _ :: _ :: i :: _) [_, _, _] ((dc ++ [(Dc.mk ([99] ++ [UInt8.ofNat (97 + k2)]) (hiLo[(k2 % 2)]) (IntKind.i64.wrap ((n : Int) * 1000)) : Dc)]).length) (by first | (simp; done) | (simp; omega)) row25 h (by first | omega | (simp; done) | (simp; omega) | (simp; omega)) (by first | omega | (simp; done) | (simp; omega) | (simp; omega)) fun v60 a w hone60 h => ?_
      obtain ⟨B60, cp60, rfl⟩ := h.rowv 2
      have hr60 : RowR RDc 3 Hq53 (xrc ++ [str ([99] ++ [UInt8.ofNat (97 + k2)]), str (hiLo[(k2 % 2)]), .int .i64 (IntKind.i64.wrap ((n : Int) * 1000))]) (dc ++ [(Dc.mk ([99] ++ [UInt8.ofNat (97 + k2)]) (hiLo[(k2 % 2)]) (IntKind.i64.wrap ((n : Int) * 1000)) : Dc)]) := (hrrc.mono fun cs y _ hr => hr).snoc rfl rfl
      refine au [2,7,8,19,0,7,2,6] h ?_; intro a w h
      refine bf1 20 ?_
      refine au [5,4,2,7] h ?_; intro a w h
      refine en (by kernel_rfl) ?_
      refine au [1,7,1,0,0,5,0,0] h ?_; intro a w h
      refine inc ?_ h fun a w h => ?_
      ·omega
      refine au [0,6,0,3] h ?_; intro a w h
      have h := h.del 0
      have h := h.del 0
      have l_Hrri_Hq53 : LE Hrri Hq53 := leHL2.trans leHq53
      exact ⟨((k2 + 1), Hq53, B60, cp60, _, (dc ++ [(Dc.mk ([99] ++ [UInt8.ofNat (97 + k2)]) (hiLo[(k2 % 2)]) (IntKind.i64.wrap ((n : Int) * 1000)) : Dc)])), ⟨⟨by omega, l_Hrri_Hq53, hr60, ⟨by simp [hj1], fun d hd => by rcases List.mem_append.1 hd with hd | hd; exact hj2 d hd; simp only [List.mem_singleton] at hd; subst hd; exact ⟨by simp, hl_len _ (List.getElem_mem hj53)⟩⟩⟩, h.to 0 _⟩, by show _ - (k2 + 1) < _ - k2; omega⟩
   ·refine bsl bs70 h fun g50 a w h => ?_
    refine au [2,7,8,11] h ?_
    obtain ⟨Hq53, leHq53, h, hsHq53⟩ := h.fsl (R := RStr) (sz := 1) (ys := hiLo) 0 (rstr_row hiLo) (fun _ _ _ _ _ hr => hr)
    have hj53 : (k2 % 2) < hiLo.length := Nat.mod_lt _ (by omega)
    obtain ⟨g53, o53, e53, hc53⟩ := SS.get hsHq53 hj53
    refine iaE sli70 sz9 rfl hj53 e53 h fun a w h => ?_
    refine tk0 ?_
    refine bg2 5 12 true true h ?_ ?_
    ·refine bsl bs29 h fun g47 a w h => ?_
     refine br0 ?_
     refine bg2 6 12 true true h ?_ ?_
     ·refine cvbB (n := (97 + k2)) 0 sli29 it5 str9 h fun a w h => ?_
      refine au [2,7,8,7] h ?_
      refine catB h ?_ fun a w h => ?_
      ·(try simp only [List.length_append, List.length_cons, List.length_nil]); omega
      refine tk0 ?_
      refine bg1 12 true h ?_
      refine ldHB t1_9 (hc53) h fun a w h => ?_
      refine au [2,7,8,16,7,5,2,6] h ?_; intro a w h
      refine bg1 17 true h ?_
      refine bsl bs25 h fun g59 a w h => ?_
      refine br0 ?_
      refine bf1 18 ?_
      refine apn (n := dc.length) (m := 1) 2 0 (L' := fun i => _ :: _ :: i :: _) [_, _, _] ((dc ++ [(Dc.mk ([99] ++ [UInt8.ofNat (97 + k2)]) (hiLo[(k2 % 2)]) (IntKind.i64.wrap ((n : Int) * 1000)) : Dc)]).length) (by first | (simp; done) | (simp; omega)) row25 h (by first | omega | (simp; done) | (simp; omega) | (simp; omega)) (by first | omega | (simp; done) | (simp; omega) | (simp; omega)) fun v60 a w hone60 h => ?_
      obtain ⟨B60, cp60, rfl⟩ := h.rowv 2
      have hr60 : RowR RDc 3 Hq53 (xrc ++ [str ([99] ++ [UInt8.ofNat (97 + k2)]), str (hiLo[(k2 % 2)]), .int .i64 (IntKind.i64.wrap ((n : Int) * 1000))]) (dc ++ [(Dc.mk ([99] ++ [UInt8.ofNat (97 + k2)]) (hiLo[(k2 % 2)]) (IntKind.i64.wrap ((n : Int) * 1000)) : Dc)]) := (hrrc.mono fun cs y _ hr => hr).snoc rfl rfl
      refine au [2,7,8,19,0,7,2,6] h ?_; intro a w h
      refine bf1 20 ?_
      refine au [5,4,2,7] h ?_; intro a w h
      refine en (by kernel_rfl) ?_
      refine au [1,7,1,0,0,5,0,0] h ?_; intro a w h
      refine inc ?_ h fun a w h => ?_
      ·omega
      refine au [0,6,0,3] h ?_; intro a w h
      have h := h.del 0
      have h := h.del 0
      have l_Hrri_Hq53 : LE Hrri Hq53 := leHL2.trans leHq53
      exact ⟨((k2 + 1), Hq53, B60, cp60, _, (dc ++ [(Dc.mk ([99] ++ [UInt8.ofNat (97 + k2)]) (hiLo[(k2 % 2)]) (IntKind.i64.wrap ((n : Int) * 1000)) : Dc)])), ⟨⟨by omega, l_Hrri_Hq53, hr60, ⟨by simp [hj1], fun d hd => by rcases List.mem_append.1 hd with hd | hd; exact hj2 d hd; simp only [List.mem_singleton] at hd; subst hd; exact ⟨by simp, hl_len _ (List.getElem_mem hj53)⟩⟩⟩, h.to 0 _⟩, by show _ - (k2 + 1) < _ - k2; omega⟩
     ·refine ldHB t1_9 (hc53) h fun a w h => ?_
      refine br0 ?_
      refine bg1 6 true h ?_
      refine cvbB (n := (97 + k2)) 0 sli29 it5 str9 h fun a w h => ?_
      refine au [2,7,8,7] h ?_
      refine catB h ?_ fun a w h => ?_
      ·(try simp only [List.length_append, List.length_cons, List.length_nil]); omega
      refine au [2,6,8,16,7,5,2,6] h ?_; intro a w h
      refine bg1 17 true h ?_
      refine bsl bs25 h fun g59 a w h => ?_
      refine br0 ?_
      refine bf1 18 ?_
      refine apn (n := dc.length) (m := 1) 2 0 (L' := fun i => _ :: _ :: i :: _) [_, _, _] ((dc ++ [(Dc.mk ([99] ++ [UInt8.ofNat (97 + k2)]) (hiLo[(k2 % 2)]) (IntKind.i64.wrap ((n : Int) * 1000)) : Dc)]).length) (by first | (simp; done) | (simp; omega)) row25 h (by first | omega | (simp; done) | (simp; omega) | (simp; omega)) (by first | omega | (simp; done) | (simp; omega) | (simp; omega)) fun v60 a w hone60 h => ?_
      obtain ⟨B60, cp60, rfl⟩ := h.rowv 2
      have hr60 : RowR RDc 3 Hq53 (xrc ++ [str ([99] ++ [UInt8.ofNat (97 + k2)]), str (hiLo[(k2 % 2)]), .int .i64 (IntKind.i64.wrap ((n : Int) * 1000))]) (dc ++ [(Dc.mk ([99] ++ [UInt8.ofNat (97 + k2)]) (hiLo[(k2 % 2)]) (IntKind.i64.wrap ((n : Int) * 1000)) : Dc)]) := (hrrc.mono fun cs y _ hr => hr).snoc rfl rfl
      refine au [2,7,8,19,0,7,2,6] h ?_; intro a w h
      refine bf1 20 ?_
      refine au [5,4,2,7] h ?_; intro a w h
      refine en (by kernel_rfl) ?_
      refine au [1,7,1,0,0,5,0,0] h ?_; intro a w h
      refine inc ?_ h fun a w h => ?_
      ·omega
      refine au [0,6,0,3] h ?_; intro a w h
      have h := h.del 0
      have h := h.del 0
      have l_Hrri_Hq53 : LE Hrri Hq53 := leHL2.trans leHq53
      exact ⟨((k2 + 1), Hq53, B60, cp60, _, (dc ++ [(Dc.mk ([99] ++ [UInt8.ofNat (97 + k2)]) (hiLo[(k2 % 2)]) (IntKind.i64.wrap ((n : Int) * 1000)) : Dc)])), ⟨⟨by omega, l_Hrri_Hq53, hr60, ⟨by simp [hj1], fun d hd => by rcases List.mem_append.1 hd with hd | hd; exact hj2 d hd; simp only [List.mem_singleton] at hd; subst hd; exact ⟨by simp, hl_len _ (List.getElem_mem hj53)⟩⟩⟩, h.to 0 _⟩, by show _ - (k2 + 1) < _ - k2; omega⟩
    ·refine ldHB t1_9 (hc53) h fun a w h => ?_
     refine br0 ?_
     refine bg1 5 true h ?_
     refine bsl bs29 h fun g47 a w h => ?_
     refine br0 ?_
     refine bg1 6 true h ?_
     refine cvbB (n := (97 + k2)) 0 sli29 it5 str9 h fun a w h => ?_
     refine au [2,7,8,7] h ?_
     refine catB h ?_ fun a w h => ?_
     ·(try simp only [List.length_append, List.length_cons, List.length_nil]); omega
     refine au [2,6,8,16,7,5,2,6] h ?_; intro a w h
     refine bg1 17 true h ?_
     refine bsl bs25 h fun g59 a w h => ?_
     refine br0 ?_
     refine bf1 18 ?_
     refine apn (n := dc.length) (m := 1) 2 0 (L' := fun i => _ :: _ :: i :: _) [_, _, _] ((dc ++ [(Dc.mk ([99] ++ [UInt8.ofNat (97 + k2)]) (hiLo[(k2 % 2)]) (IntKind.i64.wrap ((n : Int) * 1000)) : Dc)]).length) (by first | (simp; done) | (simp; omega)) row25 h (by first | omega | (simp; done) | (simp; omega) | (simp; omega)) (by first | omega | (simp; done) | (simp; omega) | (simp; omega)) fun v60 a w hone60 h => ?_
     obtain ⟨B60, cp60, rfl⟩ := h.rowv 2
     have hr60 : RowR RDc 3 Hq53 (xrc ++ [str ([99] ++ [UInt8.ofNat (97 + k2)]), str (hiLo[(k2 % 2)]), .int .i64 (IntKind.i64.wrap ((n : Int) * 1000))]) (dc ++ [(Dc.mk ([99] ++ [UInt8.ofNat (97 + k2)]) (hiLo[(k2 % 2)]) (IntKind.i64.wrap ((n : Int) * 1000)) : Dc)]) := (hrrc.mono fun cs y _ hr => hr).snoc rfl rfl
     refine au [2,7,8,19,0,7,2,6] h ?_; intro a w h
     refine bf1 20 ?_
     refine au [5,4,2,7] h ?_; intro a w h
     refine en (by kernel_rfl) ?_
     refine au [1,7,1,0,0,5,0,0] h ?_; intro a w h
     refine inc ?_ h fun a w h => ?_
     ·omega
     refine au [0,6,0,3] h ?_; intro a w h
     have h := h.del 0
     have h := h.del 0
     have l_Hrri_Hq53 : LE Hrri Hq53 := leHL2.trans leHq53
     exact ⟨((k2 + 1), Hq53, B60, cp60, _, (dc ++ [(Dc.mk ([99] ++ [UInt8.ofNat (97 + k2)]) (hiLo[(k2 % 2)]) (IntKind.i64.wrap ((n : Int) * 1000)) : Dc)])), ⟨⟨by omega, l_Hrri_Hq53, hr60, ⟨by simp [hj1], fun d hd => by rcases List.mem_append.1 hd with hd | hd; exact hj2 d hd; simp only [List.mem_singleton] at hd; subst hd; exact ⟨by simp, hl_len _ (List.getElem_mem hj53)⟩⟩⟩, h.to 0 _⟩, by show _ - (k2 + 1) < _ - k2; omega⟩
  ·have d39 : ((n / 4) % 4) ≤ k2 := cd_ c39
   refine au [2,5,2,2,2,2,2,3,1,0,1,2,0,0,0,0,6,0] h ?_; intro a w h
   refine mn (m := (l.length : Int)) (n := 80) (((min l.length 80) : Nat) : Int) (by split <;> omega) h fun a w h => ?_
   have l_H_HL2 : LE H HL2 := (leHL0.trans leHrri).trans leHL2
   have hb66 : (min l.length 80) ≤ l.length := by first | omega | (simp; omega)
   have hcp66 := RS.capl (US.up hl l_H_HL2)
   have hs66 : US HL2 A c (l.take (min l.length 80)) := RS.front (US.up hl l_H_HL2) hb66
   refine slhN (c := c) (min l.length 80) (l.take (min l.length 80)).length (by rw [List.length_take]; omega) sli29 sz5 (by omega) h fun a w h => ?_
   obtain ⟨l9, hl9⟩ : ∃ x, x = (l.take (min l.length 80)) := ⟨_, rfl⟩
   rw [← hl9] at h hs66
   have hb9 : l9.length < 1000000000000 := by rw [hl9]; simp only [List.length_take]; omega
   refine bdl lay73 zr73 h fun a w h => ?_
   refine bxA h fun g68 a w h => ?_
   refine au [0,6,0,3,0,4,1,2,0,6,0,3,1,5] h ?_; intro a w h
   have h := h.row (e := 61) (sz := 5)
   obtain ⟨Hrrc, leHrrc, h, hsHrrc⟩ := h.frw 2 hrrc rfl (fun _ l cs y _ hr => hr)
   refine lp (β := Nat × GH × (Option Addr) × Nat × (List Value) × (List Df) × Nat) (fun x a w => match x with | (k3, HL4, Brf, prf, xrf, df, at3) => ((k3 ≤ (n / 16 % 4)) ∧ (LE Hrrc HL4) ∧ (RowR RDf 5 HL4 xrf df) ∧ (df.length = k3 ∧ (∀ d ∈ df, d.name.length ≤ 10 ∧ Mk 5 d.t) ∧ at3 ≤ l9.length)) ∧ S E HL4 97 [] [(0, .slice A l.length c), (1, .int .u8 (n : Int)), (4, .pointer (some ⟨g4, 0, none⟩)), (5, .pointer (some ⟨g5, 0, none⟩)), (6, .int .i64 (k : Int)), (7, .int .i64 (k2 : Int)), (8, .pointer (some ⟨g68, 0, none⟩)), (9, .int .i64 (k3 : Int)), (10, .int .i64 (k : Int)), (11, .int .u8 (n : Int)), (12, .int .u8 (((n % 4) : Nat) : Int)), (13, .int .i64 (((n % 4) : Nat) : Int)), (14, .bool (decide (((k : Int) : Int) < (((n % 4) : Nat) : Int)))), (34, .int .i64 (k2 : Int)), (35, .int .u8 (n : Int)), (36, .int .u8 (((n / 4) : Nat) : Int)), (37, .int .u8 ((((n / 4) % 4) : Nat) : Int)), (38, .int .i64 ((((n / 4) % 4) : Nat) : Int)), (39, .bool (decide (((k2 : Int) : Int) < ((((n / 4) % 4) : Nat) : Int))))] (.row (.slice Brf df.length prf) 61 5 df.length xrf :: .obj g68 (.cells #[.slice A l9.length c, .int .i64 (at3 : Int)] 73 (0, 0)) :: .obj g5 (.cells #[.slice Bri di.length pri, .slice Brc dc.length prc, .slice Brf df.length prf, .int .i64 0, str [], .int .i64 0, .slice none 0 0] 28 (0, 0)) :: .obj g4 (.cells #[.slice none 0 0, .slice none 0 0, .slice none 0 0, .int .i64 0, str [], .int .i64 0, .slice none 0 0] 28 (0, 0)) :: L) a w)
    (fun x => match x with | (k3, HL4, Brf, prf, xrf, df, at3) => (n / 16 % 4) - k3) (0, Hrrc, none, 0, [], ([] : List Df), 0) ⟨⟨Nat.zero_le _, LE.rfl, ((RowR.nil : RowR RDf 5 HL2 [] ([] : List Df)).mono fun cs y _ hr => RDf.mono leHrrc hr), ⟨rfl, fun _ h => absurd h List.not_mem_nil, by omega⟩⟩, h.to 0 _⟩ ?_
   rintro ⟨k3, HL4, Brf, prf, xrf, df, at3⟩ a w ⟨⟨hk, leHL4, hrrf, hi⟩, h⟩
   obtain ⟨hq1, hq2, hq3⟩ := hi
   refine au [0,4,1,2,0,0,0,0] h ?_; intro a w h
   refine qu n 16 (by decide) (by show IntKind.u8.wrap _ = _; simp [IntKind.wrap, IntKind.bits, IntKind.signed]; omega) h fun a w h => ?_
   refine rm (n / 16) 4 (by decide) h fun a w h => ?_
   refine cv (((((n / 16) % 4) : Nat) : Int)) (by first | rfl | exact w64 (by omega) (by omega) | (show IntKind.wrap _ _ = _; simp [IntKind.wrap, IntKind.bits, IntKind.signed]; omega)) it5 it3 h fun a w h => ?_
   refine au [6,4,0,3] h ?_; intro a w h
   refine cdB h (fun c74 => ?_) (fun c74 => ?_)
   ·have d74 : k3 < ((n / 16) % 4) := cd_ c74
    refine au [1,8,1,0,0,4,1,5] h ?_
    refine rgx [2] [_] [1] 17 mix h (fun a w h => ?_)
    refine au [8,0,0,7,2,6,8,1,3,8,2,6,8,2,0,0,2,6,8,3] h ?_; intro a w h
    refine cv (n := (k3 : Int)) ((k3 : Int)) (by first | rfl | exact w64 (by omega) (by omega) | (show IntKind.wrap _ _ = _; simp [IntKind.wrap, IntKind.bits, IntKind.signed]; omega)) it3 it5 h fun a w h => ?_
    refine au [2,6,8,4] h ?_
    refine adr (m := 97) (n := (k3 : Int)) (((97 + k3) : Nat) : Int) (by show IntKind.u8.wrap _ = _; simp [IntKind.wrap, IntKind.bits, IntKind.signed]; omega) h fun a w h => ?_
    refine au [2,6,8,8,0,0,2,6] h ?_; intro a w h
    refine bg2 5 9 true true h ?_ ?_
    ·refine bsl bs29 h fun g82 a w h => ?_
     refine br0 ?_
     refine bg2 6 9 true true h ?_ ?_
     ·refine cvbB (n := (97 + k3)) 0 sli29 it5 str9 h fun a w h => ?_
      refine au [2,7,8,7] h ?_
      refine catB h ?_ fun a w h => ?_
      ·(try simp only [List.length_append, List.length_cons, List.length_nil]); omega
      refine tk0 ?_
      refine bg1 9 true h ?_
      have h := h.pull 2 rfl rfl
      have l_HL2_HL4 : LE HL2 HL4 := leHrrc.trans leHL4
      refine clG bod22 (mk_ok l9 _ _ g68 4 4 at3 E HL4 _ (by omega) (by omega) (US.up hs66 l_HL2_HL4) hb9 (by omega)) h (fun r86 H86 L86 a w le86 R h => ?_)
      obtain ⟨t86, at86, hmk86, ha86, hz86, ⟨A86, c86, rfl, hk86⟩, rfl⟩ := R
      refine br0 ?_
      refine bg1 10 true h ?_
      refine bsl bs22 h fun g87 a w h => ?_
      refine au [2,7,8,11] h ?_
      obtain ⟨Hq87, leHq87, h, hsHq87⟩ := h.fsl (R := RT) (sz := 4) (ys := [t86]) 0 (RowR.one rfl (rt_of_vt (cs := [_, _, _, _]) ⟨_, _, rfl, hk86⟩)) (fun _ l cs y _ hr => RT.mono l y hr)
      refine au [7,5,2,6,8,12,7,5,2,6] h ?_; intro a w h
      have l_HL4_Hq87 : LE HL4 Hq87 := le86.trans leHq87
      refine bg1 13 true h ?_
      refine bsl bs26 h fun g90 a w h => ?_
      refine br0 ?_
      refine bf1 14 ?_
      refine apn (n := df.length) (m := 1) 3 0 (L' := fun i => _ :: _ :: _ :: i :: _) [_, _, _, _, _] ((df ++ [(Df.mk ([100] ++ [UInt8.ofNat (97 + k3)]) (Tm.mk 3 [120] 0 [t86] : Tm) : Df)]).length) (by first | (simp; done) | (simp; omega)) row26 h (by first | omega | (simp; done) | (simp; omega) | (simp; omega)) (by first | omega | (simp; done) | (simp; omega) | (simp; omega)) fun v91 a w hone91 h => ?_
      obtain ⟨B91, cp91, rfl⟩ := h.rowv 3
      have hr91 : RowR RDf 5 Hq87 (xrf ++ [str ([100] ++ [UInt8.ofNat (97 + k3)]), .int .i64 3, str [120], .int .i64 0, .slice (some ⟨g87, 0, none⟩) [t86].length 1]) (df ++ [(Df.mk ([100] ++ [UInt8.ofNat (97 + k3)]) (Tm.mk 3 [120] 0 [t86] : Tm) : Df)]) := (hrrf.mono fun cs y _ hr => RDf.mono l_HL4_Hq87 hr).snoc rfl (⟨_, rfl, rt_of_vt (cs := [_, _, _, _]) ⟨_, _, rfl, hsHq87⟩⟩)
      refine au [2,7,8,15,0,7,2,6] h ?_; intro a w h
      refine bf1 16 ?_
      refine st4 (l := [_, _, _, _, _, _, _]) t1_26 h fun a w h => ?_
      refine br0 ?_
      refine en (by kernel_rfl) ?_
      refine au [1,7,1,0,0,5,0,0] h ?_; intro a w h
      refine inc ?_ h fun a w h => ?_
      ·omega
      refine au [0,6,0,3] h ?_; intro a w h
      have h := h.del 0
      have h := h.del 1
      have h := h.pull 3 rfl rfl
      have h := h.pull 3 rfl rfl
      have h := h.pull 2 rfl rfl
      have h := h.pull 3 rfl rfl
      have l_Hrrc_Hq87 : LE Hrrc Hq87 := (leHL4.trans le86).trans leHq87
      exact ⟨((k3 + 1), Hq87, B91, cp91, _, (df ++ [(Df.mk ([100] ++ [UInt8.ofNat (97 + k3)]) (Tm.mk 3 [120] 0 [t86] : Tm) : Df)]), at86), ⟨⟨by omega, l_Hrrc_Hq87, hr91, ⟨by simp [hq1], fun d hd => by rcases List.mem_append.1 hd with hd | hd; exact hq2 d hd; simp only [List.mem_singleton] at hd; subst hd; exact ⟨by simp, by cases t86; exact mk_fun hmk86⟩, by omega⟩⟩, h.to 0 _⟩, by show _ - (k3 + 1) < _ - k3; omega⟩
     ·have h := h.pull 2 rfl rfl
      have l_HL2_HL4 : LE HL2 HL4 := leHrrc.trans leHL4
      refine clG bod22 (mk_ok l9 _ _ g68 4 4 at3 E HL4 _ (by omega) (by omega) (US.up hs66 l_HL2_HL4) hb9 (by omega)) h (fun r86 H86 L86 a w le86 R h => ?_)
      obtain ⟨t86, at86, hmk86, ha86, hz86, ⟨A86, c86, rfl, hk86⟩, rfl⟩ := R
      refine br0 ?_
      refine bg2 6 10 true true h ?_ ?_
      ·refine cvbB (n := (97 + k3)) 1 sli29 it5 str9 h fun a w h => ?_
       refine au [2,7,8,7] h ?_
       refine catB h ?_ fun a w h => ?_
       ·(try simp only [List.length_append, List.length_cons, List.length_nil]); omega
       refine tk0 ?_
       refine bg1 10 true h ?_
       refine bsl bs22 h fun g87 a w h => ?_
       refine au [2,7,8,11] h ?_
       obtain ⟨Hq87, leHq87, h, hsHq87⟩ := h.fsl (R := RT) (sz := 4) (ys := [t86]) 0 (RowR.one rfl (rt_of_vt (cs := [_, _, _, _]) ⟨_, _, rfl, hk86⟩)) (fun _ l cs y _ hr => RT.mono l y hr)
       refine au [7,5,2,6,8,12,7,5,2,6] h ?_; intro a w h
       have l_HL4_Hq87 : LE HL4 Hq87 := le86.trans leHq87
       refine bg1 13 true h ?_
       refine bsl bs26 h fun g90 a w h => ?_
       refine br0 ?_
       refine bf1 14 ?_
       refine apn (n := df.length) (m := 1) 3 0 (L' := fun i => _ :: _ :: _ :: i :: _) [_, _, _, _, _] ((df ++ [(Df.mk ([100] ++ [UInt8.ofNat (97 + k3)]) (Tm.mk 3 [120] 0 [t86] : Tm) : Df)]).length) (by first | (simp; done) | (simp; omega)) row26 h (by first | omega | (simp; done) | (simp; omega) | (simp; omega)) (by first | omega | (simp; done) | (simp; omega) | (simp; omega)) fun v91 a w hone91 h => ?_
       obtain ⟨B91, cp91, rfl⟩ := h.rowv 3
       have hr91 : RowR RDf 5 Hq87 (xrf ++ [str ([100] ++ [UInt8.ofNat (97 + k3)]), .int .i64 3, str [120], .int .i64 0, .slice (some ⟨g87, 0, none⟩) [t86].length 1]) (df ++ [(Df.mk ([100] ++ [UInt8.ofNat (97 + k3)]) (Tm.mk 3 [120] 0 [t86] : Tm) : Df)]) := (hrrf.mono fun cs y _ hr => RDf.mono l_HL4_Hq87 hr).snoc rfl (⟨_, rfl, rt_of_vt (cs := [_, _, _, _]) ⟨_, _, rfl, hsHq87⟩⟩)
       refine au [2,7,8,15,0,7,2,6] h ?_; intro a w h
       refine bf1 16 ?_
       refine st4 (l := [_, _, _, _, _, _, _]) t1_26 h fun a w h => ?_
       refine br0 ?_
       refine en (by kernel_rfl) ?_
       refine au [1,7,1,0,0,5,0,0] h ?_; intro a w h
       refine inc ?_ h fun a w h => ?_
       ·omega
       refine au [0,6,0,3] h ?_; intro a w h
       have h := h.del 0
       have h := h.del 1
       have h := h.pull 3 rfl rfl
       have h := h.pull 3 rfl rfl
       have h := h.pull 2 rfl rfl
       have h := h.pull 3 rfl rfl
       have l_Hrrc_Hq87 : LE Hrrc Hq87 := (leHL4.trans le86).trans leHq87
       exact ⟨((k3 + 1), Hq87, B91, cp91, _, (df ++ [(Df.mk ([100] ++ [UInt8.ofNat (97 + k3)]) (Tm.mk 3 [120] 0 [t86] : Tm) : Df)]), at86), ⟨⟨by omega, l_Hrrc_Hq87, hr91, ⟨by simp [hq1], fun d hd => by rcases List.mem_append.1 hd with hd | hd; exact hq2 d hd; simp only [List.mem_singleton] at hd; subst hd; exact ⟨by simp, by cases t86; exact mk_fun hmk86⟩, by omega⟩⟩, h.to 0 _⟩, by show _ - (k3 + 1) < _ - k3; omega⟩
      ·refine bsl bs22 h fun g87 a w h => ?_
       refine au [2,7,8,11] h ?_
       obtain ⟨Hq87, leHq87, h, hsHq87⟩ := h.fsl (R := RT) (sz := 4) (ys := [t86]) 0 (RowR.one rfl (rt_of_vt (cs := [_, _, _, _]) ⟨_, _, rfl, hk86⟩)) (fun _ l cs y _ hr => RT.mono l y hr)
       refine au [7,5,2,6] h ?_; intro a w h
       refine bg1 6 true h ?_
       refine cvbB (n := (97 + k3)) 1 sli29 it5 str9 h fun a w h => ?_
       refine au [2,7,8,7] h ?_
       refine catB h ?_ fun a w h => ?_
       ·(try simp only [List.length_append, List.length_cons, List.length_nil]); omega
       refine au [2,6,8,12,7,5,2,6] h ?_; intro a w h
       have l_HL4_Hq87 : LE HL4 Hq87 := le86.trans leHq87
       refine bg1 13 true h ?_
       refine bsl bs26 h fun g90 a w h => ?_
       refine br0 ?_
       refine bf1 14 ?_
       refine apn (n := df.length) (m := 1) 3 0 (L' := fun i => _ :: _ :: _ :: i :: _) [_, _, _, _, _] ((df ++ [(Df.mk ([100] ++ [UInt8.ofNat (97 + k3)]) (Tm.mk 3 [120] 0 [t86] : Tm) : Df)]).length) (by first | (simp; done) | (simp; omega)) row26 h (by first | omega | (simp; done) | (simp; omega) | (simp; omega)) (by first | omega | (simp; done) | (simp; omega) | (simp; omega)) fun v91 a w hone91 h => ?_
       obtain ⟨B91, cp91, rfl⟩ := h.rowv 3
       have hr91 : RowR RDf 5 Hq87 (xrf ++ [str ([100] ++ [UInt8.ofNat (97 + k3)]), .int .i64 3, str [120], .int .i64 0, .slice (some ⟨g87, 0, none⟩) [t86].length 1]) (df ++ [(Df.mk ([100] ++ [UInt8.ofNat (97 + k3)]) (Tm.mk 3 [120] 0 [t86] : Tm) : Df)]) := (hrrf.mono fun cs y _ hr => RDf.mono l_HL4_Hq87 hr).snoc rfl (⟨_, rfl, rt_of_vt (cs := [_, _, _, _]) ⟨_, _, rfl, hsHq87⟩⟩)
       refine au [2,7,8,15,0,7,2,6] h ?_; intro a w h
       refine bf1 16 ?_
       refine st4 (l := [_, _, _, _, _, _, _]) t1_26 h fun a w h => ?_
       refine br0 ?_
       refine en (by kernel_rfl) ?_
       refine au [1,7,1,0,0,5,0,0] h ?_; intro a w h
       refine inc ?_ h fun a w h => ?_
       ·omega
       refine au [0,6,0,3] h ?_; intro a w h
       have h := h.del 0
       have h := h.del 1
       have h := h.pull 3 rfl rfl
       have h := h.pull 3 rfl rfl
       have h := h.pull 2 rfl rfl
       have h := h.pull 3 rfl rfl
       have l_Hrrc_Hq87 : LE Hrrc Hq87 := (leHL4.trans le86).trans leHq87
       exact ⟨((k3 + 1), Hq87, B91, cp91, _, (df ++ [(Df.mk ([100] ++ [UInt8.ofNat (97 + k3)]) (Tm.mk 3 [120] 0 [t86] : Tm) : Df)]), at86), ⟨⟨by omega, l_Hrrc_Hq87, hr91, ⟨by simp [hq1], fun d hd => by rcases List.mem_append.1 hd with hd | hd; exact hq2 d hd; simp only [List.mem_singleton] at hd; subst hd; exact ⟨by simp, by cases t86; exact mk_fun hmk86⟩, by omega⟩⟩, h.to 0 _⟩, by show _ - (k3 + 1) < _ - k3; omega⟩
    ·have h := h.pull 1 rfl rfl
     have l_HL2_HL4 : LE HL2 HL4 := leHrrc.trans leHL4
     refine clG bod22 (mk_ok l9 _ _ g68 4 4 at3 E HL4 _ (by omega) (by omega) (US.up hs66 l_HL2_HL4) hb9 (by omega)) h (fun r86 H86 L86 a w le86 R h => ?_)
     obtain ⟨t86, at86, hmk86, ha86, hz86, ⟨A86, c86, rfl, hk86⟩, rfl⟩ := R
     refine br0 ?_
     refine bg2 5 10 true true h ?_ ?_
     ·refine bsl bs29 h fun g82 a w h => ?_
      refine br0 ?_
      refine bg2 6 10 true true h ?_ ?_
      ·refine cvbB (n := (97 + k3)) 0 sli29 it5 str9 h fun a w h => ?_
       refine au [2,7,8,7] h ?_
       refine catB h ?_ fun a w h => ?_
       ·(try simp only [List.length_append, List.length_cons, List.length_nil]); omega
       refine tk0 ?_
       refine bg1 10 true h ?_
       refine bsl bs22 h fun g87 a w h => ?_
       refine au [2,7,8,11] h ?_
       obtain ⟨Hq87, leHq87, h, hsHq87⟩ := h.fsl (R := RT) (sz := 4) (ys := [t86]) 0 (RowR.one rfl (rt_of_vt (cs := [_, _, _, _]) ⟨_, _, rfl, hk86⟩)) (fun _ l cs y _ hr => RT.mono l y hr)
       refine au [7,5,2,6,8,12,7,5,2,6] h ?_; intro a w h
       have l_HL4_Hq87 : LE HL4 Hq87 := le86.trans leHq87
       refine bg1 13 true h ?_
       refine bsl bs26 h fun g90 a w h => ?_
       refine br0 ?_
       refine bf1 14 ?_
       refine apn (n := df.length) (m := 1) 3 0 (L' := fun i => _ :: _ :: _ :: i :: _) [_, _, _, _, _] ((df ++ [(Df.mk ([100] ++ [UInt8.ofNat (97 + k3)]) (Tm.mk 3 [120] 0 [t86] : Tm) : Df)]).length) (by first | (simp; done) | (simp; omega)) row26 h (by first | omega | (simp; done) | (simp; omega) | (simp; omega)) (by first | omega | (simp; done) | (simp; omega) | (simp; omega)) fun v91 a w hone91 h => ?_
       obtain ⟨B91, cp91, rfl⟩ := h.rowv 3
       have hr91 : RowR RDf 5 Hq87 (xrf ++ [str ([100] ++ [UInt8.ofNat (97 + k3)]), .int .i64 3, str [120], .int .i64 0, .slice (some ⟨g87, 0, none⟩) [t86].length 1]) (df ++ [(Df.mk ([100] ++ [UInt8.ofNat (97 + k3)]) (Tm.mk 3 [120] 0 [t86] : Tm) : Df)]) := (hrrf.mono fun cs y _ hr => RDf.mono l_HL4_Hq87 hr).snoc rfl (⟨_, rfl, rt_of_vt (cs := [_, _, _, _]) ⟨_, _, rfl, hsHq87⟩⟩)
       refine au [2,7,8,15,0,7,2,6] h ?_; intro a w h
       refine bf1 16 ?_
       refine st4 (l := [_, _, _, _, _, _, _]) t1_26 h fun a w h => ?_
       refine br0 ?_
       refine en (by kernel_rfl) ?_
       refine au [1,7,1,0,0,5,0,0] h ?_; intro a w h
       refine inc ?_ h fun a w h => ?_
       ·omega
       refine au [0,6,0,3] h ?_; intro a w h
       have h := h.del 0
       have h := h.del 0
       have h := h.pull 3 rfl rfl
       have h := h.pull 3 rfl rfl
       have h := h.pull 2 rfl rfl
       have h := h.pull 3 rfl rfl
       have l_Hrrc_Hq87 : LE Hrrc Hq87 := (leHL4.trans le86).trans leHq87
       exact ⟨((k3 + 1), Hq87, B91, cp91, _, (df ++ [(Df.mk ([100] ++ [UInt8.ofNat (97 + k3)]) (Tm.mk 3 [120] 0 [t86] : Tm) : Df)]), at86), ⟨⟨by omega, l_Hrrc_Hq87, hr91, ⟨by simp [hq1], fun d hd => by rcases List.mem_append.1 hd with hd | hd; exact hq2 d hd; simp only [List.mem_singleton] at hd; subst hd; exact ⟨by simp, by cases t86; exact mk_fun hmk86⟩, by omega⟩⟩, h.to 0 _⟩, by show _ - (k3 + 1) < _ - k3; omega⟩
      ·refine bsl bs22 h fun g87 a w h => ?_
       refine au [2,7,8,11] h ?_
       obtain ⟨Hq87, leHq87, h, hsHq87⟩ := h.fsl (R := RT) (sz := 4) (ys := [t86]) 0 (RowR.one rfl (rt_of_vt (cs := [_, _, _, _]) ⟨_, _, rfl, hk86⟩)) (fun _ l cs y _ hr => RT.mono l y hr)
       refine au [7,5,2,6] h ?_; intro a w h
       refine bg1 6 true h ?_
       refine cvbB (n := (97 + k3)) 0 sli29 it5 str9 h fun a w h => ?_
       refine au [2,7,8,7] h ?_
       refine catB h ?_ fun a w h => ?_
       ·(try simp only [List.length_append, List.length_cons, List.length_nil]); omega
       refine au [2,6,8,12,7,5,2,6] h ?_; intro a w h
       have l_HL4_Hq87 : LE HL4 Hq87 := le86.trans leHq87
       refine bg1 13 true h ?_
       refine bsl bs26 h fun g90 a w h => ?_
       refine br0 ?_
       refine bf1 14 ?_
       refine apn (n := df.length) (m := 1) 3 0 (L' := fun i => _ :: _ :: _ :: i :: _) [_, _, _, _, _] ((df ++ [(Df.mk ([100] ++ [UInt8.ofNat (97 + k3)]) (Tm.mk 3 [120] 0 [t86] : Tm) : Df)]).length) (by first | (simp; done) | (simp; omega)) row26 h (by first | omega | (simp; done) | (simp; omega) | (simp; omega)) (by first | omega | (simp; done) | (simp; omega) | (simp; omega)) fun v91 a w hone91 h => ?_
       obtain ⟨B91, cp91, rfl⟩ := h.rowv 3
       have hr91 : RowR RDf 5 Hq87 (xrf ++ [str ([100] ++ [UInt8.ofNat (97 + k3)]), .int .i64 3, str [120], .int .i64 0, .slice (some ⟨g87, 0, none⟩) [t86].length 1]) (df ++ [(Df.mk ([100] ++ [UInt8.ofNat (97 + k3)]) (Tm.mk 3 [120] 0 [t86] : Tm) : Df)]) := (hrrf.mono fun cs y _ hr => RDf.mono l_HL4_Hq87 hr).snoc rfl (⟨_, rfl, rt_of_vt (cs := [_, _, _, _]) ⟨_, _, rfl, hsHq87⟩⟩)
       refine au [2,7,8,15,0,7,2,6] h ?_; intro a w h
       refine bf1 16 ?_
       refine st4 (l := [_, _, _, _, _, _, _]) t1_26 h fun a w h => ?_
       refine br0 ?_
       refine en (by kernel_rfl) ?_
       refine au [1,7,1,0,0,5,0,0] h ?_; intro a w h
       refine inc ?_ h fun a w h => ?_
       ·omega
       refine au [0,6,0,3] h ?_; intro a w h
       have h := h.del 0
       have h := h.del 0
       have h := h.pull 3 rfl rfl
       have h := h.pull 3 rfl rfl
       have h := h.pull 2 rfl rfl
       have h := h.pull 3 rfl rfl
       have l_Hrrc_Hq87 : LE Hrrc Hq87 := (leHL4.trans le86).trans leHq87
       exact ⟨((k3 + 1), Hq87, B91, cp91, _, (df ++ [(Df.mk ([100] ++ [UInt8.ofNat (97 + k3)]) (Tm.mk 3 [120] 0 [t86] : Tm) : Df)]), at86), ⟨⟨by omega, l_Hrrc_Hq87, hr91, ⟨by simp [hq1], fun d hd => by rcases List.mem_append.1 hd with hd | hd; exact hq2 d hd; simp only [List.mem_singleton] at hd; subst hd; exact ⟨by simp, by cases t86; exact mk_fun hmk86⟩, by omega⟩⟩, h.to 0 _⟩, by show _ - (k3 + 1) < _ - k3; omega⟩
     ·refine bsl bs22 h fun g87 a w h => ?_
      refine au [2,7,8,11] h ?_
      obtain ⟨Hq87, leHq87, h, hsHq87⟩ := h.fsl (R := RT) (sz := 4) (ys := [t86]) 0 (RowR.one rfl (rt_of_vt (cs := [_, _, _, _]) ⟨_, _, rfl, hk86⟩)) (fun _ l cs y _ hr => RT.mono l y hr)
      refine au [7,5,2,6] h ?_; intro a w h
      have l_HL4_Hq87 : LE HL4 Hq87 := le86.trans leHq87
      refine bg1 5 true h ?_
      refine bsl bs29 h fun g82 a w h => ?_
      refine br0 ?_
      refine bg1 6 true h ?_
      refine cvbB (n := (97 + k3)) 0 sli29 it5 str9 h fun a w h => ?_
      refine au [2,7,8,7] h ?_
      refine catB h ?_ fun a w h => ?_
      ·(try simp only [List.length_append, List.length_cons, List.length_nil]); omega
      refine au [2,6,8,12,7,5,2,6] h ?_; intro a w h
      refine bg1 13 true h ?_
      refine bsl bs26 h fun g90 a w h => ?_
      refine br0 ?_
      refine bf1 14 ?_
      refine apn (n := df.length) (m := 1) 3 0 (L' := fun i => _ :: _ :: _ :: i :: _) [_, _, _, _, _] ((df ++ [(Df.mk ([100] ++ [UInt8.ofNat (97 + k3)]) (Tm.mk 3 [120] 0 [t86] : Tm) : Df)]).length) (by first | (simp; done) | (simp; omega)) row26 h (by first | omega | (simp; done) | (simp; omega) | (simp; omega)) (by first | omega | (simp; done) | (simp; omega) | (simp; omega)) fun v91 a w hone91 h => ?_
      obtain ⟨B91, cp91, rfl⟩ := h.rowv 3
      have hr91 : RowR RDf 5 Hq87 (xrf ++ [str ([100] ++ [UInt8.ofNat (97 + k3)]), .int .i64 3, str [120], .int .i64 0, .slice (some ⟨g87, 0, none⟩) [t86].length 1]) (df ++ [(Df.mk ([100] ++ [UInt8.ofNat (97 + k3)]) (Tm.mk 3 [120] 0 [t86] : Tm) : Df)]) := (hrrf.mono fun cs y _ hr => RDf.mono l_HL4_Hq87 hr).snoc rfl (⟨_, rfl, rt_of_vt (cs := [_, _, _, _]) ⟨_, _, rfl, hsHq87⟩⟩)
      refine au [2,7,8,15,0,7,2,6] h ?_; intro a w h
      refine bf1 16 ?_
      refine st4 (l := [_, _, _, _, _, _, _]) t1_26 h fun a w h => ?_
      refine br0 ?_
      refine en (by kernel_rfl) ?_
      refine au [1,7,1,0,0,5,0,0] h ?_; intro a w h
      refine inc ?_ h fun a w h => ?_
      ·omega
      refine au [0,6,0,3] h ?_; intro a w h
      have h := h.del 0
      have h := h.del 0
      have h := h.pull 3 rfl rfl
      have h := h.pull 3 rfl rfl
      have h := h.pull 2 rfl rfl
      have h := h.pull 3 rfl rfl
      have l_Hrrc_Hq87 : LE Hrrc Hq87 := (leHL4.trans le86).trans leHq87
      exact ⟨((k3 + 1), Hq87, B91, cp91, _, (df ++ [(Df.mk ([100] ++ [UInt8.ofNat (97 + k3)]) (Tm.mk 3 [120] 0 [t86] : Tm) : Df)]), at86), ⟨⟨by omega, l_Hrrc_Hq87, hr91, ⟨by simp [hq1], fun d hd => by rcases List.mem_append.1 hd with hd | hd; exact hq2 d hd; simp only [List.mem_singleton] at hd; subst hd; exact ⟨by simp, by cases t86; exact mk_fun hmk86⟩, by omega⟩⟩, h.to 0 _⟩, by show _ - (k3 + 1) < _ - k3; omega⟩
   ·have d74 : ((n / 16) % 4) ≤ k3 := cd_ c74
    refine au [2,5,2,2,2,2,2,3,1,0,0,4] h ?_
    obtain ⟨Hrrf, leHrrf, h, hsHrrf⟩ := h.frw 0 hrrf rfl (fun _ l cs y _ hr => RDf.mono l hr)
    refine au [0,5,0,0] h ?_; intro a w h
    have l_HL2_Hrrf : LE HL2 Hrrf := (leHrrc.trans leHL4).trans leHrrf
    refine cl bod22 (mk_ok l9 _ _ g68 5 5 at3 E Hrrf _ (by omega) (by omega) (US.up hs66 l_HL2_Hrrf) hb9 (by omega)) h (fun r94 H94 L94 a w le94 R h => ?_)
    obtain ⟨t94, at94, hmk94, ha94, hz94, ⟨A94, c94, rfl, hk94⟩, rfl⟩ := R
    refine fa fl28_3 (r := 3) h fun a w h => ?_
    refine stp (l := [_, _, _, _, _, _, _]) 1 tN24 h fun a w h => ?_
    refine au [0,2,3,4,5,7,0,3,1,3] h ?_; intro a w h
    have l_Hrri_H94 : LE Hrri H94 := (((leHL2.trans leHrrc).trans leHL4).trans leHrrf).trans le94
    have l_Hrrc_H94 : LE Hrrc H94 := (leHL4.trans leHrrf).trans le94
    have l_H_H94 : LE H H94 := (((((leHL0.trans leHrri).trans leHL2).trans leHrrc).trans leHL4).trans leHrrf).trans le94
    exact fin (rs := [.cell 4 28]) (vs := [.agg #[_, _, _, _, _, _, _]]) h rfl (.agg (k0 := 2) tN28 rfl rfl rfl .nil) rfl l_H_H94 ⟨LE.rfl, h.st.drop 3⟩ ⟨⟨di, dc, df, t94⟩, ⟨by show di.length ≤ 4; omega, by show dc.length ≤ 4; omega, by show df.length ≤ 4; omega, hi2, hj2, hq2, hmk94⟩, ⟨Bri, pri, Brc, prc, Brf, prf, A94, c94, rfl, (CS.up hsHrri l_Hrri_H94), (CS.up hsHrrc l_Hrrc_H94), (FS.up hsHrrf le94), hk94⟩, rfl⟩
theorem of_ok (s : Bs) (E : World) (H : GH) (L : List It) : Ok Tryz.prog 16 #[str s] E H L fun r H' L' => r = .agg #[.int .i64 2, str s, .int .i64 0, .slice none 0 0] ∧ H = H' ∧ L = L' := by
 refine enter (N := 5) [(0, _)] Tryz.func16 rfl rfl rfl rfl fun a w h => ?_
 refine au [1,2] h ?_
 refine al zr24 h fun g2 a w h => ?_
 refine au [0,2,0,0,7,5,5,5,0,3,1,3] h ?_; intro a w h
 exact fin (rs := [.cell 2 24]) (vs := [.agg #[_, _, _, _]]) h rfl (.agg (k0 := 0) tN24 rfl rfl rfl .nil) rfl LE.rfl ⟨LE.rfl, h.st.drop 1⟩ ⟨rfl, rfl, rfl⟩
theorem fun_ok (s : Bs) (t : Tm) (v : Value) (E : World) (H : GH) (L : List It) (hv : VT H v t) : Ok Tryz.prog 17 #[str s, v] E H L fun r H' L' => ∃ A, r = .agg #[.int .i64 3, str s, .int .i64 0, .slice A 1 1] ∧ KS H' A 1 [t] ∧ L' = L := by
 have hv0 := hv
 obtain ⟨A, c, rfl, hks⟩ := hv
 have hv := hv0
 refine enter (N := 9) [(0, _), (1, _)] Tryz.func17 rfl rfl rfl rfl fun a w h => ?_
 refine au [1,2] h ?_
 refine bxA h fun g3 a w h => ?_
 refine al zr24 h fun g4 a w h => ?_
 refine au [0,2,0,0,3,4] h ?_; intro a w h
 refine bsl bs22 h fun g7 a w h => ?_
 obtain ⟨H1, le1, h, hs⟩ := h.fsl (α := Tm) (R := RT) 0 (ys := [t]) (RowR.one rfl (rt_of_vt (cs := [_, _, _, _]) hv)) (fun _ l _ y _ hr => RT.mono l y hr)
 have l_H_H1 : LE H H1 := le1
 refine au [7,5,5,5,0,3,1,3] h ?_; intro a w h
 exact fin (rs := [.cell 4 24]) (vs := [.agg #[_, _, _, _]]) h rfl (.agg (k0 := 0) tN24 rfl rfl rfl .nil) rfl le1 ⟨LE.rfl, h.st.drop 2⟩ ⟨_, rfl, hs, rfl⟩
end Go.Proofs.YtdabamobjciidaaGreatDoor
