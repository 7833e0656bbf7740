/- Parts of the proof: W22, W23. -/
import Derived.Test.YtindlieilabgfaaGreatDoorZp3
/- Walks: scope.Resolve. -/
set_option linter.unusedVariables false
set_option linter.unusedSimpArgs false
set_option linter.unusedSectionVars false
set_option autoImplicit false
set_option relaxedAutoImplicit false
set_option maxRecDepth 10000
namespace Go.Proofs.YtindlieilabgfaaGreatDoor
open Go X
theorem vp_of {H : GH} {p : Pg} {A1 A2 C A4 : Option Addr} {c1 c2 k cq c4 : Nat} {ds : List Df} {t : Tm} (h1 : CS H A1 c1 p.inputs) (h2 : CS H A2 c2 p.cells) (hk : k = ds.length) (h3 : RS RDf 5 H (.slice C k cq) ds) (h4 : KS H A4 c4 t.kids) :
    VP H (.agg #[.slice A1 p.inputs.length c1, .slice A2 p.cells.length c2, .slice C k cq, .int .i64 t.kind, str t.name, .int .i64 t.n, .slice A4 t.kids.length c4]) ⟨p.inputs, p.cells, ds, t⟩ := by
  subst hk; exact ⟨A1, c1, A2, c2, C, cq, A4, c4, rfl, h1, h2, h3, h4⟩
theorem fits_right {p : Pg} (h : p.right = true) : p.fits = true := by
  unfold Pg.right Pg.print at h
  by_cases hf : p.fits = true
  · exact hf
  · rw [if_neg hf] at h; simp at h
theorem Resolve_ok (p : Pg) (v : Value) (E : World) (H : GH) (L : List It) (hv : VP H v p) (hL : Laid H) (hb : Mild p) :
    Ok Tryz.prog 17 #[v] E H L fun r H' L' => ∃ v', r = .tuple #[v', .int .i64 p.resolve.2] ∧ VP H' v' p.resolve.1 ∧ L' = L := by
  have hv0 := hv
  obtain ⟨A1, c1, A2, c2, A3, c3, A4, c4, rfl, hi, hc, hd, hk⟩ := hv
  have hv := hv0
  have b1 := hb.li
  have b2 := hb.lc
  have b3 := hb.lf
  refine enter (N := 124) [(0, _)] Tryz.func17 rfl rfl rfl rfl fun a w h => ?_
  refine sqr ?_
  refine bxA h fun g1 a w h => ?_
  refine al zr28 h fun g2 a w h => ?_
  refine as_ h fun a w h => ?_
  refine nlt ?_
  refine sq ?_
  refine sq ?_
  obtain ⟨Hf, leHf, h, hf1⟩ := h.frz 1
  have l_H_Hf : LE H Hf := leHf
  have hvf := hv.mono l_H_Hf
  have hLf := hL.up l_H_Hf
  have hif := hi.up l_H_Hf
  have hcf := hc.up l_H_Hf
  have hdf := hd.up l_H_Hf
  have hkf := hk.up l_H_Hf
  refine rg0 ?_
  refine ldHN tN28 rfl (Hc.all (LE.rfl _ _ hf1)) h fun a w h => ?_
  refine cl bod31 (RightP_ok p _ E Hf _ hvf hLf hb) h fun r20 H20 L20 a w le20 R h => ?_
  obtain ⟨rfl, rfl, rfl⟩ := R
  refine nt h fun a w h => ?_
  refine nlt ?_
  refine cdB h (fun c21 => ?_) (fun c21 => ?_)
  ·have er : p.resolve = (Pg.zero, 11) := by unfold Pg.resolve; rw [if_pos c21]
   refine sqr ?_
   refine bdl lay28 zr28 h fun a w h => ?_
   refine sw0 tN28 h fun a w h => ?_
   refine as_ h fun a w h => ?_
   refine nlt ?_
   refine ret_ ?_
   refine thR ?_
   rw [er]
   exact fin (rs := [.cell 2 28, .tmp 3]) (vs := [.agg #[_, _, _, _, _, _, _], .int .i64 _]) h rfl (.agg (k0 := 0) tN28 rfl rfl rfl (.tmp rfl .nil)) rfl l_H_Hf ⟨LE.rfl, h.st.drop 1⟩ ⟨_, rfl, vp_zero _, rfl⟩
  ·have hrt : p.right = true := by simpa using c21
   have hfit := fits_right hrt
   obtain ⟨hl1, hl2, hl3, _, _, hw3, hbr⟩ := fits_of hfit
   refine skt ?_
   refine sqr ?_
   refine al zr58 h fun g4 a w h => ?_
   refine nlt ?_
   refine sq ?_
   refine sqr ?_
   refine fa fl28_0 (r := 0) h fun a w h => ?_
   refine ldH t1_25 (Hc.of (LE.rfl _ _ hf1) rfl) h fun a w h => ?_
   refine fa fl28_1 (r := 1) h fun a w h => ?_
   refine ldH t1_25 (Hc.of (LE.rfl _ _ hf1) rfl) h fun a w h => ?_
   refine bsl bs120 h fun g27 a w h => ?_
   obtain ⟨Hl, leHl, h, hpl⟩ := h.fsl (α := List Dc) (R := RCS) 0 (ys := [p.inputs, p.cells]) (.cons1 ⟨A1, c1, rfl, hif⟩ (.cons1 ⟨A2, c2, rfl, hcf⟩ .nil)) (fun _ l _ _ _ ⟨A, c, e, hr⟩ => ⟨A, c, e, hr.up l⟩)
   have l_H_Hl : LE H Hl := l_H_Hf.trans leHl
   have l_Hf_Hl : LE Hf Hl := leHl
   refine cl bod41 (Concat_ok [p.inputs, p.cells] _ E Hl _ hpl (by simp only [lenS, List.map_cons, List.map_nil, List.sum_cons, List.sum_nil]; omega) (by simp only [List.length_cons, List.length_nil]; omega)) h fun r28 H28 L28 a w le28 R h => ?_
   obtain ⟨B28, cp28, xs28, rfl, rfl, rfl, hr28⟩ := R
   rw [show [p.inputs, p.cells].flatten = p.inputs ++ p.cells from by simp] at h hr28
   obtain ⟨Hd, leHd, h, hds⟩ := h.frw 0 (n := (p.inputs ++ p.cells).length) hr28 rfl (fun _ _ _ _ _ h => h)
   have l_H_Hd : LE H Hd := l_H_Hl.trans leHd
   have l_Hf_Hd : LE Hf Hd := l_Hf_Hl.trans leHd
   have l_Hl_Hd : LE Hl Hd := leHd
   have hdsl : (p.inputs ++ p.cells).length ≤ 64 := by rw [List.length_append]; omega
   refine ln sli25 h fun a w h => ?_
   have h := h.row (e := 9) (sz := 1)
   refine mv h fun a w h => ?_
   refine nlt ?_
   refine blk ?_
   have h := h.pull 2 rfl rfl
   have h := h.pull 1 rfl rfl
   have h := h.pull 2 rfl rfl
   refine lp (β := Nat × Option Addr × Nat × List Value) (fun x a w => match x with | (k, B, cp, xs) => (k ≤ (p.inputs ++ p.cells).length ∧ RowR RStr 1 Hd xs (((p.inputs ++ p.cells).take k).map (·.name))) ∧ S E Hd 124 [] [(30, .int .i64 (k : Int)), (29, .int .i64 ((p.inputs ++ p.cells).length : Int)), (28, .slice B28 (p.inputs ++ p.cells).length cp28), (1, .pointer (some ⟨g1, 0, none⟩)), (2, .pointer (some ⟨g2, 0, none⟩)), (4, .pointer (some ⟨g4, 0, none⟩)), (3, .int .i64 0)] (.obj g4 (.cells #[.slice B k cp] 58 (0, 0)) :: .row (.slice B k cp) 9 1 k xs :: .obj g2 (.cells #[.slice none 0 0, .slice none 0 0, .slice none 0 0, .int .i64 0, .string ⟨#[]⟩, .int .i64 0, .slice none 0 0] 28 (0, 0)) :: L) a w)
    (fun x => match x with | (k, B, cp, xs) => (p.inputs ++ p.cells).length - k) (0, none, 0, []) ⟨⟨Nat.zero_le _, RowR.nil⟩, h.to 0 _⟩ ?_
   rintro ⟨k, B, cp, xs⟩ a w ⟨pre, h⟩
   refine sqr ?_
   refine lt h fun a w h => ?_
   refine nlt ?_
   refine sq ?_
   refine cdB h (fun c31 => ?_) (fun c31 => ?_)
   ·have c31 : k < (p.inputs ++ p.cells).length := by have := of_decide_eq_true c31; omega
    obtain ⟨g, off, rfl, hvt, hcell⟩ := CS.get hds c31
    refine skt ?_
    refine sq ?_
    refine blk ?_
    refine sqr ?_
    refine ia sli25 sz72 rfl c31 h fun a w h => ?_
    refine ldHN tN72 rfl hcell h fun a w h => ?_
    refine al zr72 h fun g6 a w h => ?_
    refine sw0 tN72 h fun a w h => ?_
    refine nlt ?_
    refine rg0 ?_
    refine ld 1 t1_58 h fun a w h => ?_
    refine fa fl72_0 (r := 0) h fun a w h => ?_
    refine ld 0 t1_9 h fun a w h => ?_
    refine bsl bs58 h fun g37 a w h => ?_
    refine apb 3 0 (L' := fun i => _ :: _ :: _ :: i :: _) [_] row58 h ?_ ?_ fun v38 a w hone h => ?_
    ·omega
    ·omega
    obtain ⟨B2, cp2, rfl⟩ := h.rowv 3
    have hr2 : RowR RStr 1 Hd (xs ++ [str (p.inputs ++ p.cells)[k].name]) (((p.inputs ++ p.cells).take (k + 1)).map (·.name)) := by rw [List.take_succ_eq_append_getElem c31, List.map_append]; exact pre.2.app (.one rfl rfl)
    refine st2 (l := [_]) t1_58 h fun a w h => ?_
    refine nl0 ?_
    refine ibN ?_
    refine thN ?_
    refine rg0 ?_
    have h := h.pull 4 rfl rfl
    have h := h.pull 4 rfl rfl
    have h := h.pull 4 rfl rfl
    have h := h.del 4
    have h := h.del 3
    refine inc ?_ h fun a w h => ?_
    ·omega
    refine mv h fun a w h => ?_
    refine nlt ?_
    exact ⟨(k + 1, B2, cp2, _), ⟨⟨by omega, hr2⟩, h.to 0 _⟩, by show _ - (k + 1) < _ - k; omega⟩
   ·have hkk : k = (p.inputs ++ p.cells).length := by have := of_decide_eq_false c31; omega
    have hrow := pre.2
    rw [hkk, List.take_length, show (p.inputs ++ p.cells).map (·.name) = p.known 0 from by simp [Pg.known]] at hrow
    have hk2 : k = (p.known 0).length := by rw [hkk]; simp [Pg.known]
    subst hk2
    refine exit_ ?_
    refine thE ?_
    refine thE ?_
    refine ibH ?_
    refine thN ?_
    refine sqr ?_
    refine ld 0 t1_58 h fun a w h => ?_
    refine as_ h fun a w h => ?_
    refine nlt ?_
    refine sq ?_
    refine sq ?_
    obtain ⟨Hk, leHk, h, hk0, back1⟩ := h.lendR 1 (ys := p.known 0) hrow rfl (fun _ _ _ _ _ h => h)
    have l_H_Hk : LE H Hk := l_H_Hd.trans leHk
    have l_Hf_Hk : LE Hf Hk := l_Hf_Hd.trans leHk
    have l_Hl_Hk : LE Hl Hk := l_Hl_Hd.trans leHk
    have l_Hd_Hk : LE Hd Hk := leHk
    refine rg0 ?_
    refine fa fl28_2 (r := 2) h fun a w h => ?_
    refine ldH t1_26 (Hc.of (l_Hf_Hk _ _ hf1) rfl) h fun a w h => ?_
    refine ln sli26 h fun a w h => ?_
    refine mv h fun a w h => ?_
    refine nlt ?_
    refine blk ?_
    refine lp (β := Nat × GH × Option Addr × Nat) (fun x a w => match x with | (k, H3, Aa, ca) => (k ≤ p.defs.length ∧ LE Hk H3 ∧ SS H3 Aa ca (p.known k)) ∧ S E H3 124 [] [(44, .int .i64 (k : Int)), (43, .int .i64 (p.defs.length : Int)), (42, .slice A3 p.defs.length c3), (7, .slice Aa (p.known k).length ca), (1, .pointer (some ⟨g1, 0, none⟩)), (2, .pointer (some ⟨g2, 0, none⟩)), (4, .pointer (some ⟨g4, 0, none⟩)), (3, .int .i64 0)] (.obj g4 (.cells #[.slice B (p.known 0).length cp] 58 (0, 0)) :: .obj g2 (.cells #[.slice none 0 0, .slice none 0 0, .slice none 0 0, .int .i64 0, .string ⟨#[]⟩, .int .i64 0, .slice none 0 0] 28 (0, 0)) :: L) a w)
     (fun x => match x with | (k, H3, Aa, ca) => p.defs.length - k) (0, Hk, B, cp) ⟨⟨Nat.zero_le _, LE.rfl, hk0⟩, h.to 0 _⟩ ?_
    rintro ⟨k, H3, Aa, ca⟩ a w ⟨pre, h⟩
    obtain ⟨hkk, l_Hk_H3, hsa⟩ := pre
    have l_Hd_H3 := l_Hd_Hk.trans l_Hk_H3
    have l_Hf_H3 := l_Hf_Hk.trans l_Hk_H3
    have l_H_H3 := l_H_Hk.trans l_Hk_H3
    have hkn := known_len p k
    refine sqr ?_
    refine lt h fun a w h => ?_
    refine nlt ?_
    refine sq ?_
    refine cdB h (fun c45 => ?_) (fun c45 => ?_)
    ·have c45 : k < p.defs.length := by simpa using c45
     obtain ⟨g, off, A6, c6, rfl, hvt, hcell⟩ := FS.get (hdf.up l_Hf_H3) c45
     refine skt ?_
     refine sq ?_
     refine blk ?_
     refine sqr ?_
     refine ia sli26 sz68 rfl c45 h fun a w h => ?_
     refine ldHN tN68 rfl hcell h fun a w h => ?_
     refine al zr68 h fun g9 a w h => ?_
     refine sw0 tN68 h fun a w h => ?_
     refine nlt ?_
     refine rgx [0] [_] [3] 7 mix h (fun a w h => ?_)
     refine tkl 0 false (by kernel_rfl) ?_
     refine mv h fun a w h => ?_
     refine tk0 ?_
     refine tkl 2 false (by kernel_rfl) ?_
     refine fa fl68_0 (r := 0) h fun a w h => ?_
     refine tk0 ?_
     refine tkl 3 true (by kernel_rfl) ?_
     refine ldT 0 t1_9 h fun a w h => ?_
     refine tk0 ?_
     refine brl2 1 4 true false (by kernel_rfl) (by kernel_rfl) (by kernel_rfl) (fun _ => h.st.sees' (by first | exact LE.rfl | assumption) (by simp)) ?_ ?_
     ·refine cl bod42 (Clip_ok Aa (p.known k).length ca (rs_le hsa) E H3 _) h (fun r49 H49 L49 a w le49 R h => ?_) (hS := fun _ _ _ _ _ le R hw => by obtain ⟨rfl, rfl, rfl⟩ := R; exact hw.sees' (by first | exact le | exact LE.trans (by assumption) le) (by simp))
      obtain ⟨rfl, rfl, rfl⟩ := R
      refine br0 ?_
      refine brl1 4 false (by kernel_rfl) (by kernel_rfl) (fun _ => h.st.sees' (by first | exact LE.rfl | assumption) (by simp)) ?_
      refine bsl bs58 h fun g52 a w h => ?_
      refine br0 ?_
      refine brl1 5 true (by kernel_rfl) (by kernel_rfl) (fun _ => h.st.sees' (by first | exact LE.rfl | assumption) (by simp)) ?_
      refine apc 0 [_] row58 (rs_clip hsa) h ?_ ?_ fun A53 c53 olds a w hol h => ?_
      ·omega
      ·omega
      have hkl : (p.known k).length + 1 = (p.known (k + 1)).length := by rw [known_succ p c45, List.length_append]; rfl
      have hr53 : RowR RStr 1 H3 (olds ++ [str p.defs[k].name]) (p.known (k + 1)) := by rw [known_succ p c45]; exact hol.snoc rfl rfl
      rw [hkl] at h
      obtain ⟨H4, leH4, h, hsa2⟩ := h.frw 0 (ys := p.known (k + 1)) hr53 rfl (fun _ _ _ _ _ h => h)
      have l_H_H4 : LE H H4 := l_H_H3.trans leH4
      have l_Hf_H4 : LE Hf H4 := l_Hf_H3.trans leH4
      have l_Hd_H4 : LE Hd H4 := l_Hd_H3.trans leH4
      have l_Hk_H4 : LE Hk H4 := l_Hk_H3.trans leH4
      have l_H3_H4 : LE H3 H4 := leH4
      refine br0 ?_
      refine tkl 6 false (by kernel_rfl) ?_
      refine as_ h fun a w h => ?_
      refine tk0 ?_
      refine en (by kernel_rfl) ?_
      refine ibN ?_
      refine thN ?_
      refine rg0 ?_
      have h := h.pull 3 rfl rfl
      have h := h.pull 3 rfl rfl
      have h := h.del 3
      have h := h.del 2
      refine inc ?_ h fun a w h => ?_
      ·omega
      refine mv h fun a w h => ?_
      refine nlt ?_
      exact ⟨(k + 1, H4, A53, c53), ⟨⟨by omega, l_Hk_H4, hsa2⟩, h.to 0 _⟩, by show _ - (k + 1) < _ - k; omega⟩
     ·refine bsl bs58 h fun g52 a w h => ?_
      refine br0 ?_
      refine brl1 1 true (by kernel_rfl) (by kernel_rfl) (fun _ => h.st.sees' (by first | exact LE.rfl | assumption) (by simp)) ?_
      refine cl bod42 (Clip_ok Aa (p.known k).length ca (rs_le hsa) E H3 _) h (fun r49 H49 L49 a w le49 R h => ?_) (hS := fun _ _ _ _ _ le R hw => by obtain ⟨rfl, rfl, rfl⟩ := R; exact hw.sees' (by first | exact le | exact LE.trans (by assumption) le) (by simp))
      obtain ⟨rfl, rfl, rfl⟩ := R
      refine br0 ?_
      refine brl1 5 true (by kernel_rfl) (by kernel_rfl) (fun _ => h.st.sees' (by first | exact LE.rfl | assumption) (by simp)) ?_
      refine apc 0 [_] row58 (rs_clip hsa) h ?_ ?_ fun A53 c53 olds a w hol h => ?_
      ·omega
      ·omega
      have hkl : (p.known k).length + 1 = (p.known (k + 1)).length := by rw [known_succ p c45, List.length_append]; rfl
      have hr53 : RowR RStr 1 H3 (olds ++ [str p.defs[k].name]) (p.known (k + 1)) := by rw [known_succ p c45]; exact hol.snoc rfl rfl
      rw [hkl] at h
      obtain ⟨H4, leH4, h, hsa2⟩ := h.frw 0 (ys := p.known (k + 1)) hr53 rfl (fun _ _ _ _ _ h => h)
      have l_H_H4 : LE H H4 := l_H_H3.trans leH4
      have l_Hf_H4 : LE Hf H4 := l_Hf_H3.trans leH4
      have l_Hd_H4 : LE Hd H4 := l_Hd_H3.trans leH4
      have l_Hk_H4 : LE Hk H4 := l_Hk_H3.trans leH4
      have l_H3_H4 : LE H3 H4 := leH4
      refine br0 ?_
      refine tkl 6 false (by kernel_rfl) ?_
      refine as_ h fun a w h => ?_
      refine tk0 ?_
      refine en (by kernel_rfl) ?_
      refine ibN ?_
      refine thN ?_
      refine rg0 ?_
      have h := h.pull 3 rfl rfl
      have h := h.pull 3 rfl rfl
      have h := h.del 3
      have h := h.del 2
      refine inc ?_ h fun a w h => ?_
      ·omega
      refine mv h fun a w h => ?_
      refine nlt ?_
      exact ⟨(k + 1, H4, A53, c53), ⟨⟨by omega, l_Hk_H4, hsa2⟩, h.to 0 _⟩, by show _ - (k + 1) < _ - k; omega⟩
    ·have hke : k = p.defs.length := by simp at c45; omega
     subst hke
     refine exit_ ?_
     refine thE ?_
     refine thE ?_
     refine ibH ?_
     refine thN ?_
     refine sq ?_
     refine sqr ?_
     refine mv h fun a w h => ?_
     refine ln sli58 h fun a w h => ?_
     refine mv h fun a w h => ?_
     refine nlt ?_
     refine blk ?_
     refine lp (β := Nat) (fun j a w => (j ≤ (p.known p.defs.length).length ∧ ∀ i (hi : i < (p.known p.defs.length).length), i < j → decide (indexL (p.known p.defs.length) (p.known p.defs.length)[i] < (i : Int)) = false) ∧ S E H3 124 [] [(57, .int .i64 (j : Int)), (56, .int .i64 ((p.known p.defs.length).length : Int)), (55, .slice Aa (p.known p.defs.length).length ca), (7, .slice Aa (p.known p.defs.length).length ca), (1, .pointer (some ⟨g1, 0, none⟩)), (2, .pointer (some ⟨g2, 0, none⟩)), (4, .pointer (some ⟨g4, 0, none⟩)), (3, .int .i64 0)] (.obj g4 (.cells #[.slice B (p.known 0).length cp] 58 (0, 0)) :: .obj g2 (.cells #[.slice none 0 0, .slice none 0 0, .slice none 0 0, .int .i64 0, .string ⟨#[]⟩, .int .i64 0, .slice none 0 0] 28 (0, 0)) :: L) a w)
      (fun j => (p.known p.defs.length).length - j) 0 ⟨⟨Nat.zero_le _, fun i hi h0 => absurd h0 (by omega)⟩, h.to 0 _⟩ ?_
     rintro j a w ⟨pre, h⟩
     refine sqr ?_
     refine lt h fun a w h => ?_
     refine nlt ?_
     refine sq ?_
     refine cdB h (fun c58 => ?_) (fun c58 => ?_)
     ·have c58 : j < (p.known p.defs.length).length := by simpa using c58
      obtain ⟨g, off, rfl, hcell⟩ := SS.get hsa c58
      refine skt ?_
      refine sq ?_
      refine blk ?_
      refine sqr ?_
      refine mv h fun a w h => ?_
      refine ia sli58 sz9 rfl c58 h fun a w h => ?_
      refine ldH t1_9 hcell h fun a w h => ?_
      refine as_ h fun a w h => ?_
      refine as_ h fun a w h => ?_
      refine nsr ?_
      refine mv h fun a w h => ?_
      refine mv h fun a w h => ?_
      refine cl bod43 (Index_ok (p.known p.defs.length) _ _ ca E H3 _ hsa (by omega)) h fun r64 H64 L64 a w le64 R h => ?_
      obtain ⟨rfl, rfl, rfl⟩ := R
      refine mv h fun a w h => ?_
      refine lt h fun a w h => ?_
      refine nlt ?_
      refine cdB h (fun c66 => ?_) (fun c66 => ?_)
      ·have er : p.resolve = (Pg.zero, 6) := by unfold Pg.resolve; rw [if_neg (by rw [hrt]; simp), if_pos (twice_yes c58 c66)]
       refine sqr ?_
       refine bdl lay28 zr28 h fun a w h => ?_
       refine sw1 tN28 h fun a w h => ?_
       refine as_ h fun a w h => ?_
       refine nlt ?_
       refine ret_ ?_
       refine ibR ?_
       refine thR ?_
       refine thR ?_
       refine ibR ?_
       refine thR ?_
       rw [er]
       exact fin (rs := [.cell 2 28, .tmp 3]) (vs := [.agg #[_, _, _, _, _, _, _], .int .i64 _]) h rfl (.agg (k0 := 1) tN28 rfl rfl rfl (.tmp rfl .nil)) rfl l_H_H3 ⟨LE.rfl, h.st.drop 2⟩ ⟨_, rfl, vp_zero _, rfl⟩
      ·refine sk_ ?_
       refine ibN ?_
       refine thN ?_
       refine rg0 ?_
       have h := h.pull 1 rfl rfl
       have h := h.pull 1 rfl rfl
       refine inc ?_ h fun a w h => ?_
       ·omega
       refine mv h fun a w h => ?_
       refine nlt ?_
       exact ⟨(j + 1), ⟨⟨by omega, fun i hi hij => by rcases Nat.lt_succ_iff_lt_or_eq.1 hij with h0 | rfl <;> first | exact c66 | exact pre.2 i hi h0⟩, h.to 0 _⟩, by show _ - (j + 1) < _ - j; omega⟩
     ·have hje : j = (p.known p.defs.length).length := by simp at c58; omega
      have htw : p.twice = false := twice_no fun i hi => pre.2 i hi (by omega)
      refine exit_ ?_
      refine thE ?_
      refine thE ?_
      refine ibH ?_
      refine thN ?_
      refine sq ?_
      have h := back1.get l_Hk_H3 h
      refine rg0 ?_
      refine mf h fun a w h => ?_
      refine as_ h fun a w h => ?_
      refine nlt ?_
      refine sq ?_
      have e0 : (p.known 0).length ≤ 64 := by have := known_len p 0; unfold Pg.known at *; simp at *; omega
      refine rg0 ?_
      refine fa fl28_0 (r := 0) h fun a w h => ?_
      refine ldH t1_25 (Hc.of (l_Hf_Hd _ _ hf1) rfl) h fun a w h => ?_
      refine fa fl28_1 (r := 1) h fun a w h => ?_
      refine ldH t1_25 (Hc.of (l_Hf_Hd _ _ hf1) rfl) h fun a w h => ?_
      refine bdl lay28 zr28 h fun a w h => ?_
      refine al zr28 h fun g13 a w h => ?_
      refine sw0 tN28 h fun a w h => ?_
      refine nsr ?_
      refine as_ h fun a w h => ?_
      refine nlt ?_
      refine sq ?_
      refine sq ?_
      have h := h.row (e := 68) (sz := 5)
      have hdg := hdf.up l_Hf_Hd
      have hkg := hkf.up l_Hf_Hd
      have hLg := hLf.up l_Hf_Hd
      refine rg0 ?_
      refine fa fl28_2 (r := 2) h fun a w h => ?_
      refine ldH t1_26 (Hc.of (l_Hf_Hd _ _ hf1) rfl) h fun a w h => ?_
      refine ln sli26 h fun a w h => ?_
      refine mv h fun a w h => ?_
      refine nlt ?_
      refine blk ?_
      have h := h.pull 4 rfl rfl
      have h := h.pull 1 rfl rfl
      have h := h.pull 2 rfl rfl
      have h := h.pull 3 rfl rfl
      have h := h.pull 4 rfl rfl
      refine lp (β := Nat × GH × List Df × Int × Option Addr × Nat × List Value × Option Addr × Nat × List Value) (fun x a w => match x with | (k, H5, ds, n, B5, cp5, xs5, C, cq, ys) => (k ≤ p.defs.length ∧ LE Hd H5 ∧ p.go k = some (ds, n) ∧ In64 n ∧ ds.length = k ∧ RowR RStr 1 H5 xs5 (p.known k) ∧ RowR RDf 5 H5 ys ds) ∧ S E H5 124 [] [(78, .int .i64 (k : Int)), (77, .int .i64 (p.defs.length : Int)), (76, .slice A3 p.defs.length c3), (12, .func (.func 44) #[] #[.pointer (some ⟨g4, 0, none⟩)]), (14, .int .i64 n), (1, .pointer (some ⟨g1, 0, none⟩)), (2, .pointer (some ⟨g2, 0, none⟩)), (4, .pointer (some ⟨g4, 0, none⟩)), (13, .pointer (some ⟨g13, 0, none⟩)), (3, .int .i64 0)] (.obj g4 (.cells #[.slice B5 (p.known k).length cp5] 58 (0, 0)) :: .row (.slice B5 (p.known k).length cp5) 9 1 (p.known k).length xs5 :: .obj g13 (.cells #[.slice A1 p.inputs.length c1, .slice A2 p.cells.length c2, .slice C k cq, .int .i64 0, .string ⟨#[]⟩, .int .i64 0, .slice none 0 0] 28 (0, 0)) :: .row (.slice C k cq) 68 5 k ys :: .obj g2 (.cells #[.slice none 0 0, .slice none 0 0, .slice none 0 0, .int .i64 0, .string ⟨#[]⟩, .int .i64 0, .slice none 0 0] 28 (0, 0)) :: L) a w)
       (fun x => match x with | (k, H5, ds, n, B5, cp5, xs5, C, cq, ys) => p.defs.length - k) (0, Hd, [], 1, B, cp, xs, none, 0, []) ⟨⟨Nat.zero_le _, LE.rfl, rfl, ⟨by decide, by decide⟩, rfl, hrow, RowR.nil⟩, h.to 0 _⟩ ?_
      rintro ⟨k, H5, ds, n, B5, cp5, xs5, C, cq, ys⟩ a w ⟨pre, h⟩
      obtain ⟨hkk, l_Hd_H5, hgo, hn, hdl, hrk, hrd⟩ := pre
      have l_Hf_H5 := l_Hf_Hd.trans l_Hd_H5
      have l_H_H5 := l_H_Hd.trans l_Hd_H5
      have hkn := known_len p k
      refine sqr ?_
      refine lt h fun a w h => ?_
      refine nlt ?_
      refine sq ?_
      refine cdB h (fun c79 => ?_) (fun c79 => ?_)
      ·have c79 : k < p.defs.length := by simpa using c79
       obtain ⟨g, off, A6, c6, rfl, hvt, hcell⟩ := FS.get (hdg.up l_Hd_H5) c79
       obtain ⟨A7, c7, e7, hkt⟩ := hvt
       cases e7
       refine skt ?_
       refine sq ?_
       refine blk ?_
       refine sqr ?_
       refine ia sli26 sz68 rfl c79 h fun a w h => ?_
       refine ldHN tN68 rfl hcell h fun a w h => ?_
       refine al zr68 h fun g16 a w h => ?_
       refine sw0 tN68 h fun a w h => ?_
       refine nlt ?_
       refine sq ?_
       refine sqr ?_
       refine mv h fun a w h => ?_
       refine fa fl68_1 (r := 1) h fun a w h => ?_
       refine ldN 0 tN24 h fun a w h => ?_
       obtain ⟨Ha, leHa, h, hka, backa⟩ := h.lendR 2 (ys := (p.known k)) hrk rfl (fun _ _ _ _ _ h => h)
       obtain ⟨Hb, leHb, h, hfb, backb⟩ := h.lendO 1
       refine cl bod44 (strange_ok p.defs[k].t _ (p.known k) B5 cp5 g4 E Hb _ (VDf.t (hkt.up (leHa.trans leHb))) ((hb.f _ (List.getElem_mem c79)).2.1) ((hb.f _ (List.getElem_mem c79)).2.2) (SS.up hka leHb) (Hc.of hfb rfl) (by omega)) h fun r85 H85 L85 a w le85 R h => ?_
       obtain ⟨rfl, rfl, rfl⟩ := R
       have h := backb.get LE.rfl h
       have h := backa.get LE.rfl h
       refine nlt ?_
       refine cdB h (fun c85 => ?_) (fun c85 => ?_)
       ·have hgo3 : p.go (k + 1) = none := by rw [go_succ hgo c79, if_pos c85]
        have er : p.resolve = (Pg.zero, 5) := by unfold Pg.resolve; rw [if_neg (by rw [hrt]; simp), if_neg (by rw [htw]; simp), go_none hgo3 _ (by omega)]
        refine sqr ?_
        refine bdl lay28 zr28 h fun a w h => ?_
        refine sw5 tN28 h fun a w h => ?_
        refine as_ h fun a w h => ?_
        refine nlt ?_
        refine ret_ ?_
        refine thR ?_
        refine ibR ?_
        refine thR ?_
        refine thR ?_
        refine ibR ?_
        refine thR ?_
        rw [er]
        exact fin (rs := [.cell 2 28, .tmp 3]) (vs := [.agg #[_, _, _, _, _, _, _], .int .i64 _]) h rfl (.agg (k0 := 5) tN28 rfl rfl rfl (.tmp rfl .nil)) rfl l_H_H5 ⟨LE.rfl, h.st.drop 6⟩ ⟨_, rfl, vp_zero _, rfl⟩
       ·have hgo2 : p.go (k + 1) = some (ds ++ [⟨p.defs[k].name, (p.defs[k].t.ren noS n).1⟩], (p.defs[k].t.ren noS n).2) := by rw [go_succ hgo c79, if_neg (by rw [c85]; simp)]; rfl
        refine skt ?_
        refine sqr ?_
        refine fa fl68_1 (r := 1) h fun a w h => ?_
        refine ldN 2 tN24 h fun a w h => ?_
        refine mv h fun a w h => ?_
        refine cl bod10 (Rename_ok p.defs[k].t _ n E H5 _ (VDf.t hkt) (hLg.up l_Hd_H5) hn ((hb.f _ (List.getElem_mem c79)).2.2)) h fun r91 H91 L91 a w le91 R h => ?_
        obtain ⟨v91, rfl, ⟨A91, c91, rfl, hk91⟩, rfl⟩ := R
        have l_H_H91 : LE H H91 := l_H_H5.trans le91
        have l_Hf_H91 : LE Hf H91 := l_Hf_H5.trans le91
        have l_Hd_H91 : LE Hd H91 := l_Hd_H5.trans le91
        have l_H5_H91 : LE H5 H91 := le91
        refine mv h fun a w h => ?_
        refine ex h fun a w h => ?_
        refine ex h fun a w h => ?_
        refine al zr24 h fun g17 a w h => ?_
        refine sw0 tN24 h fun a w h => ?_
        refine as_ h fun a w h => ?_
        refine nsr ?_
        refine mv h fun a w h => ?_
        refine as_ h fun a w h => ?_
        refine nsr ?_
        refine fa fl28_2 (r := 2) h fun a w h => ?_
        refine ld 4 t1_26 h fun a w h => ?_
        refine fa fl68_0 (r := 0) h fun a w h => ?_
        refine ld 3 t1_9 h fun a w h => ?_
        refine ldW 0 tN24 h fun a w h => ?_
        refine bdl lay68 zr68 h fun a w h => ?_
        refine bsl bs26 h fun g101 a w h => ?_
        refine apb 6 0 (L' := fun i => _ :: _ :: _ :: _ :: _ :: _ :: i :: _) [_, _, _, _, _] row26 h ?_ ?_ fun v102 a w hone h => ?_
        ·omega
        ·omega
        obtain ⟨C8, cq8, rfl⟩ := h.rowv 6
        have hrd2 : RowR RDf 5 H91 (ys ++ [str p.defs[k].name, .int .i64 (p.defs[k].t.ren noS n).1.kind, str (p.defs[k].t.ren noS n).1.name, .int .i64 (p.defs[k].t.ren noS n).1.n, .slice A91 (p.defs[k].t.ren noS n).1.kids.length c91]) (ds ++ [⟨p.defs[k].name, (p.defs[k].t.ren noS n).1⟩]) := (hrd.mono fun cs y _ hr => RDf.mono l_H5_H91 hr).snoc rfl ⟨_, rfl, rt_of_vt (cs := [_, _, _, _]) ⟨A91, c91, rfl, hk91⟩⟩
        refine fa fl28_2 (r := 2) h fun a w h => ?_
        refine st5 (l := [_, _, _, _, _, _, _]) t1_26 h fun a w h => ?_
        refine nlt ?_
        refine rg0 ?_
        refine ld 3 t1_58 h fun a w h => ?_
        refine fa fl68_0 (r := 0) h fun a w h => ?_
        refine ld 4 t1_9 h fun a w h => ?_
        refine bsl bs58 h fun g107 a w h => ?_
        refine apb 3 0 (L' := fun i => _ :: _ :: _ :: i :: _) [_] row58 h ?_ ?_ fun v108 a w hone h => ?_
        ·omega
        ·omega
        obtain ⟨B8, cp8, rfl⟩ := h.rowv 3
        have hrk2 : RowR RStr 1 H91 (xs5 ++ [str p.defs[k].name]) (p.known (k + 1)) := by rw [known_succ p c79]; exact (hrk.mono fun _ _ _ h => h).snoc rfl rfl
        have hkl : (p.known k).length + 1 = (p.known (k + 1)).length := by rw [known_succ p c79, List.length_append]; rfl
        rw [hkl] at h
        refine st4 (l := [_]) t1_58 h fun a w h => ?_
        refine nl0 ?_
        refine ibN ?_
        refine thN ?_
        refine rg0 ?_
        have h := h.pull 8 rfl rfl
        have h := h.pull 8 rfl rfl
        have h := h.pull 8 rfl rfl
        have h := h.pull 6 rfl rfl
        have h := h.pull 7 rfl rfl
        have h := h.del 8
        have h := h.del 7
        have h := h.del 6
        have h := h.del 5
        refine inc ?_ h fun a w h => ?_
        ·omega
        refine mv h fun a w h => ?_
        refine nlt ?_
        exact ⟨(k + 1, H91, _, _, B8, cp8, _, C8, cq8, _), ⟨⟨by omega, l_Hd_H91, hgo2, ren_in _ _ _ hn, by rw [List.length_append, hdl]; rfl, hrk2, hrd2⟩, h.to 0 _⟩, by show _ - (k + 1) < _ - k; omega⟩
      ·have hke : k = p.defs.length := by simp at c79; omega
       subst hke
       refine exit_ ?_
       refine thE ?_
       refine thE ?_
       refine ibH ?_
       refine thN ?_
       refine sq ?_
       refine sqr ?_
       refine mv h fun a w h => ?_
       refine fa fl28_3 (r := 3) h fun a w h => ?_
       refine ldHN (l := [_, _, _, _]) tN24 rfl (Hc.sub 3 4 (l_Hf_H5 _ _ hf1)) h fun a w h => ?_
       obtain ⟨Ha, leHa, h, hka, backa⟩ := h.lendR 1 (ys := (p.known p.defs.length)) hrk rfl (fun _ _ _ _ _ h => h)
       obtain ⟨Hb, leHb, h, hfb, backb⟩ := h.lendO 0
       refine cl bod44 (strange_ok p.body _ (p.known p.defs.length) B5 cp5 g4 E Hb _ (⟨A4, c4, rfl, hkg.up ((l_Hd_H5).trans (leHa.trans leHb))⟩) (hb.b1) (hb.b2) (SS.up hka leHb) (Hc.of hfb rfl) (by omega)) h fun r113 H113 L113 a w le113 R h => ?_
       obtain ⟨rfl, rfl, rfl⟩ := R
       have h := backb.get LE.rfl h
       have h := backa.get LE.rfl h
       refine nlt ?_
       refine cdB h (fun c113 => ?_) (fun c113 => ?_)
       ·have er : p.resolve = (Pg.zero, 5) := by unfold Pg.resolve; rw [if_neg (by rw [hrt]; simp), if_neg (by rw [htw]; simp), hgo]; exact if_pos c113
        refine sqr ?_
        refine bdl lay28 zr28 h fun a w h => ?_
        refine sw4 tN28 h fun a w h => ?_
        refine as_ h fun a w h => ?_
        refine nlt ?_
        refine ret_ ?_
        refine thR ?_
        rw [er]
        exact fin (rs := [.cell 2 28, .tmp 3]) (vs := [.agg #[_, _, _, _, _, _, _], .int .i64 _]) h rfl (.agg (k0 := 4) tN28 rfl rfl rfl (.tmp rfl .nil)) rfl l_H_H5 ⟨LE.rfl, h.st.drop 5⟩ ⟨_, rfl, vp_zero _, rfl⟩
       ·have er : p.resolve = (⟨p.inputs, p.cells, ds, (p.body.ren noS n).1⟩, 0) := by unfold Pg.resolve; rw [if_neg (by rw [hrt]; simp), if_neg (by rw [htw]; simp), hgo]; exact if_neg (by rw [c113]; simp)
        refine skt ?_
        refine sqr ?_
        refine fa fl28_3 (r := 3) h fun a w h => ?_
        refine ldHN (l := [_, _, _, _]) tN24 rfl (Hc.sub 3 4 (l_Hf_H5 _ _ hf1)) h fun a w h => ?_
        refine mv h fun a w h => ?_
        refine cl bod10 (Rename_ok p.body _ n E H5 _ (⟨A4, c4, rfl, hkg.up l_Hd_H5⟩) (hLg.up l_Hd_H5) hn (hb.b2)) h fun r119 H119 L119 a w le119 R h => ?_
        obtain ⟨v119, rfl, ⟨A119, c119, rfl, hk119⟩, rfl⟩ := R
        have l_H_H119 : LE H H119 := l_H_H5.trans le119
        have l_Hf_H119 : LE Hf H119 := l_Hf_H5.trans le119
        have l_Hd_H119 : LE Hd H119 := l_Hd_H5.trans le119
        have l_H5_H119 : LE H5 H119 := le119
        refine mv h fun a w h => ?_
        refine ex h fun a w h => ?_
        refine ex h fun a w h => ?_
        refine fa fl28_3 (r := 3) h fun a w h => ?_
        refine stN (vs := [_, _, _, _]) 2 tN24 h (fun a w h => ?_) [_, _, _, _, _, _, _]
        refine nsr ?_
        refine ldW 2 tN28 h fun a w h => ?_
        refine sw4 tN28 h fun a w h => ?_
        refine as_ h fun a w h => ?_
        refine nlt ?_
        refine ret_ ?_
        obtain ⟨He, leHe, h, hrs⟩ := h.frw (R := RDf) 3 (hrd.mono fun cs y _ hr => RDf.mono l_H5_H119 hr) hdl.symm (fun H6 l6 cs y _ hr => RDf.mono l6 hr)
        have l_H_He : LE H He := l_H_H119.trans leHe
        have l_Hf_He : LE Hf He := l_Hf_H119.trans leHe
        have l_Hd_He : LE Hd He := l_Hd_H119.trans leHe
        have l_H5_He : LE H5 He := l_H5_H119.trans leHe
        have l_H119_He : LE H119 He := leHe
        rw [er]
        exact fin (rs := [.cell 2 28, .tmp 3]) (vs := [.agg #[_, _, _, _, _, _, _], .int .i64 _]) h rfl (.agg (k0 := 3) tN28 rfl rfl rfl (.tmp rfl .nil)) rfl l_H_He ⟨LE.rfl, h.st.drop 4⟩ ⟨_, rfl, vp_of (hi.up l_H_He) (hc.up l_H_He) hdl.symm hrs (KS.up hk119 l_H119_He), rfl⟩
end Go.Proofs.YtindlieilabgfaaGreatDoor
/- Walks: the law's of, fun. -/
set_option linter.unusedVariables false
set_option linter.unusedSimpArgs false
set_option linter.unusedSectionVars false
set_option autoImplicit false
set_option relaxedAutoImplicit false
set_option maxRecDepth 10000
namespace Go.Proofs.YtindlieilabgfaaGreatDoor
open Go X
theorem of_ok (s : Bs) (E : World) (H : GH) (L : List It) : Ok Tryz.prog 30 #[str s] E H L fun r H' L' => r = .agg #[.int .i64 2, str s, .int .i64 0, .slice none 0 0] ∧ H = H' ∧ L = L' := by
  refine enter (N := 5) [(0, _)] Tryz.func30 rfl rfl rfl rfl fun a w h => ?_
  refine sqr ?_
  refine al zr24 h fun g2 a w h => ?_
  refine nsr ?_
  refine mv h fun a w h => ?_
  refine bdl lay24 zr24 h fun a w h => ?_
  refine sw0 tN24 h fun a w h => ?_
  refine nlt ?_
  refine ret_ ?_
  exact fin (rs := [.cell 2 24]) (vs := [.agg #[_, _, _, _]]) h rfl (.agg (k0 := 0) tN24 rfl rfl rfl .nil) rfl LE.rfl ⟨LE.rfl, h.st.drop 1⟩ ⟨rfl, rfl, rfl⟩
theorem fun_ok (s : Bs) (t : Tm) (v : Value) (E : World) (H : GH) (L : List It) (hv : VT H v t) : Ok Tryz.prog 28 #[str s, v] E H L fun r H' L' => ∃ A, r = .agg #[.int .i64 3, str s, .int .i64 0, .slice A 1 1] ∧ KS H' A 1 [t] ∧ L' = L := by
  have hv0 := hv
  obtain ⟨A, c, rfl, hks⟩ := hv
  have hv := hv0
  refine enter (N := 9) [(0, _), (1, _)] Tryz.func28 rfl rfl rfl rfl fun a w h => ?_
  refine sqr ?_
  refine bxA h fun g3 a w h => ?_
  refine al zr24 h fun g4 a w h => ?_
  refine nsr ?_
  refine mv h fun a w h => ?_
  refine ldW 1 tN24 h fun a w h => ?_
  refine bsl bs22 h fun g7 a w h => ?_
  obtain ⟨H1, le1, h, hs⟩ := h.fsl (α := Tm) (R := RT) 0 (ys := [t]) (RowR.one rfl (rt_of_vt (cs := [_, _, _, _]) hv)) (fun _ l _ y _ hr => RT.mono l y hr)
  have l_H_H1 : LE H H1 := le1
  refine bdl lay24 zr24 h fun a w h => ?_
  refine sw0 tN24 h fun a w h => ?_
  refine nlt ?_
  refine ret_ ?_
  exact fin (rs := [.cell 4 24]) (vs := [.agg #[_, _, _, _]]) h rfl (.agg (k0 := 0) tN24 rfl rfl rfl .nil) rfl le1 ⟨LE.rfl, h.st.drop 2⟩ ⟨_, rfl, hs, rfl⟩
end Go.Proofs.YtindlieilabgfaaGreatDoor
