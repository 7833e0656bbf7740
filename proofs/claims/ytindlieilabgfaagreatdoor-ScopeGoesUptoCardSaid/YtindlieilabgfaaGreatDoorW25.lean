/- Walk: the law ScopeGoes. -/
import Derived.Test.YtindlieilabgfaaGreatDoorW24
import Derived.Test.YtindlieilabgfaaGreatDoorW2
set_option linter.unusedVariables false
set_option linter.unusedSimpArgs false
set_option linter.unusedSectionVars false
set_option autoImplicit false
set_option relaxedAutoImplicit false
set_option maxRecDepth 10000
set_option maxHeartbeats 2000000
namespace Go.Proofs.YtindlieilabgfaaGreatDoor
open Go X
theorem go_len {p : Pg} : ∀ {m : Nat} {ds : List Df} {n : Int}, p.go m = some (ds, n) → ds.length = m
  | 0, ds, n, h => by simp [Pg.go] at h; simp [← h.1]
  | m + 1, ds, n, h => by
    simp only [Pg.go] at h
    split at h
    · rename_i ds' n' d h1 h2
      split at h
      · cases h
      · simp at h; rw [← h.1]; simp [go_len h1]
    · cases h
/-- What comes behind begins as what was ahead. -/
theorem go_pre {p : Pg} {m : Nat} {ds : List Df} {n : Int} (h : p.go m = some (ds, n)) (hm : m ≤ p.defs.length) : ∀ i, i ≤ m → ∃ ni, p.go i = some (ds.take i, ni) := by
  induction m generalizing ds n with
  | zero => intro i hi; have : i = 0 := by omega
            subst this; exact ⟨1, rfl⟩
  | succ m ih =>
    intro i hi
    have hl := go_len h
    by_cases e : i = m + 1
    · subst e; exact ⟨n, by rw [List.take_of_length_le (by omega)]; exact h⟩
    · simp only [Pg.go] at h
      split at h
      · rename_i ds' n' d h1 h2
        split at h
        · cases h
        · simp at h
          obtain ⟨ni, h3⟩ := ih h1 (by omega) i (by omega)
          have hl1 := go_len h1
          refine ⟨ni, ?_⟩
          rw [h3, ← h.1, List.take_append_of_le_length (by omega)]
      · cases h
theorem go_at {p : Pg} {m : Nat} {ds : List Df} {n : Int} (h : p.go m = some (ds, n)) (hm : m ≤ p.defs.length) {i : Nat} (hi : i < ds.length) (hi2 : i < p.defs.length) {ni : Int} (hg : p.go i = some (ds.take i, ni)) :
    ds[i] = ⟨p.defs[i].name, (p.defs[i].t.ren noS ni).1⟩ ∧ p.go (i + 1) = some (ds.take (i + 1), (p.defs[i].t.ren noS ni).2) := by
  have hl := go_len h
  obtain ⟨n1, h1⟩ := go_pre h hm (i + 1) (by omega)
  have h2 := go_succ hg hi2
  rw [h1] at h2
  split at h2
  · cases h2
  · simp only [Option.some.injEq, Prod.mk.injEq] at h2
    rw [List.take_succ_eq_append_getElem hi] at h2
    have h3 := List.append_cancel_left h2.1
    simp only [List.cons.injEq, and_true] at h3
    exact ⟨h3, by rw [h1, h2.2]; rfl⟩
theorem resolve_ok {p : Pg} (h : p.resolve.2 = 0) : ∃ ds n, p.go p.defs.length = some (ds, n) ∧ p.resolve.1 = ⟨p.inputs, p.cells, ds, (p.body.ren noS n).1⟩ := by
  unfold Pg.resolve at *
  by_cases h1 : (!p.right) = true
  · rw [if_pos h1] at h; cases h
  rw [if_neg h1] at h ⊢
  by_cases h2 : p.twice = true
  · rw [if_pos h2] at h; cases h
  rw [if_neg h2] at h ⊢
  cases h3 : p.go p.defs.length with
  | none => rw [h3] at h; cases h
  | some q =>
    obtain ⟨ds, n⟩ := q
    rw [h3] at h
    by_cases h4 : p.body.strange (p.known p.defs.length) = true
    · have h5 : (if p.body.strange (p.known p.defs.length) = true then (Pg.zero, 5) else ((⟨p.inputs, p.cells, ds, (p.body.ren (fun _ => none) n).1⟩ : Pg), 0)).2 = (0 : Int) := h
      rw [if_pos h4] at h5; cases h5
    · refine ⟨ds, n, rfl, ?_⟩
      show (if p.body.strange (p.known p.defs.length) = true then (Pg.zero, 5) else ((⟨p.inputs, p.cells, ds, (p.body.ren (fun _ => none) n).1⟩ : Pg), (0 : Int))).1 = _
      rw [if_neg h4]; rfl
theorem sub5 {H : GH} {g o : Nat} {v0 : Value} {l : List Value} (h : ∀ i u, (v0 :: l)[i]? = some u → Hc H g (o + i) u) : ∀ i u, l[i]? = some u → Hc H g (o + 1 + i) u := fun i u hu => by
  have := h (i + 1) u (by simpa using hu)
  rwa [show o + (i + 1) = o + 1 + i by omega] at this

theorem goes_ok (p : Pg) (v : Value) (E : World) (H : GH) (L : List It) (hv : VP H v p) (hL : Laid H) (hb : Mild p) : Ok Tryz.prog 7 #[v] E H L fun r H' L' => r = .bool true ∧ L' = L := by
  have hv0 := hv
  obtain ⟨A1, c1, A2, c2, A3, c3, A4, c4, rfl, hi, hc, hd, hk⟩ := hv
  have hv := hv0
  have hbody := hb.b2
  have hdefs := hb.f
  have hlf := hb.lf
  refine enter (N := 80) [(0, _)] Tryz.func7 rfl rfl rfl rfl fun a w h => ?_
  refine sq ?_
  refine rg0 ?_
  refine bxA h fun g1 a w h => ?_
  refine as_ h fun a w h => ?_
  refine nl0 ?_
  refine thN ?_
  refine sq ?_
  obtain ⟨Hf, leHf, h, hf1⟩ := h.frz 0
  have l_H_Hf : LE H Hf := leHf
  have hdf := hd.up l_H_Hf
  refine rg0 ?_
  refine cl bod9 (examples_ok E Hf _ (hL.up l_H_Hf)) h fun r12 H12 L12 a w le12 R h => ?_
  obtain ⟨hr12, hl12⟩ := R
  rw [hr12, hl12] at h
  have l_H_H12 : LE H H12 := l_H_Hf.trans le12
  have l_Hf_H12 : LE Hf H12 := le12
  refine as_ h fun a w h => ?_
  refine nl0 ?_
  refine thN ?_
  refine sq ?_
  refine sq ?_
  refine rg0 ?_
  refine mv h fun a w h => ?_
  refine nt h fun a w h => ?_
  refine nl0 ?_
  refine thN ?_
  refine cdB h (fun c14 => ?_) (fun c14 => ?_)
  · exact absurd c14 (by decide)
  · refine sk_ ?_
    refine thN ?_
    refine sq ?_
    refine rg0 ?_
    refine ldHN tN28 rfl (Hc.all (l_Hf_H12 _ _ hf1)) h fun a w h => ?_
    refine cl bod17 (Resolve_ok p _ E H12 _ (hv.mono l_H_H12) (hL.up l_H_H12) hb) h fun r17 H17 L17 a w le17 R h => ?_
    obtain ⟨v17, hr17, ⟨D1, d1, D2, d2, D3, d3, D4, d4, hv17, hq1, hq2, hq3, hq4⟩, hl17⟩ := R
    rw [hr17, hl17, hv17] at h
    have l_H_H17 : LE H H17 := l_H_H12.trans le17
    have l_Hf_H17 : LE Hf H17 := l_Hf_H12.trans le17
    have l_H12_H17 : LE H12 H17 := le17
    refine mv h fun a w h => ?_
    refine ex h fun a w h => ?_
    refine ex h fun a w h => ?_
    refine al zr28 h fun g4 a w h => ?_
    refine sw0 tN28 h fun a w h => ?_
    refine as_ h fun a w h => ?_
    refine nl0 ?_
    refine thN ?_
    refine sq ?_
    refine sq ?_
    refine rg0 ?_
    refine mv h fun a w h => ?_
    refine nei h fun a w h => ?_
    refine nl0 ?_
    refine thN ?_
    refine cdB h (fun c21 => ?_) (fun c21 => ?_)
    · refine sq ?_
      refine rg0 ?_
      refine mv h fun a w h => ?_
      refine as_ h fun a w h => ?_
      refine nl0 ?_
      refine thN ?_
      refine ret_ ?_
      refine thR ?_
      have h := h.del 0
      refine fin1 2 0 h l_H_H17 ?_
      exact ⟨rfl, rfl⟩
    · obtain ⟨ds, nl, hgo, hqe⟩ := resolve_ok (by simpa using c21)
      have hdl := go_len hgo
      rw [hqe] at h hq1 hq2 hq3 hq4
      refine sk_ ?_
      refine thN ?_
      refine sq ?_
      obtain ⟨Hg, leHg, h, hf4⟩ := h.frz 0
      have l_H_Hg : LE H Hg := l_H_H17.trans leHg
      have l_Hf_Hg : LE Hf Hg := l_Hf_H17.trans leHg
      have l_H12_Hg : LE H12 Hg := l_H12_H17.trans leHg
      have l_H17_Hg : LE H17 Hg := leHg
      refine rg0 ?_
      refine as_ h fun a w h => ?_
      refine nl0 ?_
      refine thN ?_
      refine sq ?_
      refine sq ?_
      refine rg0 ?_
      refine as_ h fun a w h => ?_
      refine nl0 ?_
      refine thN ?_
      refine blk ?_
      refine lp (β := Nat × Int × GH) (fun x a w => match x with | (k, n, H5) => (k ≤ p.defs.length ∧ LE Hg H5 ∧ p.go k = some (ds.take k, n) ∧ In64 n) ∧ S E H5 80 [] [(7, .int .i64 (k : Int)), (6, .int .i64 n), (1, .pointer (some ⟨g1, 0, none⟩)), (4, .pointer (some ⟨g4, 0, none⟩)), (3, .bool true)] (L) a w)
        (fun x => match x with | (k, n, H5) => p.defs.length - k) (0, 1, Hg) ⟨⟨Nat.zero_le _, LE.rfl, rfl, ⟨by decide, by decide⟩⟩, h.to 0 _⟩ ?_
      rintro ⟨k, n, H5⟩ a w ⟨pre, h⟩
      obtain ⟨hkk, l_Hg_H5, hgo1, hn⟩ := pre
      have l_H_H5 := l_H_Hg.trans l_Hg_H5
      have l_Hf_H5 := l_Hf_Hg.trans l_Hg_H5
      have l_H17_H5 := l_H17_Hg.trans l_Hg_H5
      refine sq ?_
      refine sq ?_
      refine rg0 ?_
      refine mv h fun a w h => ?_
      refine fa fl28_2 (r := 2) h fun a w h => ?_
      refine ldH t1_26 (Hc.of (l_Hg_H5 _ _ hf4) rfl) h fun a w h => ?_
      refine ln sli26 h fun a w h => ?_
      refine lt h fun a w h => ?_
      refine nl0 ?_
      refine thN ?_
      refine cdB h (fun c27 => ?_) (fun c27 => ?_)
      · have c27 : k < ds.length := by simpa using c27
        have c27p : k < p.defs.length := by omega
        obtain ⟨hdk, hgo2⟩ := go_at hgo (Nat.le_refl _) c27 c27p hgo1
        obtain ⟨g, off, A6, c6, e6, hvt, hcell⟩ := FS.get (FS.up hdf l_Hf_H5) c27p
        obtain ⟨_, _, e8, hkt⟩ := hvt
        cases e8
        obtain ⟨gq, oq, A7, c7, e7, hvt7, hcq⟩ := FS.get (FS.up hq3 l_H17_H5) c27
        replace e7 : D3 = some ⟨gq, oq, none⟩ := e7
        obtain ⟨_, _, e9, hkq⟩ := hvt7
        cases e9
        refine sk_ ?_
        refine thN ?_
        refine sq ?_
        refine blk ?_
        refine sq ?_
        refine rg0 ?_
        refine fa fl28_2 (r := 2) h fun a w h => ?_
        refine ldH t1_26 (Hc.of (l_Hf_H5 _ _ hf1) rfl) h fun a w h => ?_
        refine mv h fun a w h => ?_
        rw [e6] at h
        refine ia sli26 sz68 rfl c27p h fun a w h => ?_
        refine fa fl68_1 (r := off + k * 5 + 1) h fun a w h => ?_
        refine ldHN (l := [_, _, _, _]) tN24 rfl (sub5 hcell) h fun a w h => ?_
        refine mv h fun a w h => ?_
        refine cl bod10 (Rename_ok (p.defs[k].t) _ n E H5 _ (VDf.t hkt) (hL.up l_H_H5) hn ((hb.f _ (List.getElem_mem c27p)).2.2)) h fun r38 H38 L38 a w le38 R h => ?_
        obtain ⟨v38, hr38, ⟨A38, c38, hv38, hk38⟩, hl38⟩ := R
        rw [hr38, hl38, hv38] at h
        have l_H_H38 : LE H H38 := l_H_H5.trans le38
        have l_Hf_H38 : LE Hf H38 := l_Hf_H5.trans le38
        have l_H17_H38 : LE H17 H38 := l_H17_H5.trans le38
        have l_Hg_H38 : LE Hg H38 := l_Hg_H5.trans le38
        have l_H5_H38 : LE H5 H38 := le38
        have hcell := fun i u hu => (hcell i u hu).mono l_H5_H38
        have hcq := fun i u hu => (hcq i u hu).mono l_H5_H38
        refine mv h fun a w h => ?_
        refine ex h fun a w h => ?_
        refine ex h fun a w h => ?_
        refine al zr24 h fun g8 a w h => ?_
        refine sw0 tN24 h fun a w h => ?_
        refine as_ h fun a w h => ?_
        refine nl0 ?_
        refine thN ?_
        refine sq ?_
        refine sq ?_
        refine rgd [0] [_] [16] [0, 2, 6, 11, 15, 17, 21] 0 mix (by kernel_rfl) h (fun a w h => ?_)
        refine ldWD 0 tN24 h fun a w h => ?_
        refine fa fl28_2 (r := 2) h fun a w h => ?_
        refine ldHD t1_26 (Hc.of (l_Hg_H38 _ _ hf4) rfl) h fun a w h => ?_
        refine mv h fun a w h => ?_
        rw [e7] at h
        refine ia sli26 sz68 rfl c27 h fun a w h => ?_
        refine fa fl68_1 (r := oq + k * 5 + 1) h fun a w h => ?_
        refine ldHND (l := [_, _, _, _]) tN24 rfl (sub5 hcq) h fun a w h => ?_
        refine cl bod27 (Same_ok (p.defs[k].t.ren noS n).1 ds[k].t _ _ E H38 _ (⟨A38, c38, rfl, KS.up hk38 LE.rfl⟩) (VDf.t (KS.up hkq l_H5_H38)) (by rw [ren_size]; exact (hb.f _ (List.getElem_mem c27p)).2.2)) h fun r48 H48 L48 a w le48 R h => ?_
        obtain ⟨rfl, rfl, rfl⟩ := R
        rw [show (p.defs[k].t.ren noS n).1.same ds[k].t = true from (same_iff _ _).2 (by rw [hdk])] at h
        refine nt h fun a w h => ?_
        refine h.spl (fun c49 h => ?_) (fun c49 h => ?_)
        · exact absurd c49 (by decide)
        · refine mv h fun a w h => ?_
          refine fa fl28_2 (r := 2) h fun a w h => ?_
          refine ldHD t1_26 (Hc.of (l_Hg_H38 _ _ hf4) rfl) h fun a w h => ?_
          refine mv h fun a w h => ?_
          rw [e7] at h
          refine ia sli26 sz68 rfl c27 h fun a w h => ?_
          refine fa fl68_0 (r := oq + k * 5 + 0) h fun a w h => ?_
          refine ldHD t1_9 (hcq 0 _ rfl) h fun a w h => ?_
          refine fa fl28_2 (r := 2) h fun a w h => ?_
          refine ldHD t1_26 (Hc.of (l_Hf_H38 _ _ hf1) rfl) h fun a w h => ?_
          refine mv h fun a w h => ?_
          rw [e6] at h
          refine ia sli26 sz68 rfl c27p h fun a w h => ?_
          refine fa fl68_0 (r := off + k * 5 + 0) h fun a w h => ?_
          refine ldHD t1_9 (hcell 0 _ rfl) h fun a w h => ?_
          refine neb h fun a w h => ?_
          refine pkF h fun a w h => ?_
          refine nl0 ?_
          refine thN ?_
          refine cdB h (fun c64 => ?_) (fun c64 => ?_)
          · rw [hdk] at c64
            simp at c64
          · refine sk_ ?_
            refine thN ?_
            refine rg0 ?_
            refine mv h fun a w h => ?_
            refine as_ h fun a w h => ?_
            refine nl0 ?_
            refine ibN ?_
            refine thN ?_
            refine rg0 ?_
            refine mv h fun a w h => ?_
            refine inc ?_ h fun a w h => ?_
            · omega
            refine as_ h fun a w h => ?_
            refine nl0 ?_
            refine thN ?_
            exact ⟨(k + 1, _, H38), ⟨⟨by omega, l_Hg_H38, hgo2, ren_in _ _ _ hn⟩, h.to 1 _⟩, by show _ - (k + 1) < _ - k; omega⟩
      · have hke : k = p.defs.length := by have c27 := of_decide_eq_false c27; change ¬ ((k : Int) < (ds.length : Int)) at c27; show k = _; omega
        have hnn : n = nl := by rw [hke, hgo] at hgo1; simp at hgo1; exact hgo1.2.symm
        refine exit_ ?_
        refine thE ?_
        refine thE ?_
        refine ibH ?_
        refine thN ?_
        refine sq ?_
        refine rg0 ?_
        refine fa fl28_3 (r := 3) h fun a w h => ?_
        refine ldHN (l := [_, _, _, _]) tN24 rfl (Hc.sub 3 4 (l_Hf_H5 _ _ hf1)) h fun a w h => ?_
        refine mv h fun a w h => ?_
        refine cl bod10 (Rename_ok (p.body) _ n E H5 _ (⟨A4, c4, rfl, KS.up hk l_H_H5⟩) (hL.up l_H_H5) hn (hb.b2)) h fun r70 H70 L70 a w le70 R h => ?_
        obtain ⟨v70, hr70, ⟨A70, c70, hv70, hk70⟩, hl70⟩ := R
        rw [hr70, hl70, hv70] at h
        have l_H_H70 : LE H H70 := l_H_H5.trans le70
        have l_Hf_H70 : LE Hf H70 := l_Hf_H5.trans le70
        have l_H17_H70 : LE H17 H70 := l_H17_H5.trans le70
        have l_Hg_H70 : LE Hg H70 := l_Hg_H5.trans le70
        have l_H5_H70 : LE H5 H70 := le70
        refine mv h fun a w h => ?_
        refine ex h fun a w h => ?_
        refine ex h fun a w h => ?_
        refine al zr24 h fun g10 a w h => ?_
        refine sw0 tN24 h fun a w h => ?_
        refine as_ h fun a w h => ?_
        refine nl0 ?_
        refine thN ?_
        refine sq ?_
        refine rg0 ?_
        refine mv h fun a w h => ?_
        refine mv h fun a w h => ?_
        refine ldW 0 tN24 h fun a w h => ?_
        refine fa fl28_3 (r := 3) h fun a w h => ?_
        refine ldHN (l := [_, _, _, _]) tN24 rfl (Hc.sub 3 4 (l_Hg_H70 _ _ hf4)) h fun a w h => ?_
        refine cl bod27 (Same_ok (p.body.ren noS n).1 (p.body.ren noS nl).1 _ _ E H70 _ (⟨A70, c70, rfl, KS.up hk70 LE.rfl⟩) (⟨D4, d4, rfl, KS.up hq4 l_H17_H70⟩) (by rw [ren_size]; exact hb.b2)) h fun r78 H78 L78 a w le78 R h => ?_
        obtain ⟨rfl, rfl, rfl⟩ := R
        rw [show (p.body.ren noS n).1.same (p.body.ren noS nl).1 = true from (same_iff _ _).2 (by rw [hnn])] at h
        refine pkT h fun a w h => ?_
        refine as_ h fun a w h => ?_
        refine nl0 ?_
        refine thN ?_
        refine ret_ ?_
        have h := h.del 0
        refine fin1 2 0 h l_H_H70 ?_
        exact ⟨rfl, rfl⟩
end Go.Proofs.YtindlieilabgfaaGreatDoor
