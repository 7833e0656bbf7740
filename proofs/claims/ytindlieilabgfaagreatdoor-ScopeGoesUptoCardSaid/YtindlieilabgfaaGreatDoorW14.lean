/- Walks: term.Free. -/
import Derived.Test.YtindlieilabgfaaGreatDoorW13
set_option linter.unusedVariables false
set_option linter.unusedSimpArgs false
set_option linter.unusedSectionVars false
set_option autoImplicit false
set_option relaxedAutoImplicit false
set_option maxRecDepth 10000
namespace Go.Proofs.YtindlieilabgfaaGreatDoor
open Go X
theorem walk_ok : ∀ (t : Tm) (v : Value) (E : World) (H : GH) (L : List It) (gbc gmc gwc gb gm : Nat) (fb fm : Bs → Option Value) (b : Bs → Nat), VT H v t → (∀ x, (fb x).getD (.int .i64 0) = .int .i64 ((b x : Nat) : Int)) → (∀ x, b x + t.size < 1000000000000) →
    (∀ x u, fm x = some u → ∃ n : Int, u = .int .i64 n) → Hc H gbc 0 (.map (some gb)) → Hc H gmc 0 (.map (some gm)) → Hc H gwc 0 (.func (.func 53) #[] #[.pointer (some ⟨gbc, 0, none⟩), .pointer (some ⟨gmc, 0, none⟩), .pointer (some ⟨gwc, 0, none⟩)]) →
    Ok Tryz.prog 53 #[v, .pointer (some ⟨gbc, 0, none⟩), .pointer (some ⟨gmc, 0, none⟩), .pointer (some ⟨gwc, 0, none⟩)] E H (.blk gb (IsMap encS fb) :: .blk gm (IsMap encS fm) :: L) fun r H' L' => r = .tuple #[] ∧ H = H' ∧ ∃ fb' fm', L' = .blk gb (IsMap encS fb') :: .blk gm (IsMap encS fm') :: L ∧
      (∀ x, (fb' x).getD (.int .i64 0) = .int .i64 ((b x : Nat) : Int)) ∧ (∀ x, (fm' x).isSome = ((fm x).isSome || t.fr b x)) ∧ (∀ x u, fm' x = some u → ∃ n : Int, u = .int .i64 n) := by
  intro t
  induction t using Tm.ind with
  | h kd nm nn ks ih =>
  intro v E H L gbc gmc gwc gb gm fb fm b hv hb hbs hmi hbc hmc hwc
  obtain ⟨A, c, rfl, hks⟩ := hv
  have hks : KS H A c ks := hks
  simp only [Tm.size] at hbs
  have hlen := length_le_sizeL ks
  have hb0 := hbs []
  refine enter (N := 57) [(0, _), (1, _), (2, _), (3, _)] Tryz.func53 rfl rfl rfl rfl fun a w h => ?_
  refine sq ?_
  refine rg0 ?_
  refine bxA h fun g4 a w h => ?_
  refine nl0 ?_
  refine thN ?_
  obtain ⟨Hf, leHf, h, hf4⟩ := h.frz 0
  have l_H_Hf : LE H Hf := leHf
  have hL := hks.up l_H_Hf
  refine sqc (fun a w => ∃ fm1, S E Hf 57 [] [(1, .pointer (some ⟨gbc, 0, none⟩)), (2, .pointer (some ⟨gmc, 0, none⟩)), (3, .pointer (some ⟨gwc, 0, none⟩)), (4, .pointer (some ⟨g4, 0, none⟩))] (.blk gb (IsMap encS fb) :: .blk gm (IsMap encS fm1) :: L) a w ∧ (∀ x, (fm1 x).isSome = ((fm x).isSome || ((kd == 2 && decide (b nm = 0)) && decide (x = nm)))) ∧ (∀ x u, fm1 x = some u → ∃ n : Int, u = .int .i64 n)) ?_ ?_
  · refine sq ?_
    refine rg0 ?_
    refine fa fl24_0 (r := 0) h fun a w h => ?_
    refine ldH t1_3 (Hc.of (LE.rfl _ _ hf4) rfl) h fun a w h => ?_
    refine eqi h fun a w h => ?_
    refine h.spl (fun c10 h => ?_) (fun c10 h => ?_)
    · refine mv h fun a w h => ?_
      refine ldH t1_99 (hbc.mono l_H_Hf) h fun a w h => ?_
      refine fa fl24_1 (r := 1) h fun a w h => ?_
      refine ldH t1_9 (Hc.of (LE.rfl _ _ hf4) rfl) h fun a w h => ?_
      refine lk1 (f := fb) (q := nm) 0 keyS mapSI zr3 h fun a w h => ?_
      rw [hb nm] at h
      refine eqi h fun a w h => ?_
      refine pkT h fun a w h => ?_
      refine nl0 ?_
      refine thN ?_
      refine cdB h (fun c17 => ?_) (fun c17 => ?_)
      · refine rg0 ?_
        refine ldH t1_99 (hmc.mono l_H_Hf) h fun a w h => ?_
        refine fa fl24_1 (r := 1) h fun a w h => ?_
        refine ldH t1_9 (Hc.of (LE.rfl _ _ hf4) rfl) h fun a w h => ?_
        refine lk1 (f := fm) (q := nm) 1 keyS mapSI zr3 h fun a w h => ?_
        obtain ⟨n0, hn0⟩ : ∃ n : Int, (fm nm).getD (.int .i64 0) = .int .i64 n := by
          cases hx : fm nm with
          | none => exact ⟨0, rfl⟩
          | some u => obtain ⟨n, rfl⟩ := hmi _ _ hx; exact ⟨n, rfl⟩
        rw [hn0] at h
        refine add h fun a w h => ?_
        have h := h.pull 1 rfl rfl
        refine mu 0 keyS mapSI h fun a w h => ?_
        have h : S _ _ _ _ _ (.blk _ (IsMap encS (upd fm nm (some _))) :: _) _ _ := h
        refine nl0 ?_
        refine thN ?_
        have h := h.pull 1 rfl rfl
        have k2 : kd = 2 := eq_of_beq c10
        have b0 : b nm = 0 := by have := eq_of_beq c17; omega
        refine ⟨_, h.to 0 _, fun x => ?_, fun x u hu => ?_⟩
        · unfold upd; rw [k2, b0]; by_cases e : x = nm <;> simp [e]
        · unfold upd at hu; split at hu; exact ⟨_, (Option.some.inj hu).symm⟩; exact hmi x u hu
      · refine sk_ ?_
        refine thN ?_
        have h := h.pull 1 rfl rfl
        have h := h.pull 1 rfl rfl
        refine ⟨fm, h.to 0 _, fun x => ?_, hmi⟩
        have b0 : b nm ≠ 0 := by have := ne_of_beq_false c17; omega
        simp [b0]
    · refine mv h fun a w h => ?_
      refine sk h (k := fun a w h => ?_)
      refine sk h (k := fun a w h => ?_)
      refine sk h (k := fun a w h => ?_)
      refine sk h (k := fun a w h => ?_)
      refine sk h (k := fun a w h => ?_)
      refine pkF h fun a w h => ?_
      refine nl0 ?_
      refine thN ?_
      refine cdF h ?_
      refine sk_ ?_
      refine thN ?_
      have h := h.pull 1 rfl rfl
      have h := h.pull 1 rfl rfl
      refine ⟨fm, h.to 0 _, fun x => ?_, hmi⟩
      have k2 : kd ≠ 2 := ne_of_beq_false c10
      simp [k2]
  · rintro a w ⟨fm1, h, hm1, hi1⟩
    refine sq ?_
    refine rg0 ?_
    refine fa fl24_3 (r := 3) h fun a w h => ?_
    refine ldH t1_22 (Hc.of (LE.rfl _ _ hf4) rfl) h fun a w h => ?_
    refine ln sli22 h fun a w h => ?_
    refine mv h fun a w h => ?_
    refine nl0 ?_
    refine thN ?_
    refine blk ?_
    refine lp (β := Nat × (Bs → Option Value) × (Bs → Option Value)) (fun x a w => match x with | (k, fb1, fm2) => (k ≤ ks.length ∧ (∀ x, (fb1 x).getD (.int .i64 0) = .int .i64 ((b x : Nat) : Int)) ∧ (∀ x, (fm2 x).isSome = ((fm x).isSome || (((kd == 2 && decide (b nm = 0)) && decide (x = nm)) || frT (bnd kd) nm ks k b x))) ∧ (∀ x u, fm2 x = some u → ∃ n : Int, u = .int .i64 n)) ∧ S E Hf 57 [] [(1, .pointer (some ⟨gbc, 0, none⟩)), (2, .pointer (some ⟨gmc, 0, none⟩)), (3, .pointer (some ⟨gwc, 0, none⟩)), (4, .pointer (some ⟨g4, 0, none⟩)), (26, .int .i64 (k : Int)), (25, .int .i64 (ks.length : Int)), (24, .slice A ks.length c)] (.blk gb (IsMap encS fb1) :: .blk gm (IsMap encS fm2) :: L) a w)
      (fun x => match x with | (k, fb1, fm2) => ks.length - k) (0, fb, fm1) ⟨⟨Nat.zero_le _, hb, fun x => by rw [hm1 x, frT_zero, Bool.or_false], hi1⟩, h.to 0 _⟩ ?_
    rintro ⟨k, fb1, fm2⟩ a w ⟨pre, h⟩
    obtain ⟨hk, hb1, hm2, hi2⟩ := pre
    refine sq ?_
    refine rg0 ?_
    refine lt h fun a w h => ?_
    refine nl0 ?_
    refine thN ?_
    refine sq ?_
    refine cdB h (fun c27 => ?_) (fun c27 => ?_)
    · have c27 : k < ks.length := by simpa using c27
      obtain ⟨g, off, A2, c2, rfl, hvt, hcell⟩ := KS.get hL c27
      have hsz := size_get_le c27
      refine sk_ ?_
      refine thN ?_
      refine sq ?_
      refine blk ?_
      refine sq ?_
      refine rg0 ?_
      refine mv h fun a w h => ?_
      refine ia sli22 sz24 rfl c27 h fun a w h => ?_
      refine ldHN tN24 rfl hcell h fun a w h => ?_
      refine al zr24 h fun g6 a w h => ?_
      refine as_ h fun a w h => ?_
      refine sw0 tN24 h fun a w h => ?_
      refine nl0 ?_
      refine thN ?_
      refine sq ?_
      refine rg0 ?_
      refine ldHN tN24 rfl (Hc.all (LE.rfl _ _ hf4)) h fun a w h => ?_
      refine cl bod38 (Binder_ok _ _ _ _ E Hf _) h fun r32 H32 L32 a w le32 R h => ?_
      obtain ⟨rfl, rfl, rfl⟩ := R
      refine h.spl (fun c32 h => ?_) (fun c32 h => ?_)
      · refine mv h fun a w h => ?_
        refine mv h fun a w h => ?_
        refine fa fl24_3 (r := 3) h fun a w h => ?_
        refine ldH t1_22 (Hc.of (LE.rfl _ _ hf4) rfl) h fun a w h => ?_
        refine ln sli22 h fun a w h => ?_
        refine sbr ((ks.length : Int) - 1) (w64 (by omega) (by omega)) h fun a w h => ?_
        refine eqi h fun a w h => ?_
        refine pkT h fun a w h => ?_
        refine as_ h fun a w h => ?_
        refine nl0 ?_
        refine thN ?_
        refine sq ?_
        refine sq ?_
        refine rg0 ?_
        refine mv h fun a w h => ?_
        refine nl0 ?_
        refine thN ?_
        refine cdB h (fun c41 => ?_) (fun c41 => ?_)
        · refine rg0 ?_
          refine ldH t1_99 (hbc.mono l_H_Hf) h fun a w h => ?_
          refine fa fl24_1 (r := 1) h fun a w h => ?_
          refine ldH t1_9 (Hc.of (LE.rfl _ _ hf4) rfl) h fun a w h => ?_
          refine lk1 (f := fb1) (q := nm) 1 keyS mapSI zr3 h fun a w h => ?_
          rw [hb1 nm] at h
          have hbn := hbs nm
          refine adr ((b nm + 1 : Nat) : Int) ?_ h fun a w h => ?_
          · rw [w64 (by omega) (by omega)]; omega
          have h := h.pull 1 rfl rfl
          refine mu 0 keyS mapSI h fun a w h => ?_
          have h : S _ _ _ _ _ (.blk _ (IsMap encS (upd fb1 nm (some (.int .i64 ((b nm + 1 : Nat) : Int))))) :: _) _ _ := h
          obtain ⟨fb2, hfb2⟩ : ∃ f, f = upd fb1 nm (some (.int .i64 ((b nm + 1 : Nat) : Int))) := ⟨_, rfl⟩
          rw [← hfb2] at h
          have hb2 : ∀ x, (fb2 x).getD (.int .i64 0) = .int .i64 ((inc1 b nm x : Nat) : Int) := fun x => by rw [hfb2]; unfold upd inc1; split; (rename_i e; subst e; rfl); exact hb1 x
          refine nl0 ?_
          refine thN ?_
          refine sq ?_
          refine rg0 ?_
          refine ldH t1_100 (hwc.mono l_H_Hf) h fun a w h => ?_
          refine ldW 1 tN24 h fun a w h => ?_
          have h := h.pull 2 rfl rfl
          have h := h.pull 1 rfl rfl
          refine cl bod53 (ih _ (List.getElem_mem c27) _ E Hf _ gbc gmc gwc gb gm fb2 fm2 (inc1 b nm) hvt hb2 (fun x => ?_) hi2 (hbc.mono l_H_Hf) (hmc.mono l_H_Hf) (hwc.mono l_H_Hf)) h fun r49 H49 L49 a w le49 R h => ?_
          · have := hbs x; unfold inc1; split <;> omega
          obtain ⟨rfl, rfl, fb4, fm3, rfl, hb4, hm3, hi3⟩ := R
          refine nl0 ?_
          refine thN ?_
          refine sq ?_
          refine rg0 ?_
          refine mv h fun a w h => ?_
          refine nl0 ?_
          refine thN ?_
          refine cdB h (fun c50 => ?_) (fun c50 => ?_)
          · refine rg0 ?_
            refine ldH t1_99 (hbc.mono l_H_Hf) h fun a w h => ?_
            refine fa fl24_1 (r := 1) h fun a w h => ?_
            refine ldH t1_9 (Hc.of (LE.rfl _ _ hf4) rfl) h fun a w h => ?_
            refine lk1 (f := fb4) (q := nm) 0 keyS mapSI zr3 h fun a w h => ?_
            have e4 : (fb4 nm).getD (.int .i64 0) = .int .i64 ((b nm + 1 : Nat) : Int) := by rw [hb4 nm]; unfold inc1; rw [if_pos rfl]
            rw [e4] at h
            refine sbr ((b nm : Nat) : Int) ?_ h fun a w h => ?_
            · have hbn := hbs nm; rw [w64 (by omega) (by omega)]; omega
            refine mu 0 keyS mapSI h fun a w h => ?_
            have h : S _ _ _ _ _ (.blk _ (IsMap encS (upd fb4 nm (some (.int .i64 ((b nm : Nat) : Int))))) :: _) _ _ := h
            obtain ⟨fb5, hfb5⟩ : ∃ f, f = upd fb4 nm (some (.int .i64 ((b nm : Nat) : Int))) := ⟨_, rfl⟩
            rw [← hfb5] at h
            refine nl0 ?_
            refine ibN ?_
            refine thN ?_
            refine rg0 ?_
            have h := h.pull 1 rfl rfl
            have h := h.pull 1 rfl rfl
            have h := h.del 2
            have hin : (bnd kd && k + 1 == ks.length) = true := by rw [show bnd kd = true from c32]; have := eq_of_beq c41; simp; omega
            have hb3 : ∀ x, (fb5 x).getD (.int .i64 0) = .int .i64 ((b x : Nat) : Int) := fun x => by
              rw [hfb5]; unfold X.upd; split
              · rename_i e; subst e; rfl
              · rename_i e; have := hb4 x; unfold inc1 at this; rw [if_neg e] at this; exact this
            obtain ⟨fb3, hfb3⟩ : ∃ f, f = fb5 := ⟨_, rfl⟩
            rw [← hfb3] at h hb3
            refine inc ?_ h fun a w h => ?_
            · omega
            refine mv h fun a w h => ?_
            refine nl0 ?_
            refine thN ?_
            exact ⟨(k + 1, fb3, fm3), ⟨⟨by omega, hb3, fun x => by rw [hm3 x, hm2 x, frT_succ _ _ _ _ _ c27, hin]; simp only [Bool.or_assoc]; rfl, hi3⟩, h.to 0 _⟩, by show _ - (k + 1) < _ - k; omega⟩
          · exact absurd (c41.symm.trans c50) (by decide)
        · refine sk_ ?_
          refine thN ?_
          refine sq ?_
          refine rg0 ?_
          refine ldH t1_100 (hwc.mono l_H_Hf) h fun a w h => ?_
          refine ldW 0 tN24 h fun a w h => ?_
          have h := h.pull 2 rfl rfl
          have h := h.pull 2 rfl rfl
          refine cl bod53 (ih _ (List.getElem_mem c27) _ E Hf _ gbc gmc gwc gb gm fb1 fm2 b hvt hb1 (fun x => ?_) hi2 (hbc.mono l_H_Hf) (hmc.mono l_H_Hf) (hwc.mono l_H_Hf)) h fun r49 H49 L49 a w le49 R h => ?_
          · have := hbs x; omega
          obtain ⟨rfl, rfl, fb4, fm3, rfl, hb4, hm3, hi3⟩ := R
          refine nl0 ?_
          refine thN ?_
          refine sq ?_
          refine rg0 ?_
          refine mv h fun a w h => ?_
          refine nl0 ?_
          refine thN ?_
          refine cdB h (fun c50 => ?_) (fun c50 => ?_)
          · exact absurd (c41.symm.trans c50) (by decide)
          · refine sk_ ?_
            refine ibN ?_
            refine thN ?_
            refine rg0 ?_
            have h := h.pull 1 rfl rfl
            have h := h.pull 1 rfl rfl
            have h := h.del 2
            have hin : (bnd kd && k + 1 == ks.length) = false := by rw [show bnd kd = true from c32]; have := ne_of_beq_false c41; simp; omega
            have fb3E := hb4
            obtain ⟨fb3, hfb3⟩ : ∃ f, f = fb4 := ⟨_, rfl⟩
            rw [← hfb3] at h
            have hb3 : ∀ x, (fb3 x).getD (.int .i64 0) = .int .i64 ((b x : Nat) : Int) := by rw [hfb3]; exact hb4
            refine inc ?_ h fun a w h => ?_
            · omega
            refine mv h fun a w h => ?_
            refine nl0 ?_
            refine thN ?_
            exact ⟨(k + 1, fb3, fm3), ⟨⟨by omega, hb3, fun x => by rw [hm3 x, hm2 x, frT_succ _ _ _ _ _ c27, hin]; simp only [Bool.or_assoc]; rfl, hi3⟩, h.to 0 _⟩, by show _ - (k + 1) < _ - k; omega⟩
      · refine mv h fun a w h => ?_
        refine sk h (k := fun a w h => ?_)
        refine sk h (k := fun a w h => ?_)
        refine sk h (k := fun a w h => ?_)
        refine sk h (k := fun a w h => ?_)
        refine sk h (k := fun a w h => ?_)
        refine sk h (k := fun a w h => ?_)
        refine pkF h fun a w h => ?_
        refine as_ h fun a w h => ?_
        refine nl0 ?_
        refine thN ?_
        refine sq ?_
        refine sq ?_
        refine rg0 ?_
        refine mv h fun a w h => ?_
        refine nl0 ?_
        refine thN ?_
        refine cdF h ?_
        refine sk_ ?_
        refine thN ?_
        refine sq ?_
        refine rg0 ?_
        refine ldH t1_100 (hwc.mono l_H_Hf) h fun a w h => ?_
        refine ldW 0 tN24 h fun a w h => ?_
        have h := h.pull 2 rfl rfl
        have h := h.pull 2 rfl rfl
        refine cl bod53 (ih _ (List.getElem_mem c27) _ E Hf _ gbc gmc gwc gb gm fb1 fm2 b hvt hb1 (fun x => ?_) hi2 (hbc.mono l_H_Hf) (hmc.mono l_H_Hf) (hwc.mono l_H_Hf)) h fun r49 H49 L49 a w le49 R h => ?_
        · have := hbs x; omega
        obtain ⟨rfl, rfl, fb4, fm3, rfl, hb4, hm3, hi3⟩ := R
        refine nl0 ?_
        refine thN ?_
        refine sq ?_
        refine rg0 ?_
        refine mv h fun a w h => ?_
        refine nl0 ?_
        refine thN ?_
        refine cdF h ?_
        refine sk_ ?_
        refine ibN ?_
        refine thN ?_
        refine rg0 ?_
        have h := h.pull 1 rfl rfl
        have h := h.pull 1 rfl rfl
        have h := h.del 2
        have hin : (bnd kd && k + 1 == ks.length) = false := by rw [show bnd kd = false from c32]; rfl
        have fb3E := hb4
        obtain ⟨fb3, hfb3⟩ : ∃ f, f = fb4 := ⟨_, rfl⟩
        rw [← hfb3] at h
        have hb3 : ∀ x, (fb3 x).getD (.int .i64 0) = .int .i64 ((b x : Nat) : Int) := by rw [hfb3]; exact hb4
        refine inc ?_ h fun a w h => ?_
        · omega
        refine mv h fun a w h => ?_
        refine nl0 ?_
        refine thN ?_
        exact ⟨(k + 1, fb3, fm3), ⟨⟨by omega, hb3, fun x => by rw [hm3 x, hm2 x, frT_succ _ _ _ _ _ c27, hin]; simp only [Bool.or_assoc]; rfl, hi3⟩, h.to 0 _⟩, by show _ - (k + 1) < _ - k; omega⟩
    · have hkk : k = ks.length := by simp at c27; omega
      refine exit_ ?_
      refine thE ?_
      refine thE ?_
      refine ibH ?_
      refine finN0 0 (h.less l_H_Hf) LE.rfl ?_
      refine ⟨rfl, rfl, fb1, fm2, rfl, hb1, fun x => ?_, hi2⟩
      rw [hm2 x, hkk, frT_all]; simp only [Tm.fr]

theorem Free_ok (t : Tm) (v : Value) (E : World) (H : GH) (L : List It) (hv : VT H v t) (hlg : t.long < 1000000000000) (hsz : t.size < 1000000000000) :
    Ok Tryz.prog 23 #[v] E H L fun r H' L' => ∃ A c ss, r = .slice A ss.length c ∧ H = H' ∧ L' = .row (.slice A ss.length c) 9 1 ss.length (ss.map encS) :: L ∧ IsSet ss (t.fr none0) := by
  have hv0 := hv
  obtain ⟨A, c, rfl, hks⟩ := hv
  have hv := hv0
  refine enter (N := 15) [(0, _)] Tryz.func23 rfl rfl rfl rfl fun a w h => ?_
  refine sq ?_
  refine rg0 ?_
  refine bxA h fun g1 a w h => ?_
  refine as_ h fun a w h => ?_
  refine nl0 ?_
  refine thN ?_
  refine sq ?_
  refine rg0 ?_
  refine mk0 (enc := encS) h fun m6 a w h => ?_
  refine al zr99 h fun g3 a w h => ?_
  refine st0 (l := [_]) t1_99 h fun a w h => ?_
  refine nl0 ?_
  refine thN ?_
  refine sq ?_
  refine rg0 ?_
  refine mk0 (enc := encS) h fun m7 a w h => ?_
  refine al zr99 h fun g4 a w h => ?_
  refine st0 (l := [_]) t1_99 h fun a w h => ?_
  refine nl0 ?_
  refine thN ?_
  refine sq ?_
  refine rg0 ?_
  refine al zr100 h fun g5 a w h => ?_
  refine nl0 ?_
  refine thN ?_
  refine sq ?_
  refine rg0 ?_
  refine mf h fun a w h => ?_
  refine st0 (l := [_]) t1_100 h fun a w h => ?_
  refine nl0 ?_
  refine thN ?_
  refine sq ?_
  refine rg0 ?_
  obtain ⟨H1, leH1, h, hfw⟩ := h.frz 0
  have l_H_H1 : LE H H1 := leH1
  obtain ⟨H2, leH2, h, hfb⟩ := h.frz 0
  have l_H_H2 : LE H H2 := l_H_H1.trans leH2
  have l_H1_H2 : LE H1 H2 := leH2
  obtain ⟨H3, leH3, h, hfm⟩ := h.frz 1
  have l_H_H3 : LE H H3 := l_H_H2.trans leH3
  have l_H1_H3 : LE H1 H3 := l_H1_H2.trans leH3
  have l_H2_H3 : LE H2 H3 := leH3
  have qb : Hc H3 g4 0 (.map (some m7)) := Hc.of (l_H2_H3 _ _ hfb) rfl
  have qm : Hc H3 g3 0 (.map (some m6)) := Hc.of hfm rfl
  have qw : Hc H3 g5 0 (.func (.func 53) #[] #[.pointer (some ⟨g4, 0, none⟩), .pointer (some ⟨g3, 0, none⟩), .pointer (some ⟨g5, 0, none⟩)]) := Hc.of (l_H1_H3 _ _ hfw) rfl
  refine ldH t1_100 (Hc.of (l_H1_H3 _ _ hfw) rfl) h fun a w h => ?_
  refine ldW 2 tN24 h fun a w h => ?_
  refine cl bod53 (walk_ok t _ E H3 _ g4 g3 g5 m7 m6 (fun _ => none) (fun _ => none) none0 (hv.mono l_H_H3) (fun _ => rfl) (fun x => by unfold none0; omega) (fun _ _ h => by cases h) qb qm qw) h fun r11 H11 L11 a w le11 R h => ?_
  obtain ⟨rfl, rfl, fb1, fm1, rfl, hb1, hm1, hi1⟩ := R
  have hm2 : ∀ x, (fm1 x).isSome = t.fr none0 x := fun x => by rw [hm1 x]; rfl
  refine nl0 ?_
  refine thN ?_
  refine sq ?_
  refine rg0 ?_
  refine ldH t1_99 (Hc.of (LE.rfl _ _ hfm) rfl) h fun a w h => ?_
  refine cl bod55 (keys_ok m6 E H3 _) h fun r13 H13 L13 a w le13 R h => ?_
  obtain ⟨g13, rfl, rfl, rfl⟩ := R
  refine cl bod54 (sorted_ok m6 g13 fm1 2 E H3 _ rfl rfl (fun x hx => by have := names_long t x (fr_names t _ x (by rw [← hm2]; exact hx)); omega) (fun l hl hs => by have := sub_len (m := t.names) hl (fun x hx => fr_names t _ x (by rw [← hm2]; exact hs x hx)); rw [names_len] at this; omega)) h fun r14 H14 L14 a w le14 R h => ?_
  obtain ⟨A14, c14, ss, rfl, rfl, rfl, hset⟩ := R
  refine as_ h fun a w h => ?_
  refine nl0 ?_
  refine thN ?_
  refine ret_ ?_
  have h := h.del 4
  have h := h.del 3
  have h := h.del 2
  have h := h.del 1
  refine fin1 2 0 (h.less l_H_H3) LE.rfl ?_
  exact ⟨A14, c14, ss, rfl, rfl, rfl, by rw [show (fun x => (fm1 x).isSome) = t.fr none0 from funext hm2] at hset; exact hset⟩
end Go.Proofs.YtindlieilabgfaaGreatDoor
