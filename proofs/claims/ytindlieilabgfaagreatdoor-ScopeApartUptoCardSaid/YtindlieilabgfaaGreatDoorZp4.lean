/- Parts of the proof: W14, W15, W16, W17, W18, W19, W26, T9, T10, T11, W30, W20, W21, W22, W23. -/
import Derived.Test.YtindlieilabgfaaGreatDoorZp3
import Derived.Lib.ItoaLen
/- Walks: term.Free. -/
set_option linter.unusedVariables false
set_option linter.unusedSimpArgs false
set_option linter.unusedSectionVars false
set_option autoImplicit false
set_option relaxedAutoImplicit false
set_option maxRecDepth 10000
namespace Go.Proofs.YtindlieilabgfaaGreatDoor
open Go X
theorem walk_ok : ∀ (t : Tm) (v : Value) (E : World) (H : GH) (L : List It) (gbc gmc gwc gb gm : Nat) (fb fm : Bs → Option Value) (b : Bs → Nat), VT H v t → (∀ x, (fb x).getD (.int .i64 0) = .int .i64 ((b x : Nat) : Int)) → (∀ x, b x + t.size < 1000000000000) →
    (∀ x u, fm x = some u → ∃ n : Int, u = .int .i64 n) → Hc H gbc 0 (.map (some gb)) → Hc H gmc 0 (.map (some gm)) → Hc H gwc 0 (.func (.func 53) #[] #[.pointer (some ⟨gbc, 0, none⟩), .pointer (some ⟨gmc, 0, none⟩), .pointer (some ⟨gwc, 0, none⟩)]) →
    Ok Tryz.prog 53 #[v, .pointer (some ⟨gbc, 0, none⟩), .pointer (some ⟨gmc, 0, none⟩), .pointer (some ⟨gwc, 0, none⟩)] E H (.blk gb (IsMap encS fb) :: .blk gm (IsMap encS fm) :: L) fun r H' L' => r = .tuple #[] ∧ H = H' ∧ ∃ fb' fm', L' = .blk gb (IsMap encS fb') :: .blk gm (IsMap encS fm') :: L ∧
      (∀ x, (fb' x).getD (.int .i64 0) = .int .i64 ((b x : Nat) : Int)) ∧ (∀ x, (fm' x).isSome = ((fm x).isSome || t.fr b x)) ∧ (∀ x u, fm' x = some u → ∃ n : Int, u = .int .i64 n) := by
  intro t
  induction t using Tm.ind with
  | h kd nm nn ks ih =>
  intro v E H L gbc gmc gwc gb gm fb fm b hv hb hbs hmi hbc hmc hwc
  obtain ⟨A, c, rfl, hks⟩ := hv
  have hks : KS H A c ks := hks
  simp only [Tm.size] at hbs
  have hlen := length_le_sizeL ks
  have hb0 := hbs []
  refine enter (N := 57) [(0, _), (1, _), (2, _), (3, _)] Tryz.func53 rfl rfl rfl rfl fun a w h => ?_
  refine sq ?_
  refine rg0 ?_
  refine bxA h fun g4 a w h => ?_
  refine nl0 ?_
  refine thN ?_
  obtain ⟨Hf, leHf, h, hf4⟩ := h.frz 0
  have l_H_Hf : LE H Hf := leHf
  have hL := hks.up l_H_Hf
  refine sqc (fun a w => ∃ fm1, S E Hf 57 [] [(1, .pointer (some ⟨gbc, 0, none⟩)), (2, .pointer (some ⟨gmc, 0, none⟩)), (3, .pointer (some ⟨gwc, 0, none⟩)), (4, .pointer (some ⟨g4, 0, none⟩))] (.blk gb (IsMap encS fb) :: .blk gm (IsMap encS fm1) :: L) a w ∧ (∀ x, (fm1 x).isSome = ((fm x).isSome || ((kd == 2 && decide (b nm = 0)) && decide (x = nm)))) ∧ (∀ x u, fm1 x = some u → ∃ n : Int, u = .int .i64 n)) ?_ ?_
  · refine sq ?_
    refine rg0 ?_
    refine fa fl24_0 (r := 0) h fun a w h => ?_
    refine ldH t1_3 (Hc.of (LE.rfl _ _ hf4) rfl) h fun a w h => ?_
    refine eqi h fun a w h => ?_
    refine h.spl (fun c10 h => ?_) (fun c10 h => ?_)
    · refine mv h fun a w h => ?_
      refine ldH t1_99 (hbc.mono l_H_Hf) h fun a w h => ?_
      refine fa fl24_1 (r := 1) h fun a w h => ?_
      refine ldH t1_9 (Hc.of (LE.rfl _ _ hf4) rfl) h fun a w h => ?_
      refine lk1 (f := fb) (q := nm) 0 keyS mapSI zr3 h fun a w h => ?_
      rw [hb nm] at h
      refine eqi h fun a w h => ?_
      refine pkT h fun a w h => ?_
      refine nl0 ?_
      refine thN ?_
      refine cdB h (fun c17 => ?_) (fun c17 => ?_)
      · refine rg0 ?_
        refine ldH t1_99 (hmc.mono l_H_Hf) h fun a w h => ?_
        refine fa fl24_1 (r := 1) h fun a w h => ?_
        refine ldH t1_9 (Hc.of (LE.rfl _ _ hf4) rfl) h fun a w h => ?_
        refine lk1 (f := fm) (q := nm) 1 keyS mapSI zr3 h fun a w h => ?_
        obtain ⟨n0, hn0⟩ : ∃ n : Int, (fm nm).getD (.int .i64 0) = .int .i64 n := by
          cases hx : fm nm with
          | none => exact ⟨0, rfl⟩
          | some u => obtain ⟨n, rfl⟩ := hmi _ _ hx; exact ⟨n, rfl⟩
        rw [hn0] at h
        refine add h fun a w h => ?_
        have h := h.pull 1 rfl rfl
        refine mu 0 keyS mapSI h fun a w h => ?_
        have h : S _ _ _ _ _ (.blk _ (IsMap encS (upd fm nm (some _))) :: _) _ _ := h
        refine nl0 ?_
        refine thN ?_
        have h := h.pull 1 rfl rfl
        have k2 : kd = 2 := eq_of_beq c10
        have b0 : b nm = 0 := by have := eq_of_beq c17; omega
        refine ⟨_, h.to 0 _, fun x => ?_, fun x u hu => ?_⟩
        · unfold upd; rw [k2, b0]; by_cases e : x = nm <;> simp [e]
        · unfold upd at hu; split at hu; exact ⟨_, (Option.some.inj hu).symm⟩; exact hmi x u hu
      · refine sk_ ?_
        refine thN ?_
        have h := h.pull 1 rfl rfl
        have h := h.pull 1 rfl rfl
        refine ⟨fm, h.to 0 _, fun x => ?_, hmi⟩
        have b0 : b nm ≠ 0 := by have := ne_of_beq_false c17; omega
        simp [b0]
    · refine mv h fun a w h => ?_
      refine sk h (k := fun a w h => ?_)
      refine sk h (k := fun a w h => ?_)
      refine sk h (k := fun a w h => ?_)
      refine sk h (k := fun a w h => ?_)
      refine sk h (k := fun a w h => ?_)
      refine pkF h fun a w h => ?_
      refine nl0 ?_
      refine thN ?_
      refine cdF h ?_
      refine sk_ ?_
      refine thN ?_
      have h := h.pull 1 rfl rfl
      have h := h.pull 1 rfl rfl
      refine ⟨fm, h.to 0 _, fun x => ?_, hmi⟩
      have k2 : kd ≠ 2 := ne_of_beq_false c10
      simp [k2]
  · rintro a w ⟨fm1, h, hm1, hi1⟩
    refine sq ?_
    refine rg0 ?_
    refine fa fl24_3 (r := 3) h fun a w h => ?_
    refine ldH t1_22 (Hc.of (LE.rfl _ _ hf4) rfl) h fun a w h => ?_
    refine ln sli22 h fun a w h => ?_
    refine mv h fun a w h => ?_
    refine nl0 ?_
    refine thN ?_
    refine blk ?_
    refine lp (β := Nat × (Bs → Option Value) × (Bs → Option Value)) (fun x a w => match x with | (k, fb1, fm2) => (k ≤ ks.length ∧ (∀ x, (fb1 x).getD (.int .i64 0) = .int .i64 ((b x : Nat) : Int)) ∧ (∀ x, (fm2 x).isSome = ((fm x).isSome || (((kd == 2 && decide (b nm = 0)) && decide (x = nm)) || frT (bnd kd) nm ks k b x))) ∧ (∀ x u, fm2 x = some u → ∃ n : Int, u = .int .i64 n)) ∧ S E Hf 57 [] [(1, .pointer (some ⟨gbc, 0, none⟩)), (2, .pointer (some ⟨gmc, 0, none⟩)), (3, .pointer (some ⟨gwc, 0, none⟩)), (4, .pointer (some ⟨g4, 0, none⟩)), (26, .int .i64 (k : Int)), (25, .int .i64 (ks.length : Int)), (24, .slice A ks.length c)] (.blk gb (IsMap encS fb1) :: .blk gm (IsMap encS fm2) :: L) a w)
      (fun x => match x with | (k, fb1, fm2) => ks.length - k) (0, fb, fm1) ⟨⟨Nat.zero_le _, hb, fun x => by rw [hm1 x, frT_zero, Bool.or_false], hi1⟩, h.to 0 _⟩ ?_
    rintro ⟨k, fb1, fm2⟩ a w ⟨pre, h⟩
    obtain ⟨hk, hb1, hm2, hi2⟩ := pre
    refine sq ?_
    refine rg0 ?_
    refine lt h fun a w h => ?_
    refine nl0 ?_
    refine thN ?_
    refine sq ?_
    refine cdB h (fun c27 => ?_) (fun c27 => ?_)
    · have c27 : k < ks.length := by simpa using c27
      obtain ⟨g, off, A2, c2, rfl, hvt, hcell⟩ := KS.get hL c27
      have hsz := size_get_le c27
      refine sk_ ?_
      refine thN ?_
      refine sq ?_
      refine blk ?_
      refine sq ?_
      refine rg0 ?_
      refine mv h fun a w h => ?_
      refine ia sli22 sz24 rfl c27 h fun a w h => ?_
      refine ldHN tN24 rfl hcell h fun a w h => ?_
      refine al zr24 h fun g6 a w h => ?_
      refine as_ h fun a w h => ?_
      refine sw0 tN24 h fun a w h => ?_
      refine nl0 ?_
      refine thN ?_
      refine sq ?_
      refine rg0 ?_
      refine ldHN tN24 rfl (Hc.all (LE.rfl _ _ hf4)) h fun a w h => ?_
      refine cl bod38 (Binder_ok _ _ _ _ E Hf _) h fun r32 H32 L32 a w le32 R h => ?_
      obtain ⟨rfl, rfl, rfl⟩ := R
      refine h.spl (fun c32 h => ?_) (fun c32 h => ?_)
      · refine mv h fun a w h => ?_
        refine mv h fun a w h => ?_
        refine fa fl24_3 (r := 3) h fun a w h => ?_
        refine ldH t1_22 (Hc.of (LE.rfl _ _ hf4) rfl) h fun a w h => ?_
        refine ln sli22 h fun a w h => ?_
        refine sbr ((ks.length : Int) - 1) (w64 (by omega) (by omega)) h fun a w h => ?_
        refine eqi h fun a w h => ?_
        refine pkT h fun a w h => ?_
        refine as_ h fun a w h => ?_
        refine nl0 ?_
        refine thN ?_
        refine sq ?_
        refine sq ?_
        refine rg0 ?_
        refine mv h fun a w h => ?_
        refine nl0 ?_
        refine thN ?_
        refine cdB h (fun c41 => ?_) (fun c41 => ?_)
        · refine rg0 ?_
          refine ldH t1_99 (hbc.mono l_H_Hf) h fun a w h => ?_
          refine fa fl24_1 (r := 1) h fun a w h => ?_
          refine ldH t1_9 (Hc.of (LE.rfl _ _ hf4) rfl) h fun a w h => ?_
          refine lk1 (f := fb1) (q := nm) 1 keyS mapSI zr3 h fun a w h => ?_
          rw [hb1 nm] at h
          have hbn := hbs nm
          refine adr ((b nm + 1 : Nat) : Int) ?_ h fun a w h => ?_
          · rw [w64 (by omega) (by omega)]; omega
          have h := h.pull 1 rfl rfl
          refine mu 0 keyS mapSI h fun a w h => ?_
          have h : S _ _ _ _ _ (.blk _ (IsMap encS (upd fb1 nm (some (.int .i64 ((b nm + 1 : Nat) : Int))))) :: _) _ _ := h
          obtain ⟨fb2, hfb2⟩ : ∃ f, f = upd fb1 nm (some (.int .i64 ((b nm + 1 : Nat) : Int))) := ⟨_, rfl⟩
          rw [← hfb2] at h
          have hb2 : ∀ x, (fb2 x).getD (.int .i64 0) = .int .i64 ((inc1 b nm x : Nat) : Int) := fun x => by rw [hfb2]; unfold upd inc1; split; (rename_i e; subst e; rfl); exact hb1 x
          refine nl0 ?_
          refine thN ?_
          refine sq ?_
          refine rg0 ?_
          refine ldH t1_100 (hwc.mono l_H_Hf) h fun a w h => ?_
          refine ldW 1 tN24 h fun a w h => ?_
          have h := h.pull 2 rfl rfl
          have h := h.pull 1 rfl rfl
          refine cl bod53 (ih _ (List.getElem_mem c27) _ E Hf _ gbc gmc gwc gb gm fb2 fm2 (inc1 b nm) hvt hb2 (fun x => ?_) hi2 (hbc.mono l_H_Hf) (hmc.mono l_H_Hf) (hwc.mono l_H_Hf)) h fun r49 H49 L49 a w le49 R h => ?_
          · have := hbs x; unfold inc1; split <;> omega
          obtain ⟨rfl, rfl, fb4, fm3, rfl, hb4, hm3, hi3⟩ := R
          refine nl0 ?_
          refine thN ?_
          refine sq ?_
          refine rg0 ?_
          refine mv h fun a w h => ?_
          refine nl0 ?_
          refine thN ?_
          refine cdB h (fun c50 => ?_) (fun c50 => ?_)
          · refine rg0 ?_
            refine ldH t1_99 (hbc.mono l_H_Hf) h fun a w h => ?_
            refine fa fl24_1 (r := 1) h fun a w h => ?_
            refine ldH t1_9 (Hc.of (LE.rfl _ _ hf4) rfl) h fun a w h => ?_
            refine lk1 (f := fb4) (q := nm) 0 keyS mapSI zr3 h fun a w h => ?_
            have e4 : (fb4 nm).getD (.int .i64 0) = .int .i64 ((b nm + 1 : Nat) : Int) := by rw [hb4 nm]; unfold inc1; rw [if_pos rfl]
            rw [e4] at h
            refine sbr ((b nm : Nat) : Int) ?_ h fun a w h => ?_
            · have hbn := hbs nm; rw [w64 (by omega) (by omega)]; omega
            refine mu 0 keyS mapSI h fun a w h => ?_
            have h : S _ _ _ _ _ (.blk _ (IsMap encS (upd fb4 nm (some (.int .i64 ((b nm : Nat) : Int))))) :: _) _ _ := h
            obtain ⟨fb5, hfb5⟩ : ∃ f, f = upd fb4 nm (some (.int .i64 ((b nm : Nat) : Int))) := ⟨_, rfl⟩
            rw [← hfb5] at h
            refine nl0 ?_
            refine ibN ?_
            refine thN ?_
            refine rg0 ?_
            have h := h.pull 1 rfl rfl
            have h := h.pull 1 rfl rfl
            have h := h.del 2
            have hin : (bnd kd && k + 1 == ks.length) = true := by rw [show bnd kd = true from c32]; have := eq_of_beq c41; simp; omega
            have hb3 : ∀ x, (fb5 x).getD (.int .i64 0) = .int .i64 ((b x : Nat) : Int) := fun x => by
              rw [hfb5]; unfold X.upd; split
              · rename_i e; subst e; rfl
              · rename_i e; have := hb4 x; unfold inc1 at this; rw [if_neg e] at this; exact this
            obtain ⟨fb3, hfb3⟩ : ∃ f, f = fb5 := ⟨_, rfl⟩
            rw [← hfb3] at h hb3
            refine inc ?_ h fun a w h => ?_
            · omega
            refine mv h fun a w h => ?_
            refine nl0 ?_
            refine thN ?_
            exact ⟨(k + 1, fb3, fm3), ⟨⟨by omega, hb3, fun x => by rw [hm3 x, hm2 x, frT_succ _ _ _ _ _ c27, hin]; simp only [Bool.or_assoc]; rfl, hi3⟩, h.to 0 _⟩, by show _ - (k + 1) < _ - k; omega⟩
          · exact absurd (c41.symm.trans c50) (by decide)
        · refine sk_ ?_
          refine thN ?_
          refine sq ?_
          refine rg0 ?_
          refine ldH t1_100 (hwc.mono l_H_Hf) h fun a w h => ?_
          refine ldW 0 tN24 h fun a w h => ?_
          have h := h.pull 2 rfl rfl
          have h := h.pull 2 rfl rfl
          refine cl bod53 (ih _ (List.getElem_mem c27) _ E Hf _ gbc gmc gwc gb gm fb1 fm2 b hvt hb1 (fun x => ?_) hi2 (hbc.mono l_H_Hf) (hmc.mono l_H_Hf) (hwc.mono l_H_Hf)) h fun r49 H49 L49 a w le49 R h => ?_
          · have := hbs x; omega
          obtain ⟨rfl, rfl, fb4, fm3, rfl, hb4, hm3, hi3⟩ := R
          refine nl0 ?_
          refine thN ?_
          refine sq ?_
          refine rg0 ?_
          refine mv h fun a w h => ?_
          refine nl0 ?_
          refine thN ?_
          refine cdB h (fun c50 => ?_) (fun c50 => ?_)
          · exact absurd (c41.symm.trans c50) (by decide)
          · refine sk_ ?_
            refine ibN ?_
            refine thN ?_
            refine rg0 ?_
            have h := h.pull 1 rfl rfl
            have h := h.pull 1 rfl rfl
            have h := h.del 2
            have hin : (bnd kd && k + 1 == ks.length) = false := by rw [show bnd kd = true from c32]; have := ne_of_beq_false c41; simp; omega
            have fb3E := hb4
            obtain ⟨fb3, hfb3⟩ : ∃ f, f = fb4 := ⟨_, rfl⟩
            rw [← hfb3] at h
            have hb3 : ∀ x, (fb3 x).getD (.int .i64 0) = .int .i64 ((b x : Nat) : Int) := by rw [hfb3]; exact hb4
            refine inc ?_ h fun a w h => ?_
            · omega
            refine mv h fun a w h => ?_
            refine nl0 ?_
            refine thN ?_
            exact ⟨(k + 1, fb3, fm3), ⟨⟨by omega, hb3, fun x => by rw [hm3 x, hm2 x, frT_succ _ _ _ _ _ c27, hin]; simp only [Bool.or_assoc]; rfl, hi3⟩, h.to 0 _⟩, by show _ - (k + 1) < _ - k; omega⟩
      · refine mv h fun a w h => ?_
        refine sk h (k := fun a w h => ?_)
        refine sk h (k := fun a w h => ?_)
        refine sk h (k := fun a w h => ?_)
        refine sk h (k := fun a w h => ?_)
        refine sk h (k := fun a w h => ?_)
        refine sk h (k := fun a w h => ?_)
        refine pkF h fun a w h => ?_
        refine as_ h fun a w h => ?_
        refine nl0 ?_
        refine thN ?_
        refine sq ?_
        refine sq ?_
        refine rg0 ?_
        refine mv h fun a w h => ?_
        refine nl0 ?_
        refine thN ?_
        refine cdF h ?_
        refine sk_ ?_
        refine thN ?_
        refine sq ?_
        refine rg0 ?_
        refine ldH t1_100 (hwc.mono l_H_Hf) h fun a w h => ?_
        refine ldW 0 tN24 h fun a w h => ?_
        have h := h.pull 2 rfl rfl
        have h := h.pull 2 rfl rfl
        refine cl bod53 (ih _ (List.getElem_mem c27) _ E Hf _ gbc gmc gwc gb gm fb1 fm2 b hvt hb1 (fun x => ?_) hi2 (hbc.mono l_H_Hf) (hmc.mono l_H_Hf) (hwc.mono l_H_Hf)) h fun r49 H49 L49 a w le49 R h => ?_
        · have := hbs x; omega
        obtain ⟨rfl, rfl, fb4, fm3, rfl, hb4, hm3, hi3⟩ := R
        refine nl0 ?_
        refine thN ?_
        refine sq ?_
        refine rg0 ?_
        refine mv h fun a w h => ?_
        refine nl0 ?_
        refine thN ?_
        refine cdF h ?_
        refine sk_ ?_
        refine ibN ?_
        refine thN ?_
        refine rg0 ?_
        have h := h.pull 1 rfl rfl
        have h := h.pull 1 rfl rfl
        have h := h.del 2
        have hin : (bnd kd && k + 1 == ks.length) = false := by rw [show bnd kd = false from c32]; rfl
        have fb3E := hb4
        obtain ⟨fb3, hfb3⟩ : ∃ f, f = fb4 := ⟨_, rfl⟩
        rw [← hfb3] at h
        have hb3 : ∀ x, (fb3 x).getD (.int .i64 0) = .int .i64 ((b x : Nat) : Int) := by rw [hfb3]; exact hb4
        refine inc ?_ h fun a w h => ?_
        · omega
        refine mv h fun a w h => ?_
        refine nl0 ?_
        refine thN ?_
        exact ⟨(k + 1, fb3, fm3), ⟨⟨by omega, hb3, fun x => by rw [hm3 x, hm2 x, frT_succ _ _ _ _ _ c27, hin]; simp only [Bool.or_assoc]; rfl, hi3⟩, h.to 0 _⟩, by show _ - (k + 1) < _ - k; omega⟩
    · have hkk : k = ks.length := by simp at c27; omega
      refine exit_ ?_
      refine thE ?_
      refine thE ?_
      refine ibH ?_
      refine finN0 0 (h.less l_H_Hf) LE.rfl ?_
      refine ⟨rfl, rfl, fb1, fm2, rfl, hb1, fun x => ?_, hi2⟩
      rw [hm2 x, hkk, frT_all]; simp only [Tm.fr]

theorem Free_ok (t : Tm) (v : Value) (E : World) (H : GH) (L : List It) (hv : VT H v t) (hlg : t.long < 1000000000000) (hsz : t.size < 1000000000000) :
    Ok Tryz.prog 23 #[v] E H L fun r H' L' => ∃ A c ss, r = .slice A ss.length c ∧ H = H' ∧ L' = .row (.slice A ss.length c) 9 1 ss.length (ss.map encS) :: L ∧ IsSet ss (t.fr none0) := by
  have hv0 := hv
  obtain ⟨A, c, rfl, hks⟩ := hv
  have hv := hv0
  refine enter (N := 15) [(0, _)] Tryz.func23 rfl rfl rfl rfl fun a w h => ?_
  refine sq ?_
  refine rg0 ?_
  refine bxA h fun g1 a w h => ?_
  refine as_ h fun a w h => ?_
  refine nl0 ?_
  refine thN ?_
  refine sq ?_
  refine rg0 ?_
  refine mk0 (enc := encS) h fun m6 a w h => ?_
  refine al zr99 h fun g3 a w h => ?_
  refine st0 (l := [_]) t1_99 h fun a w h => ?_
  refine nl0 ?_
  refine thN ?_
  refine sq ?_
  refine rg0 ?_
  refine mk0 (enc := encS) h fun m7 a w h => ?_
  refine al zr99 h fun g4 a w h => ?_
  refine st0 (l := [_]) t1_99 h fun a w h => ?_
  refine nl0 ?_
  refine thN ?_
  refine sq ?_
  refine rg0 ?_
  refine al zr100 h fun g5 a w h => ?_
  refine nl0 ?_
  refine thN ?_
  refine sq ?_
  refine rg0 ?_
  refine mf h fun a w h => ?_
  refine st0 (l := [_]) t1_100 h fun a w h => ?_
  refine nl0 ?_
  refine thN ?_
  refine sq ?_
  refine rg0 ?_
  obtain ⟨H1, leH1, h, hfw⟩ := h.frz 0
  have l_H_H1 : LE H H1 := leH1
  obtain ⟨H2, leH2, h, hfb⟩ := h.frz 0
  have l_H_H2 : LE H H2 := l_H_H1.trans leH2
  have l_H1_H2 : LE H1 H2 := leH2
  obtain ⟨H3, leH3, h, hfm⟩ := h.frz 1
  have l_H_H3 : LE H H3 := l_H_H2.trans leH3
  have l_H1_H3 : LE H1 H3 := l_H1_H2.trans leH3
  have l_H2_H3 : LE H2 H3 := leH3
  have qb : Hc H3 g4 0 (.map (some m7)) := Hc.of (l_H2_H3 _ _ hfb) rfl
  have qm : Hc H3 g3 0 (.map (some m6)) := Hc.of hfm rfl
  have qw : Hc H3 g5 0 (.func (.func 53) #[] #[.pointer (some ⟨g4, 0, none⟩), .pointer (some ⟨g3, 0, none⟩), .pointer (some ⟨g5, 0, none⟩)]) := Hc.of (l_H1_H3 _ _ hfw) rfl
  refine ldH t1_100 (Hc.of (l_H1_H3 _ _ hfw) rfl) h fun a w h => ?_
  refine ldW 2 tN24 h fun a w h => ?_
  refine cl bod53 (walk_ok t _ E H3 _ g4 g3 g5 m7 m6 (fun _ => none) (fun _ => none) none0 (hv.mono l_H_H3) (fun _ => rfl) (fun x => by unfold none0; omega) (fun _ _ h => by cases h) qb qm qw) h fun r11 H11 L11 a w le11 R h => ?_
  obtain ⟨rfl, rfl, fb1, fm1, rfl, hb1, hm1, hi1⟩ := R
  have hm2 : ∀ x, (fm1 x).isSome = t.fr none0 x := fun x => by rw [hm1 x]; rfl
  refine nl0 ?_
  refine thN ?_
  refine sq ?_
  refine rg0 ?_
  refine ldH t1_99 (Hc.of (LE.rfl _ _ hfm) rfl) h fun a w h => ?_
  refine cl bod55 (keys_ok m6 E H3 _) h fun r13 H13 L13 a w le13 R h => ?_
  obtain ⟨g13, rfl, rfl, rfl⟩ := R
  refine cl bod54 (sorted_ok m6 g13 fm1 2 E H3 _ rfl rfl (fun x hx => by have := names_long t x (fr_names t _ x (by rw [← hm2]; exact hx)); omega) (fun l hl hs => by have := sub_len (m := t.names) hl (fun x hx => fr_names t _ x (by rw [← hm2]; exact hs x hx)); rw [names_len] at this; omega)) h fun r14 H14 L14 a w le14 R h => ?_
  obtain ⟨A14, c14, ss, rfl, rfl, rfl, hset⟩ := R
  refine as_ h fun a w h => ?_
  refine nl0 ?_
  refine thN ?_
  refine ret_ ?_
  have h := h.del 4
  have h := h.del 3
  have h := h.del 2
  have h := h.del 1
  refine fin1 2 0 (h.less l_H_H3) LE.rfl ?_
  exact ⟨A14, c14, ss, rfl, rfl, rfl, by rw [show (fun x => (fm1 x).isSome) = t.fr none0 from funext hm2] at hset; exact hset⟩
end Go.Proofs.YtindlieilabgfaaGreatDoor
/- Walks: the renamer's closures. -/
set_option linter.unusedVariables false
set_option linter.unusedSimpArgs false
set_option linter.unusedSectionVars false
set_option autoImplicit false
set_option relaxedAutoImplicit false
set_option maxRecDepth 10000
namespace Go.Proofs.YtindlieilabgfaaGreatDoor
open Go X
open Go.Proofs
theorem mapSS : mapT Tryz.prog 76 = some (9, 9) := by kernel_rfl
def RenOk (t : Tm) : Prop := ∀ (v : Value) (E : World) (H : GH) (L : List It) (gr gt : Nat) (σ : Bs → Option Bs) (f : Bs → Option Value) (n : Int), VT H v t → Laid H → (∀ x, f x = (σ x).map encS) → In64 n →
    Ok Tryz.prog 36 #[.pointer (some ⟨gr, 0, none⟩), v] E H (.obj gr (.cells #[.map (some gt), .int .i64 n] 78 (0, 0)) :: .blk gt (IsMap encS f) :: L) fun r H' L' => VT H' r (t.ren σ n).1 ∧ L' = .obj gr (.cells #[.map (some gt), .int .i64 (t.ren σ n).2] 78 (0, 0)) :: .blk gt (IsMap encS f) :: L

theorem kidr_ok (ks : List Tm) (k : Nat) (hk : k < ks.length) (hr : RenOk ks[k]) (A : Option Addr) (c p2 p3 p9 gr gt : Nat) (σ : Bs → Option Bs) (f : Bs → Option Value) (n : Int) (E : World) (H : GH) (L : List It) (hks : KS H A c ks) (h2 : Hc H p2 0 (.pointer (some ⟨gr, 0, none⟩)))
    (h3 : Hc H p3 3 (.slice A ks.length c)) (h9 : Hc H p9 0 (.int .i64 (k : Int))) (hL : Laid H) (hf : ∀ x, f x = (σ x).map encS) (hn : In64 n) : Ok Tryz.prog 62 #[.pointer (some ⟨p2, 0, none⟩), .pointer (some ⟨p3, 0, none⟩), .pointer (some ⟨p9, 0, none⟩)] E H (.obj gr (.cells #[.map (some gt), .int .i64 n] 78 (0, 0)) :: .blk gt (IsMap encS f) :: L)
      fun r H' L' => VT H' r (ks[k].ren σ n).1 ∧ L' = .obj gr (.cells #[.map (some gt), .int .i64 (ks[k].ren σ n).2] 78 (0, 0)) :: .blk gt (IsMap encS f) :: L := by
  obtain ⟨g, off, A2, c2, rfl, hvt, hcell⟩ := KS.get hks hk
  refine enter (N := 11) [(0, _), (1, _), (2, _)] Tryz.func62 rfl rfl rfl rfl fun a w h => ?_
  refine sq ?_
  refine rg0 ?_
  refine al zr24 h fun g3 a w h => ?_
  refine nl0 ?_
  refine thN ?_
  refine sq ?_
  refine rgd [] [] [1, 0] [0, 2, 3, 5] 1 mix (by kernel_rfl) h (fun a w h => ?_)
  refine ldHD t1_75 (h2) h fun a w h => ?_
  refine fa fl24_3 (r := 3) h fun a w h => ?_
  refine ldHD t1_22 (h3) h fun a w h => ?_
  refine ldHD t1_3 (h9) h fun a w h => ?_
  refine ia sli22 sz24 rfl hk h fun a w h => ?_
  refine ldHND tN24 rfl hcell h fun a w h => ?_
  have h := h.pull 2 rfl rfl
  have h := h.pull 2 rfl rfl
  refine cl bod36 (hr _ E H _ gr gt σ f n hvt hL hf hn) h fun r10 H10 L10 a w le10 R h => ?_
  obtain ⟨⟨A10, c10, rfl, hk10⟩, rfl⟩ := R
  have l_H_H10 : LE H H10 := le10
  refine sw2 tN24 h fun a w h => ?_
  refine nl0 ?_
  refine thN ?_
  refine ret_ ?_
  exact fin (rs := [.cell 3 24]) (vs := [.agg #[_, _, _, _]]) h rfl (.agg (k0 := 2) tN24 rfl rfl rfl .nil) rfl le10 ⟨LE.rfl, (h.del 2).st⟩ ⟨⟨A10, c10, rfl, hk10⟩, rfl⟩

theorem dfr_ok (hd : Bool) (old nm : Bs) (p10 p9 p4 p5 gr gt : Nat) (f : Bs → Option Value) (n : Int) (E : World) (H : GH) (L : List It) (h10 : Hc H p10 0 (.bool hd)) (h9 : Hc H p9 0 (str old)) (h4 : Hc H p4 0 (.pointer (some ⟨gr, 0, none⟩))) (h5 : Hc H p5 0 (str nm)) :
    OkD Tryz.prog 77 #[.pointer (some ⟨p10, 0, none⟩), .pointer (some ⟨p9, 0, none⟩), .pointer (some ⟨p4, 0, none⟩), .pointer (some ⟨p5, 0, none⟩)] E H (.obj gr (.cells #[.map (some gt), .int .i64 n] 78 (0, 0)) :: .blk gt (IsMap encS f) :: L) fun r H' L' => H = H' ∧ L' = .obj gr (.cells #[.map (some gt), .int .i64 n] 78 (0, 0)) :: .blk gt (IsMap encS (upd f nm (if hd then some (str old) else none))) :: L := by
  refine enterR (N := 16) [(0, _), (1, _), (2, _), (3, _)] Tryz.func77 rfl rfl rfl rfl fun a w h => ?_
  refine sq ?_
  refine rg0 ?_
  refine ldH t1_4 (h10) h fun a w h => ?_
  refine nl0 ?_
  refine thN ?_
  refine cdB h (fun c4 => ?_) (fun c4 => ?_)
  · refine rgd [0] [_] [0] [0, 3, 4, 5] 1 mix (by kernel_rfl) h (fun a w h => ?_)
    refine ldHD t1_75 (h4) h fun a w h => ?_
    refine nc h fun a w h => ?_
    refine fa fl78_0 (r := 0) h fun a w h => ?_
    refine ldD 0 t1_76 h fun a w h => ?_
    refine ldHD t1_9 (h5) h fun a w h => ?_
    refine ldHD t1_9 (h9) h fun a w h => ?_
    have h := h.pull 1 rfl rfl
    refine mu 0 keyS mapSS h fun a w h => ?_
    refine nl0 ?_
    have h := h.pull 1 rfl rfl
    refine finN0 0 h LE.rfl ?_
    exact ⟨rfl, by rw [show hd = true from c4]; rfl⟩
  · refine rgd [0] [_] [0] [0, 3, 4] 0 mix (by kernel_rfl) h (fun a w h => ?_)
    refine ldHD t1_75 (h4) h fun a w h => ?_
    refine nc h fun a w h => ?_
    refine fa fl78_0 (r := 0) h fun a w h => ?_
    refine ldD 0 t1_76 h fun a w h => ?_
    refine ldHD t1_9 (h5) h fun a w h => ?_
    have h := h.pull 1 rfl rfl
    refine dl 0 keyS mapSS h fun a w h => ?_
    refine nl0 ?_
    have h := h.pull 1 rfl rfl
    refine finN0 0 h LE.rfl ?_
    exact ⟨rfl, by rw [show hd = false from c4]; rfl⟩
end Go.Proofs.YtindlieilabgfaaGreatDoor
/- Walks: the renamer's bind. -/
set_option linter.unusedVariables false
set_option linter.unusedSimpArgs false
set_option linter.unusedSectionVars false
set_option autoImplicit false
set_option relaxedAutoImplicit false
set_option maxRecDepth 10000
namespace Go.Proofs.YtindlieilabgfaaGreatDoor
open Go X
theorem bind_ok (nm to : Bs) (fd : FuncId) (caps : Array Value) (gr gt : Nat) (σ : Bs → Option Bs) (f : Bs → Option Value) (n n' : Int) (u : Tm) (E : World) (H : GH) (L : List It) (hf : ∀ x, f x = (σ x).map encS) (hbod : bodT Tryz.prog fd = true)
    (hdo : ∀ (H1 : GH) (L1 : List It), LE H H1 → Ok Tryz.prog fd (#[] ++ [].toArray ++ caps) E H1 (.obj gr (.cells #[.map (some gt), .int .i64 n] 78 (0, 0)) :: .blk gt (IsMap encS (upd f nm (some (str to)))) :: L1) fun r H' L' => VT H' r u ∧ L' = .obj gr (.cells #[.map (some gt), .int .i64 n'] 78 (0, 0)) :: .blk gt (IsMap encS (upd f nm (some (str to)))) :: L1) :
    Ok Tryz.prog 63 #[.pointer (some ⟨gr, 0, none⟩), str nm, str to, .func (.func fd) #[] caps] E H (.obj gr (.cells #[.map (some gt), .int .i64 n] 78 (0, 0)) :: .blk gt (IsMap encS f) :: L) fun r H' L' => VT H' r u ∧ L' = .obj gr (.cells #[.map (some gt), .int .i64 n'] 78 (0, 0)) :: .blk gt (IsMap encS f) :: L := by
  obtain ⟨old, hold⟩ : ∃ old, (f nm).getD (.string ⟨#[]⟩) = str old := by
    rw [hf nm]; cases σ nm with
    | none => exact ⟨[], rfl⟩
    | some u => exact ⟨u, rfl⟩
  have hback : upd (upd f nm (some (str to))) nm (if (f nm).isSome then some (str old) else none) = f := by
    funext x
    unfold X.upd
    by_cases e : x = nm
    · subst e
      rw [if_pos rfl]
      rw [hf x] at hold ⊢
      cases hs : σ x with
      | none => rfl
      | some u => rw [hs] at hold; simp at hold ⊢; exact hold.symm
    · rw [if_neg e, if_neg e]
  refine enterD (N := 29) [(0, _), (1, _), (2, _), (3, _)] Tryz.func63 rfl rfl rfl rfl fun a w h => ?_
  refine sq ?_
  refine rg0 ?_
  refine bx1 h fun g4 a w h => ?_
  refine bx1 h fun g5 a w h => ?_
  refine al zr24 h fun g8 a w h => ?_
  refine nl0 ?_
  refine thN ?_
  refine sq ?_
  obtain ⟨H1, leH1, h, hf4⟩ := h.frz 2
  have l_H_H1 : LE H H1 := leH1
  obtain ⟨H2, leH2, h, hf5⟩ := h.frz 1
  have l_H_H2 : LE H H2 := l_H_H1.trans leH2
  have l_H1_H2 : LE H1 H2 := leH2
  refine rgxF [1, 2] [_, _] [0, 3, 4, 5] 13 mix h (fun a w h => ?_)
  refine tkl 0 true (by kernel_rfl) ?_ (hQ := fun _ _ _ _ _ h => False.elim h)
  refine ldHT t1_75 (Hc.of (l_H1_H2 _ _ hf4) rfl) h fun a w h => ?_
  refine tk0 ?_
  refine tkl 1 false (by kernel_rfl) ?_ (hQ := fun _ _ _ _ _ h => False.elim h)
  refine nc h fun a w h => ?_
  refine tk0 ?_
  refine tkl 2 false (by kernel_rfl) ?_ (hQ := fun _ _ _ _ _ h => False.elim h)
  refine fa fl78_0 (r := 0) h fun a w h => ?_
  refine tk0 ?_
  refine tkl 3 true (by kernel_rfl) ?_ (hQ := fun _ _ _ _ _ h => False.elim h)
  refine ldT 0 t1_76 h fun a w h => ?_
  refine tk0 ?_
  refine tkl 4 true (by kernel_rfl) ?_ (hQ := fun _ _ _ _ _ h => False.elim h)
  refine ldHT t1_9 (Hc.of (LE.rfl _ _ hf5) rfl) h fun a w h => ?_
  refine tk0 ?_
  refine tkl 5 true (by kernel_rfl) ?_ (hQ := fun _ _ _ _ _ h => False.elim h)
  refine lkT (f := f) (q := nm) 1 keyS mapSS zr9 h fun a w h => ?_
  rw [hold] at h
  refine tk0 ?_
  refine tkl 6 false (by kernel_rfl) ?_ (hQ := fun _ _ _ _ _ h => False.elim h)
  refine mv h fun a w h => ?_
  refine tk0 ?_
  refine tkl 7 false (by kernel_rfl) ?_ (hQ := fun _ _ _ _ _ h => False.elim h)
  refine ex h fun a w h => ?_
  refine tk0 ?_
  refine tkl 8 false (by kernel_rfl) ?_ (hQ := fun _ _ _ _ _ h => False.elim h)
  refine ex h fun a w h => ?_
  refine tk0 ?_
  refine brl2 9 10 true true (by kernel_rfl) (by kernel_rfl) (by kernel_rfl) (fun _ => h.st.sees' (by first | exact LE.rfl | assumption) (by simp)) ?_ ?_
  · refine al zr9 h fun g9 a w h => ?_
    refine br0 ?_
    refine brl1 10 true (by kernel_rfl) (by kernel_rfl) (fun _ => h.st.sees' (by first | exact LE.rfl | assumption) (by simp)) ?_
    refine al zr4 h fun g10 a w h => ?_
    refine br0 ?_
    refine brl1 11 false (by kernel_rfl) (by kernel_rfl) (fun _ => h.st.sees' (by first | exact LE.rfl | assumption) (by simp)) ?_
    refine st1 (l := [_]) t1_9 h fun a w h => ?_
    refine br0 ?_
    refine brl1 12 false (by kernel_rfl) (by kernel_rfl) (fun _ => h.st.sees' (by first | exact LE.rfl | assumption) (by simp)) ?_
    refine st0 (l := [_]) t1_4 h fun a w h => ?_
    refine br0 ?_
    refine en (by kernel_rfl) ?_
    refine npN ?_
    refine thN ?_
    refine sq ?_
    obtain ⟨H3, leH3, h, hf9⟩ := h.frz 1
    have l_H_H3 : LE H H3 := l_H_H2.trans leH3
    have l_H1_H3 : LE H1 H3 := l_H1_H2.trans leH3
    have l_H2_H3 : LE H2 H3 := leH3
    obtain ⟨H4, leH4, h, hf10⟩ := h.frz 0
    have l_H_H4 : LE H H4 := l_H_H3.trans leH4
    have l_H1_H4 : LE H1 H4 := l_H1_H3.trans leH4
    have l_H2_H4 : LE H2 H4 := l_H2_H3.trans leH4
    have l_H3_H4 : LE H3 H4 := leH4
    refine rg0 ?_
    refine mf h fun a w h => ?_
    refine df h fun a w h => ?_
    refine nl0 ?_
    refine thN ?_
    refine sq ?_
    refine rgdF [1] [_] [0] [0, 3, 4] 1 mix (by kernel_rfl) h (fun a w h => ?_)
    refine ldHD t1_75 (Hc.of (l_H1_H4 _ _ hf4) rfl) h fun a w h => ?_
    refine nc h fun a w h => ?_
    refine fa fl78_0 (r := 0) h fun a w h => ?_
    refine ldD 0 t1_76 h fun a w h => ?_
    refine ldHD t1_9 (Hc.of (l_H2_H4 _ _ hf5) rfl) h fun a w h => ?_
    refine mv h fun a w h => ?_
    have h := h.pull 2 rfl rfl
    refine mu 0 keyS mapSS h fun a w h => ?_
    refine nl0 ?_
    refine npN ?_
    refine thN ?_
    refine sq ?_
    refine rg0 ?_
    refine mv h fun a w h => ?_
    have h := h.pull 2 rfl rfl
    refine cl hbod (hdo H4 _ l_H_H4) h fun r28 H28 L28 a w le28 R h => ?_
    obtain ⟨⟨A28, c28, rfl, hk28⟩, rfl⟩ := R
    have l_H_H28 : LE H H28 := l_H_H4.trans le28
    have l_H1_H28 : LE H1 H28 := l_H1_H4.trans le28
    have l_H2_H28 : LE H2 H28 := l_H2_H4.trans le28
    have l_H3_H28 : LE H3 H28 := l_H3_H4.trans le28
    have l_H4_H28 : LE H4 H28 := le28
    refine sw2 tN24 h fun a w h => ?_
    refine nl0 ?_
    refine thN ?_
    refine ret_ ?_
    have h := h.pull 1 rfl rfl
    have h := h.pull 1 rfl rfl
    refine finD h bod77 (dfr_ok (f nm).isSome old nm g10 g9 g4 g5 gr gt _ n' E H28 _ (Hc.of (l_H4_H28 _ _ hf10) rfl) (Hc.of (l_H3_H28 _ _ hf9) rfl) (Hc.of (l_H1_H28 _ _ hf4) rfl) (Hc.of (l_H2_H28 _ _ hf5) rfl)) l_H_H28 fun r0 H0 L0 w' le0 R hS => ?_
    obtain ⟨rfl, rfl⟩ := R
    rw [hback] at hS
    exact ⟨_, _, _, run_results (rs := [.cell 8 24]) (vs := [.agg #[_, _, _, _]]) rfl (.agg (k0 := 2) tN24 rfl rfl rfl .nil) hS, l_H_H28, (hS.del 2).st, ⟨⟨A28, c28, rfl, hk28⟩, rfl⟩⟩
  · refine al zr4 h fun g10 a w h => ?_
    refine br0 ?_
    refine brl1 9 true (by kernel_rfl) (by kernel_rfl) (fun _ => h.st.sees' (by first | exact LE.rfl | assumption) (by simp)) ?_
    refine al zr9 h fun g9 a w h => ?_
    refine br0 ?_
    refine brl1 11 false (by kernel_rfl) (by kernel_rfl) (fun _ => h.st.sees' (by first | exact LE.rfl | assumption) (by simp)) ?_
    refine st0 (l := [_]) t1_9 h fun a w h => ?_
    refine br0 ?_
    refine brl1 12 false (by kernel_rfl) (by kernel_rfl) (fun _ => h.st.sees' (by first | exact LE.rfl | assumption) (by simp)) ?_
    refine st1 (l := [_]) t1_4 h fun a w h => ?_
    refine br0 ?_
    refine en (by kernel_rfl) ?_
    refine npN ?_
    refine thN ?_
    refine sq ?_
    obtain ⟨H3, leH3, h, hf9⟩ := h.frz 0
    have l_H_H3 : LE H H3 := l_H_H2.trans leH3
    have l_H1_H3 : LE H1 H3 := l_H1_H2.trans leH3
    have l_H2_H3 : LE H2 H3 := leH3
    obtain ⟨H4, leH4, h, hf10⟩ := h.frz 0
    have l_H_H4 : LE H H4 := l_H_H3.trans leH4
    have l_H1_H4 : LE H1 H4 := l_H1_H3.trans leH4
    have l_H2_H4 : LE H2 H4 := l_H2_H3.trans leH4
    have l_H3_H4 : LE H3 H4 := leH4
    refine rg0 ?_
    refine mf h fun a w h => ?_
    refine df h fun a w h => ?_
    refine nl0 ?_
    refine thN ?_
    refine sq ?_
    refine rgdF [1] [_] [0] [0, 3, 4] 1 mix (by kernel_rfl) h (fun a w h => ?_)
    refine ldHD t1_75 (Hc.of (l_H1_H4 _ _ hf4) rfl) h fun a w h => ?_
    refine nc h fun a w h => ?_
    refine fa fl78_0 (r := 0) h fun a w h => ?_
    refine ldD 0 t1_76 h fun a w h => ?_
    refine ldHD t1_9 (Hc.of (l_H2_H4 _ _ hf5) rfl) h fun a w h => ?_
    refine mv h fun a w h => ?_
    have h := h.pull 2 rfl rfl
    refine mu 0 keyS mapSS h fun a w h => ?_
    refine nl0 ?_
    refine npN ?_
    refine thN ?_
    refine sq ?_
    refine rg0 ?_
    refine mv h fun a w h => ?_
    have h := h.pull 2 rfl rfl
    refine cl hbod (hdo H4 _ l_H_H4) h fun r28 H28 L28 a w le28 R h => ?_
    obtain ⟨⟨A28, c28, rfl, hk28⟩, rfl⟩ := R
    have l_H_H28 : LE H H28 := l_H_H4.trans le28
    have l_H1_H28 : LE H1 H28 := l_H1_H4.trans le28
    have l_H2_H28 : LE H2 H28 := l_H2_H4.trans le28
    have l_H3_H28 : LE H3 H28 := l_H3_H4.trans le28
    have l_H4_H28 : LE H4 H28 := le28
    refine sw2 tN24 h fun a w h => ?_
    refine nl0 ?_
    refine thN ?_
    refine ret_ ?_
    have h := h.pull 1 rfl rfl
    have h := h.pull 1 rfl rfl
    refine finD h bod77 (dfr_ok (f nm).isSome old nm g10 g9 g4 g5 gr gt _ n' E H28 _ (Hc.of (l_H4_H28 _ _ hf10) rfl) (Hc.of (l_H3_H28 _ _ hf9) rfl) (Hc.of (l_H1_H28 _ _ hf4) rfl) (Hc.of (l_H2_H28 _ _ hf5) rfl)) l_H_H28 fun r0 H0 L0 w' le0 R hS => ?_
    obtain ⟨rfl, rfl⟩ := R
    rw [hback] at hS
    exact ⟨_, _, _, run_results (rs := [.cell 8 24]) (vs := [.agg #[_, _, _, _]]) rfl (.agg (k0 := 2) tN24 rfl rfl rfl .nil) hS, l_H_H28, (hS.del 2).st, ⟨⟨A28, c28, rfl, hk28⟩, rfl⟩⟩
end Go.Proofs.YtindlieilabgfaaGreatDoor
/- Walks: the renamer's term. -/
set_option linter.unusedVariables false
set_option linter.unusedSimpArgs false
set_option linter.unusedSectionVars false
set_option autoImplicit false
set_option relaxedAutoImplicit false
set_option maxRecDepth 10000
namespace Go.Proofs.YtindlieilabgfaaGreatDoor
open Go X
theorem sub1 {σ : Bs → Option Bs} {f : Bs → Option Value} {nm old : Bs} (hf : ∀ x, f x = (σ x).map encS) (hold : (f nm).getD (.string ⟨#[]⟩) = str old) (hs : (f nm).isSome = true) : σ nm = some old := by
  rw [hf nm] at hold hs
  cases h : σ nm with
  | none => rw [h] at hs; cases hs
  | some u => rw [h] at hold; simp at hold; rw [hold]
theorem sub0 {σ : Bs → Option Bs} {f : Bs → Option Value} {nm : Bs} (hf : ∀ x, f x = (σ x).map encS) (hs : (f nm).isSome = false) : σ nm = none := by
  rw [hf nm] at hs
  cases h : σ nm with
  | none => rfl
  | some u => rw [h] at hs; cases hs
theorem vt_of {H : GH} {B : Option Addr} {k cp : Nat} {ys : List Tm} {kd : Int} {s : Bs} {n : Int} (hk : k = ys.length) (h : RS RT 4 H (.slice B k cp) ys) : VT H (.agg #[.int .i64 kd, str s, .int .i64 n, .slice B k cp]) (.mk kd s n ys) := by
  subst hk; exact ⟨B, cp, rfl, h⟩
theorem ren_ok : ∀ t : Tm, t.size < 1000000000000 → RenOk t := by
  intro t
  induction t using Tm.ind with
  | h kd nm nn ks ih =>
  intro hsz v E H L gr gt σ f n hv hL hf hn
  obtain ⟨A, c, rfl, hks⟩ := hv
  have hks : KS H A c ks := hks
  simp only [Tm.size] at hsz
  have hlen := length_le_sizeL ks
  obtain ⟨old, hold⟩ : ∃ old, (f nm).getD (.string ⟨#[]⟩) = str old := by
    rw [hf nm]; cases σ nm with
    | none => exact ⟨[], rfl⟩
    | some u => exact ⟨u, rfl⟩
  refine enter (N := 89) [(0, _), (1, _)] Tryz.func36 rfl rfl rfl rfl fun a w h => ?_
  refine sq ?_
  refine rg0 ?_
  refine bx1 h fun g2 a w h => ?_
  refine bxA h fun g3 a w h => ?_
  refine al zr24 h fun g4 a w h => ?_
  refine nl0 ?_
  refine thN ?_
  refine sq ?_
  obtain ⟨H1, leH1, h, hf2⟩ := h.frz 2
  have l_H_H1 : LE H H1 := leH1
  obtain ⟨H2, leH2, h, hf3⟩ := h.frz 1
  have l_H_H2 : LE H H2 := l_H_H1.trans leH2
  have l_H1_H2 : LE H1 H2 := leH2
  have q2 : Hc H2 g2 0 (.pointer (some ⟨gr, 0, none⟩)) := Hc.of (l_H1_H2 _ _ hf2) rfl
  have q3 : Hc H2 g3 3 (.slice A ks.length c) := Hc.of hf3 rfl
  have hks2 := hks.up l_H_H2
  have hL2 := hL.up l_H_H2
  refine rg0 ?_
  refine fa fl24_0 (r := 0) h fun a w h => ?_
  refine ldH t1_3 (Hc.of (LE.rfl _ _ hf3) rfl) h fun a w h => ?_
  refine fa fl24_1 (r := 1) h fun a w h => ?_
  refine ldH t1_9 (Hc.of (LE.rfl _ _ hf3) rfl) h fun a w h => ?_
  refine fa fl24_2 (r := 2) h fun a w h => ?_
  refine ldH t1_2 (Hc.of (LE.rfl _ _ hf3) rfl) h fun a w h => ?_
  refine bdl lay24 zr24 h fun a w h => ?_
  refine al zr24 h fun g5 a w h => ?_
  refine sw0 tN24 h fun a w h => ?_
  refine nl0 ?_
  refine thN ?_
  refine sqc (fun a w => S E H2 89 [] [(2, .pointer (some ⟨g2, 0, none⟩)), (3, .pointer (some ⟨g3, 0, none⟩)), (4, .pointer (some ⟨g4, 0, none⟩)), (5, .pointer (some ⟨g5, 0, none⟩))] (.obj g5 (.cells #[.int .i64 kd, str (if kd == 2 then (σ nm).getD nm else nm), .int .i64 nn, .slice none 0 0] 24 (0, 0)) :: .obj g4 (.cells #[.int .i64 0, .string ⟨#[]⟩, .int .i64 0, .slice none 0 0] 24 (0, 0)) :: .obj gr (.cells #[.map (some gt), .int .i64 n] 78 (0, 0)) :: .blk gt (IsMap encS f) :: L) a w) ?_ ?_
  · refine sq ?_
    refine rgd [2, 3] [_, _] [] [0, 3, 5, 6] 2 mix (by kernel_rfl) h (fun a w h => ?_)
    refine ldHD t1_75 (Hc.of (l_H1_H2 _ _ hf2) rfl) h fun a w h => ?_
    refine nc h fun a w h => ?_
    refine fa fl78_0 (r := 0) h fun a w h => ?_
    refine ldD 0 t1_76 h fun a w h => ?_
    refine fa fl24_1 (r := 1) h fun a w h => ?_
    refine ldHD t1_9 (Hc.of (LE.rfl _ _ hf3) rfl) h fun a w h => ?_
    refine lkD (f := f) (q := nm) 1 keyS mapSS zr9 h fun a w h => ?_
    rw [hold] at h
    refine mv h fun a w h => ?_
    refine ex h fun a w h => ?_
    refine ex h fun a w h => ?_
    refine as_ h fun a w h => ?_
    refine as_ h fun a w h => ?_
    refine nl0 ?_
    refine thN ?_
    refine sq ?_
    refine rg0 ?_
    refine mv h fun a w h => ?_
    refine h.spl (fun c28 h => ?_) (fun c28 h => ?_)
    · refine mv h fun a w h => ?_
      refine fa fl24_0 (r := 0) h fun a w h => ?_
      refine ldH t1_3 (Hc.of (LE.rfl _ _ hf3) rfl) h fun a w h => ?_
      refine eqi h fun a w h => ?_
      refine pkT h fun a w h => ?_
      refine nl0 ?_
      refine thN ?_
      refine cdB h (fun c33 => ?_) (fun c33 => ?_)
      · refine rg0 ?_
        refine mv h fun a w h => ?_
        refine fa fl24_1 (r := 1) h fun a w h => ?_
        refine st0 (l := [_, _, _, _]) t1_9 h fun a w h => ?_
        refine nl0 ?_
        refine thN ?_
        have h := h.pull 3 rfl rfl
        have h := h.pull 3 rfl rfl
        have h := h.pull 3 rfl rfl
        have h := h.pull 3 rfl rfl
        have e1 : (if kd == 2 then (σ nm).getD nm else nm) = old := by rw [if_pos (show (kd == 2) = true from c33), sub1 hf hold c28, Option.getD_some]
        rw [e1]
        exact h.to 0 _
      · refine sk_ ?_
        refine thN ?_
        have h := h.pull 3 rfl rfl
        have h := h.pull 3 rfl rfl
        have h := h.pull 3 rfl rfl
        have h := h.pull 3 rfl rfl
        have e1 : (if kd == 2 then (σ nm).getD nm else nm) = nm := if_neg (by rw [show (kd == 2) = false from c33]; simp)
        rw [e1]
        exact h.to 0 _
    · refine mv h fun a w h => ?_
      refine sk h (k := fun a w h => ?_)
      refine sk h (k := fun a w h => ?_)
      refine sk h (k := fun a w h => ?_)
      refine pkF h fun a w h => ?_
      refine nl0 ?_
      refine thN ?_
      refine cdF h ?_
      refine sk_ ?_
      refine thN ?_
      have h := h.pull 3 rfl rfl
      have h := h.pull 3 rfl rfl
      have h := h.pull 3 rfl rfl
      have h := h.pull 3 rfl rfl
      have e1 : (if kd == 2 then (σ nm).getD nm else nm) = nm := by rw [sub0 hf c28]; split <;> rfl
      rw [e1]
      exact h.to 0 _
  · rintro a w h
    refine sq ?_
    refine rg0 ?_
    refine ldHN tN24 rfl (Hc.all (LE.rfl _ _ hf3)) h fun a w h => ?_
    refine cl bod38 (Binder_ok _ _ _ _ E H2 _) h fun r37 H37 L37 a w le37 R h => ?_
    obtain ⟨rfl, rfl, rfl⟩ := R
    refine as_ h fun a w h => ?_
    refine nl0 ?_
    refine thN ?_
    obtain ⟨s', hs'⟩ : ∃ s', s' = renN kd nm σ n := ⟨_, rfl⟩
    obtain ⟨n1, hn1⟩ : ∃ n1, n1 = if bnd kd then nx n else n := ⟨_, rfl⟩
    refine sqc (fun a w => S E H2 89 [] [(2, .pointer (some ⟨g2, 0, none⟩)), (3, .pointer (some ⟨g3, 0, none⟩)), (4, .pointer (some ⟨g4, 0, none⟩)), (5, .pointer (some ⟨g5, 0, none⟩)), (8, .bool (bnd kd))] (.obj g5 (.cells #[.int .i64 kd, str s', .int .i64 nn, .slice none 0 0] 24 (0, 0)) :: .obj g4 (.cells #[.int .i64 0, .string ⟨#[]⟩, .int .i64 0, .slice none 0 0] 24 (0, 0)) :: .obj gr (.cells #[.map (some gt), .int .i64 n1] 78 (0, 0)) :: .blk gt (IsMap encS f) :: L) a w) ?_ ?_
    · refine sq ?_
      refine rg0 ?_
      refine mv h fun a w h => ?_
      refine nl0 ?_
      refine thN ?_
      refine cdB h (fun c38 => ?_) (fun c38 => ?_)
      · refine sq ?_
        refine rg0 ?_
        refine ldH t1_75 (Hc.of (l_H1_H2 _ _ hf2) rfl) h fun a w h => ?_
        refine nc h fun a w h => ?_
        refine fa fl78_1 (r := 1) h fun a w h => ?_
        refine ld 2 t1_3 h fun a w h => ?_
        refine cl bod61 (Itoa_ok n E H2 _ hL2 hn.1 hn.2) h fun r43 H43 L43 a w le43 R h => ?_
        obtain ⟨rfl, rfl, rfl⟩ := R
        refine fa fl24_1 (r := 1) h fun a w h => ?_
        refine st0 (l := [_, _, _, _]) t1_9 h fun a w h => ?_
        refine nl0 ?_
        refine thN ?_
        refine rg0 ?_
        refine ldH t1_75 (Hc.of (l_H1_H2 _ _ hf2) rfl) h fun a w h => ?_
        refine nc h fun a w h => ?_
        refine fa fl78_1 (r := 1) h fun a w h => ?_
        refine ld 2 t1_3 h fun a w h => ?_
        refine adr (nx n) rfl h fun a w h => ?_
        refine nc h fun a w h => ?_
        refine fa fl78_1 (r := 1) h fun a w h => ?_
        refine st2 (l := [_, _]) t1_3 h fun a w h => ?_
        refine nl0 ?_
        refine thN ?_
        have h := h.pull 3 rfl rfl
        have h := h.pull 3 rfl rfl
        have h := h.pull 3 rfl rfl
        have h := h.pull 3 rfl rfl
        rw [hs', hn1]
        unfold renN
        have hb : bnd kd = true := c38
        rw [if_pos hb, if_pos hb]
        exact h.to 0 _
      · refine sk_ ?_
        refine thN ?_
        have h := h.pull 3 rfl rfl
        have h := h.pull 3 rfl rfl
        have h := h.pull 3 rfl rfl
        have h := h.pull 3 rfl rfl
        rw [hs', hn1]
        unfold renN
        have hb : ¬ (bnd kd = true) := by rw [show bnd kd = false from c38]; simp
        rw [if_neg hb, if_neg hb]
        exact h.to 0 _
    · rintro a w h
      refine sq ?_
      refine sq ?_
      have hn1i : In64 n1 := by rw [hn1]; split; exact nx_in n; exact hn
      have h := h.row (e := 24) (sz := 4)
      refine rg0 ?_
      refine fa fl24_3 (r := 3) h fun a w h => ?_
      refine ldH t1_22 (Hc.of (LE.rfl _ _ hf3) rfl) h fun a w h => ?_
      refine ln sli22 h fun a w h => ?_
      refine mv h fun a w h => ?_
      refine nl0 ?_
      refine thN ?_
      refine blk ?_
      refine lp (β := Nat × GH × Option Addr × Nat × List Value) (fun x a w => match x with | (k, H3, B, cp, xs) => (k ≤ ks.length ∧ LE H2 H3 ∧ RowR RT 4 H3 xs (renT (bnd kd) nm s' ks σ n1 k).1) ∧ S E H3 89 [] [(2, .pointer (some ⟨g2, 0, none⟩)), (3, .pointer (some ⟨g3, 0, none⟩)), (4, .pointer (some ⟨g4, 0, none⟩)), (5, .pointer (some ⟨g5, 0, none⟩)), (8, .bool (bnd kd)), (55, .int .i64 (k : Int)), (54, .int .i64 (ks.length : Int))] (.row (.slice B k cp) 24 4 k xs :: .obj g5 (.cells #[.int .i64 kd, str s', .int .i64 nn, .slice B k cp] 24 (0, 0)) :: .obj g4 (.cells #[.int .i64 0, .string ⟨#[]⟩, .int .i64 0, .slice none 0 0] 24 (0, 0)) :: .obj gr (.cells #[.map (some gt), .int .i64 (renT (bnd kd) nm s' ks σ n1 k).2] 78 (0, 0)) :: .blk gt (IsMap encS f) :: L) a w)
        (fun x => match x with | (k, H3, B, cp, xs) => ks.length - k) (0, H2, none, 0, []) ⟨⟨Nat.zero_le _, LE.rfl, RowR.nil⟩, h.to 0 _⟩ ?_
      rintro ⟨k, H3, B, cp, xs⟩ a w ⟨pre, h⟩
      obtain ⟨hk, l_H2_H3, hrow⟩ := pre
      have l_H_H3 := l_H_H2.trans l_H2_H3
      have l_H1_H3 := l_H1_H2.trans l_H2_H3
      have hnk : In64 (renT (bnd kd) nm s' ks σ n1 k).2 := renT_in hn1i k
      refine sq ?_
      refine rg0 ?_
      refine lt h fun a w h => ?_
      refine nl0 ?_
      refine thN ?_
      refine sq ?_
      refine cdB h (fun c56 => ?_) (fun c56 => ?_)
      · have c56 : k < ks.length := by simpa using c56
        have hsz := size_get_le c56
        refine sk_ ?_
        refine thN ?_
        refine sq ?_
        refine blk ?_
        refine sq ?_
        refine rg0 ?_
        refine mv h fun a w h => ?_
        refine al zr3 h fun g9 a w h => ?_
        refine st0 (l := [_]) t1_3 h fun a w h => ?_
        refine nl0 ?_
        refine thN ?_
        refine sq ?_
        obtain ⟨H4, leH4, h, hf9⟩ := h.frz 0
        have l_H_H4 : LE H H4 := l_H_H3.trans leH4
        have l_H1_H4 : LE H1 H4 := l_H1_H3.trans leH4
        have l_H2_H4 : LE H2 H4 := l_H2_H3.trans leH4
        have l_H3_H4 : LE H3 H4 := leH4
        refine rg0 ?_
        refine mf h fun a w h => ?_
        refine as_ h fun a w h => ?_
        refine nl0 ?_
        refine thN ?_
        refine sq ?_
        refine sq ?_
        refine rg0 ?_
        refine mv h fun a w h => ?_
        refine h.spl (fun c59 h => ?_) (fun c59 h => ?_)
        · refine mv h fun a w h => ?_
          refine ldH t1_3 (Hc.of (LE.rfl _ _ hf9) rfl) h fun a w h => ?_
          refine fa fl24_3 (r := 3) h fun a w h => ?_
          refine ldH t1_22 (Hc.of (l_H2_H4 _ _ hf3) rfl) h fun a w h => ?_
          refine ln sli22 h fun a w h => ?_
          refine sbr ((ks.length : Int) - 1) ?_ h fun a w h => ?_
          · show IntKind.i64.wrap ((ks.length : Int) - 1) = _; exact w64 (by omega) (by omega)
          refine eqi h fun a w h => ?_
          refine pkT h fun a w h => ?_
          refine nl0 ?_
          refine thN ?_
          refine cdB h (fun c67 => ?_) (fun c67 => ?_)
          · refine sq ?_
            refine rgx [1] [_] [1, 2, 4, 6] 13 mix h (fun a w h => ?_)
            refine tkl 0 false (by kernel_rfl) ?_
            refine fa fl24_3 (r := 3) h fun a w h => ?_
            refine tk0 ?_
            refine tkl 1 true (by kernel_rfl) ?_
            refine ldT 0 t1_22 h fun a w h => ?_
            refine tk0 ?_
            refine tkl 2 true (by kernel_rfl) ?_
            refine ldHT t1_75 (Hc.of (l_H1_H4 _ _ hf2) rfl) h fun a w h => ?_
            refine tk0 ?_
            refine tkl 3 false (by kernel_rfl) ?_
            refine fa fl24_1 (r := 1) h fun a w h => ?_
            refine tk0 ?_
            refine tkl 4 true (by kernel_rfl) ?_
            refine ldHT t1_9 (Hc.of (l_H2_H4 _ _ hf3) rfl) h fun a w h => ?_
            refine tk0 ?_
            refine tkl 5 false (by kernel_rfl) ?_
            refine fa fl24_1 (r := 1) h fun a w h => ?_
            refine tk0 ?_
            refine tkl 6 true (by kernel_rfl) ?_
            refine ldT 0 t1_9 h fun a w h => ?_
            refine tk0 ?_
            refine tkl 7 false (by kernel_rfl) ?_
            refine mv h fun a w h => ?_
            refine tk0 ?_
            refine brl1 8 true (by kernel_rfl) (by kernel_rfl) (fun _ => h.st.sees' (by first | exact LE.rfl | assumption) (by simp)) ?_
            have h := h.pull 4 rfl rfl
            have h := h.pull 4 rfl rfl
            have hfu : ∀ x, upd f nm (some (str s')) x = (updS σ nm s' x).map encS := fun x => by unfold X.upd updS; split; rfl; exact hf x
            refine cl bod63 (bind_ok nm s' 62 #[.pointer (some ⟨g2, 0, none⟩), .pointer (some ⟨g3, 0, none⟩), .pointer (some ⟨g9, 0, none⟩)] gr gt σ f _ _ _ E H4 _ hf bod62 (fun Hx Lx lx => kidr_ok ks k c56 (ih _ (List.getElem_mem c56) (by omega)) A c g2 g3 g9 gr gt (updS σ nm s') (upd f nm (some (str s'))) _ E Hx _ (hks2.up (l_H2_H4.trans lx)) (q2.mono (l_H2_H4.trans lx)) (q3.mono (l_H2_H4.trans lx)) ((Hc.of hf9 rfl).mono (lx)) (hL2.up (l_H2_H4.trans lx)) hfu hnk)) h (fun r76 H76 L76 a w le76 R h => ?_) (hS := fun _ _ _ _ _ le R hw => by obtain ⟨_, rfl⟩ := R; exact hw.sees' (by first | exact le | exact LE.trans (by assumption) le) (by simp))
            obtain ⟨⟨A76, c76, rfl, hk76⟩, rfl⟩ := R
            have l_H_H76 : LE H H76 := l_H_H4.trans le76
            have l_H1_H76 : LE H1 H76 := l_H1_H4.trans le76
            have l_H2_H76 : LE H2 H76 := l_H2_H4.trans le76
            have l_H3_H76 : LE H3 H76 := l_H3_H4.trans le76
            have l_H4_H76 : LE H4 H76 := le76
            refine br0 ?_
            refine brl1 9 true (by kernel_rfl) (by kernel_rfl) (fun _ => h.st.sees' (by first | exact LE.rfl | assumption) (by simp)) ?_
            refine bsl bs22 h fun g77 a w h => ?_
            refine br0 ?_
            refine brl1 10 true (by kernel_rfl) (by kernel_rfl) (fun _ => h.st.sees' (by first | exact LE.rfl | assumption) (by simp)) ?_
            refine apb 3 0 (L' := fun i => _ :: _ :: _ :: i :: _) [_, _, _, _] row22 h ?_ ?_ fun v78 a w hone h => ?_
            · omega
            · omega
            obtain ⟨B2, cp2, rfl⟩ := h.rowv 3
            have hin : (bnd kd && k + 1 == ks.length) = true := by rw [c59]; have := eq_of_beq c67; simp; omega
            have hsucc : (renT (bnd kd) nm s' ks σ n1 (k + 1)) = ((renT (bnd kd) nm s' ks σ n1 k).1 ++ [(ks[k].ren (updS σ nm s') (renT (bnd kd) nm s' ks σ n1 k).2).1], (ks[k].ren (updS σ nm s') (renT (bnd kd) nm s' ks σ n1 k).2).2) := by rw [renT_succ c56, hin]; rfl
            have hrow2 : RowR RT 4 H76 (xs ++ [.int .i64 (ks[k].ren (updS σ nm s') (renT (bnd kd) nm s' ks σ n1 k).2).1.kind, str (ks[k].ren (updS σ nm s') (renT (bnd kd) nm s' ks σ n1 k).2).1.name, .int .i64 (ks[k].ren (updS σ nm s') (renT (bnd kd) nm s' ks σ n1 k).2).1.n, .slice A76 (ks[k].ren (updS σ nm s') (renT (bnd kd) nm s' ks σ n1 k).2).1.kids.length c76]) (renT (bnd kd) nm s' ks σ n1 (k + 1)).1 := by rw [hsucc]; exact (hrow.mono fun cs y _ hr => RT.mono l_H3_H76 y hr).snoc rfl (rt_of_vt (cs := [_, _, _, _]) ⟨A76, c76, rfl, hk76⟩)
            have hnx : (ks[k].ren (updS σ nm s') (renT (bnd kd) nm s' ks σ n1 k).2).2 = (renT (bnd kd) nm s' ks σ n1 (k + 1)).2 := by rw [hsucc]
            rw [hnx] at h
            refine br0 ?_
            refine tkl 11 false (by kernel_rfl) ?_
            refine fa fl24_3 (r := 3) h fun a w h => ?_
            refine tk0 ?_
            refine brl1 12 false (by kernel_rfl) (by kernel_rfl) (fun _ => h.st.sees' (by first | exact LE.rfl | assumption) (by simp)) ?_
            refine st4 (l := [_, _, _, _]) t1_22 h fun a w h => ?_
            refine br0 ?_
            refine en (by kernel_rfl) ?_
            refine thN ?_
            refine exit_ ?_
            refine thE ?_
            refine ibH ?_
            refine thN ?_
            refine rg0 ?_
            have h := h.pull 2 rfl rfl
            have h := h.pull 2 rfl rfl
            have h := h.pull 5 rfl rfl
            have h := h.pull 5 rfl rfl
            have h := h.pull 5 rfl rfl
            have h := h.del 5
            refine inc ?_ h fun a w h => ?_
            · omega
            refine mv h fun a w h => ?_
            refine nl0 ?_
            refine thN ?_
            exact ⟨(k + 1, H76, B2, cp2, _), ⟨⟨by omega, l_H2_H76, hrow2⟩, h.to 0 _⟩, by show _ - (k + 1) < _ - k; omega⟩
          · refine sk_ ?_
            refine thN ?_
            refine rgx [1] [_] [1] 8 mix h (fun a w h => ?_)
            refine tkl 0 false (by kernel_rfl) ?_
            refine fa fl24_3 (r := 3) h fun a w h => ?_
            refine tk0 ?_
            refine tkl 1 true (by kernel_rfl) ?_
            refine ldT 0 t1_22 h fun a w h => ?_
            refine tk0 ?_
            refine tkl 2 false (by kernel_rfl) ?_
            refine mv h fun a w h => ?_
            refine tk0 ?_
            refine brl1 3 true (by kernel_rfl) (by kernel_rfl) (fun _ => h.st.sees' (by first | exact LE.rfl | assumption) (by simp)) ?_
            have h := h.pull 4 rfl rfl
            have h := h.pull 4 rfl rfl
            refine cl bod62 (kidr_ok ks k c56 (ih _ (List.getElem_mem c56) (by omega)) A c g2 g3 g9 gr gt σ f _ E H4 _ (hks2.up (l_H2_H4.trans LE.rfl)) (q2.mono (l_H2_H4.trans LE.rfl)) (q3.mono (l_H2_H4.trans LE.rfl)) ((Hc.of hf9 rfl).mono (LE.rfl)) (hL2.up (l_H2_H4.trans LE.rfl)) hf hnk) h (fun r83 H83 L83 a w le83 R h => ?_) (hS := fun _ _ _ _ _ le R hw => by obtain ⟨_, rfl⟩ := R; exact hw.sees' (by first | exact le | exact LE.trans (by assumption) le) (by simp))
            obtain ⟨⟨A83, c83, rfl, hk83⟩, rfl⟩ := R
            have l_H_H83 : LE H H83 := l_H_H4.trans le83
            have l_H1_H83 : LE H1 H83 := l_H1_H4.trans le83
            have l_H2_H83 : LE H2 H83 := l_H2_H4.trans le83
            have l_H3_H83 : LE H3 H83 := l_H3_H4.trans le83
            have l_H4_H83 : LE H4 H83 := le83
            refine br0 ?_
            refine brl1 4 true (by kernel_rfl) (by kernel_rfl) (fun _ => h.st.sees' (by first | exact LE.rfl | assumption) (by simp)) ?_
            refine bsl bs22 h fun g84 a w h => ?_
            refine br0 ?_
            refine brl1 5 false (by kernel_rfl) (by kernel_rfl) (fun _ => h.st.sees' (by first | exact LE.rfl | assumption) (by simp)) ?_
            refine apb 3 0 (L' := fun i => _ :: _ :: _ :: i :: _) [_, _, _, _] row22 h ?_ ?_ fun v85 a w hone h => ?_
            · omega
            · omega
            obtain ⟨B2, cp2, rfl⟩ := h.rowv 3
            have hin : (bnd kd && k + 1 == ks.length) = false := by rw [c59]; have := ne_of_beq_false c67; simp; omega
            have hsucc : (renT (bnd kd) nm s' ks σ n1 (k + 1)) = ((renT (bnd kd) nm s' ks σ n1 k).1 ++ [(ks[k].ren σ (renT (bnd kd) nm s' ks σ n1 k).2).1], (ks[k].ren σ (renT (bnd kd) nm s' ks σ n1 k).2).2) := by rw [renT_succ c56, hin]; rfl
            have hrow2 : RowR RT 4 H83 (xs ++ [.int .i64 (ks[k].ren σ (renT (bnd kd) nm s' ks σ n1 k).2).1.kind, str (ks[k].ren σ (renT (bnd kd) nm s' ks σ n1 k).2).1.name, .int .i64 (ks[k].ren σ (renT (bnd kd) nm s' ks σ n1 k).2).1.n, .slice A83 (ks[k].ren σ (renT (bnd kd) nm s' ks σ n1 k).2).1.kids.length c83]) (renT (bnd kd) nm s' ks σ n1 (k + 1)).1 := by rw [hsucc]; exact (hrow.mono fun cs y _ hr => RT.mono l_H3_H83 y hr).snoc rfl (rt_of_vt (cs := [_, _, _, _]) ⟨A83, c83, rfl, hk83⟩)
            have hnx : (ks[k].ren σ (renT (bnd kd) nm s' ks σ n1 k).2).2 = (renT (bnd kd) nm s' ks σ n1 (k + 1)).2 := by rw [hsucc]
            rw [hnx] at h
            refine br0 ?_
            refine tkl 6 false (by kernel_rfl) ?_
            refine fa fl24_3 (r := 3) h fun a w h => ?_
            refine tk0 ?_
            refine brl1 7 false (by kernel_rfl) (by kernel_rfl) (fun _ => h.st.sees' (by first | exact LE.rfl | assumption) (by simp)) ?_
            refine st4 (l := [_, _, _, _]) t1_22 h fun a w h => ?_
            refine br0 ?_
            refine en (by kernel_rfl) ?_
            refine ibN ?_
            refine thN ?_
            refine rg0 ?_
            have h := h.pull 2 rfl rfl
            have h := h.pull 2 rfl rfl
            have h := h.pull 5 rfl rfl
            have h := h.pull 5 rfl rfl
            have h := h.pull 5 rfl rfl
            have h := h.del 5
            refine inc ?_ h fun a w h => ?_
            · omega
            refine mv h fun a w h => ?_
            refine nl0 ?_
            refine thN ?_
            exact ⟨(k + 1, H83, B2, cp2, _), ⟨⟨by omega, l_H2_H83, hrow2⟩, h.to 0 _⟩, by show _ - (k + 1) < _ - k; omega⟩
        · refine mv h fun a w h => ?_
          refine sk h (k := fun a w h => ?_)
          refine sk h (k := fun a w h => ?_)
          refine sk h (k := fun a w h => ?_)
          refine sk h (k := fun a w h => ?_)
          refine sk h (k := fun a w h => ?_)
          refine sk h (k := fun a w h => ?_)
          refine pkF h fun a w h => ?_
          refine nl0 ?_
          refine thN ?_
          refine cdF h ?_
          refine sk_ ?_
          refine thN ?_
          refine rgx [1] [_] [1] 8 mix h (fun a w h => ?_)
          refine tkl 0 false (by kernel_rfl) ?_
          refine fa fl24_3 (r := 3) h fun a w h => ?_
          refine tk0 ?_
          refine tkl 1 true (by kernel_rfl) ?_
          refine ldT 0 t1_22 h fun a w h => ?_
          refine tk0 ?_
          refine tkl 2 false (by kernel_rfl) ?_
          refine mv h fun a w h => ?_
          refine tk0 ?_
          refine brl1 3 true (by kernel_rfl) (by kernel_rfl) (fun _ => h.st.sees' (by first | exact LE.rfl | assumption) (by simp)) ?_
          have h := h.pull 4 rfl rfl
          have h := h.pull 4 rfl rfl
          refine cl bod62 (kidr_ok ks k c56 (ih _ (List.getElem_mem c56) (by omega)) A c g2 g3 g9 gr gt σ f _ E H4 _ (hks2.up (l_H2_H4.trans LE.rfl)) (q2.mono (l_H2_H4.trans LE.rfl)) (q3.mono (l_H2_H4.trans LE.rfl)) ((Hc.of hf9 rfl).mono (LE.rfl)) (hL2.up (l_H2_H4.trans LE.rfl)) hf hnk) h (fun r83 H83 L83 a w le83 R h => ?_) (hS := fun _ _ _ _ _ le R hw => by obtain ⟨_, rfl⟩ := R; exact hw.sees' (by first | exact le | exact LE.trans (by assumption) le) (by simp))
          obtain ⟨⟨A83, c83, rfl, hk83⟩, rfl⟩ := R
          have l_H_H83 : LE H H83 := l_H_H4.trans le83
          have l_H1_H83 : LE H1 H83 := l_H1_H4.trans le83
          have l_H2_H83 : LE H2 H83 := l_H2_H4.trans le83
          have l_H3_H83 : LE H3 H83 := l_H3_H4.trans le83
          have l_H4_H83 : LE H4 H83 := le83
          refine br0 ?_
          refine brl1 4 true (by kernel_rfl) (by kernel_rfl) (fun _ => h.st.sees' (by first | exact LE.rfl | assumption) (by simp)) ?_
          refine bsl bs22 h fun g84 a w h => ?_
          refine br0 ?_
          refine brl1 5 false (by kernel_rfl) (by kernel_rfl) (fun _ => h.st.sees' (by first | exact LE.rfl | assumption) (by simp)) ?_
          refine apb 3 0 (L' := fun i => _ :: _ :: _ :: i :: _) [_, _, _, _] row22 h ?_ ?_ fun v85 a w hone h => ?_
          · omega
          · omega
          obtain ⟨B2, cp2, rfl⟩ := h.rowv 3
          have hin : (bnd kd && k + 1 == ks.length) = false := by rw [c59]; rfl
          have hsucc : (renT (bnd kd) nm s' ks σ n1 (k + 1)) = ((renT (bnd kd) nm s' ks σ n1 k).1 ++ [(ks[k].ren σ (renT (bnd kd) nm s' ks σ n1 k).2).1], (ks[k].ren σ (renT (bnd kd) nm s' ks σ n1 k).2).2) := by rw [renT_succ c56, hin]; rfl
          have hrow2 : RowR RT 4 H83 (xs ++ [.int .i64 (ks[k].ren σ (renT (bnd kd) nm s' ks σ n1 k).2).1.kind, str (ks[k].ren σ (renT (bnd kd) nm s' ks σ n1 k).2).1.name, .int .i64 (ks[k].ren σ (renT (bnd kd) nm s' ks σ n1 k).2).1.n, .slice A83 (ks[k].ren σ (renT (bnd kd) nm s' ks σ n1 k).2).1.kids.length c83]) (renT (bnd kd) nm s' ks σ n1 (k + 1)).1 := by rw [hsucc]; exact (hrow.mono fun cs y _ hr => RT.mono l_H3_H83 y hr).snoc rfl (rt_of_vt (cs := [_, _, _, _]) ⟨A83, c83, rfl, hk83⟩)
          have hnx : (ks[k].ren σ (renT (bnd kd) nm s' ks σ n1 k).2).2 = (renT (bnd kd) nm s' ks σ n1 (k + 1)).2 := by rw [hsucc]
          rw [hnx] at h
          refine br0 ?_
          refine tkl 6 false (by kernel_rfl) ?_
          refine fa fl24_3 (r := 3) h fun a w h => ?_
          refine tk0 ?_
          refine brl1 7 false (by kernel_rfl) (by kernel_rfl) (fun _ => h.st.sees' (by first | exact LE.rfl | assumption) (by simp)) ?_
          refine st4 (l := [_, _, _, _]) t1_22 h fun a w h => ?_
          refine br0 ?_
          refine en (by kernel_rfl) ?_
          refine ibN ?_
          refine thN ?_
          refine rg0 ?_
          have h := h.pull 2 rfl rfl
          have h := h.pull 2 rfl rfl
          have h := h.pull 5 rfl rfl
          have h := h.pull 5 rfl rfl
          have h := h.pull 5 rfl rfl
          have h := h.del 5
          refine inc ?_ h fun a w h => ?_
          · omega
          refine mv h fun a w h => ?_
          refine nl0 ?_
          refine thN ?_
          exact ⟨(k + 1, H83, B2, cp2, _), ⟨⟨by omega, l_H2_H83, hrow2⟩, h.to 0 _⟩, by show _ - (k + 1) < _ - k; omega⟩
      · have hkk : k = ks.length := by simp at c56; omega
        refine exit_ ?_
        refine thE ?_
        refine thE ?_
        refine ibH ?_
        refine thN ?_
        refine sq ?_
        refine rg0 ?_
        refine ldW 1 tN24 h fun a w h => ?_
        refine sw2 tN24 h fun a w h => ?_
        refine nl0 ?_
        refine thN ?_
        refine ret_ ?_
        obtain ⟨H5, le5, h, hrs⟩ := h.frw 0 hrow (renT_length hk).symm (fun H6 l6 cs y _ hr => RT.mono l6 y hr)
        have l_H_H5 : LE H H5 := l_H_H3.trans le5
        have l_H1_H5 : LE H1 H5 := l_H1_H3.trans le5
        have l_H2_H5 : LE H2 H5 := l_H2_H3.trans le5
        have l_H3_H5 : LE H3 H5 := le5
        have h := h.pull 3 rfl rfl
        have h := h.pull 3 rfl rfl
        have h := h.pull 3 rfl rfl
        have h := h.del 3
        have e : ((Tm.mk kd nm nn ks).ren σ n) = (.mk kd s' nn (renT (bnd kd) nm s' ks σ n1 k).1, (renT (bnd kd) nm s' ks σ n1 k).2) := by rw [hkk, renT_all]; simp only [Tm.ren]; rw [← hs', ← hn1]
        exact fin (rs := [.cell 4 24]) (vs := [.agg #[_, _, _, _]]) h rfl (.agg (k0 := 0) tN24 rfl rfl rfl .nil) rfl l_H_H5 ⟨LE.rfl, h.st.drop 1⟩ (by rw [e]; exact ⟨vt_of (renT_length hk).symm hrs, rfl⟩)
end Go.Proofs.YtindlieilabgfaaGreatDoor
/- Walks: scope.Rename. -/
set_option linter.unusedVariables false
set_option linter.unusedSimpArgs false
set_option linter.unusedSectionVars false
set_option autoImplicit false
set_option relaxedAutoImplicit false
set_option maxRecDepth 10000
namespace Go.Proofs.YtindlieilabgfaaGreatDoor
open Go X
def noS : Bs → Option Bs := fun _ => none
theorem Rename_ok (t : Tm) (v : Value) (n : Int) (E : World) (H : GH) (L : List It) (hv : VT H v t) (hL : Laid H) (hn : In64 n) (hsz : t.size < 1000000000000) :
    Ok Tryz.prog 10 #[v, .int .i64 n] E H L fun r H' L' => ∃ v', r = .tuple #[v', .int .i64 (t.ren noS n).2] ∧ VT H' v' (t.ren noS n).1 ∧ L' = L := by
  have hv0 := hv
  obtain ⟨A, c, rfl, hks⟩ := hv
  have hv := hv0
  refine enter (N := 20) [(0, _), (1, _)] Tryz.func10 rfl rfl rfl rfl fun a w h => ?_
  refine sq ?_
  refine rg0 ?_
  refine bxA h fun g2 a w h => ?_
  refine al zr24 h fun g4 a w h => ?_
  refine as_ h fun a w h => ?_
  refine nl0 ?_
  refine thN ?_
  refine sq ?_
  refine rg0 ?_
  refine mk0 (enc := encS) h fun gt a w h => ?_
  refine mv h fun a w h => ?_
  refine bdl lay78 zr78 h fun a w h => ?_
  refine bxA h fun gr a w h => ?_
  refine as_ h fun a w h => ?_
  refine nl0 ?_
  refine thN ?_
  refine sq ?_
  refine rg0 ?_
  refine mv h fun a w h => ?_
  refine ldW 3 tN24 h fun a w h => ?_
  have h := h.pull 1 rfl rfl
  have h := h.pull 1 rfl rfl
  refine cl bod36 (ren_ok t hsz _ E H _ gr gt (fun _ => none) (fun _ => none) n hv hL (fun _ => rfl) hn) h fun r14 H14 L14 a w le14 R h => ?_
  obtain ⟨⟨A14, c14, rfl, hk14⟩, rfl⟩ := R
  have l_H_H14 : LE H H14 := le14
  refine al zr24 h fun g7 a w h => ?_
  refine sw0 tN24 h fun a w h => ?_
  refine nl0 ?_
  refine thN ?_
  refine sq ?_
  refine rgd [0, 1] [_, _] [1] [0, 4] 1 mix (by kernel_rfl) h (fun a w h => ?_)
  refine ldWD 0 tN24 h fun a w h => ?_
  refine mv h fun a w h => ?_
  refine nc h fun a w h => ?_
  refine fa fl78_1 (r := 1) h fun a w h => ?_
  refine ldD 1 t1_3 h fun a w h => ?_
  refine sw3 tN24 h fun a w h => ?_
  refine as_ h fun a w h => ?_
  refine nl0 ?_
  refine thN ?_
  refine ret_ ?_
  exact fin (rs := [.cell 4 24, .tmp 5]) (vs := [.agg #[_, _, _, _], .int .i64 _]) h rfl (.agg (k0 := 3) tN24 rfl rfl rfl (.tmp rfl .nil)) rfl le14 ⟨LE.rfl, h.st.drop 5⟩ ⟨_, rfl, ⟨A14, c14, rfl, hk14⟩, rfl⟩
end Go.Proofs.YtindlieilabgfaaGreatDoor
/- Walks: slices.Grow, Concat. -/
set_option linter.unusedVariables false
set_option linter.unusedSimpArgs false
set_option linter.unusedSectionVars false
set_option autoImplicit false
set_option relaxedAutoImplicit false
set_option maxRecDepth 10000
namespace Go.Proofs.YtindlieilabgfaaGreatDoor
open Go X
open Go.Proofs Go.RowKit Go.Shelf
theorem St.rowNil {E w : World} {H : GH} {L : List It} {e sz : Nat} (h : St E H L w) : St E H (.row (.slice none 0 0) e sz 0 [] :: L) w :=
  ⟨h.os, h.tape, h.output, h.fro, fun i hi => by
    cases hi with
    | head => exact World.ownsRow_nil _ _ _ _
    | tail _ hi => exact h.holds i hi, fun i hi g hg => by
    cases hi with
    | head => simp [It.own, Value.ownBlock] at hg
    | tail _ hi => exact h.off i hi g hg, List.pairwise_cons.2 ⟨fun i hi g hg => by simp [It.own, Value.ownBlock] at hg, h.apart⟩⟩
theorem grow_ok (n : Nat) (hn : n < 1000000000000) (E : World) (H : GH) (L : List It) : Ok Tryz.prog 66 #[.slice none 0 0, .int .i64 (n : Int)] E H L fun r H' L' => ∃ A c, r = .slice A 0 c ∧ H = H' ∧ L' = .row (.slice A 0 c) 72 3 0 [] :: L := fun w hw => by
  rcases Nat.eq_zero_or_pos n with rfl | hpos
  · exact (Any8.slices_Grow_room Tryz.grow66 none 0 0 0 w (by omega) (by omega) (by omega) (by omega)).mono fun e w' ⟨h, hw'⟩ => ⟨_, H, _, h, LE.rfl, by subst hw'; exact St.rowNil hw, none, 0, rfl, rfl, rfl⟩
  · obtain ⟨_, i, z, hi, hz, hs, hb, hzs, h0⟩ := row_of row25
    refine (Any8.slices_Grow_grow Tryz.grow66 i z hi hz (by rw [hs]; omega) none 0 0 n [] w (by omega) (by omega) (by rw [hb]; omega) (by omega) (by simp) (fun _ => rfl) (fun a h => by cases h)).mono fun e w' ⟨h, hw'⟩ => ?_
    have hge := grownCap_ge w (0 + n) 0 72
    have hle := grownCap_le_maxLen w (0 + n) 0 72 (by simp only [maxLen]; omega)
    refine ⟨_, H, _, h, LE.rfl, ?_, _, _, rfl, rfl, rfl⟩
    subst hw'
    have hd : St E H L w.drew := hw.drew _
    refine (hd.alloc _).set (k := 0) (i := .obj _ _) (j := .row (.slice (some ⟨w.heap.size, 0, none⟩) 0 (grownCap w (0 + n) 0 72)) 72 3 0 []) rfl ?_ (fun x hx => .inl (by simpa [It.own, Value.ownBlock] using hx)) rfl rfl rfl (fun _ _ _ => rfl)
    refine ⟨rfl, .inr ⟨w.heap.size, _, _, rfl, Nat.zero_le _, (hd.alloc _).holds _ (List.mem_cons_self ..), Nat.zero_le _, hle, ?_, by simp⟩⟩
    have e25 : Tryz.grow66_ren.t 25 = 72 := rfl
    simp only [Array.size_append, size_zeroCells, hzs, List.size_toArray, List.length_nil, e25]
    omega
/-- Slices of slices of declarations. -/
def RCS (H : GH) (cs : List Value) (ds : List Dc) : Prop := ∃ A c, cs = [.slice A ds.length c] ∧ CS H A c ds
theorem rdc_one {H : GH} {ds : List Dc} : ∀ cs y, y ∈ ds → RDc H cs y → ∀ u ∈ cs, u.oneCell' = true := by
  intro cs y _ h u hu
  unfold RDc at h; subst h
  simp at hu; rcases hu with rfl | rfl | rfl <;> rfl
def lenS (dss : List (List Dc)) : Nat := (dss.map List.length).sum
theorem lenS_flat : ∀ dss : List (List Dc), dss.flatten.length = lenS dss
  | [] => rfl
  | d :: l => by simp [lenS, lenS_flat l]
theorem lenS_take {dss : List (List Dc)} {k : Nat} (h : k < dss.length) : lenS (dss.take (k + 1)) = lenS (dss.take k) + dss[k].length := by
  unfold lenS; rw [List.take_succ_eq_append_getElem h, List.map_append, List.sum_append]; simp
theorem lenS_le (dss : List (List Dc)) (k : Nat) : lenS (dss.take k) ≤ lenS dss := by
  rw [← lenS_flat, ← lenS_flat]
  conv => rhs; rw [← List.take_append_drop k dss, List.flatten_append, List.length_append]
  omega
theorem flat_take2 {dss : List (List Dc)} {k : Nat} (h : k < dss.length) : (dss.take (k + 1)).flatten = (dss.take k).flatten ++ dss[k] := by
  rw [List.take_succ_eq_append_getElem h, List.flatten_append]; simp

theorem Concat_ok (dss : List (List Dc)) (v : Value) (E : World) (H : GH) (L : List It) (hss : RS RCS 1 H v dss) (hb : lenS dss < 1000000000000) (hb2 : dss.length < 1000000000000) :
    Ok Tryz.prog 41 #[v] E H L fun r H' L' => ∃ B cp xs, r = .slice B dss.flatten.length cp ∧ H = H' ∧ L' = .row (.slice B dss.flatten.length cp) 72 3 dss.flatten.length xs :: L ∧ RowR RDc 3 H xs dss.flatten := by
  obtain ⟨A, c, rfl, hsc⟩ := id hss
  refine enter (N := 36) [(0, _)] Tryz.func41 rfl rfl rfl rfl fun a w h => ?_
  refine sq ?_
  refine rg0 ?_
  refine as_ h fun a w h => ?_
  refine nl0 ?_
  refine thN ?_
  refine sq ?_
  refine rg0 ?_
  refine as_ h fun a w h => ?_
  refine nl0 ?_
  refine thN ?_
  refine sq ?_
  refine sq ?_
  refine rg0 ?_
  refine mv h fun a w h => ?_
  refine ln sli120 h fun a w h => ?_
  refine mv h fun a w h => ?_
  refine nl0 ?_
  refine thN ?_
  refine blk ?_
  refine lp (β := Nat) (fun k a w => (k ≤ dss.length) ∧ S E H 36 [] [(11, .int .i64 (k : Int)), (10, .int .i64 (dss.length : Int)), (9, .slice A dss.length c), (0, .slice A dss.length c), (3, .int .i64 ((lenS (dss.take k) : Nat) : Int))] (L) a w)
    (fun k => dss.length - k) 0 ⟨Nat.zero_le _, h.to 0 _⟩ ?_
  rintro k a w ⟨pre, h⟩
  refine sq ?_
  refine rg0 ?_
  refine lt h fun a w h => ?_
  refine nl0 ?_
  refine thN ?_
  refine sq ?_
  refine cdB h (fun c12 => ?_) (fun c12 => ?_)
  · have c12 : k < dss.length := by simpa using c12
    obtain ⟨g, off, cs, rfl, hl, ⟨A2, c2, rfl, hds⟩, hcell⟩ := RS.at_ hss (List.getElem?_eq_getElem c12)
    have hts := lenS_take c12
    have hls := lenS_le dss (k + 1)
    refine sk_ ?_
    refine thN ?_
    refine sq ?_
    refine blk ?_
    refine sq ?_
    refine rg0 ?_
    refine ia sli120 sz25 rfl c12 h fun a w h => ?_
    refine ldH t1_25 (hcell 0 _ rfl) h fun a w h => ?_
    refine as_ h fun a w h => ?_
    refine nl0 ?_
    refine thN ?_
    refine sq ?_
    refine rg0 ?_
    refine mv h fun a w h => ?_
    refine mv h fun a w h => ?_
    refine ln sli25 h fun a w h => ?_
    refine adr ((lenS (dss.take (k + 1)) : Nat) : Int) ?_ h fun a w h => ?_
    · rw [w64 (by omega) (by omega)]; omega
    refine as_ h fun a w h => ?_
    refine nl0 ?_
    refine thN ?_
    refine sq ?_
    refine rg0 ?_
    refine mv h fun a w h => ?_
    refine lt h fun a w h => ?_
    refine nl0 ?_
    refine thN ?_
    refine cdB h (fun c20 => ?_) (fun c20 => ?_)
    · exact absurd (of_decide_eq_true c20) (by omega)
    · refine sk_ ?_
      refine ibN ?_
      refine thN ?_
      refine rg0 ?_
      refine inc ?_ h fun a w h => ?_
      · omega
      refine mv h fun a w h => ?_
      refine nl0 ?_
      refine thN ?_
      exact ⟨(k + 1), ⟨by omega, h.to 0 _⟩, by show _ - (k + 1) < _ - k; omega⟩
  · have hk : k = dss.length := by simp at c12; omega
    rw [hk, List.take_length] at h
    refine exit_ ?_
    refine thE ?_
    refine thE ?_
    refine ibH ?_
    refine thN ?_
    refine sq ?_
    refine rg0 ?_
    refine mv h fun a w h => ?_
    refine cl bod66 (grow_ok (lenS dss) hb E H _) h fun r24 H24 L24 a w le24 R h => ?_
    obtain ⟨A24, c24, rfl, rfl, rfl⟩ := R
    refine as_ h fun a w h => ?_
    refine nl0 ?_
    refine thN ?_
    refine sq ?_
    refine sq ?_
    refine rg0 ?_
    refine mv h fun a w h => ?_
    refine ln sli120 h fun a w h => ?_
    refine mv h fun a w h => ?_
    refine nl0 ?_
    refine thN ?_
    refine blk ?_
    refine lp (β := Nat × Option Addr × Nat × Nat × List Value) (fun x a w => match x with | (k, B, n, cp, xs) => (k ≤ dss.length ∧ n = lenS (dss.take k) ∧ RowR RDc 3 H xs (dss.take k).flatten) ∧ S E H 36 [] [(27, .int .i64 (k : Int)), (26, .int .i64 (dss.length : Int)), (25, .slice A dss.length c), (6, .slice B n cp)] (.row (.slice B n cp) 72 3 n xs :: L) a w)
      (fun x => match x with | (k, B, n, cp, xs) => dss.length - k) (0, A24, 0, c24, []) ⟨⟨Nat.zero_le _, rfl, RowR.nil⟩, h.to 0 _⟩ ?_
    rintro ⟨k, B, n, cp, xs⟩ a w ⟨pre, h⟩
    obtain ⟨hk, hn, hrow⟩ := pre
    refine sq ?_
    refine rg0 ?_
    refine lt h fun a w h => ?_
    refine nl0 ?_
    refine thN ?_
    refine sq ?_
    refine cdB h (fun c28 => ?_) (fun c28 => ?_)
    · have c28 : k < dss.length := by simpa using c28
      obtain ⟨g, off, cs, rfl, hl, ⟨A2, c2, rfl, hds⟩, hcell⟩ := RS.at_ hss (List.getElem?_eq_getElem c28)
      have hts := lenS_take c28
      have hls := lenS_le dss (k + 1)
      refine sk_ ?_
      refine thN ?_
      refine sq ?_
      refine blk ?_
      refine sq ?_
      refine rg0 ?_
      refine ia sli120 sz25 rfl c28 h fun a w h => ?_
      refine ldH t1_25 (hcell 0 _ rfl) h fun a w h => ?_
      refine as_ h fun a w h => ?_
      refine nl0 ?_
      refine thN ?_
      refine rg0 ?_
      refine mv h fun a w h => ?_
      refine mv h fun a w h => ?_
      refine aps 0 (L' := fun i => i :: _) row25 hds rdc_one h ?_ ?_ fun v33 news a w hone hnews h => ?_
      · omega
      · omega
      obtain ⟨B2, cp2, rfl⟩ := h.rowv 0
      have hr2 : RowR RDc 3 H (xs ++ news) (dss.take (k + 1)).flatten := by rw [flat_take2 c28]; exact hrow.app hnews
      refine as_ h fun a w h => ?_
      refine nl0 ?_
      refine ibN ?_
      refine thN ?_
      refine rg0 ?_
      refine inc ?_ h fun a w h => ?_
      · omega
      refine mv h fun a w h => ?_
      refine nl0 ?_
      refine thN ?_
      exact ⟨(k + 1, B2, _, cp2, _), ⟨⟨by omega, by rw [lenS_take c28, ← hn], hr2⟩, h.to 0 _⟩, by show _ - (k + 1) < _ - k; omega⟩
    · have hkk : k = dss.length := by simp at c28; omega
      rw [hkk, List.take_length] at hrow hn
      rw [← lenS_flat] at hn
      subst hn
      refine exit_ ?_
      refine thE ?_
      refine thE ?_
      refine ibH ?_
      refine thN ?_
      refine sq ?_
      refine rg0 ?_
      refine mv h fun a w h => ?_
      refine as_ h fun a w h => ?_
      refine nl0 ?_
      refine thN ?_
      refine ret_ ?_
      refine fin1 2 0 h LE.rfl ?_
      exact ⟨B, cp, xs, rfl, rfl, rfl, hrow⟩
end Go.Proofs.YtindlieilabgfaaGreatDoor
/- Walks: has, all, texts. -/
set_option linter.unusedVariables false
set_option linter.unusedSimpArgs false
set_option linter.unusedSectionVars false
set_option autoImplicit false
set_option relaxedAutoImplicit false
set_option maxRecDepth 10000
namespace Go.Proofs.YtindlieilabgfaaGreatDoor
open Go X
theorem contains_at {ss : List Bs} {s : Bs} {k : Nat} (hk : k < ss.length) (e : ss[k] = s) : ss.contains s = true := by
  rw [List.contains_iff_mem]; exact e ▸ List.getElem_mem hk
theorem contains_no {ss : List Bs} {s : Bs} (h : ∀ j (hj : j < ss.length), ss[j] ≠ s) : ss.contains s = false := by
  rw [Bool.eq_false_iff, ne_eq, List.contains_iff_mem]
  intro hm
  obtain ⟨j, hj, e⟩ := List.getElem_of_mem hm
  exact h j hj e
theorem all_at {α : Type} {p : α → Bool} {xs : List α} {k : Nat} (hk : k < xs.length) (e : p xs[k] = false) : xs.all p = false := by
  rw [List.all_eq_false]; exact ⟨_, List.getElem_mem hk, by simp [e]⟩
theorem all_yes {α : Type} {p : α → Bool} {xs : List α} (h : ∀ j (hj : j < xs.length), p xs[j] = true) : xs.all p = true := by
  rw [List.all_eq_true]
  intro x hx
  obtain ⟨j, hj, rfl⟩ := List.getElem_of_mem hx
  exact h j hj
theorem eq_at {α : Type} [DecidableEq α] {xs ys : List α} {k : Nat} (h1 : k < xs.length) (h2 : k < ys.length) (e : xs[k] ≠ ys[k]) : decide (xs = ys) = false := by
  rw [decide_eq_false_iff_not]; intro q; subst q; exact e rfl
theorem eq_yes {α : Type} [DecidableEq α] {xs ys : List α} (hl : xs.length = ys.length) (h : ∀ j (h1 : j < xs.length) (h2 : j < ys.length), xs[j] = ys[j]) : decide (xs = ys) = true := by
  rw [decide_eq_true_eq]; exact List.ext_getElem hl h
theorem eq_len {α : Type} [DecidableEq α] {xs ys : List α} (hl : xs.length ≠ ys.length) : decide (xs = ys) = false := by
  rw [decide_eq_false_iff_not]; intro q; subst q; exact hl rfl
theorem free_len {t : Tm} {ss : List Bs} (h : IsSet ss (t.fr none0)) : ss.length ≤ t.size := by
  have := sub_len (m := t.names) h.1 (fun x hx => fr_names t _ x ((h.2.1 x).1 hx)); rwa [names_len] at this
theorem upto {k j : Nat} (h : j < k + 1) : j < k ∨ j = k := by omega

theorem has_ok (ss : List Bs) (s : Bs) (A : Option Addr) (c : Nat) (E : World) (H : GH) (L : List It) (hs : SS H A c ss) (hb : ss.length < 4000000000000) : Ok Tryz.prog 32 #[.slice A ss.length c, str s] E H L fun r H' L' => r = .bool (ss.contains s) ∧ H = H' ∧ L = L' := by
  refine enter (N := 18) [(0, _), (1, _)] Tryz.func32 rfl rfl rfl rfl fun a w h => ?_
  refine sq ?_
  refine rg0 ?_
  refine as_ h fun a w h => ?_
  refine nl0 ?_
  refine thN ?_
  refine sq ?_
  refine sq ?_
  refine rg0 ?_
  refine as_ h fun a w h => ?_
  refine nl0 ?_
  refine thN ?_
  refine blk ?_
  have h2 : S E H 18 [] [(0, .slice A ss.length c), (1, str s), (5, .int .i64 (0 : Int))] (L) a w := h.to 0 _
  refine lp (β := Nat) (fun k a w => ((k ≤ ss.length) ∧ (∀ j (hj : j < ss.length), j < k → ss[j] ≠ s)) ∧ S E H 18 [] [(0, .slice A ss.length c), (1, str s), (5, .int .i64 (k : Int))] (L) a w)
    (fun k => ss.length - k) 0 ⟨⟨Nat.zero_le _, fun _ _ h => absurd h (by omega)⟩, h2⟩ ?_
  rintro k a w ⟨⟨hk, hi⟩, h⟩
  refine sq ?_
  refine sq ?_
  refine rg0 ?_
  refine mv h fun a w h => ?_
  refine mv h fun a w h => ?_
  refine ln sli58 h fun a w h => ?_
  refine lt h fun a w h => ?_
  refine nl0 ?_
  refine thN ?_
  refine cdB h (fun c9 => ?_) (fun c9 => ?_)
  · have d9 : k < ss.length := by first | (simpa using c9) | (simp at c9; omega)
    refine sk_ ?_
    refine thN ?_
    refine sq ?_
    refine blk ?_
    refine sq ?_
    refine rg0 ?_
    refine mv h fun a w h => ?_
    refine mv h fun a w h => ?_
    have hj14 : k < ss.length := by first | assumption | omega | (simp; done) | (simp; omega)
    obtain ⟨g14, o14, e14, hc14⟩ := SS.get hs hj14
    refine iaE sli58 sz9 rfl hj14 e14 h fun a w h => ?_
    refine ldH t1_9 (hc14) h fun a w h => ?_
    refine mv h fun a w h => ?_
    refine eqb h fun a w h => ?_
    refine nl0 ?_
    refine thN ?_
    refine cdB h (fun c17 => ?_) (fun c17 => ?_)
    · have d17 : ss[k] = s := by first | (simpa using c17) | (simp at c17; omega)
      refine sq ?_
      refine rg0 ?_
      refine as_ h fun a w h => ?_
      refine nl0 ?_
      refine thN ?_
      refine ret_ ?_
      refine ibR ?_
      refine thR ?_
      refine thR ?_
      refine ibR ?_
      refine thR ?_
      refine fin1 4 0 h LE.rfl ?_
      exact ⟨by rw [contains_at hj14 d17], rfl, rfl⟩
    · have d17 : ss[k] ≠ s := by first | (simpa using c17) | (simp at c17; omega)
      refine sk_ ?_
      refine ibN ?_
      refine thN ?_
      refine rg0 ?_
      refine mv h fun a w h => ?_
      refine inc ?_ h fun a w h => ?_
      · omega
      refine as_ h fun a w h => ?_
      refine nl0 ?_
      refine thN ?_
      have h2 : S E H 18 [] [(0, .slice A ss.length c), (1, str s), (5, .int .i64 ((k + 1) : Int))] (L) a w := h.to 0 _
      exact ⟨(k + 1), ⟨⟨by omega, fun j hj h0 => by rcases upto h0 with h0 | rfl; exact hi j hj h0; exact d17⟩, h2⟩, by show _ - (k + 1) < _ - k; omega⟩
  · have d9 : ss.length ≤ k := by first | (simpa using c9) | (simp at c9; omega)
    refine exit_ ?_
    refine thE ?_
    refine thE ?_
    refine ibH ?_
    refine thN ?_
    refine sq ?_
    refine rg0 ?_
    refine as_ h fun a w h => ?_
    refine nl0 ?_
    refine thN ?_
    refine ret_ ?_
    refine fin1 4 0 h LE.rfl ?_
    exact ⟨by rw [contains_no fun j hj => hi j hj (by omega)], rfl, rfl⟩

theorem all_ok (ss ms : List Bs) (A A' : Option Addr) (c c' : Nat) (E : World) (H : GH) (L : List It) (hs : SS H A c ss) (hm : SS H A' c' ms) (hb : ss.length < 4000000000000) (hb' : ms.length < 4000000000000) : Ok Tryz.prog 33 #[.slice A ss.length c, .slice A' ms.length c'] E H L fun r H' L' => r = .bool (ss.all ms.contains) ∧ H = H' ∧ L = L' := by
  refine enter (N := 19) [(0, _), (1, _)] Tryz.func33 rfl rfl rfl rfl fun a w h => ?_
  refine sq ?_
  refine rg0 ?_
  refine as_ h fun a w h => ?_
  refine nl0 ?_
  refine thN ?_
  refine sq ?_
  refine sq ?_
  refine rg0 ?_
  refine as_ h fun a w h => ?_
  refine nl0 ?_
  refine thN ?_
  refine blk ?_
  have h2 : S E H 19 [] [(0, .slice A ss.length c), (1, .slice A' ms.length c'), (5, .int .i64 (0 : Int))] (L) a w := h.to 0 _
  refine lp (β := Nat) (fun k a w => ((k ≤ ss.length) ∧ (∀ j (hj : j < ss.length), j < k → ms.contains ss[j] = true)) ∧ S E H 19 [] [(0, .slice A ss.length c), (1, .slice A' ms.length c'), (5, .int .i64 (k : Int))] (L) a w)
    (fun k => ss.length - k) 0 ⟨⟨Nat.zero_le _, fun _ _ h => absurd h (by omega)⟩, h2⟩ ?_
  rintro k a w ⟨⟨hk, hi⟩, h⟩
  refine sq ?_
  refine sq ?_
  refine rg0 ?_
  refine mv h fun a w h => ?_
  refine mv h fun a w h => ?_
  refine ln sli58 h fun a w h => ?_
  refine lt h fun a w h => ?_
  refine nl0 ?_
  refine thN ?_
  refine cdB h (fun c9 => ?_) (fun c9 => ?_)
  · have d9 : k < ss.length := by first | (simpa using c9) | (simp at c9; omega)
    refine sk_ ?_
    refine thN ?_
    refine sq ?_
    refine blk ?_
    refine sq ?_
    refine rg0 ?_
    refine mv h fun a w h => ?_
    refine mv h fun a w h => ?_
    refine mv h fun a w h => ?_
    have hj15 : k < ss.length := by first | assumption | omega | (simp; done) | (simp; omega)
    obtain ⟨g15, o15, e15, hc15⟩ := SS.get hs hj15
    refine iaE sli58 sz9 rfl hj15 e15 h fun a w h => ?_
    refine ldH t1_9 (hc15) h fun a w h => ?_
    refine cl bod32 (has_ok ms ss[k] _ _ E H _ hm (by first | assumption | omega)) h (fun r17 H17 L17 a w le17 R h => ?_)
    obtain ⟨rfl, rfl, rfl⟩ := R
    refine nt h fun a w h => ?_
    refine nl0 ?_
    refine thN ?_
    refine cdB h (fun c18 => ?_) (fun c18 => ?_)
    · have d18 : (ms.contains ss[k]) = false := by first | (simpa using c18) | (simp at c18; omega)
      refine sq ?_
      refine rg0 ?_
      refine as_ h fun a w h => ?_
      refine nl0 ?_
      refine thN ?_
      refine ret_ ?_
      refine ibR ?_
      refine thR ?_
      refine thR ?_
      refine ibR ?_
      refine thR ?_
      refine fin1 4 0 h LE.rfl ?_
      exact ⟨by rw [all_at hj15 d18], rfl, rfl⟩
    · have d18 : (ms.contains ss[k]) = true := by first | (simpa using c18) | (simp at c18; omega)
      refine sk_ ?_
      refine ibN ?_
      refine thN ?_
      refine rg0 ?_
      refine mv h fun a w h => ?_
      refine inc ?_ h fun a w h => ?_
      · omega
      refine as_ h fun a w h => ?_
      refine nl0 ?_
      refine thN ?_
      have h2 : S E H 19 [] [(0, .slice A ss.length c), (1, .slice A' ms.length c'), (5, .int .i64 ((k + 1) : Int))] (L) a w := h.to 0 _
      exact ⟨(k + 1), ⟨⟨by omega, fun j hj h0 => by rcases upto h0 with h0 | rfl; exact hi j hj h0; exact d18⟩, h2⟩, by show _ - (k + 1) < _ - k; omega⟩
  · have d9 : ss.length ≤ k := by first | (simpa using c9) | (simp at c9; omega)
    refine exit_ ?_
    refine thE ?_
    refine thE ?_
    refine ibH ?_
    refine thN ?_
    refine sq ?_
    refine rg0 ?_
    refine as_ h fun a w h => ?_
    refine nl0 ?_
    refine thN ?_
    refine ret_ ?_
    refine fin1 4 0 h LE.rfl ?_
    exact ⟨by rw [all_yes fun j hj => hi j hj (by omega)], rfl, rfl⟩

theorem texts_ok (ss ms : List Bs) (A A' : Option Addr) (c c' : Nat) (E : World) (H : GH) (L : List It) (hs : SS H A c ss) (hm : SS H A' c' ms) (hb : ss.length < 1000000000000) : Ok Tryz.prog 26 #[.slice A ss.length c, .slice A' ms.length c'] E H L fun r H' L' => r = .bool (decide (ss = ms)) ∧ H = H' ∧ L = L' := by
  refine enter (N := 26) [(0, _), (1, _)] Tryz.func26 rfl rfl rfl rfl fun a w h => ?_
  refine sq ?_
  refine rg0 ?_
  refine as_ h fun a w h => ?_
  refine nl0 ?_
  refine thN ?_
  refine sq ?_
  refine sq ?_
  refine rg0 ?_
  refine mv h fun a w h => ?_
  refine ln sli58 h fun a w h => ?_
  refine mv h fun a w h => ?_
  refine ln sli58 h fun a w h => ?_
  refine nei h fun a w h => ?_
  refine nl0 ?_
  refine thN ?_
  refine cdB h (fun c10 => ?_) (fun c10 => ?_)
  · have d10 : ss.length ≠ ms.length := by first | (simpa using c10) | (simp at c10; omega)
    refine sq ?_
    refine rg0 ?_
    refine as_ h fun a w h => ?_
    refine nl0 ?_
    refine thN ?_
    refine ret_ ?_
    refine thR ?_
    refine fin1 4 0 h LE.rfl ?_
    exact ⟨by rw [eq_len d10], rfl, rfl⟩
  · have d10 : ss.length = ms.length := by first | (simpa using c10) | (simp at c10; omega)
    refine sk_ ?_
    refine thN ?_
    refine sq ?_
    refine sq ?_
    refine rg0 ?_
    refine as_ h fun a w h => ?_
    refine nl0 ?_
    refine thN ?_
    refine blk ?_
    have h2 : S E H 26 [] [(0, .slice A ss.length c), (1, .slice A' ms.length c'), (5, .int .i64 (0 : Int))] (L) a w := h.to 0 _
    refine lp (β := Nat) (fun k a w => ((k ≤ ss.length) ∧ (∀ j (h1 : j < ss.length) (h2 : j < ms.length), j < k → ss[j] = ms[j])) ∧ S E H 26 [] [(0, .slice A ss.length c), (1, .slice A' ms.length c'), (5, .int .i64 (k : Int))] (L) a w)
      (fun k => ss.length - k) 0 ⟨⟨Nat.zero_le _, fun _ _ _ h => absurd h (by omega)⟩, h2⟩ ?_
    rintro k a w ⟨⟨hk, hi⟩, h⟩
    refine sq ?_
    refine sq ?_
    refine rg0 ?_
    refine mv h fun a w h => ?_
    refine mv h fun a w h => ?_
    refine ln sli58 h fun a w h => ?_
    refine lt h fun a w h => ?_
    refine nl0 ?_
    refine thN ?_
    refine cdB h (fun c14 => ?_) (fun c14 => ?_)
    · have d14 : k < ss.length := by first | (simpa using c14) | (simp at c14; omega)
      refine sk_ ?_
      refine thN ?_
      refine sq ?_
      refine blk ?_
      refine sq ?_
      refine rgd [] [] [] [3, 7] 1 mix (by kernel_rfl) h (fun a w h => ?_)
      refine mv h fun a w h => ?_
      refine mv h fun a w h => ?_
      have hj19 : k < ss.length := by first | assumption | omega | (simp; done) | (simp; omega)
      obtain ⟨g19, o19, e19, hc19⟩ := SS.get hs hj19
      refine iaE sli58 sz9 rfl hj19 e19 h fun a w h => ?_
      refine ldHD t1_9 (hc19) h fun a w h => ?_
      refine mv h fun a w h => ?_
      refine mv h fun a w h => ?_
      have hj23 : k < ms.length := by first | assumption | omega | (simp; done) | (simp; omega)
      obtain ⟨g23, o23, e23, hc23⟩ := SS.get hm hj23
      refine iaE sli58 sz9 rfl hj23 e23 h fun a w h => ?_
      refine ldHD t1_9 (hc23) h fun a w h => ?_
      refine neb h fun a w h => ?_
      refine nl0 ?_
      refine thN ?_
      refine cdB h (fun c25 => ?_) (fun c25 => ?_)
      · have d25 : ss[k] ≠ ms[k] := by first | (simpa using c25) | (simp at c25; omega)
        refine sq ?_
        refine rg0 ?_
        refine as_ h fun a w h => ?_
        refine nl0 ?_
        refine thN ?_
        refine ret_ ?_
        refine ibR ?_
        refine thR ?_
        refine thR ?_
        refine ibR ?_
        refine thR ?_
        refine fin1 4 0 h LE.rfl ?_
        exact ⟨by rw [eq_at hj19 hj23 d25], rfl, rfl⟩
      · have d25 : ss[k] = ms[k] := by first | (simpa using c25) | (simp at c25; omega)
        refine sk_ ?_
        refine ibN ?_
        refine thN ?_
        refine rg0 ?_
        refine mv h fun a w h => ?_
        refine inc ?_ h fun a w h => ?_
        · omega
        refine as_ h fun a w h => ?_
        refine nl0 ?_
        refine thN ?_
        have h2 : S E H 26 [] [(0, .slice A ss.length c), (1, .slice A' ms.length c'), (5, .int .i64 ((k + 1) : Int))] (L) a w := h.to 0 _
        exact ⟨(k + 1), ⟨⟨by omega, fun j h1 h2 h0 => by rcases upto h0 with h0 | rfl; exact hi j h1 h2 h0; exact d25⟩, h2⟩, by show _ - (k + 1) < _ - k; omega⟩
    · have d14 : ss.length ≤ k := by first | (simpa using c14) | (simp at c14; omega)
      refine exit_ ?_
      refine thE ?_
      refine thE ?_
      refine ibH ?_
      refine thN ?_
      refine sq ?_
      refine rg0 ?_
      refine as_ h fun a w h => ?_
      refine nl0 ?_
      refine thN ?_
      refine ret_ ?_
      refine fin1 4 0 h LE.rfl ?_
      exact ⟨by rw [eq_yes d10 fun j h1 h2 => hi j h1 h2 (by omega)], rfl, rfl⟩

end Go.Proofs.YtindlieilabgfaaGreatDoor
/- Laws of renaming, plainly. -/
set_option linter.unusedVariables false
set_option linter.unusedSectionVars false
set_option linter.unusedSimpArgs false
set_option autoImplicit false
set_option relaxedAutoImplicit false
namespace Go.Proofs.YtindlieilabgfaaGreatDoor
open Go X

/-- Does a text begin with a digit? -/
def numB : Bs → Bool
  | [] => false
  | c :: _ => decide (48 ≤ c.toNat) && decide (c.toNat ≤ 57)
theorem numB_dec (u : Nat) : ∃ c l, Lib.decDigits u = c :: l ∧ numB (Lib.decDigits u) = true := by
  induction u using Nat.strongRecOn with
  | _ u ih =>
    rw [Lib.decDigits]
    split
    · rename_i h
      refine ⟨_, _, rfl, ?_⟩
      have : (UInt8.ofNat (48 + u)).toNat = 48 + u := by simp [UInt8.toNat_ofNat']; omega
      simp [numB, this]; omega
    · rename_i h
      obtain ⟨c, l, e, hn⟩ := ih (u / 10) (by omega)
      rw [e] at hn ⊢
      exact ⟨c, _, rfl, hn⟩
theorem numB_itoa {n : Int} (h : 0 ≤ n) : numB (Lib.itoa n) = true := by
  unfold Lib.itoa
  rw [if_neg (by omega)]
  obtain ⟨_, _, _, hn⟩ := numB_dec n.toNat
  exact hn
/-- The numbers' bound. -/
def Fit (n : Int) (c : Nat) : Prop := 0 ≤ n ∧ n + c ≤ 4611686018427387904
theorem nx_fit {n : Int} {c : Nat} (h : Fit n (c + 1)) : nx n = n + 1 := by
  obtain ⟨h1, h2⟩ := h
  unfold nx
  exact w64 (by omega) (by omega)
theorem bnd2 {k : Int} (h : bnd k = true) : (k == 2) = false := by
  unfold bnd at h
  rcases Bool.or_eq_true _ _ ▸ h with h | h
  · rw [eq_of_beq h]; rfl
  · rcases Bool.or_eq_true _ _ ▸ h with h | h <;> rw [eq_of_beq h] <;> rfl
mutual
theorem ren_depth : ∀ (t : Tm) (σ : Bs → Option Bs) (n : Int), (t.ren σ n).1.depth = t.depth
  | .mk k s m ks, σ, n => by simp only [Tm.ren, Tm.depth, renL_depth]
theorem renL_depth (bd : Bool) (s s' : Bs) : ∀ (l : List Tm) (σ : Bs → Option Bs) (n : Int), depthL (renL bd s s' l σ n).1 = depthL l
  | [], _, _ => rfl
  | t :: l, σ, n => by simp only [renL, depthL, ren_depth t, renL_depth bd s s' l]
end
mutual
theorem ren_cnt : ∀ (t : Tm) (σ : Bs → Option Bs) (n : Int), (t.ren σ n).1.count = t.count
  | .mk k s m ks, σ, n => by simp only [Tm.ren, Tm.count, renL_cnt]
theorem renL_cnt (bd : Bool) (s s' : Bs) : ∀ (l : List Tm) (σ : Bs → Option Bs) (n : Int), countL (renL bd s s' l σ n).1 = countL l
  | [], _, _ => rfl
  | t :: l, σ, n => by simp only [renL, countL, ren_cnt t, renL_cnt bd s s' l]
end
mutual
theorem ren_num : ∀ (t : Tm) (σ : Bs → Option Bs) (n : Int), Fit n t.count → (t.ren σ n).2 = n + t.count
  | .mk k s m ks, σ, n, h => by
    simp only [Tm.ren]
    simp only [Tm.count] at h
    by_cases hb : bnd k = true
    · rw [if_pos hb] at h ⊢
      have e := nx_fit (n := n) (c := countL ks) (by unfold Fit at *; omega)
      rw [e]
      rw [renL_num _ _ _ ks σ (n + 1) (by unfold Fit at *; omega)]
      simp only [Tm.count, if_pos hb]; omega
    · rw [if_neg hb] at h ⊢
      rw [renL_num _ _ _ ks σ n (by unfold Fit at *; omega)]
      simp only [Tm.count, if_neg hb]; omega
theorem renL_num (bd : Bool) (s s' : Bs) : ∀ (l : List Tm) (σ : Bs → Option Bs) (n : Int), Fit n (countL l) → (renL bd s s' l σ n).2 = n + countL l
  | [], _, n, _ => by simp [renL, countL]
  | t :: l, σ, n, h => by
    simp only [countL] at h
    simp only [renL]
    have e := ren_num t (if (bd && l.isEmpty) = true then updS σ s s' else σ) n (by unfold Fit at *; omega)
    rw [e, renL_num bd s s' l σ (n + t.count) (by unfold Fit at *; omega)]
    simp only [countL]; omega
end
theorem renL_empty (bd : Bool) (s s' : Bs) (l : List Tm) (σ : Bs → Option Bs) (n : Int) : (renL bd s s' l σ n).1.isEmpty = l.isEmpty := by
  cases l <;> simp [renL]
/-- How a renaming and what is bound, here and there, go together. -/
def Rel (σ : Bs → Option Bs) (b b' : Bs → Nat) : Prop := ∀ s, numB s = false → (σ s = none → b s = 0 ∧ b' s = 0) ∧ (∀ s', σ s = some s' → 0 < b s ∧ 0 < b' s')
theorem Rel.bind {σ : Bs → Option Bs} {b b' : Bs → Nat} (h : Rel σ b b') {s s' : Bs} (hs' : numB s' = true) : Rel (updS σ s s') (inc1 b s) (inc1 b' s') := by
  intro r hr
  obtain ⟨h1, h2⟩ := h r hr
  unfold updS inc1
  by_cases e : r = s
  · subst e
    refine ⟨fun h0 => by simp at h0, fun q hq => ?_⟩
    simp at hq; subst hq; simp
  · rw [if_neg e]
    refine ⟨fun h0 => ?_, fun q hq => ?_⟩
    · have hne : r ≠ s' := fun q => by rw [q, hs'] at hr; cases hr
      rw [if_neg e, if_neg hne]; exact h1 h0
    · rw [if_neg e]; have := h2 q hq; split <;> omega
mutual
theorem fr_ren : ∀ (t : Tm) (σ : Bs → Option Bs) (n : Int) (b b' : Bs → Nat) (x : Bs), Fit n t.count → (∀ s ∈ t.names, numB s = false) → Rel σ b b' → (∀ s s', σ s = some s' → numB s' = true) → (t.ren σ n).1.fr b' x = t.fr b x
  | .mk k s m ks, σ, n, b, b', x, hf, hn, hr, hσ => by
    have hs : numB s = false := hn s (by simp [Tm.names])
    have hks : ∀ r ∈ namesL ks, numB r = false := fun r h => hn r (by simp [Tm.names, h])
    simp only [Tm.ren, Tm.fr]
    simp only [Tm.count] at hf
    congr 1
    · by_cases h2 : (k == 2) = true
      · have hb : bnd k = false := by
          cases hb : bnd k with
          | false => rfl
          | true => rw [bnd2 hb] at h2; cases h2
        rw [h2, renN, hb, h2]
        simp only [Bool.false_eq_true, if_false, if_true, Bool.true_and]
        obtain ⟨h3, h4⟩ := hr s hs
        cases he : σ s with
        | none =>
          obtain ⟨e1, e2⟩ := h3 he
          simp [e1, e2]
        | some s' =>
          obtain ⟨e1, e2⟩ := h4 s' he
          simp only [Option.getD_some]
          rw [show decide (b' s' = 0) = false by simp; omega, show decide (b s = 0) = false by simp; omega]; rfl
      · have h2 : (k == 2) = false := by simpa using h2
        rw [h2]; rfl
    · by_cases hb : bnd k = true
      · rw [if_pos hb] at hf ⊢
        have hs' : numB (renN k s σ n) = true := by rw [renN, if_pos hb]; exact numB_itoa hf.1
        have e := nx_fit (n := n) (c := countL ks) (by unfold Fit at *; omega)
        rw [e]
        exact frL_ren (bnd k) s (renN k s σ n) ks σ (n + 1) b b' x (by unfold Fit at *; omega) hks hr hσ (fun _ => hs')
      · rw [if_neg hb] at hf ⊢
        exact frL_ren (bnd k) s (renN k s σ n) ks σ n b b' x (by unfold Fit at *; omega) hks hr hσ (fun h => absurd h hb)
theorem frL_ren (bd : Bool) (s s' : Bs) : ∀ (l : List Tm) (σ : Bs → Option Bs) (n : Int) (b b' : Bs → Nat) (x : Bs), Fit n (countL l) → (∀ r ∈ namesL l, numB r = false) → Rel σ b b' → (∀ s s', σ s = some s' → numB s' = true) → (bd = true → numB s' = true) → frL bd s' (renL bd s s' l σ n).1 b' x = frL bd s l b x
  | [], _, _, _, _, _, _, _, _, _, _ => rfl
  | t :: l, σ, n, b, b', x, hf, hn, hr, hσ, hbd => by
    simp only [countL] at hf
    simp only [renL, frL, renL_empty]
    have hnt : ∀ r ∈ t.names, numB r = false := fun r h => hn r (by simp [namesL, h])
    have hnl : ∀ r ∈ namesL l, numB r = false := fun r h => hn r (by simp [namesL, h])
    have ft : Fit n t.count := by unfold Fit at *; omega
    have e := ren_num t (if (bd && l.isEmpty) = true then updS σ s s' else σ) n ft
    rw [e]
    congr 1
    · by_cases hc : (bd && l.isEmpty) = true
      · rw [if_pos hc, if_pos hc, if_pos hc]
        have hs' := hbd (by simp at hc; exact hc.1)
        refine fr_ren t _ n _ _ x ft hnt (hr.bind hs') fun r r' h => ?_
        unfold updS at h
        split at h
        · cases h; exact hs'
        · exact hσ r r' h
      · rw [if_neg hc, if_neg hc, if_neg hc]
        exact fr_ren t σ n b b' x ft hnt hr hσ
    · exact frL_ren bd s s' l σ (n + t.count) b b' x (by unfold Fit at *; omega) hnl hr hσ hbd
end
theorem rel0 : Rel (fun _ => none) none0 none0 := fun s _ => ⟨fun _ => ⟨rfl, rfl⟩, fun s' h => by cases h⟩
/-- What is renamed has the free names that it had. -/
theorem free_ren {t : Tm} {n : Int} (hf : Fit n t.count) (hn : ∀ s ∈ t.names, numB s = false) {ss ts : List Bs} (hs : IsSet ss ((t.ren (fun _ => none) n).1.fr none0)) (ht : IsSet ts (t.fr none0)) : ss = ts := by
  have e : (t.ren (fun _ => none) n).1.fr none0 = t.fr none0 := funext fun x => fr_ren t _ n none0 none0 x hf hn rel0 (fun _ _ h => by cases h)
  rw [e] at hs
  exact isSet_uniq hs ht
/-- How two renamings one behind the other go together. -/
def Rel2 (σ τ : Bs → Option Bs) : Prop := ∀ s, numB s = false → (σ s = none → τ s = none) ∧ (∀ s', σ s = some s' → τ s' = some s')
theorem Rel2.bind {σ τ : Bs → Option Bs} (h : Rel2 σ τ) {s s' : Bs} (hs' : numB s' = true) (hσ : ∀ r r', σ r = some r' → numB r' = true) : Rel2 (updS σ s s') (updS τ s' s') := by
  intro r hr
  obtain ⟨h1, h2⟩ := h r hr
  unfold updS
  by_cases e : r = s
  · subst e
    refine ⟨fun h0 => by simp at h0, fun q hq => ?_⟩
    simp at hq; subst hq; simp
  · rw [if_neg e]
    refine ⟨fun h0 => ?_, fun q hq => ?_⟩
    · have hne : r ≠ s' := fun q => by rw [q, hs'] at hr; cases hr
      rw [if_neg hne]; exact h1 h0
    · by_cases e2 : q = s'
      · rw [if_pos e2, e2]
      · rw [if_neg e2]; exact h2 q hq
theorem updS_num {σ : Bs → Option Bs} {s s' : Bs} (hs' : numB s' = true) (hσ : ∀ r r', σ r = some r' → numB r' = true) : ∀ r r', updS σ s s' r = some r' → numB r' = true := fun r r' h => by
  unfold updS at h
  split at h
  · cases h; exact hs'
  · exact hσ r r' h
mutual
theorem ren_ren : ∀ (t : Tm) (σ τ : Bs → Option Bs) (n : Int), Fit n t.count → (∀ s ∈ t.names, numB s = false) → Rel2 σ τ → (∀ s s', σ s = some s' → numB s' = true) → (t.ren σ n).1.ren τ n = t.ren σ n
  | .mk k s m ks, σ, τ, n, hf, hn, hr, hσ => by
    have hs : numB s = false := hn s (by simp [Tm.names])
    have hks : ∀ r ∈ namesL ks, numB r = false := fun r h => hn r (by simp [Tm.names, h])
    simp only [Tm.ren]
    simp only [Tm.count] at hf
    have hN : renN k (renN k s σ n) τ n = renN k s σ n := by
      unfold renN
      by_cases hb : bnd k = true
      · rw [if_pos hb, if_pos hb]
      · rw [if_neg hb, if_neg hb]
        by_cases h2 : (k == 2) = true
        · rw [if_pos h2, if_pos h2]
          obtain ⟨h3, h4⟩ := hr s hs
          cases he : σ s with
          | none => simp [h3 he]
          | some s' => simp [h4 s' he]
        · rw [if_neg h2, if_neg h2]
    have key : ∀ n1, Fit n1 (countL ks) → renL (bnd k) (renN k s σ n) (renN k (renN k s σ n) τ n) (renL (bnd k) s (renN k s σ n) ks σ n1).1 τ n1 = renL (bnd k) s (renN k s σ n) ks σ n1 := fun n1 hf1 => by
      rw [hN]
      exact renL_ren (bnd k) s (renN k s σ n) ks σ τ n1 hf1 hks hr hσ (fun hb => by rw [renN, if_pos hb]; exact numB_itoa hf.1)
    by_cases hb : bnd k = true
    · rw [if_pos hb] at hf ⊢
      have e := nx_fit (n := n) (c := countL ks) (by unfold Fit at *; omega)
      rw [key (nx n) (by rw [e]; unfold Fit at *; omega), hN]
    · rw [if_neg hb] at hf ⊢
      rw [key n (by unfold Fit at *; omega), hN]
theorem renL_ren (bd : Bool) (s s' : Bs) : ∀ (l : List Tm) (σ τ : Bs → Option Bs) (n : Int), Fit n (countL l) → (∀ r ∈ namesL l, numB r = false) → Rel2 σ τ → (∀ s s', σ s = some s' → numB s' = true) → (bd = true → numB s' = true) → renL bd s' s' (renL bd s s' l σ n).1 τ n = renL bd s s' l σ n
  | [], _, _, _, _, _, _, _, _ => rfl
  | t :: l, σ, τ, n, hf, hn, hr, hσ, hbd => by
    simp only [countL] at hf
    have hnt : ∀ r ∈ t.names, numB r = false := fun r h => hn r (by simp [namesL, h])
    have hnl : ∀ r ∈ namesL l, numB r = false := fun r h => hn r (by simp [namesL, h])
    have ft : Fit n t.count := by unfold Fit at *; omega
    have e := ren_num t (if (bd && l.isEmpty) = true then updS σ s s' else σ) n ft
    have h1 : (t.ren (if (bd && l.isEmpty) = true then updS σ s s' else σ) n).1.ren (if (bd && l.isEmpty) = true then updS τ s' s' else τ) n = t.ren (if (bd && l.isEmpty) = true then updS σ s s' else σ) n := by
      by_cases hc : (bd && l.isEmpty) = true
      · rw [if_pos hc, if_pos hc]
        have hs' := hbd (by simp at hc; exact hc.1)
        exact ren_ren t _ _ n ft hnt (hr.bind hs' hσ) (updS_num hs' hσ)
      · rw [if_neg hc, if_neg hc]
        exact ren_ren t σ τ n ft hnt hr hσ
    have h2 := renL_ren bd s s' l σ τ (n + t.count) (by unfold Fit at *; omega) hnl hr hσ hbd
    simp only [renL, renL_empty]
    rw [h1, e, h2]
end
theorem rel20 : Rel2 (fun _ => none) (fun _ => none) := fun s _ => ⟨fun _ => rfl, fun s' h => by cases h⟩
/-- Renamed again from the same number it is the same. -/
theorem ren_again {t : Tm} {n : Int} (hf : Fit n t.count) (hn : ∀ s ∈ t.names, numB s = false) : (t.ren (fun _ => none) n).1.ren (fun _ => none) n = t.ren (fun _ => none) n :=
  ren_ren t _ _ n hf hn rel20 (fun _ _ h => by cases h)
mutual
theorem ren_long : ∀ (t : Tm) (σ : Bs → Option Bs) (n : Int) (B : Nat), In64 n → 21 ≤ B → t.long ≤ B → (∀ s s', σ s = some s' → s'.length ≤ B) → (t.ren σ n).1.long ≤ B
  | .mk k s m ks, σ, n, B, h0, hB, ht, hσ => by
    simp only [Tm.long] at ht
    simp only [Tm.ren, Tm.long]
    have h1 : (renN k s σ n).length ≤ B := by
      unfold renN
      split
      · have := Lib.itoa_length_le n h0.1 h0.2; omega
      · split
        · cases he : σ s with
          | none => simp; omega
          | some s' => simpa using hσ s s' he
        · omega
    have h2 := renL_long (bnd k) s (renN k s σ n) ks σ (if bnd k = true then nx n else n) B (by split; exact nx_in n; exact h0) hB (by omega) hσ h1
    omega
theorem renL_long (bd : Bool) (s s' : Bs) : ∀ (l : List Tm) (σ : Bs → Option Bs) (n : Int) (B : Nat), In64 n → 21 ≤ B → longL l ≤ B → (∀ s s', σ s = some s' → s'.length ≤ B) → s'.length ≤ B → longL (renL bd s s' l σ n).1 ≤ B
  | [], _, _, _, _, _, _, _, _ => by simp [renL, longL]
  | t :: l, σ, n, B, h0, hB, hl, hσ, hs' => by
    simp only [longL] at hl
    simp only [renL, longL]
    have h1 : ∀ r r', (if (bd && l.isEmpty) = true then updS σ s s' else σ) r = some r' → r'.length ≤ B := by
      intro r r' h
      split at h
      · unfold updS at h
        split at h
        · cases h; exact hs'
        · exact hσ r r' h
      · exact hσ r r' h
    have h2 := ren_long t _ n B h0 hB (by omega) h1
    have h3 := renL_long bd s s' l σ _ B (ren_in t (if (bd && l.isEmpty) = true then updS σ s s' else σ) n h0) hB (by omega) hσ hs'
    omega
end
end Go.Proofs.YtindlieilabgfaaGreatDoor
/- The names that a term binds, in their order. -/
set_option linter.unusedVariables false
set_option linter.unusedSectionVars false
set_option linter.unusedSimpArgs false
set_option autoImplicit false
set_option relaxedAutoImplicit false
namespace Go.Proofs.YtindlieilabgfaaGreatDoor
open Go X
mutual
def Tm.bs : Tm → List Bs
  | .mk k s _ ks => (if bnd k then [s] else []) ++ bsL ks
def bsL : List Tm → List Bs
  | [] => []
  | t :: l => t.bs ++ bsL l
end
theorem bsL_append (l m : List Tm) : bsL (l ++ m) = bsL l ++ bsL m := by
  induction l with
  | nil => rfl
  | cons t l ih => simp only [List.cons_append, bsL, ih, List.append_assoc]
theorem take_bs {ks : List Tm} {k : Nat} (h : k < ks.length) : bsL (ks.take (k + 1)) = bsL (ks.take k) ++ ks[k].bs := by
  rw [List.take_succ_eq_append_getElem h, bsL_append]; simp [bsL]
mutual
theorem bs_len : ∀ t : Tm, t.bs.length = t.count
  | .mk k s _ ks => by simp only [Tm.bs, Tm.count, List.length_append, bsL_len ks]; split <;> rfl
theorem bsL_len : ∀ l : List Tm, (bsL l).length = countL l
  | [] => rfl
  | t :: l => by simp only [bsL, countL, List.length_append, bs_len t, bsL_len l]
end
theorem bs_bound {kd : Int} {nm : Bs} {ks : List Tm} {k : Nat} (h : k < ks.length) : (((if bnd kd then [nm] else []) ++ bsL (ks.take k)) ++ ks[k].bs).length ≤ 1 + sizeL ks := by
  have h1 := bsL_len (ks.take (k + 1))
  rw [take_bs h, List.length_append] at h1
  have h2 := countL_le (ks.take (k + 1))
  have h3 := size_take_le ks (k + 1)
  simp only [List.length_append]
  split <;> simp <;> omega
theorem dec_inj : ∀ (u v : Nat), Lib.decDigits u = Lib.decDigits v → u = v := by
  intro u
  induction u using Nat.strongRecOn with
  | _ u ih =>
    intro v h
    have key : ∀ a b : Nat, a < 10 → b < 10 → UInt8.ofNat (48 + a) = UInt8.ofNat (48 + b) → a = b := by
      intro a b ha hb e
      have := congrArg UInt8.toNat e
      simp [UInt8.toNat_ofNat'] at this; omega
    by_cases hu : u < 10
    · by_cases hv : v < 10
      · rw [Lib.decDigits, dif_pos hu, Lib.decDigits, dif_pos hv] at h
        exact key u v hu hv (by simpa using h)
      · rw [Lib.decDigits, dif_pos hu] at h
        rw [show Lib.decDigits v = Lib.decDigits (v / 10) ++ [UInt8.ofNat (48 + v % 10)] by rw [Lib.decDigits, dif_neg hv]] at h
        obtain ⟨c, l, e, _⟩ := numB_dec (v / 10)
        rw [e] at h; simp at h
    · by_cases hv : v < 10
      · rw [show Lib.decDigits v = [UInt8.ofNat (48 + v)] by rw [Lib.decDigits, dif_pos hv]] at h
        rw [show Lib.decDigits u = Lib.decDigits (u / 10) ++ [UInt8.ofNat (48 + u % 10)] by rw [Lib.decDigits, dif_neg hu]] at h
        obtain ⟨c, l, e, _⟩ := numB_dec (u / 10)
        rw [e] at h; simp at h
      · rw [show Lib.decDigits v = Lib.decDigits (v / 10) ++ [UInt8.ofNat (48 + v % 10)] by rw [Lib.decDigits, dif_neg hv], show Lib.decDigits u = Lib.decDigits (u / 10) ++ [UInt8.ofNat (48 + u % 10)] by rw [Lib.decDigits, dif_neg hu]] at h
        obtain ⟨h1, h2⟩ := List.append_inj' h rfl
        have e1 := ih (u / 10) (by omega) (v / 10) h1
        have e2 := key (u % 10) (v % 10) (by omega) (by omega) (by simpa using h2)
        omega
theorem itoa_inj {m n : Int} (hm : 0 ≤ m) (hn : 0 ≤ n) (h : Lib.itoa m = Lib.itoa n) : m = n := by
  unfold Lib.itoa at h
  rw [if_neg (by omega), if_neg (by omega)] at h
  have := dec_inj _ _ h; omega
/-- Numbers from one on, as texts. -/
def nums (n : Int) (c : Nat) : List Bs := (List.range c).map fun (i : Nat) => Lib.itoa (n + (i : Int))
theorem nums_add (n : Int) (a b : Nat) : nums n (a + b) = nums n a ++ nums (n + a) b := by
  unfold nums
  rw [List.range_add, List.map_append, List.map_map]
  congr 1
  apply List.map_congr_left
  intro i _
  simp only [Function.comp]
  congr 1; omega
mutual
theorem bs_ren : ∀ (t : Tm) (σ : Bs → Option Bs) (n : Int), Fit n t.count → (t.ren σ n).1.bs = nums n t.count
  | .mk k s m ks, σ, n, hf => by
    simp only [Tm.count] at hf
    simp only [Tm.ren, Tm.bs, Tm.count]
    by_cases hb : bnd k = true
    · rw [if_pos hb] at hf ⊢
      have e := nx_fit (n := n) (c := countL ks) (by unfold Fit at *; omega)
      rw [if_pos hb, if_pos hb, e, bsL_ren _ _ _ ks σ (n + 1) (by unfold Fit at *; omega), nums_add]
      congr 1
      · simp [nums, renN, hb]
    · rw [if_neg hb] at hf ⊢
      rw [if_neg hb, if_neg hb, bsL_ren _ _ _ ks σ n (by unfold Fit at *; omega)]
      simp
theorem bsL_ren (bd : Bool) (s s' : Bs) : ∀ (l : List Tm) (σ : Bs → Option Bs) (n : Int), Fit n (countL l) → bsL (renL bd s s' l σ n).1 = nums n (countL l)
  | [], _, _, _ => rfl
  | t :: l, σ, n, hf => by
    simp only [countL] at hf
    have ft : Fit n t.count := by unfold Fit at *; omega
    have e := ren_num t (if (bd && l.isEmpty) = true then updS σ s s' else σ) n ft
    simp only [renL, bsL, countL]
    rw [bs_ren t _ n ft, e, bsL_ren bd s s' l σ (n + t.count) (by unfold Fit at *; omega), nums_add]
end
theorem bs_get {t : Tm} {σ : Bs → Option Bs} {n : Int} (hf : Fit n t.count) {i : Nat} (hi : i < (t.ren σ n).1.bs.length) : (t.ren σ n).1.bs[i] = Lib.itoa (n + (i : Int)) := by
  have e := bs_ren t σ n hf
  simp only [e, nums, List.getElem_map, List.getElem_range]
theorem bs_apart {t : Tm} {σ : Bs → Option Bs} {n : Int} (hf : Fit n t.count) {i j : Nat} (hi : i < (t.ren σ n).1.bs.length) (hj : j < (t.ren σ n).1.bs.length) (hne : j < i) : (t.ren σ n).1.bs[i] ≠ (t.ren σ n).1.bs[j] := by
  rw [bs_get hf hi, bs_get hf hj]
  intro h
  have := itoa_inj (by unfold Fit at hf; omega) (by unfold Fit at hf; omega) h
  omega
theorem bs_new {t : Tm} {n : Int} (hf : Fit n t.count) (hn : ∀ s ∈ t.names, numB s = false) {ss : List Bs} (hs : IsSet ss ((t.ren (fun _ => none) n).1.fr none0)) {i j : Nat} (hi : i < ss.length) (hj : j < (t.ren (fun _ => none) n).1.bs.length) : ss[i] ≠ (t.ren (fun _ => none) n).1.bs[j] := by
  intro h
  have h1 : t.fr none0 ss[i] = true := by
    have := (hs.2.1 ss[i]).1 (List.getElem_mem hi)
    rwa [fr_ren t _ n none0 none0 _ hf hn rel0 (fun _ _ h => by cases h)] at this
  have h2 := hn _ (fr_names t _ _ h1)
  rw [h, bs_get hf hj, numB_itoa (by unfold Fit at hf; omega)] at h2
  cases h2
end Go.Proofs.YtindlieilabgfaaGreatDoor
/- A name put in the place of another one, and renamed. -/
set_option linter.unusedVariables false
set_option linter.unusedSectionVars false
set_option linter.unusedSimpArgs false
set_option autoImplicit false
set_option relaxedAutoImplicit false
namespace Go.Proofs.YtindlieilabgfaaGreatDoor
open Go X
mutual
/-- Do the variables have no number and no kids? -/
def Tm.lv : Tm → Bool
  | .mk k _ n ks => (!(k == 2) || (n == 0 && ks.isEmpty)) && lvL ks
def lvL : List Tm → Bool
  | [] => true
  | t :: l => t.lv && lvL l
end
theorem lvL_of : ∀ {ks : List Tm}, (∀ t ∈ ks, t.lv = true) → lvL ks = true
  | [], _ => rfl
  | t :: l, h => by simp only [lvL, h t (List.mem_cons_self ..), lvL_of (ks := l) fun t ht => h t (List.mem_cons_of_mem _ ht)]; rfl
mutual
/-- A term, another one in the place of a name that is free in it. -/
def Tm.put : Tm → Bs → Tm → Tm
  | .mk k s n ks, x, u => if (k == 2) && decide (s = x) then u else .mk k s n (putL x u (bnd k && decide (s = x)) ks)
def putL (x : Bs) (u : Tm) (stop : Bool) : List Tm → List Tm
  | [] => []
  | t :: l => (if stop && l.isEmpty then t else t.put x u) :: putL x u stop l
end
def putT (x : Bs) (u : Tm) (stop : Bool) (ks : List Tm) : Nat → List Tm
  | 0 => []
  | k + 1 => match ks[k]? with
    | some t => putT x u stop ks k ++ [if stop && k + 1 == ks.length then t else t.put x u]
    | none => putT x u stop ks k
theorem putT_succ {x : Bs} {u : Tm} {stop : Bool} {ks : List Tm} {k : Nat} (h : k < ks.length) : putT x u stop ks (k + 1) = putT x u stop ks k ++ [if stop && k + 1 == ks.length then ks[k] else ks[k].put x u] := by
  simp only [putT, List.getElem?_eq_getElem h]
theorem putT_len {x : Bs} {u : Tm} {stop : Bool} {ks : List Tm} : ∀ {k : Nat}, k ≤ ks.length → (putT x u stop ks k).length = k
  | 0, _ => rfl
  | k + 1, h => by rw [putT_succ (by omega), List.length_append, putT_len (by omega)]; rfl
theorem putT_all (x : Bs) (u : Tm) (stop : Bool) (ks : List Tm) : putT x u stop ks ks.length = putL x u stop ks := by
  have key : ∀ (l p : List Tm), ks = p ++ l → putT x u stop ks ks.length = putT x u stop ks p.length ++ putL x u stop l := by
    intro l
    induction l with
    | nil => intro p e; simp [e, putL]
    | cons t l ih =>
      intro p e
      have hlt : p.length < ks.length := by simp [e]
      have hk : ks[p.length] = t := by simp [e]
      have hl : (p.length + 1 == ks.length) = l.isEmpty := by rw [e]; cases l <;> simp
      rw [ih (p ++ [t]) (by simp [e]), show (p ++ [t]).length = p.length + 1 by simp, putT_succ hlt, hk, hl]
      simp [putL]
  have := key ks [] rfl
  rw [this]; simp [putT]
theorem putL_empty (x : Bs) (u : Tm) (stop : Bool) (l : List Tm) : (putL x u stop l).isEmpty = l.isEmpty := by
  cases l <;> simp [putL]
mutual
theorem ren_congr : ∀ (t : Tm) (σ τ : Bs → Option Bs) (n : Int), (∀ r ∈ t.names, σ r = τ r) → t.ren σ n = t.ren τ n
  | .mk k s m ks, σ, τ, n, h => by
    have hN : renN k s σ n = renN k s τ n := by unfold renN; rw [h s (by simp [Tm.names])]
    simp only [Tm.ren]
    rw [hN, renL_congr (bnd k) s (renN k s τ n) ks σ τ _ (fun r hr => h r (by simp [Tm.names, hr]))]
theorem renL_congr (bd : Bool) (s s' : Bs) : ∀ (l : List Tm) (σ τ : Bs → Option Bs) (n : Int), (∀ r ∈ namesL l, σ r = τ r) → renL bd s s' l σ n = renL bd s s' l τ n
  | [], _, _, _, _ => rfl
  | t :: l, σ, τ, n, h => by
    have h1 : t.ren (if (bd && l.isEmpty) = true then updS σ s s' else σ) n = t.ren (if (bd && l.isEmpty) = true then updS τ s s' else τ) n := by
      split
      · exact ren_congr t _ _ n fun r hr => by unfold updS; split; rfl; exact h r (by simp [namesL, hr])
      · exact ren_congr t _ _ n fun r hr => h r (by simp [namesL, hr])
    simp only [renL]
    rw [h1, renL_congr bd s s' l σ τ _ (fun r hr => h r (by simp [namesL, hr]))]
end
/-- A fresh name does what another one did. -/
def Rel3 (x f : Bs) (σ τ : Bs → Option Bs) : Prop := (∀ r, r ≠ x → r ≠ f → τ r = σ r) ∧ τ f = σ x ∧ (σ x).isSome = true
theorem Rel3.bind {x f : Bs} {σ τ : Bs → Option Bs} (h : Rel3 x f σ τ) {s s' : Bs} (h1 : s ≠ x) (h2 : s ≠ f) : Rel3 x f (updS σ s s') (updS τ s s') := by
  refine ⟨fun r hx hf => ?_, ?_, ?_⟩
  · unfold updS; split
    · rfl
    · exact h.1 r hx hf
  · unfold updS; rw [if_neg (Ne.symm h2), if_neg (Ne.symm h1)]; exact h.2.1
  · unfold updS; rw [if_neg (Ne.symm h1)]; exact h.2.2
mutual
theorem put_ren (x f : Bs) : ∀ (t : Tm) (σ τ : Bs → Option Bs) (n : Int), t.lv = true → f ∉ t.names → Rel3 x f σ τ → (t.put x (.mk 2 f 0 [])).ren τ n = t.ren σ n
  | .mk k s m ks, σ, τ, n, hl, hf, hr => by
    have hfs : s ≠ f := fun e => hf (by simp [Tm.names, e])
    have hfk : f ∉ namesL ks := fun h => hf (by simp [Tm.names, h])
    simp only [Tm.lv, Bool.and_eq_true] at hl
    simp only [Tm.put]
    by_cases hc : ((k == 2) && decide (s = x)) = true
    · rw [if_pos hc]
      simp only [Bool.and_eq_true, decide_eq_true_eq] at hc
      obtain ⟨hk, hs⟩ := hc
      have h2 := hl.1
      rw [hk] at h2
      simp only [Bool.not_true, Bool.false_or, Bool.and_eq_true, List.isEmpty_iff] at h2
      have hm : m = 0 := eq_of_beq h2.1
      have hks : ks = [] := h2.2
      have hk2 : k = 2 := eq_of_beq hk
      subst hm; subst hks; subst hk2; subst hs
      obtain ⟨q, hq⟩ := Option.isSome_iff_exists.1 hr.2.2
      have hq2 : τ f = some q := hr.2.1.trans hq
      simp [Tm.ren, renL, renN, bnd, hq, hq2]
    · rw [if_neg hc]
      have hN : renN k s τ n = renN k s σ n := by
        unfold renN
        split
        · rfl
        · split
          · rename_i hk
            have hsx : s ≠ x := fun e => hc (by simp [hk, e])
            rw [hr.1 s hsx hfs]
          · rfl
      have key : ∀ n1, renL (bnd k) s (renN k s σ n) (putL x (.mk 2 f 0 []) (bnd k && decide (s = x)) ks) τ n1 = renL (bnd k) s (renN k s σ n) ks σ n1 := fun n1 =>
        putL_ren x f (bnd k) s (renN k s σ n) ks σ τ n1 hl.2 hfk hfs hr
      simp only [Tm.ren]
      rw [hN, key]
theorem putL_ren (x f : Bs) (bd : Bool) (s s' : Bs) : ∀ (l : List Tm) (σ τ : Bs → Option Bs) (n : Int), lvL l = true → f ∉ namesL l → s ≠ f → Rel3 x f σ τ → renL bd s s' (putL x (.mk 2 f 0 []) (bd && decide (s = x)) l) τ n = renL bd s s' l σ n
  | [], _, _, _, _, _, _, _ => rfl
  | t :: l, σ, τ, n, hl, hf, hs, hr => by
    have hft : f ∉ t.names := fun h => hf (by simp [namesL, h])
    have hfl : f ∉ namesL l := fun h => hf (by simp [namesL, h])
    simp only [lvL, Bool.and_eq_true] at hl
    have h1 : (if ((bd && decide (s = x)) && l.isEmpty) = true then t else t.put x (.mk 2 f 0 [])).ren (if (bd && l.isEmpty) = true then updS τ s s' else τ) n = t.ren (if (bd && l.isEmpty) = true then updS σ s s' else σ) n := by
      by_cases hb : (bd && l.isEmpty) = true
      · rw [if_pos hb, if_pos hb]
        simp only [Bool.and_eq_true] at hb
        by_cases hx : s = x
        · rw [if_pos (by simp [hb.1, hb.2, hx])]
          refine ren_congr t _ _ n fun r hrn => ?_
          unfold updS
          split
          · rfl
          · rename_i hrs
            exact hr.1 r (fun e => hrs (by rw [e, hx])) (fun e => hft (e ▸ hrn))
        · rw [if_neg (by simp [hx])]
          exact put_ren x f t _ _ n hl.1 hft (hr.bind hx hs)
      · rw [if_neg hb, if_neg hb, if_neg (fun h => hb (by simp only [Bool.and_eq_true] at h ⊢; exact ⟨h.1.1, h.2⟩))]
        exact put_ren x f t σ τ n hl.1 hft hr
    simp only [putL, renL, putL_empty]
    rw [h1, putL_ren x f bd s s' l σ τ _ hl.2 hfl hs hr]
end
/-- Two functions that differ in the name alone that they bind are renamed alike. -/
theorem alike {x f : Bs} {t : Tm} {n : Int} (hl : t.lv = true) (hf : f ∉ t.names) (hx : x ≠ f) : (Tm.mk 3 f 0 [t.put x (.mk 2 f 0 [])]).ren (fun _ => none) n = (Tm.mk 3 x 0 [t]).ren (fun _ => none) n := by
  have e : (t.put x (.mk 2 f 0 [])).ren (updS (fun _ => none) f (Lib.itoa n)) (nx n) = t.ren (updS (fun _ => none) x (Lib.itoa n)) (nx n) := by
    refine put_ren x f t _ _ _ hl hf ⟨fun r h1 h2 => ?_, ?_, ?_⟩
    · unfold updS; rw [if_neg h2, if_neg h1]
    · unfold updS; rw [if_pos rfl, if_pos rfl]
    · unfold updS; rw [if_pos rfl]; rfl
  simp only [Tm.ren, renL, renN, bnd, List.isEmpty_nil, Bool.and_true]
  simp only [show ((3 : Int) == 3) = true from rfl, Bool.true_or, if_true, e]
mutual
theorem put_size (x : Bs) (u : Tm) (hu : u.size = 1) : ∀ t : Tm, t.lv = true → (t.put x u).size = t.size
  | .mk k s n ks, hl => by
    simp only [Tm.lv, Bool.and_eq_true] at hl
    simp only [Tm.put]
    by_cases hc : ((k == 2) && decide (s = x)) = true
    · rw [if_pos hc]
      simp only [Bool.and_eq_true] at hc
      have h2 := hl.1
      rw [hc.1] at h2
      simp only [Bool.not_true, Bool.false_or, Bool.and_eq_true, List.isEmpty_iff] at h2
      rw [hu, h2.2]; simp [Tm.size, sizeL]
    · rw [if_neg hc]; simp only [Tm.size, putL_size x u hu _ ks hl.2]
theorem putL_size (x : Bs) (u : Tm) (hu : u.size = 1) (stop : Bool) : ∀ l : List Tm, lvL l = true → sizeL (putL x u stop l) = sizeL l
  | [], _ => rfl
  | t :: l, hl => by
    simp only [lvL, Bool.and_eq_true] at hl
    simp only [putL, sizeL, putL_size x u hu stop l hl.2]
    split
    · rfl
    · rw [put_size x u hu t hl.1]
end
end Go.Proofs.YtindlieilabgfaaGreatDoor
/- Walks: the Maker. -/
set_option linter.unusedVariables false
set_option linter.unusedSimpArgs false
set_option linter.unusedSectionVars false
set_option autoImplicit false
set_option relaxedAutoImplicit false
set_option maxRecDepth 10000
namespace Go.Proofs.YtindlieilabgfaaGreatDoor
open Go X
theorem u8_lt (b : UInt8) : b.toNat < 256 := b.toNat_lt
def names5 : List Bs := [[120], [121], [122], [99], [102, 49]]
def ops5 : List Bs := [[43], [45], [42], [60], [61]]
def mkKids : List Int := [0, 0, 0, 1, 2, 2, 3, 2, 1, 2, 1, 2, 2, 2]
def kn (k : Nat) : Nat := (mkKids.getD k 0).toNat
def mkN : List Bs := [] :: (names5 ++ ops5)
theorem kn_eq : ∀ {k : Nat} (h : k < mkKids.length), mkKids[k] = ((kn k : Nat) : Int) := by decide
theorem kn_le : ∀ k : Nat, k < 14 → kn k ≤ 3 ∧ (k ≤ 2 → kn k = 0) := by decide
theorem n5 : ∀ x ∈ names5, x ∈ mkN := by decide
theorem o5 : ∀ x ∈ ops5, x ∈ mkN := by decide
theorem m0 : ([] : Bs) ∈ mkN := by decide
/-- What is made: small, of known names. -/
def Mk (d : Nat) (t : Tm) : Prop := t.size ≤ 4 ^ (d + 1) ∧ (∀ x ∈ t.names, x ∈ mkN) ∧ t.lv = true
theorem mk_leaf {d : Nat} {k : Int} {s : Bs} {n : Int} (hs : s ∈ mkN) (hv : k = 2 → n = 0) : Mk d (.mk k s n []) :=
  ⟨by simp [Tm.size, sizeL]; exact Nat.pow_pos (by omega), fun x hx => by simp [Tm.names, namesL] at hx; exact hx ▸ hs, by
    simp only [Tm.lv, lvL, List.isEmpty_nil, Bool.and_true]
    by_cases h : k = 2
    · rw [hv h]; simp
    · simp [h]⟩
theorem sizeL_le {B : Nat} : ∀ {ks : List Tm}, (∀ t ∈ ks, t.size ≤ B) → sizeL ks ≤ ks.length * B
  | [], _ => by simp [sizeL]
  | t :: l, h => by
    have h1 := h t (List.mem_cons_self ..)
    have h2 := sizeL_le (B := B) (ks := l) fun t ht => h t (List.mem_cons_of_mem _ ht)
    simp only [sizeL, List.length_cons, Nat.succ_mul]; omega
theorem namesL_all {p : Bs → Prop} : ∀ {ks : List Tm}, (∀ t ∈ ks, ∀ x ∈ t.names, p x) → ∀ x ∈ namesL ks, p x
  | [], _, x, hx => by simp [namesL] at hx
  | t :: l, h, x, hx => by
    simp only [namesL, List.mem_append] at hx
    rcases hx with hx | hx
    · exact h t (List.mem_cons_self ..) x hx
    · exact namesL_all (ks := l) (fun t ht => h t (List.mem_cons_of_mem _ ht)) x hx
theorem mk_node {d : Nat} {k : Int} {s : Bs} {n : Int} {ks : List Tm} (hs : s ∈ mkN) (hl : ks.length ≤ 3) (hv : k = 2 → n = 0 ∧ ks = []) (h : ∀ t ∈ ks, Mk d t) : Mk (d + 1) (.mk k s n ks) := by
  refine ⟨?_, fun x hx => ?_, ?_⟩
  · have h1 := sizeL_le (B := 4 ^ (d + 1)) fun t ht => (h t ht).1
    have h2 : ks.length * 4 ^ (d + 1) ≤ 3 * 4 ^ (d + 1) := Nat.mul_le_mul_right _ hl
    have h3 : 0 < 4 ^ (d + 1) := Nat.pow_pos (by omega)
    have h4 : 4 ^ (d + 1 + 1) = 4 * 4 ^ (d + 1) := by rw [Nat.pow_succ]; omega
    simp only [Tm.size]; omega
  · simp only [Tm.names, List.mem_cons] at hx
    rcases hx with rfl | hx
    · exact hs
    · exact namesL_all (fun t ht => (h t ht).2.1) x hx
  · simp only [Tm.lv, lvL_of fun t ht => (h t ht).2.2, Bool.and_true]
    by_cases hk : k = 2
    · obtain ⟨h1, h2⟩ := hv hk
      rw [h1, h2]; simp
    · simp [hk]

theorem mk_end {d k kk : Nat} {kd : Int} {s : Bs} {n : Int} {ks : List Tm} (hs : s ∈ mkN) (h1 : ks.length = k) (h2 : k = kk) (h3 : kk ≤ 3) (h0 : 0 < kk → 0 < d) (hv : kd = 2 → n = 0) (hv2 : kd = 2 → kk = 0) (h : ∀ t ∈ ks, Mk (d - 1) t) : Mk d (.mk kd s n ks) := by
  rcases Nat.eq_zero_or_pos d with rfl | hd
  · have : ks = [] := List.eq_nil_of_length_eq_zero (by omega)
    subst this; exact mk_leaf hs hv
  · obtain ⟨e, rfl⟩ : ∃ e, d = e + 1 := ⟨d - 1, by omega⟩
    exact mk_node hs (by omega) (fun hk => ⟨hv hk, List.eq_nil_of_length_eq_zero (by have := hv2 hk; omega)⟩) h

theorem byte_ok (l : List UInt8) (A : Option Addr) (c gm at_ : Nat) (E : World) (H : GH) (L : List It) (hl : US H A c l) (hb : l.length < 1000000000000) (ha : at_ ≤ l.length) :
    Ok Tryz.prog 65 #[.pointer (some ⟨gm, 0, none⟩)] E H (.obj gm (.cells #[.slice A l.length c, .int .i64 (at_ : Int)] 85 (0, 0)) :: L) fun r H' L' => ∃ b at' : Nat, b < 256 ∧ at_ ≤ at' ∧ at' ≤ l.length ∧ r = .int .i64 (b : Int) ∧ H = H' ∧ L' = .obj gm (.cells #[.slice A l.length c, .int .i64 (at' : Int)] 85 (0, 0)) :: L := by
  refine enter (N := 32) [(0, _)] Tryz.func65 rfl rfl rfl rfl fun a w h => ?_
  refine sq ?_
  refine rg0 ?_
  refine as_ h fun a w h => ?_
  refine nl0 ?_
  refine thN ?_
  refine sq ?_
  refine sq ?_
  refine rgd [0] [_] [] [3, 7] 0 mix (by kernel_rfl) h (fun a w h => ?_)
  refine mv h fun a w h => ?_
  refine nc h fun a w h => ?_
  refine fa fl85_1 (r := 1) h fun a w h => ?_
  refine ldD 0 t1_3 h fun a w h => ?_
  refine mv h fun a w h => ?_
  refine nc h fun a w h => ?_
  refine fa fl85_0 (r := 0) h fun a w h => ?_
  refine ldD 0 t1_29 h fun a w h => ?_
  refine ln sli29 h fun a w h => ?_
  refine ge h fun a w h => ?_
  refine nl0 ?_
  refine thN ?_
  refine cdB h (fun c12 => ?_) (fun c12 => ?_)
  · have d12 : l.length ≤ at_ := by first | (simpa using c12) | (simp at c12; omega)
    refine sq ?_
    refine rg0 ?_
    refine as_ h fun a w h => ?_
    refine nl0 ?_
    refine thN ?_
    refine ret_ ?_
    refine thR ?_
    refine fin1 2 0 h LE.rfl ?_
    exact ⟨0, at_, by omega, by omega, ha, rfl, rfl, rfl⟩
  · have d12 : at_ < l.length := by first | (simpa using c12) | (simp at c12; omega)
    refine sk_ ?_
    refine thN ?_
    refine sq ?_
    refine rg0 ?_
    refine mv h fun a w h => ?_
    refine nc h fun a w h => ?_
    refine fa fl85_1 (r := 1) h fun a w h => ?_
    refine ld 0 t1_3 h fun a w h => ?_
    refine inc ?_ h fun a w h => ?_
    · omega
    refine nc h fun a w h => ?_
    refine fa fl85_1 (r := 1) h fun a w h => ?_
    refine st0 (l := [_, _]) t1_3 h fun a w h => ?_
    refine nl0 ?_
    refine thN ?_
    refine sq ?_
    refine rgd [0] [_] [] [3, 7, 10] 1 mix (by kernel_rfl) h (fun a w h => ?_)
    refine mv h fun a w h => ?_
    refine nc h fun a w h => ?_
    refine fa fl85_0 (r := 0) h fun a w h => ?_
    refine ldD 0 t1_29 h fun a w h => ?_
    refine mv h fun a w h => ?_
    refine nc h fun a w h => ?_
    refine fa fl85_1 (r := 1) h fun a w h => ?_
    refine ldD 0 t1_3 h fun a w h => ?_
    refine sbr (m := ((at_ + 1 : Nat) : Int)) (n := 1) (at_ : Int) (by rw [w64 (by omega) (by omega)]; omega) h fun a w h => ?_
    have hj29 : at_ < l.length := by first | assumption | omega | (simp; done) | (simp; omega)
    obtain ⟨g29, o29, e29, hc29⟩ := US.get hl hj29
    refine iaE sli29 sz5 rfl hj29 e29 h fun a w h => ?_
    refine ldHD t1_5 (hc29) h fun a w h => ?_
    refine cv ((l[at_].toNat : Int)) (by have := u8_lt l[at_]; exact w64 (by omega) (by omega)) it5 it3 h fun a w h => ?_
    refine as_ h fun a w h => ?_
    refine nl0 ?_
    refine thN ?_
    refine ret_ ?_
    refine fin1 2 0 h LE.rfl ?_
    exact ⟨l[at_].toNat, at_ + 1, u8_lt _, by omega, by omega, rfl, rfl, rfl⟩

theorem mk_ok (l : List UInt8) (A : Option Addr) (c gm : Nat) : ∀ (d : Nat) (depth : Int) (at_ : Nat) (E : World) (H : GH) (L : List It), -1 ≤ depth → depth ≤ d ∧ depth ≤ 100 → US H A c l → l.length < 1000000000000 → at_ ≤ l.length →
    Ok Tryz.prog 40 #[.pointer (some ⟨gm, 0, none⟩), .int .i64 depth] E H (.obj gm (.cells #[.slice A l.length c, .int .i64 (at_ : Int)] 85 (0, 0)) :: L) fun r H' L' => ∃ (t : Tm) (at' : Nat), Mk d t ∧ at_ ≤ at' ∧ at' ≤ l.length ∧ VT H' r t ∧ L' = .obj gm (.cells #[.slice A l.length c, .int .i64 (at' : Int)] 85 (0, 0)) :: L := by
  intro d
  induction d using Nat.strongRecOn with
  | _ d ih =>
  replace ih := fun depth' (hd : 0 < d) => ih (d - 1) (by omega) depth'
  intro depth at_ E H L hd0 hd1 hl hb ha
  refine enter (N := 82) [(0, _), (1, _)] Tryz.func40 rfl rfl rfl rfl fun a w h => ?_
  refine sq ?_
  refine rg0 ?_
  refine al zr24 h fun g4 a w h => ?_
  refine nl0 ?_
  refine thN ?_
  refine sq ?_
  refine rg0 ?_
  refine mv h fun a w h => ?_
  have h := h.pull 1 rfl rfl
  refine cl bod65 (byte_ok l A c gm at_ E H _ hl hb (by omega)) h (fun r10 H10 L10 a w le10 R h => ?_)
  obtain ⟨b10, at10, hb10, ha10, hz10, rfl, rfl, rfl⟩ := R
  refine rm b10 13 (by decide) h fun a w h => ?_
  refine adr (m := 1) (n := (((b10 % 13) : Nat) : Int)) (((1 + (b10 % 13)) : Nat) : Int) (by rw [w64 (by omega) (by omega)]; omega) h fun a w h => ?_
  refine as_ h fun a w h => ?_
  refine nl0 ?_
  refine thN ?_
  refine sq ?_
  refine sqc (fun a w => S E H 82 [] [(0, .pointer (some ⟨gm, 0, none⟩)), (1, .int .i64 depth), (4, .pointer (some ⟨g4, 0, none⟩)), (5, .int .i64 (((1 + (b10 % 13)) : Nat) : Int)), (26, .bool ((decide (depth ≤ 0)) || (decide (((l.length : Int) : Int) ≤ (at10 : Int)))))] (.obj gm (.cells #[.slice A l.length c, .int .i64 (at10 : Int)] 85 (0, 0)) :: .obj g4 (.cells #[.int .i64 0, str [], .int .i64 0, .slice none 0 0] 24 (0, 0)) :: L) a w) ?_ ?_
  · refine rgd [0] [_] [] [6, 10] 0 mix (by kernel_rfl) h (fun a w h => ?_)
    refine mv h fun a w h => ?_
    refine le h fun a w h => ?_
    refine h.spl (fun c14 h => ?_) (fun c14 h => ?_)
    · have d14 : depth ≤ 0 := by first | (simpa using c14) | (simp at c14; omega)
      refine mv h fun a w h => ?_
      refine sk h (k := fun a w h => ?_)
      refine sk h (k := fun a w h => ?_)
      refine sk h (k := fun a w h => ?_)
      refine sk h (k := fun a w h => ?_)
      refine sk h (k := fun a w h => ?_)
      refine sk h (k := fun a w h => ?_)
      refine sk h (k := fun a w h => ?_)
      refine sk h (k := fun a w h => ?_)
      refine sk h (k := fun a w h => ?_)
      refine sk h (k := fun a w h => ?_)
      refine pkT h fun a w h => ?_
      refine nl0 ?_
      refine thN ?_
      have h2 : S E H 82 [] [(0, .pointer (some ⟨gm, 0, none⟩)), (1, .int .i64 depth), (4, .pointer (some ⟨g4, 0, none⟩)), (5, .int .i64 (((1 + (b10 % 13)) : Nat) : Int)), (26, .bool ((decide (depth ≤ 0)) || (decide (((l.length : Int) : Int) ≤ (at10 : Int)))))] (.obj gm (.cells #[.slice A l.length c, .int .i64 (at10 : Int)] 85 (0, 0)) :: .obj g4 (.cells #[.int .i64 0, str [], .int .i64 0, .slice none 0 0] 24 (0, 0)) :: L) a w := by rw [show (.bool ((decide (depth ≤ 0)) || (decide (((l.length : Int) : Int) ≤ (at10 : Int)))) : Value) = .bool true from Eq.symm (by (try rw [c14]) <;> (try simp only [Bool.true_or, Bool.or_true, Bool.false_or, Bool.or_false, Bool.true_and, Bool.and_true, Bool.false_and, Bool.and_false, Bool.not_true, Bool.not_false, cond_true, cond_false]))]; exact h.to 0 _
      exact h2
    · have d14 : 0 < depth := by first | (simpa using c14) | (simp at c14; omega)
      refine mv h fun a w h => ?_
      refine mv h fun a w h => ?_
      refine nc h fun a w h => ?_
      refine fa fl85_1 (r := 1) h fun a w h => ?_
      refine ldD 0 t1_3 h fun a w h => ?_
      refine mv h fun a w h => ?_
      refine nc h fun a w h => ?_
      refine fa fl85_0 (r := 0) h fun a w h => ?_
      refine ldD 0 t1_29 h fun a w h => ?_
      refine ln sli29 h fun a w h => ?_
      refine ge h fun a w h => ?_
      refine pkF h fun a w h => ?_
      refine nl0 ?_
      refine thN ?_
      have h2 : S E H 82 [] [(0, .pointer (some ⟨gm, 0, none⟩)), (1, .int .i64 depth), (4, .pointer (some ⟨g4, 0, none⟩)), (5, .int .i64 (((1 + (b10 % 13)) : Nat) : Int)), (26, .bool ((decide (depth ≤ 0)) || (decide (((l.length : Int) : Int) ≤ (at10 : Int)))))] (.obj gm (.cells #[.slice A l.length c, .int .i64 (at10 : Int)] 85 (0, 0)) :: .obj g4 (.cells #[.int .i64 0, str [], .int .i64 0, .slice none 0 0] 24 (0, 0)) :: L) a w := by rw [show (.bool ((decide (depth ≤ 0)) || (decide (((l.length : Int) : Int) ≤ (at10 : Int)))) : Value) = .bool (decide (((l.length : Int) : Int) ≤ (at10 : Int))) from Eq.symm (by (try rw [c14]) <;> (try simp only [Bool.true_or, Bool.or_true, Bool.false_or, Bool.or_false, Bool.true_and, Bool.and_true, Bool.false_and, Bool.and_false, Bool.not_true, Bool.not_false, cond_true, cond_false]))]; exact h.to 0 _
      exact h2
  · rintro a w h
    refine thc (fun a w => ∃ (kd : Nat), (1 ≤ kd ∧ kd ≤ 13 ∧ (depth ≤ 0 → kd ≤ 2)) ∧ S E H 82 [] [(0, .pointer (some ⟨gm, 0, none⟩)), (1, .int .i64 depth), (4, .pointer (some ⟨g4, 0, none⟩)), (5, .int .i64 (kd : Int))] (.obj gm (.cells #[.slice A l.length c, .int .i64 (at10 : Int)] 85 (0, 0)) :: .obj g4 (.cells #[.int .i64 0, str [], .int .i64 0, .slice none 0 0] 24 (0, 0)) :: L) a w) ?_ ?_
    · refine cdB h (fun c26 => ?_) (fun c26 => ?_)
      · refine rg0 ?_
        refine mv h fun a w h => ?_
        refine rm (1 + (b10 % 13)) 2 (by decide) h fun a w h => ?_
        refine adr (m := 1) (n := ((((1 + (b10 % 13)) % 2) : Nat) : Int)) (((1 + ((1 + (b10 % 13)) % 2)) : Nat) : Int) (by rw [w64 (by omega) (by omega)]; omega) h fun a w h => ?_
        refine as_ h fun a w h => ?_
        refine nl0 ?_
        refine thN ?_
        have h2 : S E H 82 [] [(0, .pointer (some ⟨gm, 0, none⟩)), (1, .int .i64 depth), (4, .pointer (some ⟨g4, 0, none⟩)), (5, .int .i64 (((1 + ((1 + (b10 % 13)) % 2)) : Nat) : Int))] (.obj gm (.cells #[.slice A l.length c, .int .i64 (at10 : Int)] 85 (0, 0)) :: .obj g4 (.cells #[.int .i64 0, str [], .int .i64 0, .slice none 0 0] 24 (0, 0)) :: L) a w := h.to 0 _
        exact ⟨(1 + ((1 + (b10 % 13)) % 2)), by (try simp at c26); omega, h2⟩
      · refine sk_ ?_
        refine thN ?_
        have h2 : S E H 82 [] [(0, .pointer (some ⟨gm, 0, none⟩)), (1, .int .i64 depth), (4, .pointer (some ⟨g4, 0, none⟩)), (5, .int .i64 (((1 + (b10 % 13)) : Nat) : Int))] (.obj gm (.cells #[.slice A l.length c, .int .i64 (at10 : Int)] 85 (0, 0)) :: .obj g4 (.cells #[.int .i64 0, str [], .int .i64 0, .slice none 0 0] 24 (0, 0)) :: L) a w := h.to 0 _
        exact ⟨(1 + (b10 % 13)), by (try simp at c26); omega, h2⟩
    · rintro a w ⟨kd, hkd, h⟩
      refine sq ?_
      refine rg0 ?_
      refine mv h fun a w h => ?_
      refine bdl lay24 zr24 h fun a w h => ?_
      refine al zr24 h fun g6 a w h => ?_
      refine sw0 tN24 h fun a w h => ?_
      refine nl0 ?_
      refine thN ?_
      refine sq ?_
      refine rg0 ?_
      refine bsl bs58 h fun g32 a w h => ?_
      refine mv h fun a w h => ?_
      have h := h.pull 2 rfl rfl
      refine cl bod65 (byte_ok l A c gm at10 E H _ hl hb (by omega)) h (fun r34 H34 L34 a w le34 R h => ?_)
      obtain ⟨b34, at34, hb34, ha34, hz34, rfl, rfl, rfl⟩ := R
      refine rm b34 5 (by decide) h fun a w h => ?_
      obtain ⟨Hq36, leHq36, h, hsHq36⟩ := h.fsl (R := RStr) (sz := 1) (ys := names5) 1 (rstr_row names5) (fun _ _ _ _ _ hr => hr)
      have hj36 : (b34 % 5) < names5.length := by show _ < 5; omega
      obtain ⟨g36, o36, e36, hc36⟩ := SS.get hsHq36 hj36
      refine iaE sli58 sz9 rfl hj36 e36 h fun a w h => ?_
      refine ldH t1_9 (hc36) h fun a w h => ?_
      refine as_ h fun a w h => ?_
      refine nl0 ?_
      refine thN ?_
      refine sqc (fun a w => ∃ (nm : Bs) (nn : Int) (at2 : Nat), (nm ∈ mkN) ∧ ((kd : Int) = 2 → nn = 0) ∧ (at_ ≤ at2 ∧ at2 ≤ l.length) ∧ S E Hq36 82 [] [(0, .pointer (some ⟨gm, 0, none⟩)), (1, .int .i64 depth), (4, .pointer (some ⟨g4, 0, none⟩)), (5, .int .i64 (kd : Int)), (6, .pointer (some ⟨g6, 0, none⟩))] (.obj gm (.cells #[.slice A l.length c, .int .i64 (at2 : Int)] 85 (0, 0)) :: .obj g6 (.cells #[.int .i64 (kd : Int), str nm, .int .i64 nn, .slice none 0 0] 24 (0, 0)) :: .obj g4 (.cells #[.int .i64 0, str [], .int .i64 0, .slice none 0 0] 24 (0, 0)) :: L) a w) ?_ ?_
      · refine blk ?_
        refine sq ?_
        refine rg0 ?_
        refine mv h fun a w h => ?_
        refine eqi h fun a w h => ?_
        refine as_ h fun a w h => ?_
        refine nl0 ?_
        refine thN ?_
        refine cdB h (fun c38 => ?_) (fun c38 => ?_)
        · have d38 : kd = 1 := by first | (simpa using c38) | (simp at c38; omega)
          refine rg0 ?_
          refine mv h fun a w h => ?_
          refine cl bod65 (byte_ok l A c gm at34 E Hq36 _ (hl.up leHq36) hb (by omega)) h (fun r42 H42 L42 a w le42 R h => ?_)
          obtain ⟨b42, at42, hb42, ha42, hz42, rfl, rfl, rfl⟩ := R
          refine ml (IntKind.i64.wrap ((b42 : Int) * 8421504)) rfl h fun a w h => ?_
          refine fa fl24_2 (r := 2) h fun a w h => ?_
          refine st1 (l := [_, _, _, _]) t1_2 h fun a w h => ?_
          refine nl0 ?_
          refine ibN ?_
          refine thN ?_
          have h2 : S E Hq36 82 [] [(0, .pointer (some ⟨gm, 0, none⟩)), (1, .int .i64 depth), (4, .pointer (some ⟨g4, 0, none⟩)), (5, .int .i64 (kd : Int)), (6, .pointer (some ⟨g6, 0, none⟩))] (.obj gm (.cells #[.slice A l.length c, .int .i64 (at42 : Int)] 85 (0, 0)) :: .obj g6 (.cells #[.int .i64 (kd : Int), str [], .int .i64 (IntKind.i64.wrap ((b42 : Int) * 8421504)), .slice none 0 0] 24 (0, 0)) :: .obj g4 (.cells #[.int .i64 0, str [], .int .i64 0, .slice none 0 0] 24 (0, 0)) :: L) a w := h.to 0 _
          exact ⟨[], (IntKind.i64.wrap ((b42 : Int) * 8421504)), at42, (by first | exact m0 | exact n5 _ (List.getElem_mem _) | exact o5 _ (List.getElem_mem _)), (by first | exact fun _ => rfl | (intro h2; exfalso; omega)), by omega, h2⟩
        · have d38 : kd ≠ 1 := by first | (simpa using c38) | (simp at c38; omega)
          refine sq ?_
          refine rg0 ?_
          refine mv h fun a w h => ?_
          refine eqi h fun a w h => ?_
          refine as_ h fun a w h => ?_
          refine nl0 ?_
          refine thN ?_
          refine cdB h (fun c45 => ?_) (fun c45 => ?_)
          · have d45 : kd = 12 := by first | (simpa using c45) | (simp at c45; omega)
            refine rg0 ?_
            refine bsl bs58 h fun g48 a w h => ?_
            refine mv h fun a w h => ?_
            have h := h.pull 1 rfl rfl
            refine cl bod65 (byte_ok l A c gm at34 E Hq36 _ (hl.up leHq36) hb (by omega)) h (fun r50 H50 L50 a w le50 R h => ?_)
            obtain ⟨b50, at50, hb50, ha50, hz50, rfl, rfl, rfl⟩ := R
            refine rm b50 5 (by decide) h fun a w h => ?_
            obtain ⟨Hq52, leHq52, h, hsHq52⟩ := h.fsl (R := RStr) (sz := 1) (ys := ops5) 1 (rstr_row ops5) (fun _ _ _ _ _ hr => hr)
            have hj52 : (b50 % 5) < ops5.length := by show _ < 5; omega
            obtain ⟨g52, o52, e52, hc52⟩ := SS.get hsHq52 hj52
            refine iaE sli58 sz9 rfl hj52 e52 h fun a w h => ?_
            refine ldH t1_9 (hc52) h fun a w h => ?_
            refine fa fl24_1 (r := 1) h fun a w h => ?_
            refine st1 (l := [_, _, _, _]) t1_9 h fun a w h => ?_
            refine nl0 ?_
            refine ibN ?_
            refine thN ?_
            have h := h.less leHq52
            have h2 : S E Hq36 82 [] [(0, .pointer (some ⟨gm, 0, none⟩)), (1, .int .i64 depth), (4, .pointer (some ⟨g4, 0, none⟩)), (5, .int .i64 (kd : Int)), (6, .pointer (some ⟨g6, 0, none⟩))] (.obj gm (.cells #[.slice A l.length c, .int .i64 (at50 : Int)] 85 (0, 0)) :: .obj g6 (.cells #[.int .i64 (kd : Int), str (ops5[(b50 % 5)]), .int .i64 0, .slice none 0 0] 24 (0, 0)) :: .obj g4 (.cells #[.int .i64 0, str [], .int .i64 0, .slice none 0 0] 24 (0, 0)) :: L) a w := h.to 0 _
            exact ⟨ops5[(b50 % 5)], 0, at50, (by first | exact m0 | exact n5 _ (List.getElem_mem _) | exact o5 _ (List.getElem_mem _)), (by first | exact fun _ => rfl | (intro h2; exfalso; omega)), by omega, h2⟩
          · have d45 : kd ≠ 12 := by first | (simpa using c45) | (simp at c45; omega)
            refine sqc (fun a w => S E Hq36 82 [] [(0, .pointer (some ⟨gm, 0, none⟩)), (1, .int .i64 depth), (4, .pointer (some ⟨g4, 0, none⟩)), (5, .int .i64 (kd : Int)), (6, .pointer (some ⟨g6, 0, none⟩)), (7, str (names5[(b34 % 5)])), (55, .bool ((((kd : Int) : Int) == 2) || (bnd (kd : Int))))] (.obj gm (.cells #[.slice A l.length c, .int .i64 (at34 : Int)] 85 (0, 0)) :: .obj g6 (.cells #[.int .i64 (kd : Int), str [], .int .i64 0, .slice none 0 0] 24 (0, 0)) :: .obj g4 (.cells #[.int .i64 0, str [], .int .i64 0, .slice none 0 0] 24 (0, 0)) :: L) a w) ?_ ?_
            · refine rg0 ?_
              refine mv h fun a w h => ?_
              refine eqi h fun a w h => ?_
              refine h.spl (fun c57 h => ?_) (fun c57 h => ?_)
              · have d57 : kd = 2 := by first | (simpa using c57) | (simp at c57; omega)
                refine mv h fun a w h => ?_
                refine sk h (k := fun a w h => ?_)
                refine sk h (k := fun a w h => ?_)
                refine pkT h fun a w h => ?_
                refine as_ h fun a w h => ?_
                refine nl0 ?_
                refine thN ?_
                have h2 : S E Hq36 82 [] [(0, .pointer (some ⟨gm, 0, none⟩)), (1, .int .i64 depth), (4, .pointer (some ⟨g4, 0, none⟩)), (5, .int .i64 (kd : Int)), (6, .pointer (some ⟨g6, 0, none⟩)), (7, str (names5[(b34 % 5)])), (55, .bool ((((kd : Int) : Int) == 2) || (bnd (kd : Int))))] (.obj gm (.cells #[.slice A l.length c, .int .i64 (at34 : Int)] 85 (0, 0)) :: .obj g6 (.cells #[.int .i64 (kd : Int), str [], .int .i64 0, .slice none 0 0] 24 (0, 0)) :: .obj g4 (.cells #[.int .i64 0, str [], .int .i64 0, .slice none 0 0] 24 (0, 0)) :: L) a w := by rw [show (.bool ((((kd : Int) : Int) == 2) || (bnd (kd : Int))) : Value) = .bool true from Eq.symm (by (try rw [c57]) <;> (try simp only [Bool.true_or, Bool.or_true, Bool.false_or, Bool.or_false, Bool.true_and, Bool.and_true, Bool.false_and, Bool.and_false, Bool.not_true, Bool.not_false, cond_true, cond_false]))]; exact h.to 0 _
                exact h2
              · have d57 : kd ≠ 2 := by first | (simpa using c57) | (simp at c57; omega)
                refine mv h fun a w h => ?_
                refine ldW 1 tN24 h fun a w h => ?_
                refine cl bod38 (Binder_ok _ _ _ _ _ _ _) h (fun r60 H60 L60 a w le60 R h => ?_)
                obtain ⟨rfl, rfl, rfl⟩ := R
                refine pkF h fun a w h => ?_
                refine as_ h fun a w h => ?_
                refine nl0 ?_
                refine thN ?_
                have h2 : S E Hq36 82 [] [(0, .pointer (some ⟨gm, 0, none⟩)), (1, .int .i64 depth), (4, .pointer (some ⟨g4, 0, none⟩)), (5, .int .i64 (kd : Int)), (6, .pointer (some ⟨g6, 0, none⟩)), (7, str (names5[(b34 % 5)])), (55, .bool ((((kd : Int) : Int) == 2) || (bnd (kd : Int))))] (.obj gm (.cells #[.slice A l.length c, .int .i64 (at34 : Int)] 85 (0, 0)) :: .obj g6 (.cells #[.int .i64 (kd : Int), str [], .int .i64 0, .slice none 0 0] 24 (0, 0)) :: .obj g4 (.cells #[.int .i64 0, str [], .int .i64 0, .slice none 0 0] 24 (0, 0)) :: L) a w := by rw [show (.bool ((((kd : Int) : Int) == 2) || (bnd (kd : Int))) : Value) = .bool (bnd (kd : Int)) from Eq.symm (by (try rw [c57]) <;> (try simp only [Bool.true_or, Bool.or_true, Bool.false_or, Bool.or_false, Bool.true_and, Bool.and_true, Bool.false_and, Bool.and_false, Bool.not_true, Bool.not_false, cond_true, cond_false]))]; exact h.to 0 _
                exact h2
            · rintro a w h
              refine cdB h (fun c55 => ?_) (fun c55 => ?_)
              · refine rg0 ?_
                refine mv h fun a w h => ?_
                refine fa fl24_1 (r := 1) h fun a w h => ?_
                refine st1 (l := [_, _, _, _]) t1_9 h fun a w h => ?_
                refine nl0 ?_
                refine ibN ?_
                refine thN ?_
                have h2 : S E Hq36 82 [] [(0, .pointer (some ⟨gm, 0, none⟩)), (1, .int .i64 depth), (4, .pointer (some ⟨g4, 0, none⟩)), (5, .int .i64 (kd : Int)), (6, .pointer (some ⟨g6, 0, none⟩))] (.obj gm (.cells #[.slice A l.length c, .int .i64 (at34 : Int)] 85 (0, 0)) :: .obj g6 (.cells #[.int .i64 (kd : Int), str (names5[(b34 % 5)]), .int .i64 0, .slice none 0 0] 24 (0, 0)) :: .obj g4 (.cells #[.int .i64 0, str [], .int .i64 0, .slice none 0 0] 24 (0, 0)) :: L) a w := h.to 0 _
                exact ⟨names5[(b34 % 5)], 0, at34, (by first | exact m0 | exact n5 _ (List.getElem_mem _) | exact o5 _ (List.getElem_mem _)), (by first | exact fun _ => rfl | (intro h2; exfalso; omega)), by omega, h2⟩
              · refine sk_ ?_
                refine ibN ?_
                refine thN ?_
                have h2 : S E Hq36 82 [] [(0, .pointer (some ⟨gm, 0, none⟩)), (1, .int .i64 depth), (4, .pointer (some ⟨g4, 0, none⟩)), (5, .int .i64 (kd : Int)), (6, .pointer (some ⟨g6, 0, none⟩))] (.obj gm (.cells #[.slice A l.length c, .int .i64 (at34 : Int)] 85 (0, 0)) :: .obj g6 (.cells #[.int .i64 (kd : Int), str [], .int .i64 0, .slice none 0 0] 24 (0, 0)) :: .obj g4 (.cells #[.int .i64 0, str [], .int .i64 0, .slice none 0 0] 24 (0, 0)) :: L) a w := h.to 0 _
                exact ⟨[], 0, at34, (by first | exact m0 | exact n5 _ (List.getElem_mem _) | exact o5 _ (List.getElem_mem _)), (by first | exact fun _ => rfl | (intro h2; exfalso; omega)), by omega, h2⟩
      · rintro a w ⟨nm, nn, at2, hnm, hnn, hat2, h⟩
        refine sq ?_
        refine sq ?_
        refine rg0 ?_
        refine as_ h fun a w h => ?_
        refine nl0 ?_
        refine thN ?_
        refine blk ?_
        have h := h.row (e := 24) (sz := 4)
        have h2 : S E Hq36 82 [] [(0, .pointer (some ⟨gm, 0, none⟩)), (1, .int .i64 depth), (4, .pointer (some ⟨g4, 0, none⟩)), (5, .int .i64 (kd : Int)), (6, .pointer (some ⟨g6, 0, none⟩)), (8, .int .i64 (0 : Int))] (.row (.slice none ([] : List Tm).length 0) 24 4 ([] : List Tm).length [] :: .obj gm (.cells #[.slice A l.length c, .int .i64 (at2 : Int)] 85 (0, 0)) :: .obj g6 (.cells #[.int .i64 (kd : Int), str nm, .int .i64 nn, .slice none ([] : List Tm).length 0] 24 (0, 0)) :: .obj g4 (.cells #[.int .i64 0, str [], .int .i64 0, .slice none 0 0] 24 (0, 0)) :: L) a w := h.to 0 _
        refine lp (β := Nat × GH × (Option Addr) × Nat × (List Value) × (List Tm) × Nat) (fun x a w => match x with | (k, HL1, Brk, prk, xrk, ks, at3) => ((k ≤ (kn kd)) ∧ (LE Hq36 HL1) ∧ (RowR RT 4 HL1 xrk ks) ∧ (ks.length = k ∧ at_ ≤ at3 ∧ at3 ≤ l.length ∧ ∀ t ∈ ks, Mk (d - 1) t)) ∧ S E HL1 82 [] [(0, .pointer (some ⟨gm, 0, none⟩)), (1, .int .i64 depth), (4, .pointer (some ⟨g4, 0, none⟩)), (5, .int .i64 (kd : Int)), (6, .pointer (some ⟨g6, 0, none⟩)), (8, .int .i64 (k : Int))] (.row (.slice Brk ks.length prk) 24 4 ks.length xrk :: .obj gm (.cells #[.slice A l.length c, .int .i64 (at3 : Int)] 85 (0, 0)) :: .obj g6 (.cells #[.int .i64 (kd : Int), str nm, .int .i64 nn, .slice Brk ks.length prk] 24 (0, 0)) :: .obj g4 (.cells #[.int .i64 0, str [], .int .i64 0, .slice none 0 0] 24 (0, 0)) :: L) a w)
          (fun x => match x with | (k, HL1, Brk, prk, xrk, ks, at3) => (kn kd) - k) (0, Hq36, none, 0, [], ([] : List Tm), at2) ⟨⟨Nat.zero_le _, LE.rfl, (RowR.nil : RowR RT 4 Hq36 [] ([] : List Tm)), ⟨rfl, by omega, by omega, fun _ h => absurd h List.not_mem_nil⟩⟩, h2⟩ ?_
        rintro ⟨k, HL1, Brk, prk, xrk, ks, at3⟩ a w ⟨⟨hk, leHL1, hrrk, hi⟩, h⟩
        obtain ⟨hi1, hi2, hi3, hi4⟩ := id hi
        refine sq ?_
        refine sq ?_
        refine rg0 ?_
        refine mv h fun a w h => ?_
        refine bsl bs119 h fun g65 a w h => ?_
        refine mv h fun a w h => ?_
        obtain ⟨Hq67, leHq67, h, hsHq67⟩ := h.fsl (R := RInt) (sz := 1) (ys := mkKids) 0 (rint_row mkKids) (fun _ _ _ _ _ hr => hr)
        have hj67 : kd < mkKids.length := by show _ < 14; omega
        obtain ⟨g67, o67, e67, hc67⟩ := IS.get hsHq67 hj67
        refine iaE sli119 sz3 rfl hj67 e67 h fun a w h => ?_
        refine ldH t1_3 (hc67) h fun a w h => ?_
        rw [kn_eq hj67] at h
        refine lt h fun a w h => ?_
        refine nl0 ?_
        refine thN ?_
        refine cdB h (fun c69 => ?_) (fun c69 => ?_)
        · have d69 : k < (kn kd) := by first | (simpa using c69) | (simp at c69; omega)
          refine sk_ ?_
          refine thN ?_
          refine sq ?_
          refine blk ?_
          refine rgd [2] [_] [4, 3, 2, 0] [1] 3 mix (by kernel_rfl) h (fun a w h => ?_)
          refine fa fl24_3 (r := 3) h fun a w h => ?_
          refine ldD 0 t1_22 h fun a w h => ?_
          refine mv h fun a w h => ?_
          refine mv h fun a w h => ?_
          refine sbr (depth - 1) (w64 (by omega) (by omega)) h fun a w h => ?_
          have hkn := kn_le kd (by omega)
          have h := h.pull 1 rfl rfl
          have l_H_Hq67 : LE H Hq67 := (leHq36.trans leHL1).trans leHq67
          refine cl bod40 (ih (depth - 1) (by omega) at3 E Hq67 _ (by omega) (by omega) (hl.up l_H_Hq67) hb (by omega)) h (fun r77 H77 L77 a w le77 R h => ?_) (hS := fun _ _ _ _ _ le R hw => by obtain ⟨_, _, _, _, _, _, rfl⟩ := R; exact hw.sees' (by first | exact le | exact LE.trans (by assumption) le) (by simp))
          obtain ⟨t77, at77, hmk77, ha77, hz77, ⟨A77, c77, rfl, hk77⟩, rfl⟩ := R
          refine bsl bs22 h fun g78 a w h => ?_
          refine apn (n := ks.length) (m := 1) 2 0 (L' := fun i => _ :: _ :: i :: _) [_, _, _, _] ((ks ++ [t77]).length) (by first | (simp; done) | (simp; omega)) row22 h (by first | omega | (simp; done) | (simp; omega) | (simp; omega)) (by first | omega | (simp; done) | (simp; omega) | (simp; omega)) fun v79 a w hone79 h => ?_
          obtain ⟨B79, cp79, rfl⟩ := h.rowv 2
          have l_HL1_H77 : LE HL1 H77 := leHq67.trans le77
          have hr79 : RowR RT 4 H77 (xrk ++ [.int .i64 t77.kind, str t77.name, .int .i64 t77.n, .slice A77 t77.kids.length c77]) (ks ++ [t77]) := (hrrk.mono fun cs y _ hr => RT.mono l_HL1_H77 y hr).snoc rfl (rt_of_vt (cs := [_, _, _, _]) ⟨_, _, rfl, hk77⟩)
          refine fa fl24_3 (r := 3) h fun a w h => ?_
          refine st3 (l := [_, _, _, _]) t1_22 h fun a w h => ?_
          refine nl0 ?_
          refine ibN ?_
          refine thN ?_
          refine rg0 ?_
          refine mv h fun a w h => ?_
          refine inc ?_ h fun a w h => ?_
          · omega
          refine as_ h fun a w h => ?_
          refine nl0 ?_
          refine thN ?_
          have h := h.del 0
          have h := h.pull 3 rfl rfl
          have h := h.pull 3 rfl rfl
          have h := h.pull 2 rfl rfl
          have h := h.pull 3 rfl rfl
          have h2 : S E H77 82 [] [(0, .pointer (some ⟨gm, 0, none⟩)), (1, .int .i64 depth), (4, .pointer (some ⟨g4, 0, none⟩)), (5, .int .i64 (kd : Int)), (6, .pointer (some ⟨g6, 0, none⟩)), (8, .int .i64 ((k + 1) : Int))] (.row (.slice B79 (ks ++ [t77]).length cp79) 24 4 (ks ++ [t77]).length (xrk ++ [.int .i64 t77.kind, str t77.name, .int .i64 t77.n, .slice A77 t77.kids.length c77]) :: .obj gm (.cells #[.slice A l.length c, .int .i64 (at77 : Int)] 85 (0, 0)) :: .obj g6 (.cells #[.int .i64 (kd : Int), str nm, .int .i64 nn, .slice B79 (ks ++ [t77]).length cp79] 24 (0, 0)) :: .obj g4 (.cells #[.int .i64 0, str [], .int .i64 0, .slice none 0 0] 24 (0, 0)) :: L) a w := h.to 0 _
          have l_Hq36_H77 : LE Hq36 H77 := (leHL1.trans leHq67).trans le77
          exact ⟨((k + 1), H77, B79, cp79, (xrk ++ [.int .i64 t77.kind, str t77.name, .int .i64 t77.n, .slice A77 t77.kids.length c77]), (ks ++ [t77]), at77), ⟨⟨by omega, l_Hq36_H77, hr79, ⟨by simp; omega, by omega, by omega, fun t ht => by simp only [List.mem_append, List.mem_singleton] at ht; rcases ht with ht | rfl; exact hi.2.2.2 t ht; exact hmk77⟩⟩, h2⟩, by show _ - (k + 1) < _ - k; omega⟩
        · have d69 : (kn kd) ≤ k := by first | (simpa using c69) | (simp at c69; omega)
          refine exit_ ?_
          refine thE ?_
          refine thE ?_
          refine ibH ?_
          refine thN ?_
          refine sq ?_
          refine rg0 ?_
          refine ldW 2 tN24 h fun a w h => ?_
          refine sw3 tN24 h fun a w h => ?_
          refine nl0 ?_
          refine thN ?_
          refine ret_ ?_
          have h := h.pull 1 rfl rfl
          have h := h.pull 3 rfl rfl
          have h := h.pull 3 rfl rfl
          have h := h.pull 3 rfl rfl
          obtain ⟨Hrrk, leHrrk, h, hsHrrk⟩ := h.frw 0 (hrrk.mono fun cs y _ hr => RT.mono leHq67 y hr) rfl (fun _ l cs y _ hr => RT.mono l y hr)
          obtain ⟨hi1, hi2, hi3, hi4⟩ := id hi
          have hkk : k = kn kd := by omega
          have hkn := kn_le kd (by omega)
          have l_H_Hrrk : LE H Hrrk := ((leHq36.trans leHL1).trans leHq67).trans leHrrk
          exact fin (rs := [.cell 4 24]) (vs := [.agg #[_, _, _, _]]) h rfl (.agg (k0 := 1) tN24 rfl rfl rfl .nil) rfl l_H_Hrrk ⟨LE.rfl, h.st.drop 2⟩ ⟨.mk (kd : Int) nm nn ks, at3, mk_end hnm hi1 hkk hkn.1 (fun h0 => by omega) hnn (fun h2 => hkn.2 (by omega)) hi4, by omega, by omega, ⟨_, _, rfl, hsHrrk⟩, rfl⟩

theorem made_ok (l : List UInt8) (A : Option Addr) (c : Nat) (E : World) (H : GH) (L : List It) (hl : US H A c l) (hb : l.length < 1000000000000) : Ok Tryz.prog 21 #[.slice A l.length c] E H L fun r H' L' => ∃ t, Mk 6 t ∧ VT H' r t ∧ L = L' := by
  refine enter (N := 13) [(0, _)] Tryz.func21 rfl rfl rfl rfl fun a w h => ?_
  refine sq ?_
  refine rg0 ?_
  refine al zr24 h fun g2 a w h => ?_
  refine nl0 ?_
  refine thN ?_
  refine sq ?_
  refine rg0 ?_
  refine mv h fun a w h => ?_
  refine mv h fun a w h => ?_
  refine ln sli29 h fun a w h => ?_
  refine mn (m := (l.length : Int)) (n := 60) (((min l.length 60) : Nat) : Int) (by split <;> omega) h fun a w h => ?_
  have hb8 : (min l.length 60) ≤ l.length := by first | omega | (simp; omega)
  have hcp8 := RS.capl hl
  have hs8 : US H A c (l.take (min l.length 60)) := RS.front hl hb8
  refine slhN (c := c) (min l.length 60) (l.take (min l.length 60)).length (by rw [List.length_take]; omega) sli29 sz5 (by omega) h fun a w h => ?_
  have e8 : l.take (min l.length 60) = l.take 60 := by rw [List.take_eq_take_iff]; omega
  rw [e8] at h hs8
  refine bdl lay85 zr85 h fun a w h => ?_
  refine bxA h fun g10 a w h => ?_
  refine as_ h fun a w h => ?_
  refine nl0 ?_
  refine thN ?_
  refine sq ?_
  refine rg0 ?_
  refine mv h fun a w h => ?_
  refine cl bod40 (mk_ok (l.take 60) _ _ g10 6 6 0 E H _ (by omega) (by omega) hs8 (by simp; omega) (by omega)) h (fun r12 H12 L12 a w le12 R h => ?_)
  obtain ⟨t12, at12, hmk12, ha12, hz12, ⟨A12, c12, rfl, hk12⟩, rfl⟩ := R
  refine sw1 tN24 h fun a w h => ?_
  refine nl0 ?_
  refine thN ?_
  refine ret_ ?_
  exact fin (rs := [.cell 2 24]) (vs := [.agg #[_, _, _, _]]) h rfl (.agg (k0 := 1) tN24 rfl rfl rfl .nil) rfl le12 ⟨LE.rfl, h.st.drop 2⟩ ⟨_, hmk12, ⟨_, _, rfl, hk12⟩, rfl⟩

end Go.Proofs.YtindlieilabgfaaGreatDoor
/- Walks: slices.Clip. -/
set_option linter.unusedVariables false
set_option linter.unusedSimpArgs false
set_option linter.unusedSectionVars false
set_option autoImplicit false
set_option relaxedAutoImplicit false
set_option maxRecDepth 10000
namespace Go.Proofs.YtindlieilabgfaaGreatDoor
open Go X
theorem Clip_ok (A : Option Addr) (n c : Nat) (hc : n ≤ c) (E : World) (H : GH) (L : List It) :
    Ok Tryz.prog 42 #[.slice A n c] E H L fun r H' L' => r = .slice A n n ∧ H = H' ∧ L = L' := by
  refine enter (N := 9) [(0, _)] Tryz.func42 rfl rfl rfl rfl fun a w h => ?_
  refine sq ?_
  refine rg0 ?_
  refine as_ h fun a w h => ?_
  refine nl0 ?_
  refine thN ?_
  refine sq ?_
  refine rg0 ?_
  refine mv h fun a w h => ?_
  refine mv h fun a w h => ?_
  refine ln sli58 h fun a w h => ?_
  refine mv h fun a w h => ?_
  refine ln sli58 h fun a w h => ?_
  refine sl (l := 0) (h' := n) (m := n) sli58 sz9 (fun w => ?_) h fun a w h => ?_
  · simp [Instr.sliceBounds, h.ag.ev (x := .tmp 5) rfl, h.ag.ev (x := .tmp 7) rfl, asIntOf, Instr.sliceBound, hc]
  refine as_ h fun a w h => ?_
  refine nl0 ?_
  refine thN ?_
  refine ret_ ?_
  refine fin1 2 0 h LE.rfl ?_
  have e : (if n = 0 then A else A.map (·.add (0 * 1))) = A := by
    split; rfl
    cases A with
    | none => rfl
    | some q => simp [Addr.add]
  exact ⟨by rw [e]; rfl, rfl, rfl⟩

theorem isnew_ok (known : List Bs) (s : Bs) (B : Option Addr) (cp gk : Nat) (E : World) (H : GH) (L : List It) (hk : SS H B cp known) (hc : Hc H gk 0 (.slice B known.length cp)) (hb : known.length < 1000000000000) :
    Ok Tryz.prog 46 #[str s, .pointer (some ⟨gk, 0, none⟩)] E H L fun r H' L' => r = .bool (!known.contains s) ∧ H = H' ∧ L = L' := by
  refine enter (N := 8) [(0, _), (1, _)] Tryz.func46 rfl rfl rfl rfl fun a w h => ?_
  refine sq ?_
  refine rg0 ?_
  refine as_ h fun a w h => ?_
  refine nl0 ?_
  refine thN ?_
  refine sq ?_
  refine rg0 ?_
  refine ldH t1_58 hc h fun a w h => ?_
  refine mv h fun a w h => ?_
  refine cl bod47 (Contains_ok known s B cp E H _ hk hb) h fun r6 H6 L6 a w le6 R h => ?_
  obtain ⟨rfl, rfl, rfl⟩ := R
  refine nt h fun a w h => ?_
  refine as_ h fun a w h => ?_
  refine nl0 ?_
  refine thN ?_
  refine ret_ ?_
  refine fin1 3 0 h LE.rfl ?_
  exact ⟨rfl, rfl, rfl⟩

theorem rowS {H : GH} : ∀ ss : List Bs, RowR RStr 1 H (ss.map encS) ss
  | [] => RowR.nil
  | s :: l => RowR.cons1 rfl (rowS l)
theorem strange_ok (t : Tm) (v : Value) (known : List Bs) (B : Option Addr) (cp gk : Nat) (E : World) (H : GH) (L : List It) (hv : VT H v t) (hlg : t.long < 1000000000000) (hsz : t.size < 1000000000000) (hk : SS H B cp known) (hc : Hc H gk 0 (.slice B known.length cp)) (hb : known.length < 1000000000000) :
    Ok Tryz.prog 44 #[v, .pointer (some ⟨gk, 0, none⟩)] E H L fun r H' L' => r = .bool (t.strange known) ∧ H = H' ∧ L = L' := by
  have hv0 := hv
  obtain ⟨A, c, rfl, hks⟩ := hv
  have hv := hv0
  refine enter (N := 8) [(0, _), (1, _)] Tryz.func44 rfl rfl rfl rfl fun a w h => ?_
  refine sq ?_
  refine rg0 ?_
  refine bxA h fun g2 a w h => ?_
  refine as_ h fun a w h => ?_
  refine nl0 ?_
  refine thN ?_
  refine sq ?_
  refine rg0 ?_
  refine ldW 0 tN24 h fun a w h => ?_
  refine cl bod23 (Free_ok t _ E H _ hv hlg hsz) h fun r5 H5 L5 a w le5 R h => ?_
  obtain ⟨A5, c5, ss, rfl, rfl, rfl, hset⟩ := R
  refine mf h fun a w h => ?_
  obtain ⟨H2, le2, h, hrs⟩ := h.frw 0 (rowS ss) rfl (fun _ _ _ _ _ h => h)
  have l_H_H2 : LE H H2 := le2
  have hsl : ss.length < 1000000000000 := by have := sub_len (m := t.names) hset.1 (fun x hx => fr_names t _ x ((hset.2.1 x).1 hx)); rw [names_len] at this; omega
  refine cl bod45 (ContainsFunc_Bs_ok ss A5 c5 (fun s => !known.contains s) 46 #[.pointer (some ⟨gk, 0, none⟩)] E H2 _ hrs hsl bod46 (fun j hj v hvj => by subst hvj; exact isnew_ok known _ B cp gk E H2 _ (hk.up le2) (hc.mono le2) hb)) h fun r7 H7 L7 a w le7 R h => ?_
  obtain ⟨rfl, rfl, rfl⟩ := R
  refine as_ h fun a w h => ?_
  refine nl0 ?_
  refine thN ?_
  refine ret_ ?_
  have h := h.del 0
  refine fin1 3 0 (h.less le2) LE.rfl ?_
  exact ⟨by rw [strange_of hset], rfl, rfl⟩
end Go.Proofs.YtindlieilabgfaaGreatDoor
/- Words for Resolve. -/
set_option linter.unusedVariables false
set_option linter.unusedSimpArgs false
set_option linter.unusedSectionVars false
set_option autoImplicit false
set_option relaxedAutoImplicit false
set_option maxRecDepth 10000
namespace Go.Proofs.YtindlieilabgfaaGreatDoor
open Go X
theorem known_succ (p : Pg) {k : Nat} (h : k < p.defs.length) : p.known (k + 1) = p.known k ++ [p.defs[k].name] := by
  unfold Pg.known; rw [List.take_succ_eq_append_getElem h]; simp only [List.map_append, List.append_assoc]; rfl
theorem known_len (p : Pg) (k : Nat) : (p.known k).length ≤ p.inputs.length + p.cells.length + p.defs.length := by
  unfold Pg.known; simp only [List.length_append, List.length_map, List.length_take]; omega
theorem rs_le {α : Type} {R : GH → List Value → α → Prop} {sz : Nat} {H : GH} {A : Option Addr} {n c : Nat} {ys : List α} (h : RS R sz H (.slice A n c) ys) : n ≤ c := by
  obtain ⟨A', c', e, h1, _⟩ := h
  cases e; exact h1
theorem rs_clip {α : Type} {R : GH → List Value → α → Prop} {sz : Nat} {H : GH} {A : Option Addr} {c : Nat} {ys : List α} (h : RS R sz H (.slice A ys.length c) ys) : RS R sz H (.slice A ys.length ys.length) ys := by
  obtain ⟨A', c', e, h1, h2⟩ := h
  cases e
  exact ⟨A, ys.length, rfl, Nat.le_refl _, h2⟩
theorem go_none {p : Pg} {k : Nat} (h : p.go k = none) : ∀ m, k ≤ m → p.go m = none := by
  intro m hm
  induction m with
  | zero => have : k = 0 := by omega
            subst this; exact h
  | succ m ih =>
    by_cases e : k = m + 1
    · subst e; exact h
    · simp only [Pg.go, ih (by omega)]
theorem go_succ {p : Pg} {k : Nat} {ds : List Df} {n : Int} (h : p.go k = some (ds, n)) (hk : k < p.defs.length) :
    p.go (k + 1) = if p.defs[k].t.strange (p.known k) then none else some (ds ++ [⟨p.defs[k].name, (p.defs[k].t.ren (fun _ => none) n).1⟩], (p.defs[k].t.ren (fun _ => none) n).2) := by
  simp only [Pg.go, h, List.getElem?_eq_getElem hk]
theorem vp_zero (H : GH) : VP H (.agg #[.slice none 0 0, .slice none 0 0, .slice none 0 0, .int .i64 0, str [], .int .i64 0, .slice none 0 0]) Pg.zero :=
  ⟨none, 0, none, 0, none, 0, none, 0, rfl, RS.nil _ _ _, RS.nil _ _ _, RS.nil _ _ _, RS.nil _ _ _⟩
theorem twice_yes {p : Pg} {k : Nat} (hk : k < (p.known p.defs.length).length) (h : decide (indexL (p.known p.defs.length) (p.known p.defs.length)[k] < (k : Int)) = true) : p.twice = true := by
  unfold Pg.twice
  rw [List.any_eq_true]
  exact ⟨k, List.mem_range.2 hk, by simpa [List.getD, List.getElem?_eq_getElem hk] using h⟩
theorem twice_no {p : Pg} (h : ∀ j (hj : j < (p.known p.defs.length).length), decide (indexL (p.known p.defs.length) (p.known p.defs.length)[j] < (j : Int)) = false) : p.twice = false := by
  unfold Pg.twice
  rw [List.any_eq_false]
  intro j hj
  have hj := List.mem_range.1 hj
  have := h j hj
  simp only [List.getD, List.getElem?_eq_getElem hj, Option.getD_some, this]
  simp
section
variable {P : Program} {ops : Array Oper} {Q : Exit → Act → World → Prop} {γ : Gd P ops Q} {rest : List Oper} {o : Oper} {E w : World} {H : GH} {N : Nat} {D : List Deferred} {F : List (Nat × Value)} {L : List It} {a : Act}
variable {t : TypeId} {x y : Operand} {g off : Nat} {cs : Array Value} {ty : TypeId}
/-- A struct, stored within an own block. -/
theorem stN (k0 : Nat) {n : Nat} {vs : List Value} {L' : List It} (ht : tyN P t n = true) (h : S E H N D F L a w) (k : ∀ a w, S E H N D F L' a w → γ.G rest a w) (out : List Value)
    (ho : o.op = .store t x y := by rfl) (hx : ev F x = some (.pointer (some ⟨g, off, none⟩)) := by rfl) (hy : ev F y = some (.agg vs.toArray) := by rfl)
    (hk : L[k0]? = some (.obj g (.cells cs ty (0, 0))) := by rfl) (hout : (wr cs off vs).toList = out := by rfl) (hL : L.set k0 (.obj g (.cells out.toArray ty (0, 0))) = L' := by rfl) (hn : vs.length = n := by rfl) (hf : Nat.ble (off + n) cs.size = true := by rfl) (h1 : vs.all (·.oneCell') = true := by rfl)
    (hw : wn ops F o = some true := by rfl) (hd : o.dst = none := by rfl) (hE : γ.isE rest.length = true := by rfl) (hS : γ.isN rest.length = true → ∀ w, St E H L' w → γ.S w := by exact fun e => Bool.noConfusion (show false = true from e)) : γ.G (o :: rest) a w := by
  obtain ⟨w', hrun, r1, r2, r3, r4, r5⟩ := run_stores (P := P) (g := g) (off := off) (ty := ty) vs 0 cs w (item_at h.st.sees hk) (by simp [Nat.ble_eq] at hf; omega) (fun v hv => List.all_eq_true.1 h1 v hv)
  subst hL
  have hoa : out.toArray = wr cs off vs := by rw [← hout]
  refine unit_ h hw hd hE hS (w' := w') ?_ (h.st.wrote hk r1 r2 r3 (by rw [hoa]; simpa using r5)) k
  obtain ⟨d', hu, hr, hi⟩ := und_ofN ht
  obtain ⟨i, hi', hs⟩ := Option.map_eq_some_iff.1 hi
  simp [execOp, ho, h.ag.ev hx, h.ag.ev hy, Instr.storeAt, Instr.sureAddr, storeVar, sizeOf, typeInfo, hi', hs, Value.cells, hn, hrun]
end
end Go.Proofs.YtindlieilabgfaaGreatDoor
/- Walks: scope.Resolve. -/
set_option linter.unusedVariables false
set_option linter.unusedSimpArgs false
set_option linter.unusedSectionVars false
set_option autoImplicit false
set_option relaxedAutoImplicit false
set_option maxRecDepth 10000
namespace Go.Proofs.YtindlieilabgfaaGreatDoor
open Go X
theorem vp_of {H : GH} {p : Pg} {A1 A2 C A4 : Option Addr} {c1 c2 k cq c4 : Nat} {ds : List Df} {t : Tm} (h1 : CS H A1 c1 p.inputs) (h2 : CS H A2 c2 p.cells) (hk : k = ds.length) (h3 : RS RDf 5 H (.slice C k cq) ds) (h4 : KS H A4 c4 t.kids) :
    VP H (.agg #[.slice A1 p.inputs.length c1, .slice A2 p.cells.length c2, .slice C k cq, .int .i64 t.kind, str t.name, .int .i64 t.n, .slice A4 t.kids.length c4]) ⟨p.inputs, p.cells, ds, t⟩ := by
  subst hk; exact ⟨A1, c1, A2, c2, C, cq, A4, c4, rfl, h1, h2, h3, h4⟩
theorem fits_right {p : Pg} (h : p.right = true) : p.fits = true := by
  unfold Pg.right Pg.print at h
  by_cases hf : p.fits = true
  · exact hf
  · rw [if_neg hf] at h; simp at h
theorem Resolve_ok (p : Pg) (v : Value) (E : World) (H : GH) (L : List It) (hv : VP H v p) (hL : Laid H) (hb : Mild p) :
    Ok Tryz.prog 17 #[v] E H L fun r H' L' => ∃ v', r = .tuple #[v', .int .i64 p.resolve.2] ∧ VP H' v' p.resolve.1 ∧ L' = L := by
  have hv0 := hv
  obtain ⟨A1, c1, A2, c2, A3, c3, A4, c4, rfl, hi, hc, hd, hk⟩ := hv
  have hv := hv0
  have b1 := hb.li
  have b2 := hb.lc
  have b3 := hb.lf
  refine enter (N := 124) [(0, _)] Tryz.func17 rfl rfl rfl rfl fun a w h => ?_
  refine sq ?_
  refine rg0 ?_
  refine bxA h fun g1 a w h => ?_
  refine al zr28 h fun g2 a w h => ?_
  refine as_ h fun a w h => ?_
  refine nl0 ?_
  refine thN ?_
  refine sq ?_
  refine sq ?_
  obtain ⟨Hf, leHf, h, hf1⟩ := h.frz 1
  have l_H_Hf : LE H Hf := leHf
  have hvf := hv.mono l_H_Hf
  have hLf := hL.up l_H_Hf
  have hif := hi.up l_H_Hf
  have hcf := hc.up l_H_Hf
  have hdf := hd.up l_H_Hf
  have hkf := hk.up l_H_Hf
  refine rg0 ?_
  refine ldHN tN28 rfl (Hc.all (LE.rfl _ _ hf1)) h fun a w h => ?_
  refine cl bod31 (RightP_ok p _ E Hf _ hvf hLf hb) h fun r20 H20 L20 a w le20 R h => ?_
  obtain ⟨rfl, rfl, rfl⟩ := R
  refine nt h fun a w h => ?_
  refine nl0 ?_
  refine thN ?_
  refine cdB h (fun c21 => ?_) (fun c21 => ?_)
  · have er : p.resolve = (Pg.zero, 11) := by unfold Pg.resolve; rw [if_pos c21]
    refine sq ?_
    refine rg0 ?_
    refine bdl lay28 zr28 h fun a w h => ?_
    refine sw0 tN28 h fun a w h => ?_
    refine as_ h fun a w h => ?_
    refine nl0 ?_
    refine thN ?_
    refine ret_ ?_
    refine thR ?_
    rw [er]
    exact fin (rs := [.cell 2 28, .tmp 3]) (vs := [.agg #[_, _, _, _, _, _, _], .int .i64 _]) h rfl (.agg (k0 := 0) tN28 rfl rfl rfl (.tmp rfl .nil)) rfl l_H_Hf ⟨LE.rfl, h.st.drop 1⟩ ⟨_, rfl, vp_zero _, rfl⟩
  · have hrt : p.right = true := by simpa using c21
    have hfit := fits_right hrt
    obtain ⟨hl1, hl2, hl3, _, _, hw3, hbr⟩ := fits_of hfit
    refine sk_ ?_
    refine thN ?_
    refine sq ?_
    refine rg0 ?_
    refine al zr58 h fun g4 a w h => ?_
    refine nl0 ?_
    refine thN ?_
    refine sq ?_
    refine sq ?_
    refine rg0 ?_
    refine fa fl28_0 (r := 0) h fun a w h => ?_
    refine ldH t1_25 (Hc.of (LE.rfl _ _ hf1) rfl) h fun a w h => ?_
    refine fa fl28_1 (r := 1) h fun a w h => ?_
    refine ldH t1_25 (Hc.of (LE.rfl _ _ hf1) rfl) h fun a w h => ?_
    refine bsl bs120 h fun g27 a w h => ?_
    obtain ⟨Hl, leHl, h, hpl⟩ := h.fsl (α := List Dc) (R := RCS) 0 (ys := [p.inputs, p.cells]) (.cons1 ⟨A1, c1, rfl, hif⟩ (.cons1 ⟨A2, c2, rfl, hcf⟩ .nil)) (fun _ l _ _ _ ⟨A, c, e, hr⟩ => ⟨A, c, e, hr.up l⟩)
    have l_H_Hl : LE H Hl := l_H_Hf.trans leHl
    have l_Hf_Hl : LE Hf Hl := leHl
    refine cl bod41 (Concat_ok [p.inputs, p.cells] _ E Hl _ hpl (by simp only [lenS, List.map_cons, List.map_nil, List.sum_cons, List.sum_nil]; omega) (by simp only [List.length_cons, List.length_nil]; omega)) h fun r28 H28 L28 a w le28 R h => ?_
    obtain ⟨B28, cp28, xs28, rfl, rfl, rfl, hr28⟩ := R
    rw [show [p.inputs, p.cells].flatten = p.inputs ++ p.cells from by simp] at h hr28
    obtain ⟨Hd, leHd, h, hds⟩ := h.frw 0 (n := (p.inputs ++ p.cells).length) hr28 rfl (fun _ _ _ _ _ h => h)
    have l_H_Hd : LE H Hd := l_H_Hl.trans leHd
    have l_Hf_Hd : LE Hf Hd := l_Hf_Hl.trans leHd
    have l_Hl_Hd : LE Hl Hd := leHd
    have hdsl : (p.inputs ++ p.cells).length ≤ 64 := by rw [List.length_append]; omega
    refine ln sli25 h fun a w h => ?_
    have h := h.row (e := 9) (sz := 1)
    refine mv h fun a w h => ?_
    refine nl0 ?_
    refine thN ?_
    refine blk ?_
    have h := h.pull 2 rfl rfl
    have h := h.pull 1 rfl rfl
    have h := h.pull 2 rfl rfl
    refine lp (β := Nat × Option Addr × Nat × List Value) (fun x a w => match x with | (k, B, cp, xs) => (k ≤ (p.inputs ++ p.cells).length ∧ RowR RStr 1 Hd xs (((p.inputs ++ p.cells).take k).map (·.name))) ∧ S E Hd 124 [] [(30, .int .i64 (k : Int)), (29, .int .i64 ((p.inputs ++ p.cells).length : Int)), (28, .slice B28 (p.inputs ++ p.cells).length cp28), (1, .pointer (some ⟨g1, 0, none⟩)), (2, .pointer (some ⟨g2, 0, none⟩)), (4, .pointer (some ⟨g4, 0, none⟩)), (3, .int .i64 0)] (.obj g4 (.cells #[.slice B k cp] 58 (0, 0)) :: .row (.slice B k cp) 9 1 k xs :: .obj g2 (.cells #[.slice none 0 0, .slice none 0 0, .slice none 0 0, .int .i64 0, .string ⟨#[]⟩, .int .i64 0, .slice none 0 0] 28 (0, 0)) :: L) a w)
      (fun x => match x with | (k, B, cp, xs) => (p.inputs ++ p.cells).length - k) (0, none, 0, []) ⟨⟨Nat.zero_le _, RowR.nil⟩, h.to 0 _⟩ ?_
    rintro ⟨k, B, cp, xs⟩ a w ⟨pre, h⟩
    refine sq ?_
    refine rg0 ?_
    refine lt h fun a w h => ?_
    refine nl0 ?_
    refine thN ?_
    refine sq ?_
    refine cdB h (fun c31 => ?_) (fun c31 => ?_)
    · have c31 : k < (p.inputs ++ p.cells).length := by have := of_decide_eq_true c31; omega
      obtain ⟨g, off, rfl, hvt, hcell⟩ := CS.get hds c31
      refine sk_ ?_
      refine thN ?_
      refine sq ?_
      refine blk ?_
      refine sq ?_
      refine rg0 ?_
      refine ia sli25 sz72 rfl c31 h fun a w h => ?_
      refine ldHN tN72 rfl hcell h fun a w h => ?_
      refine al zr72 h fun g6 a w h => ?_
      refine sw0 tN72 h fun a w h => ?_
      refine nl0 ?_
      refine thN ?_
      refine rg0 ?_
      refine ld 1 t1_58 h fun a w h => ?_
      refine fa fl72_0 (r := 0) h fun a w h => ?_
      refine ld 0 t1_9 h fun a w h => ?_
      refine bsl bs58 h fun g37 a w h => ?_
      refine apb 3 0 (L' := fun i => _ :: _ :: _ :: i :: _) [_] row58 h ?_ ?_ fun v38 a w hone h => ?_
      · omega
      · omega
      obtain ⟨B2, cp2, rfl⟩ := h.rowv 3
      have hr2 : RowR RStr 1 Hd (xs ++ [str (p.inputs ++ p.cells)[k].name]) (((p.inputs ++ p.cells).take (k + 1)).map (·.name)) := by rw [List.take_succ_eq_append_getElem c31, List.map_append]; exact pre.2.app (.one rfl rfl)
      refine st2 (l := [_]) t1_58 h fun a w h => ?_
      refine nl0 ?_
      refine ibN ?_
      refine thN ?_
      refine rg0 ?_
      have h := h.pull 4 rfl rfl
      have h := h.pull 4 rfl rfl
      have h := h.pull 4 rfl rfl
      have h := h.del 4
      have h := h.del 3
      refine inc ?_ h fun a w h => ?_
      · omega
      refine mv h fun a w h => ?_
      refine nl0 ?_
      refine thN ?_
      exact ⟨(k + 1, B2, cp2, _), ⟨⟨by omega, hr2⟩, h.to 0 _⟩, by show _ - (k + 1) < _ - k; omega⟩
    · have hkk : k = (p.inputs ++ p.cells).length := by have := of_decide_eq_false c31; omega
      have hrow := pre.2
      rw [hkk, List.take_length, show (p.inputs ++ p.cells).map (·.name) = p.known 0 from by simp [Pg.known]] at hrow
      have hk2 : k = (p.known 0).length := by rw [hkk]; simp [Pg.known]
      subst hk2
      refine exit_ ?_
      refine thE ?_
      refine thE ?_
      refine ibH ?_
      refine thN ?_
      refine sq ?_
      refine rg0 ?_
      refine ld 0 t1_58 h fun a w h => ?_
      refine as_ h fun a w h => ?_
      refine nl0 ?_
      refine thN ?_
      refine sq ?_
      refine sq ?_
      obtain ⟨Hk, leHk, h, hk0, back1⟩ := h.lendR 1 (ys := p.known 0) hrow rfl (fun _ _ _ _ _ h => h)
      have l_H_Hk : LE H Hk := l_H_Hd.trans leHk
      have l_Hf_Hk : LE Hf Hk := l_Hf_Hd.trans leHk
      have l_Hl_Hk : LE Hl Hk := l_Hl_Hd.trans leHk
      have l_Hd_Hk : LE Hd Hk := leHk
      refine rg0 ?_
      refine fa fl28_2 (r := 2) h fun a w h => ?_
      refine ldH t1_26 (Hc.of (l_Hf_Hk _ _ hf1) rfl) h fun a w h => ?_
      refine ln sli26 h fun a w h => ?_
      refine mv h fun a w h => ?_
      refine nl0 ?_
      refine thN ?_
      refine blk ?_
      refine lp (β := Nat × GH × Option Addr × Nat) (fun x a w => match x with | (k, H3, Aa, ca) => (k ≤ p.defs.length ∧ LE Hk H3 ∧ SS H3 Aa ca (p.known k)) ∧ S E H3 124 [] [(44, .int .i64 (k : Int)), (43, .int .i64 (p.defs.length : Int)), (42, .slice A3 p.defs.length c3), (7, .slice Aa (p.known k).length ca), (1, .pointer (some ⟨g1, 0, none⟩)), (2, .pointer (some ⟨g2, 0, none⟩)), (4, .pointer (some ⟨g4, 0, none⟩)), (3, .int .i64 0)] (.obj g4 (.cells #[.slice B (p.known 0).length cp] 58 (0, 0)) :: .obj g2 (.cells #[.slice none 0 0, .slice none 0 0, .slice none 0 0, .int .i64 0, .string ⟨#[]⟩, .int .i64 0, .slice none 0 0] 28 (0, 0)) :: L) a w)
        (fun x => match x with | (k, H3, Aa, ca) => p.defs.length - k) (0, Hk, B, cp) ⟨⟨Nat.zero_le _, LE.rfl, hk0⟩, h.to 0 _⟩ ?_
      rintro ⟨k, H3, Aa, ca⟩ a w ⟨pre, h⟩
      obtain ⟨hkk, l_Hk_H3, hsa⟩ := pre
      have l_Hd_H3 := l_Hd_Hk.trans l_Hk_H3
      have l_Hf_H3 := l_Hf_Hk.trans l_Hk_H3
      have l_H_H3 := l_H_Hk.trans l_Hk_H3
      have hkn := known_len p k
      refine sq ?_
      refine rg0 ?_
      refine lt h fun a w h => ?_
      refine nl0 ?_
      refine thN ?_
      refine sq ?_
      refine cdB h (fun c45 => ?_) (fun c45 => ?_)
      · have c45 : k < p.defs.length := by simpa using c45
        obtain ⟨g, off, A6, c6, rfl, hvt, hcell⟩ := FS.get (hdf.up l_Hf_H3) c45
        refine sk_ ?_
        refine thN ?_
        refine sq ?_
        refine blk ?_
        refine sq ?_
        refine rg0 ?_
        refine ia sli26 sz68 rfl c45 h fun a w h => ?_
        refine ldHN tN68 rfl hcell h fun a w h => ?_
        refine al zr68 h fun g9 a w h => ?_
        refine sw0 tN68 h fun a w h => ?_
        refine nl0 ?_
        refine thN ?_
        refine rgx [0] [_] [3] 7 mix h (fun a w h => ?_)
        refine tkl 0 false (by kernel_rfl) ?_
        refine mv h fun a w h => ?_
        refine tk0 ?_
        refine tkl 2 false (by kernel_rfl) ?_
        refine fa fl68_0 (r := 0) h fun a w h => ?_
        refine tk0 ?_
        refine tkl 3 true (by kernel_rfl) ?_
        refine ldT 0 t1_9 h fun a w h => ?_
        refine tk0 ?_
        refine brl2 1 4 true false (by kernel_rfl) (by kernel_rfl) (by kernel_rfl) (fun _ => h.st.sees' (by first | exact LE.rfl | assumption) (by simp)) ?_ ?_
        · refine cl bod42 (Clip_ok Aa (p.known k).length ca (rs_le hsa) E H3 _) h (fun r49 H49 L49 a w le49 R h => ?_) (hS := fun _ _ _ _ _ le R hw => by obtain ⟨rfl, rfl, rfl⟩ := R; exact hw.sees' (by first | exact le | exact LE.trans (by assumption) le) (by simp))
          obtain ⟨rfl, rfl, rfl⟩ := R
          refine br0 ?_
          refine brl1 4 false (by kernel_rfl) (by kernel_rfl) (fun _ => h.st.sees' (by first | exact LE.rfl | assumption) (by simp)) ?_
          refine bsl bs58 h fun g52 a w h => ?_
          refine br0 ?_
          refine brl1 5 true (by kernel_rfl) (by kernel_rfl) (fun _ => h.st.sees' (by first | exact LE.rfl | assumption) (by simp)) ?_
          refine apc 0 [_] row58 (rs_clip hsa) h ?_ ?_ fun A53 c53 olds a w hol h => ?_
          · omega
          · omega
          have hkl : (p.known k).length + 1 = (p.known (k + 1)).length := by rw [known_succ p c45, List.length_append]; rfl
          have hr53 : RowR RStr 1 H3 (olds ++ [str p.defs[k].name]) (p.known (k + 1)) := by rw [known_succ p c45]; exact hol.snoc rfl rfl
          rw [hkl] at h
          obtain ⟨H4, leH4, h, hsa2⟩ := h.frw 0 (ys := p.known (k + 1)) hr53 rfl (fun _ _ _ _ _ h => h)
          have l_H_H4 : LE H H4 := l_H_H3.trans leH4
          have l_Hf_H4 : LE Hf H4 := l_Hf_H3.trans leH4
          have l_Hd_H4 : LE Hd H4 := l_Hd_H3.trans leH4
          have l_Hk_H4 : LE Hk H4 := l_Hk_H3.trans leH4
          have l_H3_H4 : LE H3 H4 := leH4
          refine br0 ?_
          refine tkl 6 false (by kernel_rfl) ?_
          refine as_ h fun a w h => ?_
          refine tk0 ?_
          refine en (by kernel_rfl) ?_
          refine ibN ?_
          refine thN ?_
          refine rg0 ?_
          have h := h.pull 3 rfl rfl
          have h := h.pull 3 rfl rfl
          have h := h.del 3
          have h := h.del 2
          refine inc ?_ h fun a w h => ?_
          · omega
          refine mv h fun a w h => ?_
          refine nl0 ?_
          refine thN ?_
          exact ⟨(k + 1, H4, A53, c53), ⟨⟨by omega, l_Hk_H4, hsa2⟩, h.to 0 _⟩, by show _ - (k + 1) < _ - k; omega⟩
        · refine bsl bs58 h fun g52 a w h => ?_
          refine br0 ?_
          refine brl1 1 true (by kernel_rfl) (by kernel_rfl) (fun _ => h.st.sees' (by first | exact LE.rfl | assumption) (by simp)) ?_
          refine cl bod42 (Clip_ok Aa (p.known k).length ca (rs_le hsa) E H3 _) h (fun r49 H49 L49 a w le49 R h => ?_) (hS := fun _ _ _ _ _ le R hw => by obtain ⟨rfl, rfl, rfl⟩ := R; exact hw.sees' (by first | exact le | exact LE.trans (by assumption) le) (by simp))
          obtain ⟨rfl, rfl, rfl⟩ := R
          refine br0 ?_
          refine brl1 5 true (by kernel_rfl) (by kernel_rfl) (fun _ => h.st.sees' (by first | exact LE.rfl | assumption) (by simp)) ?_
          refine apc 0 [_] row58 (rs_clip hsa) h ?_ ?_ fun A53 c53 olds a w hol h => ?_
          · omega
          · omega
          have hkl : (p.known k).length + 1 = (p.known (k + 1)).length := by rw [known_succ p c45, List.length_append]; rfl
          have hr53 : RowR RStr 1 H3 (olds ++ [str p.defs[k].name]) (p.known (k + 1)) := by rw [known_succ p c45]; exact hol.snoc rfl rfl
          rw [hkl] at h
          obtain ⟨H4, leH4, h, hsa2⟩ := h.frw 0 (ys := p.known (k + 1)) hr53 rfl (fun _ _ _ _ _ h => h)
          have l_H_H4 : LE H H4 := l_H_H3.trans leH4
          have l_Hf_H4 : LE Hf H4 := l_Hf_H3.trans leH4
          have l_Hd_H4 : LE Hd H4 := l_Hd_H3.trans leH4
          have l_Hk_H4 : LE Hk H4 := l_Hk_H3.trans leH4
          have l_H3_H4 : LE H3 H4 := leH4
          refine br0 ?_
          refine tkl 6 false (by kernel_rfl) ?_
          refine as_ h fun a w h => ?_
          refine tk0 ?_
          refine en (by kernel_rfl) ?_
          refine ibN ?_
          refine thN ?_
          refine rg0 ?_
          have h := h.pull 3 rfl rfl
          have h := h.pull 3 rfl rfl
          have h := h.del 3
          have h := h.del 2
          refine inc ?_ h fun a w h => ?_
          · omega
          refine mv h fun a w h => ?_
          refine nl0 ?_
          refine thN ?_
          exact ⟨(k + 1, H4, A53, c53), ⟨⟨by omega, l_Hk_H4, hsa2⟩, h.to 0 _⟩, by show _ - (k + 1) < _ - k; omega⟩
      · have hke : k = p.defs.length := by simp at c45; omega
        subst hke
        refine exit_ ?_
        refine thE ?_
        refine thE ?_
        refine ibH ?_
        refine thN ?_
        refine sq ?_
        refine sq ?_
        refine rg0 ?_
        refine mv h fun a w h => ?_
        refine ln sli58 h fun a w h => ?_
        refine mv h fun a w h => ?_
        refine nl0 ?_
        refine thN ?_
        refine blk ?_
        refine lp (β := Nat) (fun j a w => (j ≤ (p.known p.defs.length).length ∧ ∀ i (hi : i < (p.known p.defs.length).length), i < j → decide (indexL (p.known p.defs.length) (p.known p.defs.length)[i] < (i : Int)) = false) ∧ S E H3 124 [] [(57, .int .i64 (j : Int)), (56, .int .i64 ((p.known p.defs.length).length : Int)), (55, .slice Aa (p.known p.defs.length).length ca), (7, .slice Aa (p.known p.defs.length).length ca), (1, .pointer (some ⟨g1, 0, none⟩)), (2, .pointer (some ⟨g2, 0, none⟩)), (4, .pointer (some ⟨g4, 0, none⟩)), (3, .int .i64 0)] (.obj g4 (.cells #[.slice B (p.known 0).length cp] 58 (0, 0)) :: .obj g2 (.cells #[.slice none 0 0, .slice none 0 0, .slice none 0 0, .int .i64 0, .string ⟨#[]⟩, .int .i64 0, .slice none 0 0] 28 (0, 0)) :: L) a w)
          (fun j => (p.known p.defs.length).length - j) 0 ⟨⟨Nat.zero_le _, fun i hi h0 => absurd h0 (by omega)⟩, h.to 0 _⟩ ?_
        rintro j a w ⟨pre, h⟩
        refine sq ?_
        refine rg0 ?_
        refine lt h fun a w h => ?_
        refine nl0 ?_
        refine thN ?_
        refine sq ?_
        refine cdB h (fun c58 => ?_) (fun c58 => ?_)
        · have c58 : j < (p.known p.defs.length).length := by simpa using c58
          obtain ⟨g, off, rfl, hcell⟩ := SS.get hsa c58
          refine sk_ ?_
          refine thN ?_
          refine sq ?_
          refine blk ?_
          refine sq ?_
          refine rg0 ?_
          refine mv h fun a w h => ?_
          refine ia sli58 sz9 rfl c58 h fun a w h => ?_
          refine ldH t1_9 hcell h fun a w h => ?_
          refine as_ h fun a w h => ?_
          refine as_ h fun a w h => ?_
          refine nl0 ?_
          refine thN ?_
          refine sq ?_
          refine rg0 ?_
          refine mv h fun a w h => ?_
          refine mv h fun a w h => ?_
          refine cl bod43 (Index_ok (p.known p.defs.length) _ _ ca E H3 _ hsa (by omega)) h fun r64 H64 L64 a w le64 R h => ?_
          obtain ⟨rfl, rfl, rfl⟩ := R
          refine mv h fun a w h => ?_
          refine lt h fun a w h => ?_
          refine nl0 ?_
          refine thN ?_
          refine cdB h (fun c66 => ?_) (fun c66 => ?_)
          · have er : p.resolve = (Pg.zero, 6) := by unfold Pg.resolve; rw [if_neg (by rw [hrt]; simp), if_pos (twice_yes c58 c66)]
            refine sq ?_
            refine rg0 ?_
            refine bdl lay28 zr28 h fun a w h => ?_
            refine sw1 tN28 h fun a w h => ?_
            refine as_ h fun a w h => ?_
            refine nl0 ?_
            refine thN ?_
            refine ret_ ?_
            refine ibR ?_
            refine thR ?_
            refine thR ?_
            refine ibR ?_
            refine thR ?_
            rw [er]
            exact fin (rs := [.cell 2 28, .tmp 3]) (vs := [.agg #[_, _, _, _, _, _, _], .int .i64 _]) h rfl (.agg (k0 := 1) tN28 rfl rfl rfl (.tmp rfl .nil)) rfl l_H_H3 ⟨LE.rfl, h.st.drop 2⟩ ⟨_, rfl, vp_zero _, rfl⟩
          · refine sk_ ?_
            refine ibN ?_
            refine thN ?_
            refine rg0 ?_
            have h := h.pull 1 rfl rfl
            have h := h.pull 1 rfl rfl
            refine inc ?_ h fun a w h => ?_
            · omega
            refine mv h fun a w h => ?_
            refine nl0 ?_
            refine thN ?_
            exact ⟨(j + 1), ⟨⟨by omega, fun i hi hij => by rcases Nat.lt_succ_iff_lt_or_eq.1 hij with h0 | rfl <;> first | exact c66 | exact pre.2 i hi h0⟩, h.to 0 _⟩, by show _ - (j + 1) < _ - j; omega⟩
        · have hje : j = (p.known p.defs.length).length := by simp at c58; omega
          have htw : p.twice = false := twice_no fun i hi => pre.2 i hi (by omega)
          refine exit_ ?_
          refine thE ?_
          refine thE ?_
          refine ibH ?_
          refine thN ?_
          refine sq ?_
          have h := back1.get l_Hk_H3 h
          refine rg0 ?_
          refine mf h fun a w h => ?_
          refine as_ h fun a w h => ?_
          refine nl0 ?_
          refine thN ?_
          refine sq ?_
          have e0 : (p.known 0).length ≤ 64 := by have := known_len p 0; unfold Pg.known at *; simp at *; omega
          refine rg0 ?_
          refine fa fl28_0 (r := 0) h fun a w h => ?_
          refine ldH t1_25 (Hc.of (l_Hf_Hd _ _ hf1) rfl) h fun a w h => ?_
          refine fa fl28_1 (r := 1) h fun a w h => ?_
          refine ldH t1_25 (Hc.of (l_Hf_Hd _ _ hf1) rfl) h fun a w h => ?_
          refine bdl lay28 zr28 h fun a w h => ?_
          refine al zr28 h fun g13 a w h => ?_
          refine sw0 tN28 h fun a w h => ?_
          refine nl0 ?_
          refine thN ?_
          refine sq ?_
          refine rg0 ?_
          refine as_ h fun a w h => ?_
          refine nl0 ?_
          refine thN ?_
          refine sq ?_
          refine sq ?_
          have h := h.row (e := 68) (sz := 5)
          have hdg := hdf.up l_Hf_Hd
          have hkg := hkf.up l_Hf_Hd
          have hLg := hLf.up l_Hf_Hd
          refine rg0 ?_
          refine fa fl28_2 (r := 2) h fun a w h => ?_
          refine ldH t1_26 (Hc.of (l_Hf_Hd _ _ hf1) rfl) h fun a w h => ?_
          refine ln sli26 h fun a w h => ?_
          refine mv h fun a w h => ?_
          refine nl0 ?_
          refine thN ?_
          refine blk ?_
          have h := h.pull 4 rfl rfl
          have h := h.pull 1 rfl rfl
          have h := h.pull 2 rfl rfl
          have h := h.pull 3 rfl rfl
          have h := h.pull 4 rfl rfl
          refine lp (β := Nat × GH × List Df × Int × Option Addr × Nat × List Value × Option Addr × Nat × List Value) (fun x a w => match x with | (k, H5, ds, n, B5, cp5, xs5, C, cq, ys) => (k ≤ p.defs.length ∧ LE Hd H5 ∧ p.go k = some (ds, n) ∧ In64 n ∧ ds.length = k ∧ RowR RStr 1 H5 xs5 (p.known k) ∧ RowR RDf 5 H5 ys ds) ∧ S E H5 124 [] [(78, .int .i64 (k : Int)), (77, .int .i64 (p.defs.length : Int)), (76, .slice A3 p.defs.length c3), (12, .func (.func 44) #[] #[.pointer (some ⟨g4, 0, none⟩)]), (14, .int .i64 n), (1, .pointer (some ⟨g1, 0, none⟩)), (2, .pointer (some ⟨g2, 0, none⟩)), (4, .pointer (some ⟨g4, 0, none⟩)), (13, .pointer (some ⟨g13, 0, none⟩)), (3, .int .i64 0)] (.obj g4 (.cells #[.slice B5 (p.known k).length cp5] 58 (0, 0)) :: .row (.slice B5 (p.known k).length cp5) 9 1 (p.known k).length xs5 :: .obj g13 (.cells #[.slice A1 p.inputs.length c1, .slice A2 p.cells.length c2, .slice C k cq, .int .i64 0, .string ⟨#[]⟩, .int .i64 0, .slice none 0 0] 28 (0, 0)) :: .row (.slice C k cq) 68 5 k ys :: .obj g2 (.cells #[.slice none 0 0, .slice none 0 0, .slice none 0 0, .int .i64 0, .string ⟨#[]⟩, .int .i64 0, .slice none 0 0] 28 (0, 0)) :: L) a w)
            (fun x => match x with | (k, H5, ds, n, B5, cp5, xs5, C, cq, ys) => p.defs.length - k) (0, Hd, [], 1, B, cp, xs, none, 0, []) ⟨⟨Nat.zero_le _, LE.rfl, rfl, ⟨by decide, by decide⟩, rfl, hrow, RowR.nil⟩, h.to 0 _⟩ ?_
          rintro ⟨k, H5, ds, n, B5, cp5, xs5, C, cq, ys⟩ a w ⟨pre, h⟩
          obtain ⟨hkk, l_Hd_H5, hgo, hn, hdl, hrk, hrd⟩ := pre
          have l_Hf_H5 := l_Hf_Hd.trans l_Hd_H5
          have l_H_H5 := l_H_Hd.trans l_Hd_H5
          have hkn := known_len p k
          refine sq ?_
          refine rg0 ?_
          refine lt h fun a w h => ?_
          refine nl0 ?_
          refine thN ?_
          refine sq ?_
          refine cdB h (fun c79 => ?_) (fun c79 => ?_)
          · have c79 : k < p.defs.length := by simpa using c79
            obtain ⟨g, off, A6, c6, rfl, hvt, hcell⟩ := FS.get (hdg.up l_Hd_H5) c79
            obtain ⟨A7, c7, e7, hkt⟩ := hvt
            cases e7
            refine sk_ ?_
            refine thN ?_
            refine sq ?_
            refine blk ?_
            refine sq ?_
            refine rg0 ?_
            refine ia sli26 sz68 rfl c79 h fun a w h => ?_
            refine ldHN tN68 rfl hcell h fun a w h => ?_
            refine al zr68 h fun g16 a w h => ?_
            refine sw0 tN68 h fun a w h => ?_
            refine nl0 ?_
            refine thN ?_
            refine sq ?_
            refine sq ?_
            refine rg0 ?_
            refine mv h fun a w h => ?_
            refine fa fl68_1 (r := 1) h fun a w h => ?_
            refine ldN 0 tN24 h fun a w h => ?_
            obtain ⟨Ha, leHa, h, hka, backa⟩ := h.lendR 2 (ys := (p.known k)) hrk rfl (fun _ _ _ _ _ h => h)
            obtain ⟨Hb, leHb, h, hfb, backb⟩ := h.lendO 1
            refine cl bod44 (strange_ok p.defs[k].t _ (p.known k) B5 cp5 g4 E Hb _ (VDf.t (hkt.up (leHa.trans leHb))) ((hb.f _ (List.getElem_mem c79)).2.1) ((hb.f _ (List.getElem_mem c79)).2.2) (SS.up hka leHb) (Hc.of hfb rfl) (by omega)) h fun r85 H85 L85 a w le85 R h => ?_
            obtain ⟨rfl, rfl, rfl⟩ := R
            have h := backb.get LE.rfl h
            have h := backa.get LE.rfl h
            refine nl0 ?_
            refine thN ?_
            refine cdB h (fun c85 => ?_) (fun c85 => ?_)
            · have hgo3 : p.go (k + 1) = none := by rw [go_succ hgo c79, if_pos c85]
              have er : p.resolve = (Pg.zero, 5) := by unfold Pg.resolve; rw [if_neg (by rw [hrt]; simp), if_neg (by rw [htw]; simp), go_none hgo3 _ (by omega)]
              refine sq ?_
              refine rg0 ?_
              refine bdl lay28 zr28 h fun a w h => ?_
              refine sw5 tN28 h fun a w h => ?_
              refine as_ h fun a w h => ?_
              refine nl0 ?_
              refine thN ?_
              refine ret_ ?_
              refine thR ?_
              refine ibR ?_
              refine thR ?_
              refine thR ?_
              refine ibR ?_
              refine thR ?_
              rw [er]
              exact fin (rs := [.cell 2 28, .tmp 3]) (vs := [.agg #[_, _, _, _, _, _, _], .int .i64 _]) h rfl (.agg (k0 := 5) tN28 rfl rfl rfl (.tmp rfl .nil)) rfl l_H_H5 ⟨LE.rfl, h.st.drop 6⟩ ⟨_, rfl, vp_zero _, rfl⟩
            · have hgo2 : p.go (k + 1) = some (ds ++ [⟨p.defs[k].name, (p.defs[k].t.ren noS n).1⟩], (p.defs[k].t.ren noS n).2) := by rw [go_succ hgo c79, if_neg (by rw [c85]; simp)]; rfl
              refine sk_ ?_
              refine thN ?_
              refine sq ?_
              refine rg0 ?_
              refine fa fl68_1 (r := 1) h fun a w h => ?_
              refine ldN 2 tN24 h fun a w h => ?_
              refine mv h fun a w h => ?_
              refine cl bod10 (Rename_ok p.defs[k].t _ n E H5 _ (VDf.t hkt) (hLg.up l_Hd_H5) hn ((hb.f _ (List.getElem_mem c79)).2.2)) h fun r91 H91 L91 a w le91 R h => ?_
              obtain ⟨v91, rfl, ⟨A91, c91, rfl, hk91⟩, rfl⟩ := R
              have l_H_H91 : LE H H91 := l_H_H5.trans le91
              have l_Hf_H91 : LE Hf H91 := l_Hf_H5.trans le91
              have l_Hd_H91 : LE Hd H91 := l_Hd_H5.trans le91
              have l_H5_H91 : LE H5 H91 := le91
              refine mv h fun a w h => ?_
              refine ex h fun a w h => ?_
              refine ex h fun a w h => ?_
              refine al zr24 h fun g17 a w h => ?_
              refine sw0 tN24 h fun a w h => ?_
              refine as_ h fun a w h => ?_
              refine nl0 ?_
              refine thN ?_
              refine sq ?_
              refine rg0 ?_
              refine mv h fun a w h => ?_
              refine as_ h fun a w h => ?_
              refine nl0 ?_
              refine thN ?_
              refine sq ?_
              refine rg0 ?_
              refine fa fl28_2 (r := 2) h fun a w h => ?_
              refine ld 4 t1_26 h fun a w h => ?_
              refine fa fl68_0 (r := 0) h fun a w h => ?_
              refine ld 3 t1_9 h fun a w h => ?_
              refine ldW 0 tN24 h fun a w h => ?_
              refine bdl lay68 zr68 h fun a w h => ?_
              refine bsl bs26 h fun g101 a w h => ?_
              refine apb 6 0 (L' := fun i => _ :: _ :: _ :: _ :: _ :: _ :: i :: _) [_, _, _, _, _] row26 h ?_ ?_ fun v102 a w hone h => ?_
              · omega
              · omega
              obtain ⟨C8, cq8, rfl⟩ := h.rowv 6
              have hrd2 : RowR RDf 5 H91 (ys ++ [str p.defs[k].name, .int .i64 (p.defs[k].t.ren noS n).1.kind, str (p.defs[k].t.ren noS n).1.name, .int .i64 (p.defs[k].t.ren noS n).1.n, .slice A91 (p.defs[k].t.ren noS n).1.kids.length c91]) (ds ++ [⟨p.defs[k].name, (p.defs[k].t.ren noS n).1⟩]) := (hrd.mono fun cs y _ hr => RDf.mono l_H5_H91 hr).snoc rfl ⟨_, rfl, rt_of_vt (cs := [_, _, _, _]) ⟨A91, c91, rfl, hk91⟩⟩
              refine fa fl28_2 (r := 2) h fun a w h => ?_
              refine st5 (l := [_, _, _, _, _, _, _]) t1_26 h fun a w h => ?_
              refine nl0 ?_
              refine thN ?_
              refine rg0 ?_
              refine ld 3 t1_58 h fun a w h => ?_
              refine fa fl68_0 (r := 0) h fun a w h => ?_
              refine ld 4 t1_9 h fun a w h => ?_
              refine bsl bs58 h fun g107 a w h => ?_
              refine apb 3 0 (L' := fun i => _ :: _ :: _ :: i :: _) [_] row58 h ?_ ?_ fun v108 a w hone h => ?_
              · omega
              · omega
              obtain ⟨B8, cp8, rfl⟩ := h.rowv 3
              have hrk2 : RowR RStr 1 H91 (xs5 ++ [str p.defs[k].name]) (p.known (k + 1)) := by rw [known_succ p c79]; exact (hrk.mono fun _ _ _ h => h).snoc rfl rfl
              have hkl : (p.known k).length + 1 = (p.known (k + 1)).length := by rw [known_succ p c79, List.length_append]; rfl
              rw [hkl] at h
              refine st4 (l := [_]) t1_58 h fun a w h => ?_
              refine nl0 ?_
              refine ibN ?_
              refine thN ?_
              refine rg0 ?_
              have h := h.pull 8 rfl rfl
              have h := h.pull 8 rfl rfl
              have h := h.pull 8 rfl rfl
              have h := h.pull 6 rfl rfl
              have h := h.pull 7 rfl rfl
              have h := h.del 8
              have h := h.del 7
              have h := h.del 6
              have h := h.del 5
              refine inc ?_ h fun a w h => ?_
              · omega
              refine mv h fun a w h => ?_
              refine nl0 ?_
              refine thN ?_
              exact ⟨(k + 1, H91, _, _, B8, cp8, _, C8, cq8, _), ⟨⟨by omega, l_Hd_H91, hgo2, ren_in _ _ _ hn, by rw [List.length_append, hdl]; rfl, hrk2, hrd2⟩, h.to 0 _⟩, by show _ - (k + 1) < _ - k; omega⟩
          · have hke : k = p.defs.length := by simp at c79; omega
            subst hke
            refine exit_ ?_
            refine thE ?_
            refine thE ?_
            refine ibH ?_
            refine thN ?_
            refine sq ?_
            refine sq ?_
            refine rg0 ?_
            refine mv h fun a w h => ?_
            refine fa fl28_3 (r := 3) h fun a w h => ?_
            refine ldHN (l := [_, _, _, _]) tN24 rfl (Hc.sub 3 4 (l_Hf_H5 _ _ hf1)) h fun a w h => ?_
            obtain ⟨Ha, leHa, h, hka, backa⟩ := h.lendR 1 (ys := (p.known p.defs.length)) hrk rfl (fun _ _ _ _ _ h => h)
            obtain ⟨Hb, leHb, h, hfb, backb⟩ := h.lendO 0
            refine cl bod44 (strange_ok p.body _ (p.known p.defs.length) B5 cp5 g4 E Hb _ (⟨A4, c4, rfl, hkg.up ((l_Hd_H5).trans (leHa.trans leHb))⟩) (hb.b1) (hb.b2) (SS.up hka leHb) (Hc.of hfb rfl) (by omega)) h fun r113 H113 L113 a w le113 R h => ?_
            obtain ⟨rfl, rfl, rfl⟩ := R
            have h := backb.get LE.rfl h
            have h := backa.get LE.rfl h
            refine nl0 ?_
            refine thN ?_
            refine cdB h (fun c113 => ?_) (fun c113 => ?_)
            · have er : p.resolve = (Pg.zero, 5) := by unfold Pg.resolve; rw [if_neg (by rw [hrt]; simp), if_neg (by rw [htw]; simp), hgo]; exact if_pos c113
              refine sq ?_
              refine rg0 ?_
              refine bdl lay28 zr28 h fun a w h => ?_
              refine sw4 tN28 h fun a w h => ?_
              refine as_ h fun a w h => ?_
              refine nl0 ?_
              refine thN ?_
              refine ret_ ?_
              refine thR ?_
              rw [er]
              exact fin (rs := [.cell 2 28, .tmp 3]) (vs := [.agg #[_, _, _, _, _, _, _], .int .i64 _]) h rfl (.agg (k0 := 4) tN28 rfl rfl rfl (.tmp rfl .nil)) rfl l_H_H5 ⟨LE.rfl, h.st.drop 5⟩ ⟨_, rfl, vp_zero _, rfl⟩
            · have er : p.resolve = (⟨p.inputs, p.cells, ds, (p.body.ren noS n).1⟩, 0) := by unfold Pg.resolve; rw [if_neg (by rw [hrt]; simp), if_neg (by rw [htw]; simp), hgo]; exact if_neg (by rw [c113]; simp)
              refine sk_ ?_
              refine thN ?_
              refine sq ?_
              refine rg0 ?_
              refine fa fl28_3 (r := 3) h fun a w h => ?_
              refine ldHN (l := [_, _, _, _]) tN24 rfl (Hc.sub 3 4 (l_Hf_H5 _ _ hf1)) h fun a w h => ?_
              refine mv h fun a w h => ?_
              refine cl bod10 (Rename_ok p.body _ n E H5 _ (⟨A4, c4, rfl, hkg.up l_Hd_H5⟩) (hLg.up l_Hd_H5) hn (hb.b2)) h fun r119 H119 L119 a w le119 R h => ?_
              obtain ⟨v119, rfl, ⟨A119, c119, rfl, hk119⟩, rfl⟩ := R
              have l_H_H119 : LE H H119 := l_H_H5.trans le119
              have l_Hf_H119 : LE Hf H119 := l_Hf_H5.trans le119
              have l_Hd_H119 : LE Hd H119 := l_Hd_H5.trans le119
              have l_H5_H119 : LE H5 H119 := le119
              refine mv h fun a w h => ?_
              refine ex h fun a w h => ?_
              refine ex h fun a w h => ?_
              refine fa fl28_3 (r := 3) h fun a w h => ?_
              refine stN (vs := [_, _, _, _]) 2 tN24 h (fun a w h => ?_) [_, _, _, _, _, _, _]
              refine nl0 ?_
              refine thN ?_
              refine sq ?_
              refine rg0 ?_
              refine ldW 2 tN28 h fun a w h => ?_
              refine sw4 tN28 h fun a w h => ?_
              refine as_ h fun a w h => ?_
              refine nl0 ?_
              refine thN ?_
              refine ret_ ?_
              obtain ⟨He, leHe, h, hrs⟩ := h.frw (R := RDf) 3 (hrd.mono fun cs y _ hr => RDf.mono l_H5_H119 hr) hdl.symm (fun H6 l6 cs y _ hr => RDf.mono l6 hr)
              have l_H_He : LE H He := l_H_H119.trans leHe
              have l_Hf_He : LE Hf He := l_Hf_H119.trans leHe
              have l_Hd_He : LE Hd He := l_Hd_H119.trans leHe
              have l_H5_He : LE H5 He := l_H5_H119.trans leHe
              have l_H119_He : LE H119 He := leHe
              rw [er]
              exact fin (rs := [.cell 2 28, .tmp 3]) (vs := [.agg #[_, _, _, _, _, _, _], .int .i64 _]) h rfl (.agg (k0 := 3) tN28 rfl rfl rfl (.tmp rfl .nil)) rfl l_H_He ⟨LE.rfl, h.st.drop 4⟩ ⟨_, rfl, vp_of (hi.up l_H_He) (hc.up l_H_He) hdl.symm hrs (KS.up hk119 l_H119_He), rfl⟩
end Go.Proofs.YtindlieilabgfaaGreatDoor
/- Walks: the law's of, fun. -/
set_option linter.unusedVariables false
set_option linter.unusedSimpArgs false
set_option linter.unusedSectionVars false
set_option autoImplicit false
set_option relaxedAutoImplicit false
set_option maxRecDepth 10000
namespace Go.Proofs.YtindlieilabgfaaGreatDoor
open Go X
theorem of_ok (s : Bs) (E : World) (H : GH) (L : List It) : Ok Tryz.prog 30 #[str s] E H L fun r H' L' => r = .agg #[.int .i64 2, str s, .int .i64 0, .slice none 0 0] ∧ H = H' ∧ L = L' := by
  refine enter (N := 5) [(0, _)] Tryz.func30 rfl rfl rfl rfl fun a w h => ?_
  refine sq ?_
  refine rg0 ?_
  refine al zr24 h fun g2 a w h => ?_
  refine nl0 ?_
  refine thN ?_
  refine sq ?_
  refine rg0 ?_
  refine mv h fun a w h => ?_
  refine bdl lay24 zr24 h fun a w h => ?_
  refine sw0 tN24 h fun a w h => ?_
  refine nl0 ?_
  refine thN ?_
  refine ret_ ?_
  exact fin (rs := [.cell 2 24]) (vs := [.agg #[_, _, _, _]]) h rfl (.agg (k0 := 0) tN24 rfl rfl rfl .nil) rfl LE.rfl ⟨LE.rfl, h.st.drop 1⟩ ⟨rfl, rfl, rfl⟩

theorem fun_ok (s : Bs) (t : Tm) (v : Value) (E : World) (H : GH) (L : List It) (hv : VT H v t) : Ok Tryz.prog 28 #[str s, v] E H L fun r H' L' => ∃ A, r = .agg #[.int .i64 3, str s, .int .i64 0, .slice A 1 1] ∧ KS H' A 1 [t] ∧ L' = L := by
  have hv0 := hv
  obtain ⟨A, c, rfl, hks⟩ := hv
  have hv := hv0
  refine enter (N := 9) [(0, _), (1, _)] Tryz.func28 rfl rfl rfl rfl fun a w h => ?_
  refine sq ?_
  refine rg0 ?_
  refine bxA h fun g3 a w h => ?_
  refine al zr24 h fun g4 a w h => ?_
  refine nl0 ?_
  refine thN ?_
  refine sq ?_
  refine rg0 ?_
  refine mv h fun a w h => ?_
  refine ldW 1 tN24 h fun a w h => ?_
  refine bsl bs22 h fun g7 a w h => ?_
  obtain ⟨H1, le1, h, hs⟩ := h.fsl (α := Tm) (R := RT) 0 (ys := [t]) (RowR.one rfl (rt_of_vt (cs := [_, _, _, _]) hv)) (fun _ l _ y _ hr => RT.mono l y hr)
  have l_H_H1 : LE H H1 := le1
  refine bdl lay24 zr24 h fun a w h => ?_
  refine sw0 tN24 h fun a w h => ?_
  refine nl0 ?_
  refine thN ?_
  refine ret_ ?_
  exact fin (rs := [.cell 4 24]) (vs := [.agg #[_, _, _, _]]) h rfl (.agg (k0 := 0) tN24 rfl rfl rfl .nil) rfl le1 ⟨LE.rfl, h.st.drop 2⟩ ⟨_, rfl, hs, rfl⟩
end Go.Proofs.YtindlieilabgfaaGreatDoor
