/- Walks: the renamer's term. -/
import Derived.Test.YtindlieilabgfaaGreatDoorW16
set_option linter.unusedVariables false
set_option linter.unusedSimpArgs false
set_option linter.unusedSectionVars false
set_option autoImplicit false
set_option relaxedAutoImplicit false
set_option maxRecDepth 10000
namespace Go.Proofs.YtindlieilabgfaaGreatDoor
open Go X
theorem sub1 {σ : Bs → Option Bs} {f : Bs → Option Value} {nm old : Bs} (hf : ∀ x, f x = (σ x).map encS) (hold : (f nm).getD (.string ⟨#[]⟩) = str old) (hs : (f nm).isSome = true) : σ nm = some old := by
  rw [hf nm] at hold hs
  cases h : σ nm with
  | none => rw [h] at hs; cases hs
  | some u => rw [h] at hold; simp at hold; rw [hold]
theorem sub0 {σ : Bs → Option Bs} {f : Bs → Option Value} {nm : Bs} (hf : ∀ x, f x = (σ x).map encS) (hs : (f nm).isSome = false) : σ nm = none := by
  rw [hf nm] at hs
  cases h : σ nm with
  | none => rfl
  | some u => rw [h] at hs; cases hs
theorem vt_of {H : GH} {B : Option Addr} {k cp : Nat} {ys : List Tm} {kd : Int} {s : Bs} {n : Int} (hk : k = ys.length) (h : RS RT 4 H (.slice B k cp) ys) : VT H (.agg #[.int .i64 kd, str s, .int .i64 n, .slice B k cp]) (.mk kd s n ys) := by
  subst hk; exact ⟨B, cp, rfl, h⟩
theorem ren_ok : ∀ t : Tm, t.size < 1000000000000 → RenOk t := by
  intro t
  induction t using Tm.ind with
  | h kd nm nn ks ih =>
  intro hsz v E H L gr gt σ f n hv hL hf hn
  obtain ⟨A, c, rfl, hks⟩ := hv
  have hks : KS H A c ks := hks
  simp only [Tm.size] at hsz
  have hlen := length_le_sizeL ks
  obtain ⟨old, hold⟩ : ∃ old, (f nm).getD (.string ⟨#[]⟩) = str old := by
    rw [hf nm]; cases σ nm with
    | none => exact ⟨[], rfl⟩
    | some u => exact ⟨u, rfl⟩
  refine enter (N := 89) [(0, _), (1, _)] Tryz.func36 rfl rfl rfl rfl fun a w h => ?_
  refine sq ?_
  refine rg0 ?_
  refine bx1 h fun g2 a w h => ?_
  refine bxA h fun g3 a w h => ?_
  refine al zr24 h fun g4 a w h => ?_
  refine nl0 ?_
  refine thN ?_
  refine sq ?_
  obtain ⟨H1, leH1, h, hf2⟩ := h.frz 2
  have l_H_H1 : LE H H1 := leH1
  obtain ⟨H2, leH2, h, hf3⟩ := h.frz 1
  have l_H_H2 : LE H H2 := l_H_H1.trans leH2
  have l_H1_H2 : LE H1 H2 := leH2
  have q2 : Hc H2 g2 0 (.pointer (some ⟨gr, 0, none⟩)) := Hc.of (l_H1_H2 _ _ hf2) rfl
  have q3 : Hc H2 g3 3 (.slice A ks.length c) := Hc.of hf3 rfl
  have hks2 := hks.up l_H_H2
  have hL2 := hL.up l_H_H2
  refine rg0 ?_
  refine fa fl24_0 (r := 0) h fun a w h => ?_
  refine ldH t1_3 (Hc.of (LE.rfl _ _ hf3) rfl) h fun a w h => ?_
  refine fa fl24_1 (r := 1) h fun a w h => ?_
  refine ldH t1_9 (Hc.of (LE.rfl _ _ hf3) rfl) h fun a w h => ?_
  refine fa fl24_2 (r := 2) h fun a w h => ?_
  refine ldH t1_2 (Hc.of (LE.rfl _ _ hf3) rfl) h fun a w h => ?_
  refine bdl lay24 zr24 h fun a w h => ?_
  refine al zr24 h fun g5 a w h => ?_
  refine sw0 tN24 h fun a w h => ?_
  refine nl0 ?_
  refine thN ?_
  refine sqc (fun a w => S E H2 89 [] [(2, .pointer (some ⟨g2, 0, none⟩)), (3, .pointer (some ⟨g3, 0, none⟩)), (4, .pointer (some ⟨g4, 0, none⟩)), (5, .pointer (some ⟨g5, 0, none⟩))] (.obj g5 (.cells #[.int .i64 kd, str (if kd == 2 then (σ nm).getD nm else nm), .int .i64 nn, .slice none 0 0] 24 (0, 0)) :: .obj g4 (.cells #[.int .i64 0, .string ⟨#[]⟩, .int .i64 0, .slice none 0 0] 24 (0, 0)) :: .obj gr (.cells #[.map (some gt), .int .i64 n] 78 (0, 0)) :: .blk gt (IsMap encS f) :: L) a w) ?_ ?_
  · refine sq ?_
    refine rgd [2, 3] [_, _] [] [0, 3, 5, 6] 2 mix (by kernel_rfl) h (fun a w h => ?_)
    refine ldHD t1_75 (Hc.of (l_H1_H2 _ _ hf2) rfl) h fun a w h => ?_
    refine nc h fun a w h => ?_
    refine fa fl78_0 (r := 0) h fun a w h => ?_
    refine ldD 0 t1_76 h fun a w h => ?_
    refine fa fl24_1 (r := 1) h fun a w h => ?_
    refine ldHD t1_9 (Hc.of (LE.rfl _ _ hf3) rfl) h fun a w h => ?_
    refine lkD (f := f) (q := nm) 1 keyS mapSS zr9 h fun a w h => ?_
    rw [hold] at h
    refine mv h fun a w h => ?_
    refine ex h fun a w h => ?_
    refine ex h fun a w h => ?_
    refine as_ h fun a w h => ?_
    refine as_ h fun a w h => ?_
    refine nl0 ?_
    refine thN ?_
    refine sq ?_
    refine rg0 ?_
    refine mv h fun a w h => ?_
    refine h.spl (fun c28 h => ?_) (fun c28 h => ?_)
    · refine mv h fun a w h => ?_
      refine fa fl24_0 (r := 0) h fun a w h => ?_
      refine ldH t1_3 (Hc.of (LE.rfl _ _ hf3) rfl) h fun a w h => ?_
      refine eqi h fun a w h => ?_
      refine pkT h fun a w h => ?_
      refine nl0 ?_
      refine thN ?_
      refine cdB h (fun c33 => ?_) (fun c33 => ?_)
      · refine rg0 ?_
        refine mv h fun a w h => ?_
        refine fa fl24_1 (r := 1) h fun a w h => ?_
        refine st0 (l := [_, _, _, _]) t1_9 h fun a w h => ?_
        refine nl0 ?_
        refine thN ?_
        have h := h.pull 3 rfl rfl
        have h := h.pull 3 rfl rfl
        have h := h.pull 3 rfl rfl
        have h := h.pull 3 rfl rfl
        have e1 : (if kd == 2 then (σ nm).getD nm else nm) = old := by rw [if_pos (show (kd == 2) = true from c33), sub1 hf hold c28, Option.getD_some]
        rw [e1]
        exact h.to 0 _
      · refine sk_ ?_
        refine thN ?_
        have h := h.pull 3 rfl rfl
        have h := h.pull 3 rfl rfl
        have h := h.pull 3 rfl rfl
        have h := h.pull 3 rfl rfl
        have e1 : (if kd == 2 then (σ nm).getD nm else nm) = nm := if_neg (by rw [show (kd == 2) = false from c33]; simp)
        rw [e1]
        exact h.to 0 _
    · refine mv h fun a w h => ?_
      refine sk h (k := fun a w h => ?_)
      refine sk h (k := fun a w h => ?_)
      refine sk h (k := fun a w h => ?_)
      refine pkF h fun a w h => ?_
      refine nl0 ?_
      refine thN ?_
      refine cdF h ?_
      refine sk_ ?_
      refine thN ?_
      have h := h.pull 3 rfl rfl
      have h := h.pull 3 rfl rfl
      have h := h.pull 3 rfl rfl
      have h := h.pull 3 rfl rfl
      have e1 : (if kd == 2 then (σ nm).getD nm else nm) = nm := by rw [sub0 hf c28]; split <;> rfl
      rw [e1]
      exact h.to 0 _
  · rintro a w h
    refine sq ?_
    refine rg0 ?_
    refine ldHN tN24 rfl (Hc.all (LE.rfl _ _ hf3)) h fun a w h => ?_
    refine cl bod38 (Binder_ok _ _ _ _ E H2 _) h fun r37 H37 L37 a w le37 R h => ?_
    obtain ⟨rfl, rfl, rfl⟩ := R
    refine as_ h fun a w h => ?_
    refine nl0 ?_
    refine thN ?_
    obtain ⟨s', hs'⟩ : ∃ s', s' = renN kd nm σ n := ⟨_, rfl⟩
    obtain ⟨n1, hn1⟩ : ∃ n1, n1 = if bnd kd then nx n else n := ⟨_, rfl⟩
    refine sqc (fun a w => S E H2 89 [] [(2, .pointer (some ⟨g2, 0, none⟩)), (3, .pointer (some ⟨g3, 0, none⟩)), (4, .pointer (some ⟨g4, 0, none⟩)), (5, .pointer (some ⟨g5, 0, none⟩)), (8, .bool (bnd kd))] (.obj g5 (.cells #[.int .i64 kd, str s', .int .i64 nn, .slice none 0 0] 24 (0, 0)) :: .obj g4 (.cells #[.int .i64 0, .string ⟨#[]⟩, .int .i64 0, .slice none 0 0] 24 (0, 0)) :: .obj gr (.cells #[.map (some gt), .int .i64 n1] 78 (0, 0)) :: .blk gt (IsMap encS f) :: L) a w) ?_ ?_
    · refine sq ?_
      refine rg0 ?_
      refine mv h fun a w h => ?_
      refine nl0 ?_
      refine thN ?_
      refine cdB h (fun c38 => ?_) (fun c38 => ?_)
      · refine sq ?_
        refine rg0 ?_
        refine ldH t1_75 (Hc.of (l_H1_H2 _ _ hf2) rfl) h fun a w h => ?_
        refine nc h fun a w h => ?_
        refine fa fl78_1 (r := 1) h fun a w h => ?_
        refine ld 2 t1_3 h fun a w h => ?_
        refine cl bod61 (Itoa_ok n E H2 _ hL2 hn.1 hn.2) h fun r43 H43 L43 a w le43 R h => ?_
        obtain ⟨rfl, rfl, rfl⟩ := R
        refine fa fl24_1 (r := 1) h fun a w h => ?_
        refine st0 (l := [_, _, _, _]) t1_9 h fun a w h => ?_
        refine nl0 ?_
        refine thN ?_
        refine rg0 ?_
        refine ldH t1_75 (Hc.of (l_H1_H2 _ _ hf2) rfl) h fun a w h => ?_
        refine nc h fun a w h => ?_
        refine fa fl78_1 (r := 1) h fun a w h => ?_
        refine ld 2 t1_3 h fun a w h => ?_
        refine adr (nx n) rfl h fun a w h => ?_
        refine nc h fun a w h => ?_
        refine fa fl78_1 (r := 1) h fun a w h => ?_
        refine st2 (l := [_, _]) t1_3 h fun a w h => ?_
        refine nl0 ?_
        refine thN ?_
        have h := h.pull 3 rfl rfl
        have h := h.pull 3 rfl rfl
        have h := h.pull 3 rfl rfl
        have h := h.pull 3 rfl rfl
        rw [hs', hn1]
        unfold renN
        have hb : bnd kd = true := c38
        rw [if_pos hb, if_pos hb]
        exact h.to 0 _
      · refine sk_ ?_
        refine thN ?_
        have h := h.pull 3 rfl rfl
        have h := h.pull 3 rfl rfl
        have h := h.pull 3 rfl rfl
        have h := h.pull 3 rfl rfl
        rw [hs', hn1]
        unfold renN
        have hb : ¬ (bnd kd = true) := by rw [show bnd kd = false from c38]; simp
        rw [if_neg hb, if_neg hb]
        exact h.to 0 _
    · rintro a w h
      refine sq ?_
      refine sq ?_
      have hn1i : In64 n1 := by rw [hn1]; split; exact nx_in n; exact hn
      have h := h.row (e := 24) (sz := 4)
      refine rg0 ?_
      refine fa fl24_3 (r := 3) h fun a w h => ?_
      refine ldH t1_22 (Hc.of (LE.rfl _ _ hf3) rfl) h fun a w h => ?_
      refine ln sli22 h fun a w h => ?_
      refine mv h fun a w h => ?_
      refine nl0 ?_
      refine thN ?_
      refine blk ?_
      refine lp (β := Nat × GH × Option Addr × Nat × List Value) (fun x a w => match x with | (k, H3, B, cp, xs) => (k ≤ ks.length ∧ LE H2 H3 ∧ RowR RT 4 H3 xs (renT (bnd kd) nm s' ks σ n1 k).1) ∧ S E H3 89 [] [(2, .pointer (some ⟨g2, 0, none⟩)), (3, .pointer (some ⟨g3, 0, none⟩)), (4, .pointer (some ⟨g4, 0, none⟩)), (5, .pointer (some ⟨g5, 0, none⟩)), (8, .bool (bnd kd)), (55, .int .i64 (k : Int)), (54, .int .i64 (ks.length : Int))] (.row (.slice B k cp) 24 4 k xs :: .obj g5 (.cells #[.int .i64 kd, str s', .int .i64 nn, .slice B k cp] 24 (0, 0)) :: .obj g4 (.cells #[.int .i64 0, .string ⟨#[]⟩, .int .i64 0, .slice none 0 0] 24 (0, 0)) :: .obj gr (.cells #[.map (some gt), .int .i64 (renT (bnd kd) nm s' ks σ n1 k).2] 78 (0, 0)) :: .blk gt (IsMap encS f) :: L) a w)
        (fun x => match x with | (k, H3, B, cp, xs) => ks.length - k) (0, H2, none, 0, []) ⟨⟨Nat.zero_le _, LE.rfl, RowR.nil⟩, h.to 0 _⟩ ?_
      rintro ⟨k, H3, B, cp, xs⟩ a w ⟨pre, h⟩
      obtain ⟨hk, l_H2_H3, hrow⟩ := pre
      have l_H_H3 := l_H_H2.trans l_H2_H3
      have l_H1_H3 := l_H1_H2.trans l_H2_H3
      have hnk : In64 (renT (bnd kd) nm s' ks σ n1 k).2 := renT_in hn1i k
      refine sq ?_
      refine rg0 ?_
      refine lt h fun a w h => ?_
      refine nl0 ?_
      refine thN ?_
      refine sq ?_
      refine cdB h (fun c56 => ?_) (fun c56 => ?_)
      · have c56 : k < ks.length := by simpa using c56
        have hsz := size_get_le c56
        refine sk_ ?_
        refine thN ?_
        refine sq ?_
        refine blk ?_
        refine sq ?_
        refine rg0 ?_
        refine mv h fun a w h => ?_
        refine al zr3 h fun g9 a w h => ?_
        refine st0 (l := [_]) t1_3 h fun a w h => ?_
        refine nl0 ?_
        refine thN ?_
        refine sq ?_
        obtain ⟨H4, leH4, h, hf9⟩ := h.frz 0
        have l_H_H4 : LE H H4 := l_H_H3.trans leH4
        have l_H1_H4 : LE H1 H4 := l_H1_H3.trans leH4
        have l_H2_H4 : LE H2 H4 := l_H2_H3.trans leH4
        have l_H3_H4 : LE H3 H4 := leH4
        refine rg0 ?_
        refine mf h fun a w h => ?_
        refine as_ h fun a w h => ?_
        refine nl0 ?_
        refine thN ?_
        refine sq ?_
        refine sq ?_
        refine rg0 ?_
        refine mv h fun a w h => ?_
        refine h.spl (fun c59 h => ?_) (fun c59 h => ?_)
        · refine mv h fun a w h => ?_
          refine ldH t1_3 (Hc.of (LE.rfl _ _ hf9) rfl) h fun a w h => ?_
          refine fa fl24_3 (r := 3) h fun a w h => ?_
          refine ldH t1_22 (Hc.of (l_H2_H4 _ _ hf3) rfl) h fun a w h => ?_
          refine ln sli22 h fun a w h => ?_
          refine sbr ((ks.length : Int) - 1) ?_ h fun a w h => ?_
          · show IntKind.i64.wrap ((ks.length : Int) - 1) = _; exact w64 (by omega) (by omega)
          refine eqi h fun a w h => ?_
          refine pkT h fun a w h => ?_
          refine nl0 ?_
          refine thN ?_
          refine cdB h (fun c67 => ?_) (fun c67 => ?_)
          · refine sq ?_
            refine rgx [1] [_] [1, 2, 4, 6] 13 mix h (fun a w h => ?_)
            refine tkl 0 false (by kernel_rfl) ?_
            refine fa fl24_3 (r := 3) h fun a w h => ?_
            refine tk0 ?_
            refine tkl 1 true (by kernel_rfl) ?_
            refine ldT 0 t1_22 h fun a w h => ?_
            refine tk0 ?_
            refine tkl 2 true (by kernel_rfl) ?_
            refine ldHT t1_75 (Hc.of (l_H1_H4 _ _ hf2) rfl) h fun a w h => ?_
            refine tk0 ?_
            refine tkl 3 false (by kernel_rfl) ?_
            refine fa fl24_1 (r := 1) h fun a w h => ?_
            refine tk0 ?_
            refine tkl 4 true (by kernel_rfl) ?_
            refine ldHT t1_9 (Hc.of (l_H2_H4 _ _ hf3) rfl) h fun a w h => ?_
            refine tk0 ?_
            refine tkl 5 false (by kernel_rfl) ?_
            refine fa fl24_1 (r := 1) h fun a w h => ?_
            refine tk0 ?_
            refine tkl 6 true (by kernel_rfl) ?_
            refine ldT 0 t1_9 h fun a w h => ?_
            refine tk0 ?_
            refine tkl 7 false (by kernel_rfl) ?_
            refine mv h fun a w h => ?_
            refine tk0 ?_
            refine brl1 8 true (by kernel_rfl) (by kernel_rfl) (fun _ => h.st.sees' (by first | exact LE.rfl | assumption) (by simp)) ?_
            have h := h.pull 4 rfl rfl
            have h := h.pull 4 rfl rfl
            have hfu : ∀ x, upd f nm (some (str s')) x = (updS σ nm s' x).map encS := fun x => by unfold X.upd updS; split; rfl; exact hf x
            refine cl bod63 (bind_ok nm s' 62 #[.pointer (some ⟨g2, 0, none⟩), .pointer (some ⟨g3, 0, none⟩), .pointer (some ⟨g9, 0, none⟩)] gr gt σ f _ _ _ E H4 _ hf bod62 (fun Hx Lx lx => kidr_ok ks k c56 (ih _ (List.getElem_mem c56) (by omega)) A c g2 g3 g9 gr gt (updS σ nm s') (upd f nm (some (str s'))) _ E Hx _ (hks2.up (l_H2_H4.trans lx)) (q2.mono (l_H2_H4.trans lx)) (q3.mono (l_H2_H4.trans lx)) ((Hc.of hf9 rfl).mono (lx)) (hL2.up (l_H2_H4.trans lx)) hfu hnk)) h (fun r76 H76 L76 a w le76 R h => ?_) (hS := fun _ _ _ _ _ le R hw => by obtain ⟨_, rfl⟩ := R; exact hw.sees' (by first | exact le | exact LE.trans (by assumption) le) (by simp))
            obtain ⟨⟨A76, c76, rfl, hk76⟩, rfl⟩ := R
            have l_H_H76 : LE H H76 := l_H_H4.trans le76
            have l_H1_H76 : LE H1 H76 := l_H1_H4.trans le76
            have l_H2_H76 : LE H2 H76 := l_H2_H4.trans le76
            have l_H3_H76 : LE H3 H76 := l_H3_H4.trans le76
            have l_H4_H76 : LE H4 H76 := le76
            refine br0 ?_
            refine brl1 9 true (by kernel_rfl) (by kernel_rfl) (fun _ => h.st.sees' (by first | exact LE.rfl | assumption) (by simp)) ?_
            refine bsl bs22 h fun g77 a w h => ?_
            refine br0 ?_
            refine brl1 10 true (by kernel_rfl) (by kernel_rfl) (fun _ => h.st.sees' (by first | exact LE.rfl | assumption) (by simp)) ?_
            refine apb 3 0 (L' := fun i => _ :: _ :: _ :: i :: _) [_, _, _, _] row22 h ?_ ?_ fun v78 a w hone h => ?_
            · omega
            · omega
            obtain ⟨B2, cp2, rfl⟩ := h.rowv 3
            have hin : (bnd kd && k + 1 == ks.length) = true := by rw [c59]; have := eq_of_beq c67; simp; omega
            have hsucc : (renT (bnd kd) nm s' ks σ n1 (k + 1)) = ((renT (bnd kd) nm s' ks σ n1 k).1 ++ [(ks[k].ren (updS σ nm s') (renT (bnd kd) nm s' ks σ n1 k).2).1], (ks[k].ren (updS σ nm s') (renT (bnd kd) nm s' ks σ n1 k).2).2) := by rw [renT_succ c56, hin]; rfl
            have hrow2 : RowR RT 4 H76 (xs ++ [.int .i64 (ks[k].ren (updS σ nm s') (renT (bnd kd) nm s' ks σ n1 k).2).1.kind, str (ks[k].ren (updS σ nm s') (renT (bnd kd) nm s' ks σ n1 k).2).1.name, .int .i64 (ks[k].ren (updS σ nm s') (renT (bnd kd) nm s' ks σ n1 k).2).1.n, .slice A76 (ks[k].ren (updS σ nm s') (renT (bnd kd) nm s' ks σ n1 k).2).1.kids.length c76]) (renT (bnd kd) nm s' ks σ n1 (k + 1)).1 := by rw [hsucc]; exact (hrow.mono fun cs y _ hr => RT.mono l_H3_H76 y hr).snoc rfl (rt_of_vt (cs := [_, _, _, _]) ⟨A76, c76, rfl, hk76⟩)
            have hnx : (ks[k].ren (updS σ nm s') (renT (bnd kd) nm s' ks σ n1 k).2).2 = (renT (bnd kd) nm s' ks σ n1 (k + 1)).2 := by rw [hsucc]
            rw [hnx] at h
            refine br0 ?_
            refine tkl 11 false (by kernel_rfl) ?_
            refine fa fl24_3 (r := 3) h fun a w h => ?_
            refine tk0 ?_
            refine brl1 12 false (by kernel_rfl) (by kernel_rfl) (fun _ => h.st.sees' (by first | exact LE.rfl | assumption) (by simp)) ?_
            refine st4 (l := [_, _, _, _]) t1_22 h fun a w h => ?_
            refine br0 ?_
            refine en (by kernel_rfl) ?_
            refine thN ?_
            refine exit_ ?_
            refine thE ?_
            refine ibH ?_
            refine thN ?_
            refine rg0 ?_
            have h := h.pull 2 rfl rfl
            have h := h.pull 2 rfl rfl
            have h := h.pull 5 rfl rfl
            have h := h.pull 5 rfl rfl
            have h := h.pull 5 rfl rfl
            have h := h.del 5
            refine inc ?_ h fun a w h => ?_
            · omega
            refine mv h fun a w h => ?_
            refine nl0 ?_
            refine thN ?_
            exact ⟨(k + 1, H76, B2, cp2, _), ⟨⟨by omega, l_H2_H76, hrow2⟩, h.to 0 _⟩, by show _ - (k + 1) < _ - k; omega⟩
          · refine sk_ ?_
            refine thN ?_
            refine rgx [1] [_] [1] 8 mix h (fun a w h => ?_)
            refine tkl 0 false (by kernel_rfl) ?_
            refine fa fl24_3 (r := 3) h fun a w h => ?_
            refine tk0 ?_
            refine tkl 1 true (by kernel_rfl) ?_
            refine ldT 0 t1_22 h fun a w h => ?_
            refine tk0 ?_
            refine tkl 2 false (by kernel_rfl) ?_
            refine mv h fun a w h => ?_
            refine tk0 ?_
            refine brl1 3 true (by kernel_rfl) (by kernel_rfl) (fun _ => h.st.sees' (by first | exact LE.rfl | assumption) (by simp)) ?_
            have h := h.pull 4 rfl rfl
            have h := h.pull 4 rfl rfl
            refine cl bod62 (kidr_ok ks k c56 (ih _ (List.getElem_mem c56) (by omega)) A c g2 g3 g9 gr gt σ f _ E H4 _ (hks2.up (l_H2_H4.trans LE.rfl)) (q2.mono (l_H2_H4.trans LE.rfl)) (q3.mono (l_H2_H4.trans LE.rfl)) ((Hc.of hf9 rfl).mono (LE.rfl)) (hL2.up (l_H2_H4.trans LE.rfl)) hf hnk) h (fun r83 H83 L83 a w le83 R h => ?_) (hS := fun _ _ _ _ _ le R hw => by obtain ⟨_, rfl⟩ := R; exact hw.sees' (by first | exact le | exact LE.trans (by assumption) le) (by simp))
            obtain ⟨⟨A83, c83, rfl, hk83⟩, rfl⟩ := R
            have l_H_H83 : LE H H83 := l_H_H4.trans le83
            have l_H1_H83 : LE H1 H83 := l_H1_H4.trans le83
            have l_H2_H83 : LE H2 H83 := l_H2_H4.trans le83
            have l_H3_H83 : LE H3 H83 := l_H3_H4.trans le83
            have l_H4_H83 : LE H4 H83 := le83
            refine br0 ?_
            refine brl1 4 true (by kernel_rfl) (by kernel_rfl) (fun _ => h.st.sees' (by first | exact LE.rfl | assumption) (by simp)) ?_
            refine bsl bs22 h fun g84 a w h => ?_
            refine br0 ?_
            refine brl1 5 false (by kernel_rfl) (by kernel_rfl) (fun _ => h.st.sees' (by first | exact LE.rfl | assumption) (by simp)) ?_
            refine apb 3 0 (L' := fun i => _ :: _ :: _ :: i :: _) [_, _, _, _] row22 h ?_ ?_ fun v85 a w hone h => ?_
            · omega
            · omega
            obtain ⟨B2, cp2, rfl⟩ := h.rowv 3
            have hin : (bnd kd && k + 1 == ks.length) = false := by rw [c59]; have := ne_of_beq_false c67; simp; omega
            have hsucc : (renT (bnd kd) nm s' ks σ n1 (k + 1)) = ((renT (bnd kd) nm s' ks σ n1 k).1 ++ [(ks[k].ren σ (renT (bnd kd) nm s' ks σ n1 k).2).1], (ks[k].ren σ (renT (bnd kd) nm s' ks σ n1 k).2).2) := by rw [renT_succ c56, hin]; rfl
            have hrow2 : RowR RT 4 H83 (xs ++ [.int .i64 (ks[k].ren σ (renT (bnd kd) nm s' ks σ n1 k).2).1.kind, str (ks[k].ren σ (renT (bnd kd) nm s' ks σ n1 k).2).1.name, .int .i64 (ks[k].ren σ (renT (bnd kd) nm s' ks σ n1 k).2).1.n, .slice A83 (ks[k].ren σ (renT (bnd kd) nm s' ks σ n1 k).2).1.kids.length c83]) (renT (bnd kd) nm s' ks σ n1 (k + 1)).1 := by rw [hsucc]; exact (hrow.mono fun cs y _ hr => RT.mono l_H3_H83 y hr).snoc rfl (rt_of_vt (cs := [_, _, _, _]) ⟨A83, c83, rfl, hk83⟩)
            have hnx : (ks[k].ren σ (renT (bnd kd) nm s' ks σ n1 k).2).2 = (renT (bnd kd) nm s' ks σ n1 (k + 1)).2 := by rw [hsucc]
            rw [hnx] at h
            refine br0 ?_
            refine tkl 6 false (by kernel_rfl) ?_
            refine fa fl24_3 (r := 3) h fun a w h => ?_
            refine tk0 ?_
            refine brl1 7 false (by kernel_rfl) (by kernel_rfl) (fun _ => h.st.sees' (by first | exact LE.rfl | assumption) (by simp)) ?_
            refine st4 (l := [_, _, _, _]) t1_22 h fun a w h => ?_
            refine br0 ?_
            refine en (by kernel_rfl) ?_
            refine ibN ?_
            refine thN ?_
            refine rg0 ?_
            have h := h.pull 2 rfl rfl
            have h := h.pull 2 rfl rfl
            have h := h.pull 5 rfl rfl
            have h := h.pull 5 rfl rfl
            have h := h.pull 5 rfl rfl
            have h := h.del 5
            refine inc ?_ h fun a w h => ?_
            · omega
            refine mv h fun a w h => ?_
            refine nl0 ?_
            refine thN ?_
            exact ⟨(k + 1, H83, B2, cp2, _), ⟨⟨by omega, l_H2_H83, hrow2⟩, h.to 0 _⟩, by show _ - (k + 1) < _ - k; omega⟩
        · refine mv h fun a w h => ?_
          refine sk h (k := fun a w h => ?_)
          refine sk h (k := fun a w h => ?_)
          refine sk h (k := fun a w h => ?_)
          refine sk h (k := fun a w h => ?_)
          refine sk h (k := fun a w h => ?_)
          refine sk h (k := fun a w h => ?_)
          refine pkF h fun a w h => ?_
          refine nl0 ?_
          refine thN ?_
          refine cdF h ?_
          refine sk_ ?_
          refine thN ?_
          refine rgx [1] [_] [1] 8 mix h (fun a w h => ?_)
          refine tkl 0 false (by kernel_rfl) ?_
          refine fa fl24_3 (r := 3) h fun a w h => ?_
          refine tk0 ?_
          refine tkl 1 true (by kernel_rfl) ?_
          refine ldT 0 t1_22 h fun a w h => ?_
          refine tk0 ?_
          refine tkl 2 false (by kernel_rfl) ?_
          refine mv h fun a w h => ?_
          refine tk0 ?_
          refine brl1 3 true (by kernel_rfl) (by kernel_rfl) (fun _ => h.st.sees' (by first | exact LE.rfl | assumption) (by simp)) ?_
          have h := h.pull 4 rfl rfl
          have h := h.pull 4 rfl rfl
          refine cl bod62 (kidr_ok ks k c56 (ih _ (List.getElem_mem c56) (by omega)) A c g2 g3 g9 gr gt σ f _ E H4 _ (hks2.up (l_H2_H4.trans LE.rfl)) (q2.mono (l_H2_H4.trans LE.rfl)) (q3.mono (l_H2_H4.trans LE.rfl)) ((Hc.of hf9 rfl).mono (LE.rfl)) (hL2.up (l_H2_H4.trans LE.rfl)) hf hnk) h (fun r83 H83 L83 a w le83 R h => ?_) (hS := fun _ _ _ _ _ le R hw => by obtain ⟨_, rfl⟩ := R; exact hw.sees' (by first | exact le | exact LE.trans (by assumption) le) (by simp))
          obtain ⟨⟨A83, c83, rfl, hk83⟩, rfl⟩ := R
          have l_H_H83 : LE H H83 := l_H_H4.trans le83
          have l_H1_H83 : LE H1 H83 := l_H1_H4.trans le83
          have l_H2_H83 : LE H2 H83 := l_H2_H4.trans le83
          have l_H3_H83 : LE H3 H83 := l_H3_H4.trans le83
          have l_H4_H83 : LE H4 H83 := le83
          refine br0 ?_
          refine brl1 4 true (by kernel_rfl) (by kernel_rfl) (fun _ => h.st.sees' (by first | exact LE.rfl | assumption) (by simp)) ?_
          refine bsl bs22 h fun g84 a w h => ?_
          refine br0 ?_
          refine brl1 5 false (by kernel_rfl) (by kernel_rfl) (fun _ => h.st.sees' (by first | exact LE.rfl | assumption) (by simp)) ?_
          refine apb 3 0 (L' := fun i => _ :: _ :: _ :: i :: _) [_, _, _, _] row22 h ?_ ?_ fun v85 a w hone h => ?_
          · omega
          · omega
          obtain ⟨B2, cp2, rfl⟩ := h.rowv 3
          have hin : (bnd kd && k + 1 == ks.length) = false := by rw [c59]; rfl
          have hsucc : (renT (bnd kd) nm s' ks σ n1 (k + 1)) = ((renT (bnd kd) nm s' ks σ n1 k).1 ++ [(ks[k].ren σ (renT (bnd kd) nm s' ks σ n1 k).2).1], (ks[k].ren σ (renT (bnd kd) nm s' ks σ n1 k).2).2) := by rw [renT_succ c56, hin]; rfl
          have hrow2 : RowR RT 4 H83 (xs ++ [.int .i64 (ks[k].ren σ (renT (bnd kd) nm s' ks σ n1 k).2).1.kind, str (ks[k].ren σ (renT (bnd kd) nm s' ks σ n1 k).2).1.name, .int .i64 (ks[k].ren σ (renT (bnd kd) nm s' ks σ n1 k).2).1.n, .slice A83 (ks[k].ren σ (renT (bnd kd) nm s' ks σ n1 k).2).1.kids.length c83]) (renT (bnd kd) nm s' ks σ n1 (k + 1)).1 := by rw [hsucc]; exact (hrow.mono fun cs y _ hr => RT.mono l_H3_H83 y hr).snoc rfl (rt_of_vt (cs := [_, _, _, _]) ⟨A83, c83, rfl, hk83⟩)
          have hnx : (ks[k].ren σ (renT (bnd kd) nm s' ks σ n1 k).2).2 = (renT (bnd kd) nm s' ks σ n1 (k + 1)).2 := by rw [hsucc]
          rw [hnx] at h
          refine br0 ?_
          refine tkl 6 false (by kernel_rfl) ?_
          refine fa fl24_3 (r := 3) h fun a w h => ?_
          refine tk0 ?_
          refine brl1 7 false (by kernel_rfl) (by kernel_rfl) (fun _ => h.st.sees' (by first | exact LE.rfl | assumption) (by simp)) ?_
          refine st4 (l := [_, _, _, _]) t1_22 h fun a w h => ?_
          refine br0 ?_
          refine en (by kernel_rfl) ?_
          refine ibN ?_
          refine thN ?_
          refine rg0 ?_
          have h := h.pull 2 rfl rfl
          have h := h.pull 2 rfl rfl
          have h := h.pull 5 rfl rfl
          have h := h.pull 5 rfl rfl
          have h := h.pull 5 rfl rfl
          have h := h.del 5
          refine inc ?_ h fun a w h => ?_
          · omega
          refine mv h fun a w h => ?_
          refine nl0 ?_
          refine thN ?_
          exact ⟨(k + 1, H83, B2, cp2, _), ⟨⟨by omega, l_H2_H83, hrow2⟩, h.to 0 _⟩, by show _ - (k + 1) < _ - k; omega⟩
      · have hkk : k = ks.length := by simp at c56; omega
        refine exit_ ?_
        refine thE ?_
        refine thE ?_
        refine ibH ?_
        refine thN ?_
        refine sq ?_
        refine rg0 ?_
        refine ldW 1 tN24 h fun a w h => ?_
        refine sw2 tN24 h fun a w h => ?_
        refine nl0 ?_
        refine thN ?_
        refine ret_ ?_
        obtain ⟨H5, le5, h, hrs⟩ := h.frw 0 hrow (renT_length hk).symm (fun H6 l6 cs y _ hr => RT.mono l6 y hr)
        have l_H_H5 : LE H H5 := l_H_H3.trans le5
        have l_H1_H5 : LE H1 H5 := l_H1_H3.trans le5
        have l_H2_H5 : LE H2 H5 := l_H2_H3.trans le5
        have l_H3_H5 : LE H3 H5 := le5
        have h := h.pull 3 rfl rfl
        have h := h.pull 3 rfl rfl
        have h := h.pull 3 rfl rfl
        have h := h.del 3
        have e : ((Tm.mk kd nm nn ks).ren σ n) = (.mk kd s' nn (renT (bnd kd) nm s' ks σ n1 k).1, (renT (bnd kd) nm s' ks σ n1 k).2) := by rw [hkk, renT_all]; simp only [Tm.ren]; rw [← hs', ← hn1]
        exact fin (rs := [.cell 4 24]) (vs := [.agg #[_, _, _, _]]) h rfl (.agg (k0 := 0) tN24 rfl rfl rfl .nil) rfl l_H_H5 ⟨LE.rfl, h.st.drop 1⟩ (by rw [e]; exact ⟨vt_of (renT_length hk).symm hrs, rfl⟩)
end Go.Proofs.YtindlieilabgfaaGreatDoor
