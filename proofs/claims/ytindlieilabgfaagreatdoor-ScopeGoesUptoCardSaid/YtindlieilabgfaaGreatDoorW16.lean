/- Walks: the renamer's bind. -/
import Derived.Test.YtindlieilabgfaaGreatDoorW15
set_option linter.unusedVariables false
set_option linter.unusedSimpArgs false
set_option linter.unusedSectionVars false
set_option autoImplicit false
set_option relaxedAutoImplicit false
set_option maxRecDepth 10000
namespace Go.Proofs.YtindlieilabgfaaGreatDoor
open Go X
theorem bind_ok (nm to : Bs) (fd : FuncId) (caps : Array Value) (gr gt : Nat) (σ : Bs → Option Bs) (f : Bs → Option Value) (n n' : Int) (u : Tm) (E : World) (H : GH) (L : List It) (hf : ∀ x, f x = (σ x).map encS) (hbod : bodT Tryz.prog fd = true)
    (hdo : ∀ (H1 : GH) (L1 : List It), LE H H1 → Ok Tryz.prog fd (#[] ++ [].toArray ++ caps) E H1 (.obj gr (.cells #[.map (some gt), .int .i64 n] 78 (0, 0)) :: .blk gt (IsMap encS (upd f nm (some (str to)))) :: L1) fun r H' L' => VT H' r u ∧ L' = .obj gr (.cells #[.map (some gt), .int .i64 n'] 78 (0, 0)) :: .blk gt (IsMap encS (upd f nm (some (str to)))) :: L1) :
    Ok Tryz.prog 63 #[.pointer (some ⟨gr, 0, none⟩), str nm, str to, .func (.func fd) #[] caps] E H (.obj gr (.cells #[.map (some gt), .int .i64 n] 78 (0, 0)) :: .blk gt (IsMap encS f) :: L) fun r H' L' => VT H' r u ∧ L' = .obj gr (.cells #[.map (some gt), .int .i64 n'] 78 (0, 0)) :: .blk gt (IsMap encS f) :: L := by
  obtain ⟨old, hold⟩ : ∃ old, (f nm).getD (.string ⟨#[]⟩) = str old := by
    rw [hf nm]; cases σ nm with
    | none => exact ⟨[], rfl⟩
    | some u => exact ⟨u, rfl⟩
  have hback : upd (upd f nm (some (str to))) nm (if (f nm).isSome then some (str old) else none) = f := by
    funext x
    unfold X.upd
    by_cases e : x = nm
    · subst e
      rw [if_pos rfl]
      rw [hf x] at hold ⊢
      cases hs : σ x with
      | none => rfl
      | some u => rw [hs] at hold; simp at hold ⊢; exact hold.symm
    · rw [if_neg e, if_neg e]
  refine enterD (N := 29) [(0, _), (1, _), (2, _), (3, _)] Tryz.func63 rfl rfl rfl rfl fun a w h => ?_
  refine sq ?_
  refine rg0 ?_
  refine bx1 h fun g4 a w h => ?_
  refine bx1 h fun g5 a w h => ?_
  refine al zr24 h fun g8 a w h => ?_
  refine nl0 ?_
  refine thN ?_
  refine sq ?_
  obtain ⟨H1, leH1, h, hf4⟩ := h.frz 2
  have l_H_H1 : LE H H1 := leH1
  obtain ⟨H2, leH2, h, hf5⟩ := h.frz 1
  have l_H_H2 : LE H H2 := l_H_H1.trans leH2
  have l_H1_H2 : LE H1 H2 := leH2
  refine rgxF [1, 2] [_, _] [0, 3, 4, 5] 13 mix h (fun a w h => ?_)
  refine tkl 0 true (by kernel_rfl) ?_ (hQ := fun _ _ _ _ _ h => False.elim h)
  refine ldHT t1_75 (Hc.of (l_H1_H2 _ _ hf4) rfl) h fun a w h => ?_
  refine tk0 ?_
  refine tkl 1 false (by kernel_rfl) ?_ (hQ := fun _ _ _ _ _ h => False.elim h)
  refine nc h fun a w h => ?_
  refine tk0 ?_
  refine tkl 2 false (by kernel_rfl) ?_ (hQ := fun _ _ _ _ _ h => False.elim h)
  refine fa fl78_0 (r := 0) h fun a w h => ?_
  refine tk0 ?_
  refine tkl 3 true (by kernel_rfl) ?_ (hQ := fun _ _ _ _ _ h => False.elim h)
  refine ldT 0 t1_76 h fun a w h => ?_
  refine tk0 ?_
  refine tkl 4 true (by kernel_rfl) ?_ (hQ := fun _ _ _ _ _ h => False.elim h)
  refine ldHT t1_9 (Hc.of (LE.rfl _ _ hf5) rfl) h fun a w h => ?_
  refine tk0 ?_
  refine tkl 5 true (by kernel_rfl) ?_ (hQ := fun _ _ _ _ _ h => False.elim h)
  refine lkT (f := f) (q := nm) 1 keyS mapSS zr9 h fun a w h => ?_
  rw [hold] at h
  refine tk0 ?_
  refine tkl 6 false (by kernel_rfl) ?_ (hQ := fun _ _ _ _ _ h => False.elim h)
  refine mv h fun a w h => ?_
  refine tk0 ?_
  refine tkl 7 false (by kernel_rfl) ?_ (hQ := fun _ _ _ _ _ h => False.elim h)
  refine ex h fun a w h => ?_
  refine tk0 ?_
  refine tkl 8 false (by kernel_rfl) ?_ (hQ := fun _ _ _ _ _ h => False.elim h)
  refine ex h fun a w h => ?_
  refine tk0 ?_
  refine brl2 9 10 true true (by kernel_rfl) (by kernel_rfl) (by kernel_rfl) (fun _ => h.st.sees' (by first | exact LE.rfl | assumption) (by simp)) ?_ ?_
  · refine al zr9 h fun g9 a w h => ?_
    refine br0 ?_
    refine brl1 10 true (by kernel_rfl) (by kernel_rfl) (fun _ => h.st.sees' (by first | exact LE.rfl | assumption) (by simp)) ?_
    refine al zr4 h fun g10 a w h => ?_
    refine br0 ?_
    refine brl1 11 false (by kernel_rfl) (by kernel_rfl) (fun _ => h.st.sees' (by first | exact LE.rfl | assumption) (by simp)) ?_
    refine st1 (l := [_]) t1_9 h fun a w h => ?_
    refine br0 ?_
    refine brl1 12 false (by kernel_rfl) (by kernel_rfl) (fun _ => h.st.sees' (by first | exact LE.rfl | assumption) (by simp)) ?_
    refine st0 (l := [_]) t1_4 h fun a w h => ?_
    refine br0 ?_
    refine en (by kernel_rfl) ?_
    refine npN ?_
    refine thN ?_
    refine sq ?_
    obtain ⟨H3, leH3, h, hf9⟩ := h.frz 1
    have l_H_H3 : LE H H3 := l_H_H2.trans leH3
    have l_H1_H3 : LE H1 H3 := l_H1_H2.trans leH3
    have l_H2_H3 : LE H2 H3 := leH3
    obtain ⟨H4, leH4, h, hf10⟩ := h.frz 0
    have l_H_H4 : LE H H4 := l_H_H3.trans leH4
    have l_H1_H4 : LE H1 H4 := l_H1_H3.trans leH4
    have l_H2_H4 : LE H2 H4 := l_H2_H3.trans leH4
    have l_H3_H4 : LE H3 H4 := leH4
    refine rg0 ?_
    refine mf h fun a w h => ?_
    refine df h fun a w h => ?_
    refine nl0 ?_
    refine thN ?_
    refine sq ?_
    refine rgdF [1] [_] [0] [0, 3, 4] 1 mix (by kernel_rfl) h (fun a w h => ?_)
    refine ldHD t1_75 (Hc.of (l_H1_H4 _ _ hf4) rfl) h fun a w h => ?_
    refine nc h fun a w h => ?_
    refine fa fl78_0 (r := 0) h fun a w h => ?_
    refine ldD 0 t1_76 h fun a w h => ?_
    refine ldHD t1_9 (Hc.of (l_H2_H4 _ _ hf5) rfl) h fun a w h => ?_
    refine mv h fun a w h => ?_
    have h := h.pull 2 rfl rfl
    refine mu 0 keyS mapSS h fun a w h => ?_
    refine nl0 ?_
    refine npN ?_
    refine thN ?_
    refine sq ?_
    refine rg0 ?_
    refine mv h fun a w h => ?_
    have h := h.pull 2 rfl rfl
    refine cl hbod (hdo H4 _ l_H_H4) h fun r28 H28 L28 a w le28 R h => ?_
    obtain ⟨⟨A28, c28, rfl, hk28⟩, rfl⟩ := R
    have l_H_H28 : LE H H28 := l_H_H4.trans le28
    have l_H1_H28 : LE H1 H28 := l_H1_H4.trans le28
    have l_H2_H28 : LE H2 H28 := l_H2_H4.trans le28
    have l_H3_H28 : LE H3 H28 := l_H3_H4.trans le28
    have l_H4_H28 : LE H4 H28 := le28
    refine sw2 tN24 h fun a w h => ?_
    refine nl0 ?_
    refine thN ?_
    refine ret_ ?_
    have h := h.pull 1 rfl rfl
    have h := h.pull 1 rfl rfl
    refine finD h bod77 (dfr_ok (f nm).isSome old nm g10 g9 g4 g5 gr gt _ n' E H28 _ (Hc.of (l_H4_H28 _ _ hf10) rfl) (Hc.of (l_H3_H28 _ _ hf9) rfl) (Hc.of (l_H1_H28 _ _ hf4) rfl) (Hc.of (l_H2_H28 _ _ hf5) rfl)) l_H_H28 fun r0 H0 L0 w' le0 R hS => ?_
    obtain ⟨rfl, rfl⟩ := R
    rw [hback] at hS
    exact ⟨_, _, _, run_results (rs := [.cell 8 24]) (vs := [.agg #[_, _, _, _]]) rfl (.agg (k0 := 2) tN24 rfl rfl rfl .nil) hS, l_H_H28, (hS.del 2).st, ⟨⟨A28, c28, rfl, hk28⟩, rfl⟩⟩
  · refine al zr4 h fun g10 a w h => ?_
    refine br0 ?_
    refine brl1 9 true (by kernel_rfl) (by kernel_rfl) (fun _ => h.st.sees' (by first | exact LE.rfl | assumption) (by simp)) ?_
    refine al zr9 h fun g9 a w h => ?_
    refine br0 ?_
    refine brl1 11 false (by kernel_rfl) (by kernel_rfl) (fun _ => h.st.sees' (by first | exact LE.rfl | assumption) (by simp)) ?_
    refine st0 (l := [_]) t1_9 h fun a w h => ?_
    refine br0 ?_
    refine brl1 12 false (by kernel_rfl) (by kernel_rfl) (fun _ => h.st.sees' (by first | exact LE.rfl | assumption) (by simp)) ?_
    refine st1 (l := [_]) t1_4 h fun a w h => ?_
    refine br0 ?_
    refine en (by kernel_rfl) ?_
    refine npN ?_
    refine thN ?_
    refine sq ?_
    obtain ⟨H3, leH3, h, hf9⟩ := h.frz 0
    have l_H_H3 : LE H H3 := l_H_H2.trans leH3
    have l_H1_H3 : LE H1 H3 := l_H1_H2.trans leH3
    have l_H2_H3 : LE H2 H3 := leH3
    obtain ⟨H4, leH4, h, hf10⟩ := h.frz 0
    have l_H_H4 : LE H H4 := l_H_H3.trans leH4
    have l_H1_H4 : LE H1 H4 := l_H1_H3.trans leH4
    have l_H2_H4 : LE H2 H4 := l_H2_H3.trans leH4
    have l_H3_H4 : LE H3 H4 := leH4
    refine rg0 ?_
    refine mf h fun a w h => ?_
    refine df h fun a w h => ?_
    refine nl0 ?_
    refine thN ?_
    refine sq ?_
    refine rgdF [1] [_] [0] [0, 3, 4] 1 mix (by kernel_rfl) h (fun a w h => ?_)
    refine ldHD t1_75 (Hc.of (l_H1_H4 _ _ hf4) rfl) h fun a w h => ?_
    refine nc h fun a w h => ?_
    refine fa fl78_0 (r := 0) h fun a w h => ?_
    refine ldD 0 t1_76 h fun a w h => ?_
    refine ldHD t1_9 (Hc.of (l_H2_H4 _ _ hf5) rfl) h fun a w h => ?_
    refine mv h fun a w h => ?_
    have h := h.pull 2 rfl rfl
    refine mu 0 keyS mapSS h fun a w h => ?_
    refine nl0 ?_
    refine npN ?_
    refine thN ?_
    refine sq ?_
    refine rg0 ?_
    refine mv h fun a w h => ?_
    have h := h.pull 2 rfl rfl
    refine cl hbod (hdo H4 _ l_H_H4) h fun r28 H28 L28 a w le28 R h => ?_
    obtain ⟨⟨A28, c28, rfl, hk28⟩, rfl⟩ := R
    have l_H_H28 : LE H H28 := l_H_H4.trans le28
    have l_H1_H28 : LE H1 H28 := l_H1_H4.trans le28
    have l_H2_H28 : LE H2 H28 := l_H2_H4.trans le28
    have l_H3_H28 : LE H3 H28 := l_H3_H4.trans le28
    have l_H4_H28 : LE H4 H28 := le28
    refine sw2 tN24 h fun a w h => ?_
    refine nl0 ?_
    refine thN ?_
    refine ret_ ?_
    have h := h.pull 1 rfl rfl
    have h := h.pull 1 rfl rfl
    refine finD h bod77 (dfr_ok (f nm).isSome old nm g10 g9 g4 g5 gr gt _ n' E H28 _ (Hc.of (l_H4_H28 _ _ hf10) rfl) (Hc.of (l_H3_H28 _ _ hf9) rfl) (Hc.of (l_H1_H28 _ _ hf4) rfl) (Hc.of (l_H2_H28 _ _ hf5) rfl)) l_H_H28 fun r0 H0 L0 w' le0 R hS => ?_
    obtain ⟨rfl, rfl⟩ := R
    rw [hback] at hS
    exact ⟨_, _, _, run_results (rs := [.cell 8 24]) (vs := [.agg #[_, _, _, _]]) rfl (.agg (k0 := 2) tN24 rfl rfl rfl .nil) hS, l_H_H28, (hS.del 2).st, ⟨⟨A28, c28, rfl, hk28⟩, rfl⟩⟩
end Go.Proofs.YtindlieilabgfaaGreatDoor
