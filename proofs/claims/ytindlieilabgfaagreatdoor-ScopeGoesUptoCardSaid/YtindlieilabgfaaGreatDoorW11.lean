/- Walks: show.Show. -/
import Derived.Test.YtindlieilabgfaaGreatDoorW10
set_option linter.unusedVariables false
set_option linter.unusedSimpArgs false
set_option linter.unusedSectionVars false
set_option autoImplicit false
set_option relaxedAutoImplicit false
set_option maxRecDepth 10000
namespace Go.Proofs.YtindlieilabgfaaGreatDoor
open Go X
theorem right_iff {t : Tm} (h : t.right = true) : t.depth ≤ 200 ∧ t.size ≤ 10000 ∧ t.wrong = false := by
  unfold Tm.right at h
  simp only [Bool.and_eq_true, decide_eq_true_eq, Bool.not_eq_true'] at h
  exact ⟨by omega, by omega, h.2.2⟩
theorem Show_ok (t : Tm) (v : Value) (E : World) (H : GH) (L : List It) (hv : VT H v t) (hL : Laid H) (hlg : t.long < 1000000000000) (hsz : t.size < 1000000000000) (hjoin : t.right = true → (Lib.join (t.toks.map (·.text)) [32]).length ≤ 140737488355328) : Ok Tryz.prog 75 #[v] E H L fun r H' L' => r = str t.show' ∧ H = H' ∧ L = L' := by
  have hv0 := hv
  obtain ⟨A, c, rfl, hks⟩ := hv
  have hv := hv0
  refine enter (N := 9) [(0, _)] Tryz.func75 rfl rfl rfl rfl fun a w h => ?_
  refine sq ?_
  refine rg0 ?_
  refine bxA h fun g1 a w h => ?_
  refine as_ h fun a w h => ?_
  refine nl0 ?_
  refine thN ?_
  refine sq ?_
  refine sq ?_
  refine rg0 ?_
  refine ldW 0 tN24 h fun a w h => ?_
  refine cl bod91 (Right_ok t _ E H _ hv hL hlg hsz) h fun r4 H4 L4 a w le4 R h => ?_
  obtain ⟨rfl, rfl, rfl⟩ := R
  refine nt h fun a w h => ?_
  refine nl0 ?_
  refine thN ?_
  refine cdB h (fun c5 => ?_) (fun c5 => ?_)
  · have c4 : t.right = false := by simpa using c5
    refine sq ?_
    refine rg0 ?_
    refine as_ h fun a w h => ?_
    refine nl0 ?_
    refine thN ?_
    refine ret_ ?_
    refine thR ?_
    have h := h.del 0
    refine fin1 2 0 (h.less LE.rfl) LE.rfl ?_
    unfold Tm.show'
    exact ⟨by rw [c4]; rfl, rfl, rfl⟩
  · have c4 : t.right = true := by simpa using c5
    obtain ⟨hs1, hs2, hs3⟩ := right_iff c4
    have htl := toks_len t
    have hjl := hjoin c4
    refine sk_ ?_
    refine thN ?_
    refine sq ?_
    refine rg0 ?_
    refine ldW 0 tN24 h fun a w h => ?_
    refine cl bod94 (toks_ok t hs3 (by omega) _ E H _ (hv.mono LE.rfl) (hL.up LE.rfl)) h fun r7 H7 L7 a w le7 R h => ?_
    obtain ⟨A7, c7, xs7, rfl, rfl, hr7⟩ := R
    have l_H_H7 : LE H H7 := le7
    obtain ⟨Hs, leHs, h, hrs⟩ := h.frw 0 (n := t.toks.length) hr7 rfl (fun _ _ _ _ _ h => h)
    have l_H_Hs : LE H Hs := l_H_H7.trans leHs
    have l_H7_Hs : LE H7 Hs := leHs
    refine cl bod93 (Print_ok t.toks _ E Hs _ hrs (by omega) hjl) h fun r8 H8 L8 a w le8 R h => ?_
    obtain ⟨rfl, rfl, rfl⟩ := R
    refine as_ h fun a w h => ?_
    refine nl0 ?_
    refine thN ?_
    refine ret_ ?_
    have h := h.del 0
    refine fin1 2 0 (h.less l_H_Hs) LE.rfl ?_
    unfold Tm.show'
    exact ⟨by rw [c4]; rfl, rfl, rfl⟩
end Go.Proofs.YtindlieilabgfaaGreatDoor
