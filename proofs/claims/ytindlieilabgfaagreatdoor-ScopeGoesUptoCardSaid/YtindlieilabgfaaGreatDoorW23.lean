/- Walks: the law's of, fun. -/
import Derived.Test.YtindlieilabgfaaGreatDoorW22
import Derived.Test.YtindlieilabgfaaGreatDoorT8
set_option linter.unusedVariables false
set_option linter.unusedSimpArgs false
set_option linter.unusedSectionVars false
set_option autoImplicit false
set_option relaxedAutoImplicit false
set_option maxRecDepth 10000
namespace Go.Proofs.YtindlieilabgfaaGreatDoor
open Go X
theorem of_ok (s : Bs) (E : World) (H : GH) (L : List It) : Ok Tryz.prog 30 #[str s] E H L fun r H' L' => r = .agg #[.int .i64 2, str s, .int .i64 0, .slice none 0 0] ∧ H = H' ∧ L = L' := by
  refine enter (N := 5) [(0, _)] Tryz.func30 rfl rfl rfl rfl fun a w h => ?_
  refine sq ?_
  refine rg0 ?_
  refine al zr24 h fun g2 a w h => ?_
  refine nl0 ?_
  refine thN ?_
  refine sq ?_
  refine rg0 ?_
  refine mv h fun a w h => ?_
  refine bdl lay24 zr24 h fun a w h => ?_
  refine sw0 tN24 h fun a w h => ?_
  refine nl0 ?_
  refine thN ?_
  refine ret_ ?_
  exact fin (rs := [.cell 2 24]) (vs := [.agg #[_, _, _, _]]) h rfl (.agg (k0 := 0) tN24 rfl rfl rfl .nil) rfl LE.rfl ⟨LE.rfl, h.st.drop 1⟩ ⟨rfl, rfl, rfl⟩

theorem fun_ok (s : Bs) (t : Tm) (v : Value) (E : World) (H : GH) (L : List It) (hv : VT H v t) : Ok Tryz.prog 28 #[str s, v] E H L fun r H' L' => ∃ A, r = .agg #[.int .i64 3, str s, .int .i64 0, .slice A 1 1] ∧ KS H' A 1 [t] ∧ L' = L := by
  have hv0 := hv
  obtain ⟨A, c, rfl, hks⟩ := hv
  have hv := hv0
  refine enter (N := 9) [(0, _), (1, _)] Tryz.func28 rfl rfl rfl rfl fun a w h => ?_
  refine sq ?_
  refine rg0 ?_
  refine bxA h fun g3 a w h => ?_
  refine al zr24 h fun g4 a w h => ?_
  refine nl0 ?_
  refine thN ?_
  refine sq ?_
  refine rg0 ?_
  refine mv h fun a w h => ?_
  refine ldW 1 tN24 h fun a w h => ?_
  refine bsl bs22 h fun g7 a w h => ?_
  obtain ⟨H1, le1, h, hs⟩ := h.fsl (α := Tm) (R := RT) 0 (ys := [t]) (RowR.one rfl (rt_of_vt (cs := [_, _, _, _]) hv)) (fun _ l _ y _ hr => RT.mono l y hr)
  have l_H_H1 : LE H H1 := le1
  refine bdl lay24 zr24 h fun a w h => ?_
  refine sw0 tN24 h fun a w h => ?_
  refine nl0 ?_
  refine thN ?_
  refine ret_ ?_
  exact fin (rs := [.cell 4 24]) (vs := [.agg #[_, _, _, _]]) h rfl (.agg (k0 := 0) tN24 rfl rfl rfl .nil) rfl le1 ⟨LE.rfl, h.st.drop 2⟩ ⟨_, rfl, hs, rfl⟩
end Go.Proofs.YtindlieilabgfaaGreatDoor
