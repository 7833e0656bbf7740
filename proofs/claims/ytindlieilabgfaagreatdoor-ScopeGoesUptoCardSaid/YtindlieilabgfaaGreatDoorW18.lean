/- Walks: scope.Rename. -/
import Derived.Test.YtindlieilabgfaaGreatDoorW17
set_option linter.unusedVariables false
set_option linter.unusedSimpArgs false
set_option linter.unusedSectionVars false
set_option autoImplicit false
set_option relaxedAutoImplicit false
set_option maxRecDepth 10000
namespace Go.Proofs.YtindlieilabgfaaGreatDoor
open Go X
def noS : Bs → Option Bs := fun _ => none
theorem Rename_ok (t : Tm) (v : Value) (n : Int) (E : World) (H : GH) (L : List It) (hv : VT H v t) (hL : Laid H) (hn : In64 n) (hsz : t.size < 1000000000000) :
    Ok Tryz.prog 10 #[v, .int .i64 n] E H L fun r H' L' => ∃ v', r = .tuple #[v', .int .i64 (t.ren noS n).2] ∧ VT H' v' (t.ren noS n).1 ∧ L' = L := by
  have hv0 := hv
  obtain ⟨A, c, rfl, hks⟩ := hv
  have hv := hv0
  refine enter (N := 20) [(0, _), (1, _)] Tryz.func10 rfl rfl rfl rfl fun a w h => ?_
  refine sq ?_
  refine rg0 ?_
  refine bxA h fun g2 a w h => ?_
  refine al zr24 h fun g4 a w h => ?_
  refine as_ h fun a w h => ?_
  refine nl0 ?_
  refine thN ?_
  refine sq ?_
  refine rg0 ?_
  refine mk0 (enc := encS) h fun gt a w h => ?_
  refine mv h fun a w h => ?_
  refine bdl lay78 zr78 h fun a w h => ?_
  refine bxA h fun gr a w h => ?_
  refine as_ h fun a w h => ?_
  refine nl0 ?_
  refine thN ?_
  refine sq ?_
  refine rg0 ?_
  refine mv h fun a w h => ?_
  refine ldW 3 tN24 h fun a w h => ?_
  have h := h.pull 1 rfl rfl
  have h := h.pull 1 rfl rfl
  refine cl bod36 (ren_ok t hsz _ E H _ gr gt (fun _ => none) (fun _ => none) n hv hL (fun _ => rfl) hn) h fun r14 H14 L14 a w le14 R h => ?_
  obtain ⟨⟨A14, c14, rfl, hk14⟩, rfl⟩ := R
  have l_H_H14 : LE H H14 := le14
  refine al zr24 h fun g7 a w h => ?_
  refine sw0 tN24 h fun a w h => ?_
  refine nl0 ?_
  refine thN ?_
  refine sq ?_
  refine rgd [0, 1] [_, _] [1] [0, 4] 1 mix (by kernel_rfl) h (fun a w h => ?_)
  refine ldWD 0 tN24 h fun a w h => ?_
  refine mv h fun a w h => ?_
  refine nc h fun a w h => ?_
  refine fa fl78_1 (r := 1) h fun a w h => ?_
  refine ldD 1 t1_3 h fun a w h => ?_
  refine sw3 tN24 h fun a w h => ?_
  refine as_ h fun a w h => ?_
  refine nl0 ?_
  refine thN ?_
  refine ret_ ?_
  exact fin (rs := [.cell 4 24, .tmp 5]) (vs := [.agg #[_, _, _, _], .int .i64 _]) h rfl (.agg (k0 := 3) tN24 rfl rfl rfl (.tmp rfl .nil)) rfl le14 ⟨LE.rfl, h.st.drop 5⟩ ⟨_, rfl, ⟨A14, c14, rfl, hk14⟩, rfl⟩
end Go.Proofs.YtindlieilabgfaaGreatDoor
