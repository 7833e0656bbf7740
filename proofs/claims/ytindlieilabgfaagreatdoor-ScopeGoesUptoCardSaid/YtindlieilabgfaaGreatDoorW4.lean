/- Walks: what a node may be. -/
import Derived.Test.YtindlieilabgfaaGreatDoorW3
import Derived.Test.YtindlieilabgfaaGreatDoorT2
set_option linter.unusedVariables false
set_option linter.unusedSimpArgs false
set_option linter.unusedSectionVars false
set_option autoImplicit false
set_option relaxedAutoImplicit false
set_option maxRecDepth 10000
namespace Go.Proofs.YtindlieilabgfaaGreatDoor
open Go X
theorem kids_at {j : Nat} (h : j < 14) : kidsL[j]? = some (kidsL.getD j (-1)) := by
  have : j < kidsL.length := h
  simp [List.getD, List.getElem?_eq_getElem this]

theorem node_ok (t : Tm) (v : Value) (E : World) (H : GH) (L : List It) (hv : VT H v t) (hL : Laid H) (hb : t.name.length < 1000000000000) : Ok Tryz.prog 115 #[v] E H L fun r H' L' => r = .bool t.node ∧ H = H' ∧ L = L' := by
  obtain ⟨A, c, rfl, hks⟩ := hv
  refine enter (N := 69) [(0, _)] Tryz.func115 rfl rfl rfl rfl fun a w h => ?_
  refine sq ?_
  refine rg0 ?_
  refine bxA h fun g1 a w h => ?_
  refine as_ h fun a w h => ?_
  refine nl0 ?_
  refine thN ?_
  refine sq ?_
  refine sq ?_
  refine rgd [0] [_] [] [1, 5, 10, 13, 15, 20, 25, 30, 34] 0 mix (by kernel_rfl) h (fun a w h => ?_)
  refine fa fl24_0 (r := 0) h fun a w h => ?_
  refine ldD 0 t1_3 h fun a w h => ?_
  refine lt h fun a w h => ?_
  refine h.spl (fun c5 h => ?_) (fun c5 h => ?_)
  · refine mv h fun a w h => ?_
    refine sk h (k := fun a w h => ?_)
    refine sk h (k := fun a w h => ?_)
    refine sk h (k := fun a w h => ?_)
    refine pkT h fun a w h => ?_
    refine mv h fun a w h => ?_
    refine sk h (k := fun a w h => ?_)
    refine sk h (k := fun a w h => ?_)
    refine sk h (k := fun a w h => ?_)
    refine sk h (k := fun a w h => ?_)
    refine sk h (k := fun a w h => ?_)
    refine sk h (k := fun a w h => ?_)
    refine sk h (k := fun a w h => ?_)
    refine sk h (k := fun a w h => ?_)
    refine pkT h fun a w h => ?_
    refine mv h fun a w h => ?_
    refine sk h (k := fun a w h => ?_)
    refine sk h (k := fun a w h => ?_)
    refine sk h (k := fun a w h => ?_)
    refine pkT h fun a w h => ?_
    refine mv h fun a w h => ?_
    refine sk h (k := fun a w h => ?_)
    refine sk h (k := fun a w h => ?_)
    refine sk h (k := fun a w h => ?_)
    refine pkT h fun a w h => ?_
    refine mv h fun a w h => ?_
    refine sk h (k := fun a w h => ?_)
    refine sk h (k := fun a w h => ?_)
    refine sk h (k := fun a w h => ?_)
    refine sk h (k := fun a w h => ?_)
    refine sk h (k := fun a w h => ?_)
    refine sk h (k := fun a w h => ?_)
    refine sk h (k := fun a w h => ?_)
    refine sk h (k := fun a w h => ?_)
    refine pkT h fun a w h => ?_
    refine nl0 ?_
    refine thN ?_
    refine cdT h ?_
    refine sq ?_
    refine rg0 ?_
    refine as_ h fun a w h => ?_
    refine nl0 ?_
    refine thN ?_
    refine ret_ ?_
    refine thR ?_
    refine fin1 2 1 h LE.rfl ?_
    exact ⟨by first | (simp only [Tm.node, nodeB, c5]; done) | (simp only [Tm.node, nodeB, c5]; rfl), rfl, rfl⟩
  · refine mv h fun a w h => ?_
    refine fa fl24_0 (r := 0) h fun a w h => ?_
    refine ldD 0 t1_3 h fun a w h => ?_
    refine ge h fun a w h => ?_
    refine pkF h fun a w h => ?_
    refine h.spl (fun c10 h => ?_) (fun c10 h => ?_)
    · refine mv h fun a w h => ?_
      refine sk h (k := fun a w h => ?_)
      refine sk h (k := fun a w h => ?_)
      refine sk h (k := fun a w h => ?_)
      refine sk h (k := fun a w h => ?_)
      refine sk h (k := fun a w h => ?_)
      refine sk h (k := fun a w h => ?_)
      refine sk h (k := fun a w h => ?_)
      refine sk h (k := fun a w h => ?_)
      refine pkT h fun a w h => ?_
      refine mv h fun a w h => ?_
      refine sk h (k := fun a w h => ?_)
      refine sk h (k := fun a w h => ?_)
      refine sk h (k := fun a w h => ?_)
      refine pkT h fun a w h => ?_
      refine mv h fun a w h => ?_
      refine sk h (k := fun a w h => ?_)
      refine sk h (k := fun a w h => ?_)
      refine sk h (k := fun a w h => ?_)
      refine pkT h fun a w h => ?_
      refine mv h fun a w h => ?_
      refine sk h (k := fun a w h => ?_)
      refine sk h (k := fun a w h => ?_)
      refine sk h (k := fun a w h => ?_)
      refine sk h (k := fun a w h => ?_)
      refine sk h (k := fun a w h => ?_)
      refine sk h (k := fun a w h => ?_)
      refine sk h (k := fun a w h => ?_)
      refine sk h (k := fun a w h => ?_)
      refine pkT h fun a w h => ?_
      refine nl0 ?_
      refine thN ?_
      refine cdT h ?_
      refine sq ?_
      refine rg0 ?_
      refine as_ h fun a w h => ?_
      refine nl0 ?_
      refine thN ?_
      refine ret_ ?_
      refine thR ?_
      refine fin1 2 1 h LE.rfl ?_
      exact ⟨by first | (simp only [Tm.node, nodeB, c5, c10]; done) | (simp only [Tm.node, nodeB, c5, c10]; rfl), rfl, rfl⟩
    · have hk0 : 1 ≤ t.kind := by have := of_decide_eq_false c5; omega
      have hk1 : t.kind < 14 := by have := of_decide_eq_false c10; omega
      have hkt : t.kind = (t.kind.toNat : Int) := by omega
      have hkl : t.kind.toNat < 14 := by omega
      have hkc : Hc H 0 (0 + t.kind.toNat * 1) (.int .i64 (kidsL.getD t.kind.toNat (-1))) := by rw [Nat.zero_add, Nat.mul_one]; exact hL.kids _ _ (kids_at hkl)
      refine mv h fun a w h => ?_
      refine fa fl24_3 (r := 3) h fun a w h => ?_
      refine ldD 0 t1_22 h fun a w h => ?_
      refine ln sli22 h fun a w h => ?_
      refine fa fl24_0 (r := 0) h fun a w h => ?_
      refine ldD 0 t1_3 h fun a w h => ?_
      refine iaA arrN sz3 hkt hkl h fun a w h => ?_
      refine ldHD t1_3 hkc h fun a w h => ?_
      refine nei h fun a w h => ?_
      refine pkF h fun a w h => ?_
      refine h.spl (fun c20 h => ?_) (fun c20 h => ?_)
      · refine mv h fun a w h => ?_
        refine sk h (k := fun a w h => ?_)
        refine sk h (k := fun a w h => ?_)
        refine sk h (k := fun a w h => ?_)
        refine pkT h fun a w h => ?_
        refine mv h fun a w h => ?_
        refine sk h (k := fun a w h => ?_)
        refine sk h (k := fun a w h => ?_)
        refine sk h (k := fun a w h => ?_)
        refine pkT h fun a w h => ?_
        refine mv h fun a w h => ?_
        refine sk h (k := fun a w h => ?_)
        refine sk h (k := fun a w h => ?_)
        refine sk h (k := fun a w h => ?_)
        refine sk h (k := fun a w h => ?_)
        refine sk h (k := fun a w h => ?_)
        refine sk h (k := fun a w h => ?_)
        refine sk h (k := fun a w h => ?_)
        refine sk h (k := fun a w h => ?_)
        refine pkT h fun a w h => ?_
        refine nl0 ?_
        refine thN ?_
        refine cdT h ?_
        refine sq ?_
        refine rg0 ?_
        refine as_ h fun a w h => ?_
        refine nl0 ?_
        refine thN ?_
        refine ret_ ?_
        refine thR ?_
        refine fin1 2 1 h LE.rfl ?_
        exact ⟨by first | (simp only [Tm.node, nodeB, c5, c10, c20]; done) | (simp only [Tm.node, nodeB, c5, c10, c20]; rfl), rfl, rfl⟩
      · refine mv h fun a w h => ?_
        refine fa fl24_2 (r := 2) h fun a w h => ?_
        refine ldD 0 t1_2 h fun a w h => ?_
        refine lt h fun a w h => ?_
        refine pkF h fun a w h => ?_
        refine h.spl (fun c25 h => ?_) (fun c25 h => ?_)
        · refine mv h fun a w h => ?_
          refine sk h (k := fun a w h => ?_)
          refine sk h (k := fun a w h => ?_)
          refine sk h (k := fun a w h => ?_)
          refine pkT h fun a w h => ?_
          refine mv h fun a w h => ?_
          refine sk h (k := fun a w h => ?_)
          refine sk h (k := fun a w h => ?_)
          refine sk h (k := fun a w h => ?_)
          refine sk h (k := fun a w h => ?_)
          refine sk h (k := fun a w h => ?_)
          refine sk h (k := fun a w h => ?_)
          refine sk h (k := fun a w h => ?_)
          refine sk h (k := fun a w h => ?_)
          refine pkT h fun a w h => ?_
          refine nl0 ?_
          refine thN ?_
          refine cdT h ?_
          refine sq ?_
          refine rg0 ?_
          refine as_ h fun a w h => ?_
          refine nl0 ?_
          refine thN ?_
          refine ret_ ?_
          refine thR ?_
          refine fin1 2 1 h LE.rfl ?_
          exact ⟨by first | (simp only [Tm.node, nodeB, c5, c10, c20, c25]; done) | (simp only [Tm.node, nodeB, c5, c10, c20, c25]; rfl), rfl, rfl⟩
        · refine mv h fun a w h => ?_
          refine fa fl24_2 (r := 2) h fun a w h => ?_
          refine ldD 0 t1_2 h fun a w h => ?_
          refine ge h fun a w h => ?_
          refine pkF h fun a w h => ?_
          refine h.spl (fun c30 h => ?_) (fun c30 h => ?_)
          · refine mv h fun a w h => ?_
            refine sk h (k := fun a w h => ?_)
            refine sk h (k := fun a w h => ?_)
            refine sk h (k := fun a w h => ?_)
            refine sk h (k := fun a w h => ?_)
            refine sk h (k := fun a w h => ?_)
            refine sk h (k := fun a w h => ?_)
            refine sk h (k := fun a w h => ?_)
            refine sk h (k := fun a w h => ?_)
            refine pkT h fun a w h => ?_
            refine nl0 ?_
            refine thN ?_
            refine cdT h ?_
            refine sq ?_
            refine rg0 ?_
            refine as_ h fun a w h => ?_
            refine nl0 ?_
            refine thN ?_
            refine ret_ ?_
            refine thR ?_
            refine fin1 2 1 h LE.rfl ?_
            exact ⟨by first | (simp only [Tm.node, nodeB, c5, c10, c20, c25, c30]; done) | (simp only [Tm.node, nodeB, c5, c10, c20, c25, c30]; rfl), rfl, rfl⟩
          · refine mv h fun a w h => ?_
            refine fa fl24_0 (r := 0) h fun a w h => ?_
            refine ldD 0 t1_3 h fun a w h => ?_
            refine nei h fun a w h => ?_
            refine h.spl (fun c34 h => ?_) (fun c34 h => ?_)
            · refine mv h fun a w h => ?_
              refine fa fl24_2 (r := 2) h fun a w h => ?_
              refine ldD 0 t1_2 h fun a w h => ?_
              refine nei h fun a w h => ?_
              refine pkT h fun a w h => ?_
              refine pkF h fun a w h => ?_
              refine nl0 ?_
              refine thN ?_
              refine cdB h (fun c40 => ?_) (fun c40 => ?_)
              · refine sq ?_
                refine rg0 ?_
                refine as_ h fun a w h => ?_
                refine nl0 ?_
                refine thN ?_
                refine ret_ ?_
                refine thR ?_
                refine fin1 2 1 h LE.rfl ?_
                exact ⟨by first | (simp only [Tm.node, nodeB, c5, c10, c20, c25, c30, c34, c40]; done) | (simp only [Tm.node, nodeB, c5, c10, c20, c25, c30, c34, c40]; rfl), rfl, rfl⟩
              · refine sk_ ?_
                refine thN ?_
                refine sq ?_
                refine blk ?_
                refine sq ?_
                refine rg0 ?_
                refine ldW 0 tN24 h fun a w h => ?_
                refine cl bod38 (Binder_ok _ _ _ _ _ _ _) h fun r43 H43 L43 a w le43 R h => ?_
                obtain ⟨rfl, rfl, rfl⟩ := R
                refine h.spl (fun c43 h => ?_) (fun c43 h => ?_)
                · refine mv h fun a w h => ?_
                  refine sk h (k := fun a w h => ?_)
                  refine sk h (k := fun a w h => ?_)
                  refine sk h (k := fun a w h => ?_)
                  refine pkT h fun a w h => ?_
                  refine as_ h fun a w h => ?_
                  refine nl0 ?_
                  refine thN ?_
                  refine cdT h ?_
                  refine sq ?_
                  refine rg0 ?_
                  refine fa fl24_1 (r := 1) h fun a w h => ?_
                  refine ld 0 t1_9 h fun a w h => ?_
                  refine cl bod140 (Name_ok _ E H _ (by omega)) h fun r51 H51 L51 a w le51 R h => ?_
                  obtain ⟨rfl, rfl, rfl⟩ := R
                  refine h.spl (fun c51 h => ?_) (fun c51 h => ?_)
                  · refine mv h fun a w h => ?_
                    refine fa fl24_1 (r := 1) h fun a w h => ?_
                    refine ld 0 t1_9 h fun a w h => ?_
                    refine cl bod141 (Keyword_ok _ E H _ hL) h fun r55 H55 L55 a w le55 R h => ?_
                    obtain ⟨rfl, rfl, rfl⟩ := R
                    refine nt h fun a w h => ?_
                    refine pkT h fun a w h => ?_
                    refine as_ h fun a w h => ?_
                    refine nl0 ?_
                    refine thN ?_
                    refine ret_ ?_
                    refine ibR ?_
                    refine thR ?_
                    refine fin1 2 1 h LE.rfl ?_
                    exact ⟨by first | (simp only [Tm.node, nodeB, c5, c10, c20, c25, c30, c34, c40, c43, c51]; done) | (simp only [Tm.node, nodeB, c5, c10, c20, c25, c30, c34, c40, c43, c51]; rfl), rfl, rfl⟩
                  · refine mv h fun a w h => ?_
                    refine sk h (k := fun a w h => ?_)
                    refine sk h (k := fun a w h => ?_)
                    refine sk h (k := fun a w h => ?_)
                    refine sk h (k := fun a w h => ?_)
                    refine pkF h fun a w h => ?_
                    refine as_ h fun a w h => ?_
                    refine nl0 ?_
                    refine thN ?_
                    refine ret_ ?_
                    refine ibR ?_
                    refine thR ?_
                    refine fin1 2 1 h LE.rfl ?_
                    exact ⟨by first | (simp only [Tm.node, nodeB, c5, c10, c20, c25, c30, c34, c40, c43, c51]; done) | (simp only [Tm.node, nodeB, c5, c10, c20, c25, c30, c34, c40, c43, c51]; rfl), rfl, rfl⟩
                · refine mv h fun a w h => ?_
                  refine fa fl24_0 (r := 0) h fun a w h => ?_
                  refine ld 0 t1_3 h fun a w h => ?_
                  refine eqi h fun a w h => ?_
                  refine pkF h fun a w h => ?_
                  refine as_ h fun a w h => ?_
                  refine nl0 ?_
                  refine thN ?_
                  refine cdB h (fun c41 => ?_) (fun c41 => ?_)
                  · refine sq ?_
                    refine rg0 ?_
                    refine fa fl24_1 (r := 1) h fun a w h => ?_
                    refine ld 0 t1_9 h fun a w h => ?_
                    refine cl bod140 (Name_ok _ E H _ (by omega)) h fun r51 H51 L51 a w le51 R h => ?_
                    obtain ⟨rfl, rfl, rfl⟩ := R
                    refine h.spl (fun c51 h => ?_) (fun c51 h => ?_)
                    · refine mv h fun a w h => ?_
                      refine fa fl24_1 (r := 1) h fun a w h => ?_
                      refine ld 0 t1_9 h fun a w h => ?_
                      refine cl bod141 (Keyword_ok _ E H _ hL) h fun r55 H55 L55 a w le55 R h => ?_
                      obtain ⟨rfl, rfl, rfl⟩ := R
                      refine nt h fun a w h => ?_
                      refine pkT h fun a w h => ?_
                      refine as_ h fun a w h => ?_
                      refine nl0 ?_
                      refine thN ?_
                      refine ret_ ?_
                      refine ibR ?_
                      refine thR ?_
                      refine fin1 2 1 h LE.rfl ?_
                      exact ⟨by first | (simp only [Tm.node, nodeB, c5, c10, c20, c25, c30, c34, c40, c43, c41, c51]; done) | (simp only [Tm.node, nodeB, c5, c10, c20, c25, c30, c34, c40, c43, c41, c51]; rfl), rfl, rfl⟩
                    · refine mv h fun a w h => ?_
                      refine sk h (k := fun a w h => ?_)
                      refine sk h (k := fun a w h => ?_)
                      refine sk h (k := fun a w h => ?_)
                      refine sk h (k := fun a w h => ?_)
                      refine pkF h fun a w h => ?_
                      refine as_ h fun a w h => ?_
                      refine nl0 ?_
                      refine thN ?_
                      refine ret_ ?_
                      refine ibR ?_
                      refine thR ?_
                      refine fin1 2 1 h LE.rfl ?_
                      exact ⟨by first | (simp only [Tm.node, nodeB, c5, c10, c20, c25, c30, c34, c40, c43, c41, c51]; done) | (simp only [Tm.node, nodeB, c5, c10, c20, c25, c30, c34, c40, c43, c41, c51]; rfl), rfl, rfl⟩
                  · refine sq ?_
                    refine rg0 ?_
                    refine fa fl24_0 (r := 0) h fun a w h => ?_
                    refine ld 0 t1_3 h fun a w h => ?_
                    refine eqi h fun a w h => ?_
                    refine as_ h fun a w h => ?_
                    refine nl0 ?_
                    refine thN ?_
                    refine cdB h (fun c58 => ?_) (fun c58 => ?_)
                    · refine sq ?_
                      refine rgd [0] [_] [1] [2] 3 mix (by kernel_rfl) h (fun a w h => ?_)
                      refine sla arrO sz9 h fun a w h => ?_
                      refine fa fl24_1 (r := 1) h fun a w h => ?_
                      refine ldD 0 t1_9 h fun a w h => ?_
                      refine cl bod47 (Contains_ok opsL _ _ 5 E H _ hL.ops (by decide)) h fun r65 H65 L65 a w le65 R h => ?_
                      obtain ⟨rfl, rfl, rfl⟩ := R
                      refine as_ h fun a w h => ?_
                      refine nl0 ?_
                      refine thN ?_
                      refine ret_ ?_
                      refine ibR ?_
                      refine thR ?_
                      refine fin1 2 1 h LE.rfl ?_
                      exact ⟨by first | (simp only [Tm.node, nodeB, c5, c10, c20, c25, c30, c34, c40, c43, c41, c58]; done) | (simp only [Tm.node, nodeB, c5, c10, c20, c25, c30, c34, c40, c43, c41, c58]; rfl), rfl, rfl⟩
                    · refine sk_ ?_
                      refine ibN ?_
                      refine thN ?_
                      refine sq ?_
                      refine rg0 ?_
                      refine fa fl24_1 (r := 1) h fun a w h => ?_
                      refine ld 0 t1_9 h fun a w h => ?_
                      refine eqb h fun a w h => ?_
                      refine as_ h fun a w h => ?_
                      refine nl0 ?_
                      refine thN ?_
                      refine ret_ ?_
                      refine fin1 2 1 h LE.rfl ?_
                      exact ⟨by first | (simp only [Tm.node, nodeB, c5, c10, c20, c25, c30, c34, c40, c43, c41, c58]; done) | (simp only [Tm.node, nodeB, c5, c10, c20, c25, c30, c34, c40, c43, c41, c58]; rfl), rfl, rfl⟩
            · refine mv h fun a w h => ?_
              refine sk h (k := fun a w h => ?_)
              refine sk h (k := fun a w h => ?_)
              refine sk h (k := fun a w h => ?_)
              refine pkF h fun a w h => ?_
              refine pkF h fun a w h => ?_
              refine nl0 ?_
              refine thN ?_
              refine cdF h ?_
              refine sk_ ?_
              refine thN ?_
              refine sq ?_
              refine blk ?_
              refine sq ?_
              refine rg0 ?_
              refine ldW 0 tN24 h fun a w h => ?_
              refine cl bod38 (Binder_ok _ _ _ _ _ _ _) h fun r43 H43 L43 a w le43 R h => ?_
              obtain ⟨rfl, rfl, rfl⟩ := R
              refine h.spl (fun c43 h => ?_) (fun c43 h => ?_)
              · refine mv h fun a w h => ?_
                refine sk h (k := fun a w h => ?_)
                refine sk h (k := fun a w h => ?_)
                refine sk h (k := fun a w h => ?_)
                refine pkT h fun a w h => ?_
                refine as_ h fun a w h => ?_
                refine nl0 ?_
                refine thN ?_
                refine cdT h ?_
                refine sq ?_
                refine rg0 ?_
                refine fa fl24_1 (r := 1) h fun a w h => ?_
                refine ld 0 t1_9 h fun a w h => ?_
                refine cl bod140 (Name_ok _ E H _ (by omega)) h fun r51 H51 L51 a w le51 R h => ?_
                obtain ⟨rfl, rfl, rfl⟩ := R
                refine h.spl (fun c51 h => ?_) (fun c51 h => ?_)
                · refine mv h fun a w h => ?_
                  refine fa fl24_1 (r := 1) h fun a w h => ?_
                  refine ld 0 t1_9 h fun a w h => ?_
                  refine cl bod141 (Keyword_ok _ E H _ hL) h fun r55 H55 L55 a w le55 R h => ?_
                  obtain ⟨rfl, rfl, rfl⟩ := R
                  refine nt h fun a w h => ?_
                  refine pkT h fun a w h => ?_
                  refine as_ h fun a w h => ?_
                  refine nl0 ?_
                  refine thN ?_
                  refine ret_ ?_
                  refine ibR ?_
                  refine thR ?_
                  refine fin1 2 1 h LE.rfl ?_
                  exact ⟨by first | (simp only [Tm.node, nodeB, c5, c10, c20, c25, c30, c34, c43, c51]; done) | (simp only [Tm.node, nodeB, c5, c10, c20, c25, c30, c34, c43, c51]; rfl), rfl, rfl⟩
                · refine mv h fun a w h => ?_
                  refine sk h (k := fun a w h => ?_)
                  refine sk h (k := fun a w h => ?_)
                  refine sk h (k := fun a w h => ?_)
                  refine sk h (k := fun a w h => ?_)
                  refine pkF h fun a w h => ?_
                  refine as_ h fun a w h => ?_
                  refine nl0 ?_
                  refine thN ?_
                  refine ret_ ?_
                  refine ibR ?_
                  refine thR ?_
                  refine fin1 2 1 h LE.rfl ?_
                  exact ⟨by first | (simp only [Tm.node, nodeB, c5, c10, c20, c25, c30, c34, c43, c51]; done) | (simp only [Tm.node, nodeB, c5, c10, c20, c25, c30, c34, c43, c51]; rfl), rfl, rfl⟩
              · refine mv h fun a w h => ?_
                refine fa fl24_0 (r := 0) h fun a w h => ?_
                refine ld 0 t1_3 h fun a w h => ?_
                refine eqi h fun a w h => ?_
                refine pkF h fun a w h => ?_
                refine as_ h fun a w h => ?_
                refine nl0 ?_
                refine thN ?_
                refine cdB h (fun c41 => ?_) (fun c41 => ?_)
                · refine sq ?_
                  refine rg0 ?_
                  refine fa fl24_1 (r := 1) h fun a w h => ?_
                  refine ld 0 t1_9 h fun a w h => ?_
                  refine cl bod140 (Name_ok _ E H _ (by omega)) h fun r51 H51 L51 a w le51 R h => ?_
                  obtain ⟨rfl, rfl, rfl⟩ := R
                  refine h.spl (fun c51 h => ?_) (fun c51 h => ?_)
                  · refine mv h fun a w h => ?_
                    refine fa fl24_1 (r := 1) h fun a w h => ?_
                    refine ld 0 t1_9 h fun a w h => ?_
                    refine cl bod141 (Keyword_ok _ E H _ hL) h fun r55 H55 L55 a w le55 R h => ?_
                    obtain ⟨rfl, rfl, rfl⟩ := R
                    refine nt h fun a w h => ?_
                    refine pkT h fun a w h => ?_
                    refine as_ h fun a w h => ?_
                    refine nl0 ?_
                    refine thN ?_
                    refine ret_ ?_
                    refine ibR ?_
                    refine thR ?_
                    refine fin1 2 1 h LE.rfl ?_
                    exact ⟨by first | (simp only [Tm.node, nodeB, c5, c10, c20, c25, c30, c34, c43, c41, c51]; done) | (simp only [Tm.node, nodeB, c5, c10, c20, c25, c30, c34, c43, c41, c51]; rfl), rfl, rfl⟩
                  · refine mv h fun a w h => ?_
                    refine sk h (k := fun a w h => ?_)
                    refine sk h (k := fun a w h => ?_)
                    refine sk h (k := fun a w h => ?_)
                    refine sk h (k := fun a w h => ?_)
                    refine pkF h fun a w h => ?_
                    refine as_ h fun a w h => ?_
                    refine nl0 ?_
                    refine thN ?_
                    refine ret_ ?_
                    refine ibR ?_
                    refine thR ?_
                    refine fin1 2 1 h LE.rfl ?_
                    exact ⟨by first | (simp only [Tm.node, nodeB, c5, c10, c20, c25, c30, c34, c43, c41, c51]; done) | (simp only [Tm.node, nodeB, c5, c10, c20, c25, c30, c34, c43, c41, c51]; rfl), rfl, rfl⟩
                · refine sq ?_
                  refine rg0 ?_
                  refine fa fl24_0 (r := 0) h fun a w h => ?_
                  refine ld 0 t1_3 h fun a w h => ?_
                  refine eqi h fun a w h => ?_
                  refine as_ h fun a w h => ?_
                  refine nl0 ?_
                  refine thN ?_
                  refine cdB h (fun c58 => ?_) (fun c58 => ?_)
                  · refine sq ?_
                    refine rgd [0] [_] [1] [2] 3 mix (by kernel_rfl) h (fun a w h => ?_)
                    refine sla arrO sz9 h fun a w h => ?_
                    refine fa fl24_1 (r := 1) h fun a w h => ?_
                    refine ldD 0 t1_9 h fun a w h => ?_
                    refine cl bod47 (Contains_ok opsL _ _ 5 E H _ hL.ops (by decide)) h fun r65 H65 L65 a w le65 R h => ?_
                    obtain ⟨rfl, rfl, rfl⟩ := R
                    refine as_ h fun a w h => ?_
                    refine nl0 ?_
                    refine thN ?_
                    refine ret_ ?_
                    refine ibR ?_
                    refine thR ?_
                    refine fin1 2 1 h LE.rfl ?_
                    exact ⟨by first | (simp only [Tm.node, nodeB, c5, c10, c20, c25, c30, c34, c43, c41, c58]; done) | (simp only [Tm.node, nodeB, c5, c10, c20, c25, c30, c34, c43, c41, c58]; rfl), rfl, rfl⟩
                  · refine sk_ ?_
                    refine ibN ?_
                    refine thN ?_
                    refine sq ?_
                    refine rg0 ?_
                    refine fa fl24_1 (r := 1) h fun a w h => ?_
                    refine ld 0 t1_9 h fun a w h => ?_
                    refine eqb h fun a w h => ?_
                    refine as_ h fun a w h => ?_
                    refine nl0 ?_
                    refine thN ?_
                    refine ret_ ?_
                    refine fin1 2 1 h LE.rfl ?_
                    exact ⟨by first | (simp only [Tm.node, nodeB, c5, c10, c20, c25, c30, c34, c43, c41, c58]; done) | (simp only [Tm.node, nodeB, c5, c10, c20, c25, c30, c34, c43, c41, c58]; rfl), rfl, rfl⟩
end Go.Proofs.YtindlieilabgfaaGreatDoor
