/- The arguments, opened: what a reading tells of the memory. -/
import Derived.Test.YtindlieilabgfaaGreatDoorT8
import Derived.Test.YtindlieilabgfaaGreatDoorRows
import Derived.ChangeArms
import Derived.Lib.SmallJoins
import Derived.Deep.Strs
set_option linter.unusedVariables false
set_option linter.unusedSectionVars false
set_option linter.unusedSimpArgs false
set_option autoImplicit false
set_option relaxedAutoImplicit false
namespace Go.Proofs.YtindlieilabgfaaGreatDoor
open Go X

/-- All of a world's memory. -/
def HW (w : World) : GH := fun b => w.heap[b]?
theorem hc_of {w : World} {g off : Nat} {v : Value} (h : w.cell? ⟨g, off, none⟩ = some v) : Hc (HW w) g off v := by
  unfold World.cell? at h
  split at h
  · rename_i c e z hg; exact ⟨c, e, z, hg, by simpa using h⟩
  · cases h
theorem st_world (w : World) : St w (HW w) [] w where
  os := rfl
  tape := rfl
  output := rfl
  fro := fun _ _ h => h
  holds := fun _ h => absurd h List.not_mem_nil
  off := fun _ h => absurd h List.not_mem_nil
  apart := List.Pairwise.nil
theorem mapM_get {α β : Type} {f : α → Option β} : ∀ {l : List α} {ys : List β}, l.mapM f = some ys → ys.length = l.length ∧ ∀ (i : Nat) (a : α), l[i]? = some a → f a = ys[i]?
  | [], ys, h => by simp at h; subst h; simp
  | a :: l, ys, h => by
    simp only [List.mapM_cons, Option.bind_eq_bind, Option.bind_eq_some_iff, Option.pure_def, Option.some.injEq] at h
    obtain ⟨y, hy, zs, hz, rfl⟩ := h
    have ih := mapM_get hz
    refine ⟨by simp [ih.1], fun i b hb => ?_⟩
    cases i with
    | zero => simp at hb; subst hb; simpa using hy
    | succ i => simp at hb; simpa using ih.2 i b hb
theorem cells_get {w : World} {base : Nat} {a : Addr} {n : Nat} {cs : List Value} (h : w.cells? base a n = some cs) : cs.length = n ∧ ∀ i u, cs[i]? = some u → w.cell? (a.add i) = some u := by
  unfold World.cells? at h
  split at h
  · obtain ⟨h1, h2⟩ := mapM_get h
    have hl : cs.length = n := by simpa using h1
    refine ⟨hl, fun i u hu => ?_⟩
    have hi : i < n := by have := (List.getElem?_eq_some_iff.1 hu).1; omega
    have := h2 i i (by simp [hi])
    rw [this, hu]
  · cases h
section
variable {H : Type} {enc : TypeId × Value → H} {P : Program} {w : World} {base : Nat} {spare : Nat → Bool} {held : Bool}
theorem bulk_sum (l : List (DataW H)) : Rows.uptoBulkAll l = (l.map Rows.uptoBulk).sum := by
  induction l with
  | nil => rfl
  | cons d l ih => simp only [Rows.uptoBulkAll, List.map_cons, List.sum_cons, ih]
/-- A slice, its elements opened. -/
theorem open_sl {α : Type} {R : GH → List Value → α → Prop} {B : α → Nat} {t e sz fuel : Nat} {cs : List Value} {x : DataW H × List MemPlace} (ht : P.underlying t = some (.slice e)) (hc : P.cellsOf e = sz) (hsz : 0 < sz) (h : DataW.trod enc P w base spare held fuel t cs = some x)
    (hel : ∀ n cs' y, n < fuel → DataW.trod enc P w base spare held n e cs' = some y → ∃ a : α, R (HW w) cs' a ∧ B a ≤ Rows.uptoBulk y.1) :
    ∃ (A : Option Addr) (c : Nat) (ys : List α), cs = [.slice A ys.length c] ∧ RS R sz (HW w) (.slice A ys.length c) ys ∧ (ys.map B).sum + 1 ≤ Rows.uptoBulk x.1 := by
  rcases DataW.trod_slice ht h with ⟨rfl, rfl⟩ | ⟨a, len, cap, elems, rest, n, hn, rfl, rfl, hb, hl, hm, hlen, hget, _, _⟩
  · exact ⟨none, 0, [], rfl, RS.nil _ _ _, by simp [Rows.uptoBulk]⟩
  · have key : ∀ q, q ≤ len → ∃ ys : List α, ys.length = q ∧ (ys.map B).sum ≤ (((elems.take q).map (·.1)).map Rows.uptoBulk).sum ∧ ∀ j y, ys[j]? = some y → ∃ g off cs', a = ⟨g, off, none⟩ ∧ cs'.length = sz ∧ R (HW w) cs' y ∧ ∀ i u, cs'[i]? = some u → Hc (HW w) g (off + j * sz + i) u := by
      intro q
      induction q with
      | zero => intro _; exact ⟨[], rfl, by simp, fun j y hy => by simp at hy⟩
      | succ q ih =>
        intro hq
        obtain ⟨ys, h1, h2, h3⟩ := ih (by omega)
        have hge := hget q (by omega)
        have hel0 : elems[q]? = some elems[q] := List.getElem?_eq_getElem (by omega)
        rw [hel0] at hge
        obtain ⟨cs', hcs, htr⟩ := Option.bind_eq_some_iff.1 hge
        obtain ⟨y, hR, hB⟩ := hel n cs' _ (by omega) htr
        obtain ⟨hl', hcell⟩ := cells_get hcs
        rw [hc] at hl'
        have hspot : a.spot = none := by
          have h0 := hcell 0 (cs'[0]'(by omega)) (List.getElem?_eq_getElem _)
          cases hsp : a.spot with
          | none => rfl
          | some s =>
            exfalso
            by_cases hq0 : q * P.cellsOf e = 0
            · rw [hq0] at h0
              have : (a.add 0).add 0 = a := by simp [Addr.add]
              rw [this] at h0
              unfold World.cell? at h0
              split at h0
              · rw [hsp] at h0; simp at h0
              · cases h0
            · have hq1 : 0 < q := by
                rcases Nat.eq_zero_or_pos q with rfl | h; exact absurd (Nat.zero_mul _) hq0; exact h
              obtain ⟨g, off, _, he, _⟩ := h3 0 (ys[0]'(by omega)) (List.getElem?_eq_getElem _)
              rw [he] at hsp; cases hsp
        refine ⟨ys ++ [y], by simp [h1], ?_, fun j z hz => ?_⟩
        · rw [List.take_succ_eq_append_getElem (by omega)]
          simp only [List.map_append, List.sum_append, List.map_cons, List.map_nil, List.sum_cons, List.sum_nil]
          omega
        · by_cases hj : j < ys.length
          · rw [List.getElem?_append_left hj] at hz; exact h3 j z hz
          · have hj2 : j = ys.length := by
              have := (List.getElem?_eq_some_iff.1 hz).1
              simp at this; omega
            subst hj2
            simp at hz; subst hz
            obtain ⟨ab, ao, asp⟩ := a
            simp only at hspot; subst hspot
            refine ⟨ab, ao, cs', rfl, hl', hR, fun i u hu => ?_⟩
            have := hcell i u hu
            rw [hc, Addr.add_mid, Addr.add_mid, ← h1] at this
            exact hc_of this
    obtain ⟨ys, h1, h2, h3⟩ := key len (Nat.le_refl _)
    refine ⟨some a, cap, ys, by rw [h1], ⟨some a, cap, rfl, by omega, fun j y hy => ?_⟩, ?_⟩
    · obtain ⟨g, off, cs', he, hr⟩ := h3 j y hy
      exact ⟨g, off, cs', by rw [he], hr⟩
    · rw [List.take_of_length_le (by omega)] at h2
      simp only [Rows.uptoBulk, bulk_sum]
      omega
end
end Go.Proofs.YtindlieilabgfaaGreatDoor
