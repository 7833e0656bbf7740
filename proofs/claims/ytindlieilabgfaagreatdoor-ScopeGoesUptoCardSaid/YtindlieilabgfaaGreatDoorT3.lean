/- Tokens, and what a term is shown as. -/
import Derived.Test.YtindlieilabgfaaGreatDoorT2
import Derived.Test.YtindlieilabgfaaGreatDoorX12
import Derived.Shelf.Strconv.Itoa4
import Derived.Shelf.Strings.OnBuilder
set_option linter.unusedVariables false
set_option linter.unusedSectionVars false
set_option linter.unusedSimpArgs false
set_option autoImplicit false
set_option relaxedAutoImplicit false
namespace Go.Proofs.YtindlieilabgfaaGreatDoor
open Go X

/-- Drawn, and new blocks behind: what was there is there. -/
theorem belowG (w : World) (k : Nat) (os : Array Obj) : RowKit.Below w.heap.size w (Go.Sort.grow (w.drewN k) os) where
  os := rfl
  tape := rfl
  output := rfl
  size := by simp [Go.Sort.grow, World.drewN]
  block i hi := by simp [Go.Sort.grow, World.drewN, Array.getElem?_append_left hi]
/-- A token. -/
structure Tk where
  kind : Int
  text : Bs
  n : Int
def RTk (_H : GH) (cs : List Value) (k : Tk) : Prop := cs = [.int .i64 k.kind, str k.text, .int .i64 k.n]
theorem rtk_one {H : GH} {ks : List Tk} : ∀ cs y, y ∈ ks → RTk H cs y → ∀ u ∈ cs, u.oneCell' = true := by
  intro cs y _ h u hu
  unfold RTk at h; subst h
  simp at hu; rcases hu with rfl | rfl | rfl <;> rfl
theorem rtk_up {ks : List Tk} {H : GH} : ∀ H', LE H H' → ∀ cs y, y ∈ ks → RTk H cs y → RTk H' cs y := fun _ _ _ _ _ h => h
/-- A part of what is shown. -/
inductive Pt where
  | word (s : Bs)
  | mark (s : Bs)
  | name (s : Bs)
  | kid (t : Tm)
/-- What a part tells of a term's tokens, those of its kids given. -/
def layT' (k : Int) (s : Bs) (n : Int) (w : Nat → List Tk) : List Tk :=
  if k == 1 then [⟨2, Lib.itoa n, n⟩]
  else if k == 2 then [⟨1, s, 0⟩]
  else if k == 3 then ⟨3, [102, 117, 110], 0⟩ :: ⟨1, s, 0⟩ :: ⟨4, [61, 62], 0⟩ :: w 0
  else if k == 4 then w 0 ++ w 1
  else if k == 5 then ⟨3, [108, 101, 116], 0⟩ :: ⟨1, s, 0⟩ :: ⟨4, [61], 0⟩ :: (w 0 ++ ⟨3, [105, 110], 0⟩ :: w 1)
  else if k == 6 then ⟨3, [105, 102], 0⟩ :: (w 0 ++ ⟨3, [116, 104, 101, 110], 0⟩ :: (w 1 ++ ⟨3, [101, 108, 115, 101], 0⟩ :: w 2))
  else if k == 7 then ⟨3, [119, 104, 105, 108, 101], 0⟩ :: (w 0 ++ ⟨3, [100, 111], 0⟩ :: w 1)
  else if k == 8 then ⟨3, [114, 97, 105, 115, 101], 0⟩ :: w 0
  else if k == 9 then ⟨3, [116, 114, 121], 0⟩ :: (w 0 ++ ⟨3, [119, 105, 116, 104], 0⟩ :: ⟨1, s, 0⟩ :: ⟨4, [61, 62], 0⟩ :: w 1)
  else if k == 10 then ⟨4, [33], 0⟩ :: w 0
  else if k == 11 then w 0 ++ ⟨4, [58, 61], 0⟩ :: w 1
  else if k == 12 then w 0 ++ ⟨4, s, 0⟩ :: w 1
  else w 0 ++ ⟨4, [59], 0⟩ :: w 1
mutual
def Tm.toks : Tm → List Tk
  | .mk k s n ks => layT' k s n (withinN ks)
def withinN : List Tm → Nat → List Tk
  | [] => fun _ => []
  | t :: l => fun i => match i with
    | 0 => if t.kind == 1 || t.kind == 2 then t.toks else ⟨4, [40], 0⟩ :: (t.toks ++ [⟨4, [41], 0⟩])
    | i + 1 => withinN l i
end
def Tm.within (t : Tm) : List Tk := if t.kind == 1 || t.kind == 2 then t.toks else ⟨4, [40], 0⟩ :: (t.toks ++ [⟨4, [41], 0⟩])
theorem withinN_get : ∀ {ks : List Tm} {i : Nat} (h : i < ks.length), withinN ks i = ks[i].within
  | [], _, h => by simp at h
  | t :: l, 0, _ => by simp only [withinN, Tm.within, List.getElem_cons_zero]
  | t :: l, i + 1, h => by simp only [withinN, List.getElem_cons_succ]; exact withinN_get _
theorem toks_mk (k : Int) (s : Bs) (n : Int) (ks : List Tm) : (Tm.mk k s n ks).toks = layT' k s n (withinN ks) := by simp only [Tm.toks]
def Pt.toks : Pt → List Tk
  | .word s => [⟨3, s, 0⟩]
  | .mark s => [⟨4, s, 0⟩]
  | .name s => [⟨1, s, 0⟩]
  | .kid t => t.within
def laidL (ps : List Pt) : List Tk := ps.flatMap Pt.toks
theorem laid_take {ps : List Pt} {k : Nat} (h : k < ps.length) : laidL (ps.take (k + 1)) = laidL (ps.take k) ++ ps[k].toks := by
  unfold laidL; rw [List.take_succ_eq_append_getElem h, List.flatMap_append]; simp
theorem laid_len_take (ps : List Pt) (k : Nat) : (laidL (ps.take k)).length ≤ (laidL ps).length := by
  conv => rhs; rw [← List.take_append_drop k ps]
  unfold laidL; rw [List.flatMap_append, List.length_append]; omega
theorem kids_of_node {k : Int} {s : Bs} {n : Int} {l : Nat} (h : nodeB k s n l = true) : 1 ≤ k ∧ k < 14 ∧ (l : Int) = kidsL.getD k.toNat (-1) ∧ 0 ≤ n ∧ n < 2147483648 := by
  unfold nodeB at h
  simp only [Bool.and_eq_true, Bool.not_eq_true', Bool.or_eq_false_iff, decide_eq_false_iff_not, bne_eq_false_iff_eq] at h
  obtain ⟨⟨h1, h2, h3, h4, h5, h6⟩, h7⟩ := h
  exact ⟨by omega, by omega, h3, by omega, by omega⟩
theorem right_of {k : Int} {s : Bs} {n : Int} {ks : List Tm} (h : (Tm.mk k s n ks).wrong = false) : nodeB k s n ks.length = true ∧ ∀ x ∈ ks, x.wrong = false := by
  simp only [Tm.wrong, wrongL_any, Bool.or_eq_false_iff, Bool.not_eq_false'] at h
  refine ⟨h.1, fun x hx => ?_⟩
  have := h.2
  rw [List.any_eq_false] at this
  simpa using this x hx
theorem toks_k {k : Int} {s : Bs} {n : Int} {ks : List Tm} (hn : nodeB k s n ks.length = true) :
    (k = 1 → (Tm.mk k s n ks).toks = [⟨2, Lib.itoa n, n⟩]) ∧
    (k = 2 → (Tm.mk k s n ks).toks = laidL [.name s]) ∧
    (k = 3 → ∃ h : 0 < ks.length, (Tm.mk k s n ks).toks = laidL [.word [102, 117, 110], .name s, .mark [61, 62], .kid ks[0]]) ∧
    (k = 4 → ∃ h : 1 < ks.length, (Tm.mk k s n ks).toks = laidL [.kid ks[0], .kid ks[1]]) ∧
    (k = 5 → ∃ h : 1 < ks.length, (Tm.mk k s n ks).toks = laidL [.word [108, 101, 116], .name s, .mark [61], .kid ks[0], .word [105, 110], .kid ks[1]]) ∧
    (k = 6 → ∃ h : 2 < ks.length, (Tm.mk k s n ks).toks = laidL [.word [105, 102], .kid ks[0], .word [116, 104, 101, 110], .kid ks[1], .word [101, 108, 115, 101], .kid ks[2]]) ∧
    (k = 7 → ∃ h : 1 < ks.length, (Tm.mk k s n ks).toks = laidL [.word [119, 104, 105, 108, 101], .kid ks[0], .word [100, 111], .kid ks[1]]) ∧
    (k = 8 → ∃ h : 0 < ks.length, (Tm.mk k s n ks).toks = laidL [.word [114, 97, 105, 115, 101], .kid ks[0]]) ∧
    (k = 9 → ∃ h : 1 < ks.length, (Tm.mk k s n ks).toks = laidL [.word [116, 114, 121], .kid ks[0], .word [119, 105, 116, 104], .name s, .mark [61, 62], .kid ks[1]]) ∧
    (k = 10 → ∃ h : 0 < ks.length, (Tm.mk k s n ks).toks = laidL [.mark [33], .kid ks[0]]) ∧
    (k = 11 → ∃ h : 1 < ks.length, (Tm.mk k s n ks).toks = laidL [.kid ks[0], .mark [58, 61], .kid ks[1]]) ∧
    (k = 12 → ∃ h : 1 < ks.length, (Tm.mk k s n ks).toks = laidL [.kid ks[0], .mark s, .kid ks[1]]) ∧
    (k ≠ 1 → k ≠ 2 → k ≠ 3 → k ≠ 4 → k ≠ 5 → k ≠ 6 → k ≠ 7 → k ≠ 8 → k ≠ 9 → k ≠ 10 → k ≠ 11 → k ≠ 12 → ∃ h : 1 < ks.length, (Tm.mk k s n ks).toks = laidL [.kid ks[0], .mark [59], .kid ks[1]]) := by
  obtain ⟨h1, h2, h3, _, _⟩ := kids_of_node hn
  rw [toks_mk]
  refine ⟨?_, ?_, ?_, ?_, ?_, ?_, ?_, ?_, ?_, ?_, ?_, ?_, ?_⟩
  · rintro rfl; rfl
  · rintro rfl; rfl
  · rintro rfl
    have hl : ks.length = 1 := by have : (ks.length : Int) = 1 := h3; omega
    have g0 : 0 < ks.length := by omega
    exact ⟨g0, by simp [layT', laidL, Pt.toks, withinN_get g0]⟩
  · rintro rfl
    have hl : ks.length = 2 := by have : (ks.length : Int) = 2 := h3; omega
    have g0 : 0 < ks.length := by omega
    have g1 : 1 < ks.length := by omega
    exact ⟨g1, by simp [layT', laidL, Pt.toks, withinN_get g0, withinN_get g1]⟩
  · rintro rfl
    have hl : ks.length = 2 := by have : (ks.length : Int) = 2 := h3; omega
    have g0 : 0 < ks.length := by omega
    have g1 : 1 < ks.length := by omega
    exact ⟨g1, by simp [layT', laidL, Pt.toks, withinN_get g0, withinN_get g1]⟩
  · rintro rfl
    have hl : ks.length = 3 := by have : (ks.length : Int) = 3 := h3; omega
    have g0 : 0 < ks.length := by omega
    have g1 : 1 < ks.length := by omega
    have g2 : 2 < ks.length := by omega
    exact ⟨g2, by simp [layT', laidL, Pt.toks, withinN_get g0, withinN_get g1, withinN_get g2]⟩
  · rintro rfl
    have hl : ks.length = 2 := by have : (ks.length : Int) = 2 := h3; omega
    have g0 : 0 < ks.length := by omega
    have g1 : 1 < ks.length := by omega
    exact ⟨g1, by simp [layT', laidL, Pt.toks, withinN_get g0, withinN_get g1]⟩
  · rintro rfl
    have hl : ks.length = 1 := by have : (ks.length : Int) = 1 := h3; omega
    have g0 : 0 < ks.length := by omega
    exact ⟨g0, by simp [layT', laidL, Pt.toks, withinN_get g0]⟩
  · rintro rfl
    have hl : ks.length = 2 := by have : (ks.length : Int) = 2 := h3; omega
    have g0 : 0 < ks.length := by omega
    have g1 : 1 < ks.length := by omega
    exact ⟨g1, by simp [layT', laidL, Pt.toks, withinN_get g0, withinN_get g1]⟩
  · rintro rfl
    have hl : ks.length = 1 := by have : (ks.length : Int) = 1 := h3; omega
    have g0 : 0 < ks.length := by omega
    exact ⟨g0, by simp [layT', laidL, Pt.toks, withinN_get g0]⟩
  · rintro rfl
    have hl : ks.length = 2 := by have : (ks.length : Int) = 2 := h3; omega
    have g0 : 0 < ks.length := by omega
    have g1 : 1 < ks.length := by omega
    exact ⟨g1, by simp [layT', laidL, Pt.toks, withinN_get g0, withinN_get g1]⟩
  · rintro rfl
    have hl : ks.length = 2 := by have : (ks.length : Int) = 2 := h3; omega
    have g0 : 0 < ks.length := by omega
    have g1 : 1 < ks.length := by omega
    exact ⟨g1, by simp [layT', laidL, Pt.toks, withinN_get g0, withinN_get g1]⟩
  · intro j1 j2 j3 j4 j5 j6 j7 j8 j9 j10 j11 j12
    have hk : k = 13 := by omega
    subst hk
    have hl : ks.length = 2 := by have : (ks.length : Int) = 2 := h3; omega
    have g0 : 0 < ks.length := by omega
    have g1 : 1 < ks.length := by omega
    exact ⟨g1, by simp [layT', laidL, Pt.toks, withinN_get g0, withinN_get g1]⟩
mutual
theorem toks_len : ∀ t : Tm, t.toks.length + 2 ≤ 8 * t.size
  | .mk k s n ks => by
    have h := within_len ks
    rw [toks_mk]
    simp only [Tm.size]
    have : (layT' k s n (withinN ks)).length ≤ 4 + ((withinN ks 0).length + (withinN ks 1).length + (withinN ks 2).length) := by
      unfold layT'
      by_cases c1 : (k == 1) = true
      · rw [if_pos c1]; simp only [List.length_cons, List.length_append, List.length_nil]; omega
      rw [if_neg c1]
      by_cases c2 : (k == 2) = true
      · rw [if_pos c2]; simp only [List.length_cons, List.length_append, List.length_nil]; omega
      rw [if_neg c2]
      by_cases c3 : (k == 3) = true
      · rw [if_pos c3]; simp only [List.length_cons, List.length_append, List.length_nil]; omega
      rw [if_neg c3]
      by_cases c4 : (k == 4) = true
      · rw [if_pos c4]; simp only [List.length_cons, List.length_append, List.length_nil]; omega
      rw [if_neg c4]
      by_cases c5 : (k == 5) = true
      · rw [if_pos c5]; simp only [List.length_cons, List.length_append, List.length_nil]; omega
      rw [if_neg c5]
      by_cases c6 : (k == 6) = true
      · rw [if_pos c6]; simp only [List.length_cons, List.length_append, List.length_nil]; omega
      rw [if_neg c6]
      by_cases c7 : (k == 7) = true
      · rw [if_pos c7]; simp only [List.length_cons, List.length_append, List.length_nil]; omega
      rw [if_neg c7]
      by_cases c8 : (k == 8) = true
      · rw [if_pos c8]; simp only [List.length_cons, List.length_append, List.length_nil]; omega
      rw [if_neg c8]
      by_cases c9 : (k == 9) = true
      · rw [if_pos c9]; simp only [List.length_cons, List.length_append, List.length_nil]; omega
      rw [if_neg c9]
      by_cases c10 : (k == 10) = true
      · rw [if_pos c10]; simp only [List.length_cons, List.length_append, List.length_nil]; omega
      rw [if_neg c10]
      by_cases c11 : (k == 11) = true
      · rw [if_pos c11]; simp only [List.length_cons, List.length_append, List.length_nil]; omega
      rw [if_neg c11]
      by_cases c12 : (k == 12) = true
      · rw [if_pos c12]; simp only [List.length_cons, List.length_append, List.length_nil]; omega
      rw [if_neg c12]
      simp only [List.length_cons, List.length_append, List.length_nil]; omega
    omega
theorem within_len : ∀ ks : List Tm, (withinN ks 0).length + (withinN ks 1).length + (withinN ks 2).length ≤ 8 * sizeL ks
  | [] => by simp [withinN]
  | t :: l => by
    have h := within_len l
    have h1 := toks_len t
    simp only [withinN, sizeL]
    have : (if t.kind == 1 || t.kind == 2 then t.toks else ⟨4, [40], 0⟩ :: (t.toks ++ [⟨4, [41], 0⟩])).length ≤ t.toks.length + 2 := by
      split <;> simp
    omega
end
theorem Tm.within_le (t : Tm) : t.within.length ≤ 8 * t.size := by
  have := toks_len t
  unfold Tm.within; split
  · omega
  · simp; omega
/-- Texts, a blank between. -/
def showL (ks : List Tk) : Bs := Lib.join (ks.map (·.text)) [32]
def Tm.show' (t : Tm) : Bs := if t.right then showL t.toks else [63]
end Go.Proofs.YtindlieilabgfaaGreatDoor
