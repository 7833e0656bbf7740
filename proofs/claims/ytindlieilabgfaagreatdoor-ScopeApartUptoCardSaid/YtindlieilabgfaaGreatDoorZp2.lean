/- Parts of the proof: T3, T4, T5, T6, T7, T8, G1, G2, F, W1, W3, G3, G4, X13, X14, X15, X16, G7, F2, W4. -/
import Derived.Test.YtindlieilabgfaaGreatDoorZp1
import Derived.Shelf.Strconv.Itoa4
import Derived.Shelf.Strings.OnBuilder
import Derived.Lib.ItoaLen
import Derived.Test.YtindlieilabgfaaGreatDoorRows
import Derived.ChangeArms
import Derived.Lib.SmallJoins
import Derived.Deep.Strs
import Derived.Test.YtindlieilabgfaaGreatDoorProg
import Derived.Lib.LaidTab
import Derived.OpenShut
import Derived.FnData
import Derived.WideKeyArgs
import Derived.ChangeSame
import Derived.Deep.DeepHandedRow
import Derived.Below
import Derived.Laws.StructEq
/- Tokens, and what a term is shown as. -/
set_option linter.unusedVariables false
set_option linter.unusedSectionVars false
set_option linter.unusedSimpArgs false
set_option autoImplicit false
set_option relaxedAutoImplicit false
namespace Go.Proofs.YtindlieilabgfaaGreatDoor
open Go X

/-- Drawn, and new blocks behind: what was there is there. -/
theorem belowG (w : World) (k : Nat) (os : Array Obj) : RowKit.Below w.heap.size w (Go.Sort.grow (w.drewN k) os) where
  os := rfl
  tape := rfl
  output := rfl
  size := by simp [Go.Sort.grow, World.drewN]
  block i hi := by simp [Go.Sort.grow, World.drewN, Array.getElem?_append_left hi]
/-- A token. -/
structure Tk where
  kind : Int
  text : Bs
  n : Int
def RTk (_H : GH) (cs : List Value) (k : Tk) : Prop := cs = [.int .i64 k.kind, str k.text, .int .i64 k.n]
theorem rtk_one {H : GH} {ks : List Tk} : ∀ cs y, y ∈ ks → RTk H cs y → ∀ u ∈ cs, u.oneCell' = true := by
  intro cs y _ h u hu
  unfold RTk at h; subst h
  simp at hu; rcases hu with rfl | rfl | rfl <;> rfl
theorem rtk_up {ks : List Tk} {H : GH} : ∀ H', LE H H' → ∀ cs y, y ∈ ks → RTk H cs y → RTk H' cs y := fun _ _ _ _ _ h => h
/-- A part of what is shown. -/
inductive Pt where
  | word (s : Bs)
  | mark (s : Bs)
  | name (s : Bs)
  | kid (t : Tm)
/-- What a part tells of a term's tokens, those of its kids given. -/
def layT' (k : Int) (s : Bs) (n : Int) (w : Nat → List Tk) : List Tk :=
  if k == 1 then [⟨2, Lib.itoa n, n⟩]
  else if k == 2 then [⟨1, s, 0⟩]
  else if k == 3 then ⟨3, [102, 117, 110], 0⟩ :: ⟨1, s, 0⟩ :: ⟨4, [61, 62], 0⟩ :: w 0
  else if k == 4 then w 0 ++ w 1
  else if k == 5 then ⟨3, [108, 101, 116], 0⟩ :: ⟨1, s, 0⟩ :: ⟨4, [61], 0⟩ :: (w 0 ++ ⟨3, [105, 110], 0⟩ :: w 1)
  else if k == 6 then ⟨3, [105, 102], 0⟩ :: (w 0 ++ ⟨3, [116, 104, 101, 110], 0⟩ :: (w 1 ++ ⟨3, [101, 108, 115, 101], 0⟩ :: w 2))
  else if k == 7 then ⟨3, [119, 104, 105, 108, 101], 0⟩ :: (w 0 ++ ⟨3, [100, 111], 0⟩ :: w 1)
  else if k == 8 then ⟨3, [114, 97, 105, 115, 101], 0⟩ :: w 0
  else if k == 9 then ⟨3, [116, 114, 121], 0⟩ :: (w 0 ++ ⟨3, [119, 105, 116, 104], 0⟩ :: ⟨1, s, 0⟩ :: ⟨4, [61, 62], 0⟩ :: w 1)
  else if k == 10 then ⟨4, [33], 0⟩ :: w 0
  else if k == 11 then w 0 ++ ⟨4, [58, 61], 0⟩ :: w 1
  else if k == 12 then w 0 ++ ⟨4, s, 0⟩ :: w 1
  else w 0 ++ ⟨4, [59], 0⟩ :: w 1
mutual
def Tm.toks : Tm → List Tk
  | .mk k s n ks => layT' k s n (withinN ks)
def withinN : List Tm → Nat → List Tk
  | [] => fun _ => []
  | t :: l => fun i => match i with
    | 0 => if t.kind == 1 || t.kind == 2 then t.toks else ⟨4, [40], 0⟩ :: (t.toks ++ [⟨4, [41], 0⟩])
    | i + 1 => withinN l i
end
def Tm.within (t : Tm) : List Tk := if t.kind == 1 || t.kind == 2 then t.toks else ⟨4, [40], 0⟩ :: (t.toks ++ [⟨4, [41], 0⟩])
theorem withinN_get : ∀ {ks : List Tm} {i : Nat} (h : i < ks.length), withinN ks i = ks[i].within
  | [], _, h => by simp at h
  | t :: l, 0, _ => by simp only [withinN, Tm.within, List.getElem_cons_zero]
  | t :: l, i + 1, h => by simp only [withinN, List.getElem_cons_succ]; exact withinN_get _
theorem toks_mk (k : Int) (s : Bs) (n : Int) (ks : List Tm) : (Tm.mk k s n ks).toks = layT' k s n (withinN ks) := by simp only [Tm.toks]
def Pt.toks : Pt → List Tk
  | .word s => [⟨3, s, 0⟩]
  | .mark s => [⟨4, s, 0⟩]
  | .name s => [⟨1, s, 0⟩]
  | .kid t => t.within
def laidL (ps : List Pt) : List Tk := ps.flatMap Pt.toks
theorem laid_take {ps : List Pt} {k : Nat} (h : k < ps.length) : laidL (ps.take (k + 1)) = laidL (ps.take k) ++ ps[k].toks := by
  unfold laidL; rw [List.take_succ_eq_append_getElem h, List.flatMap_append]; simp
theorem laid_len_take (ps : List Pt) (k : Nat) : (laidL (ps.take k)).length ≤ (laidL ps).length := by
  conv => rhs; rw [← List.take_append_drop k ps]
  unfold laidL; rw [List.flatMap_append, List.length_append]; omega
theorem kids_of_node {k : Int} {s : Bs} {n : Int} {l : Nat} (h : nodeB k s n l = true) : 1 ≤ k ∧ k < 14 ∧ (l : Int) = kidsL.getD k.toNat (-1) ∧ 0 ≤ n ∧ n < 2147483648 := by
  unfold nodeB at h
  simp only [Bool.and_eq_true, Bool.not_eq_true', Bool.or_eq_false_iff, decide_eq_false_iff_not, bne_eq_false_iff_eq] at h
  obtain ⟨⟨h1, h2, h3, h4, h5, h6⟩, h7⟩ := h
  exact ⟨by omega, by omega, h3, by omega, by omega⟩
theorem right_of {k : Int} {s : Bs} {n : Int} {ks : List Tm} (h : (Tm.mk k s n ks).wrong = false) : nodeB k s n ks.length = true ∧ ∀ x ∈ ks, x.wrong = false := by
  simp only [Tm.wrong, wrongL_any, Bool.or_eq_false_iff, Bool.not_eq_false'] at h
  refine ⟨h.1, fun x hx => ?_⟩
  have := h.2
  rw [List.any_eq_false] at this
  simpa using this x hx
theorem toks_k {k : Int} {s : Bs} {n : Int} {ks : List Tm} (hn : nodeB k s n ks.length = true) :
    (k = 1 → (Tm.mk k s n ks).toks = [⟨2, Lib.itoa n, n⟩]) ∧
    (k = 2 → (Tm.mk k s n ks).toks = laidL [.name s]) ∧
    (k = 3 → ∃ h : 0 < ks.length, (Tm.mk k s n ks).toks = laidL [.word [102, 117, 110], .name s, .mark [61, 62], .kid ks[0]]) ∧
    (k = 4 → ∃ h : 1 < ks.length, (Tm.mk k s n ks).toks = laidL [.kid ks[0], .kid ks[1]]) ∧
    (k = 5 → ∃ h : 1 < ks.length, (Tm.mk k s n ks).toks = laidL [.word [108, 101, 116], .name s, .mark [61], .kid ks[0], .word [105, 110], .kid ks[1]]) ∧
    (k = 6 → ∃ h : 2 < ks.length, (Tm.mk k s n ks).toks = laidL [.word [105, 102], .kid ks[0], .word [116, 104, 101, 110], .kid ks[1], .word [101, 108, 115, 101], .kid ks[2]]) ∧
    (k = 7 → ∃ h : 1 < ks.length, (Tm.mk k s n ks).toks = laidL [.word [119, 104, 105, 108, 101], .kid ks[0], .word [100, 111], .kid ks[1]]) ∧
    (k = 8 → ∃ h : 0 < ks.length, (Tm.mk k s n ks).toks = laidL [.word [114, 97, 105, 115, 101], .kid ks[0]]) ∧
    (k = 9 → ∃ h : 1 < ks.length, (Tm.mk k s n ks).toks = laidL [.word [116, 114, 121], .kid ks[0], .word [119, 105, 116, 104], .name s, .mark [61, 62], .kid ks[1]]) ∧
    (k = 10 → ∃ h : 0 < ks.length, (Tm.mk k s n ks).toks = laidL [.mark [33], .kid ks[0]]) ∧
    (k = 11 → ∃ h : 1 < ks.length, (Tm.mk k s n ks).toks = laidL [.kid ks[0], .mark [58, 61], .kid ks[1]]) ∧
    (k = 12 → ∃ h : 1 < ks.length, (Tm.mk k s n ks).toks = laidL [.kid ks[0], .mark s, .kid ks[1]]) ∧
    (k ≠ 1 → k ≠ 2 → k ≠ 3 → k ≠ 4 → k ≠ 5 → k ≠ 6 → k ≠ 7 → k ≠ 8 → k ≠ 9 → k ≠ 10 → k ≠ 11 → k ≠ 12 → ∃ h : 1 < ks.length, (Tm.mk k s n ks).toks = laidL [.kid ks[0], .mark [59], .kid ks[1]]) := by
  obtain ⟨h1, h2, h3, _, _⟩ := kids_of_node hn
  rw [toks_mk]
  refine ⟨?_, ?_, ?_, ?_, ?_, ?_, ?_, ?_, ?_, ?_, ?_, ?_, ?_⟩
  · rintro rfl; rfl
  · rintro rfl; rfl
  · rintro rfl
    have hl : ks.length = 1 := by have : (ks.length : Int) = 1 := h3; omega
    have g0 : 0 < ks.length := by omega
    exact ⟨g0, by simp [layT', laidL, Pt.toks, withinN_get g0]⟩
  · rintro rfl
    have hl : ks.length = 2 := by have : (ks.length : Int) = 2 := h3; omega
    have g0 : 0 < ks.length := by omega
    have g1 : 1 < ks.length := by omega
    exact ⟨g1, by simp [layT', laidL, Pt.toks, withinN_get g0, withinN_get g1]⟩
  · rintro rfl
    have hl : ks.length = 2 := by have : (ks.length : Int) = 2 := h3; omega
    have g0 : 0 < ks.length := by omega
    have g1 : 1 < ks.length := by omega
    exact ⟨g1, by simp [layT', laidL, Pt.toks, withinN_get g0, withinN_get g1]⟩
  · rintro rfl
    have hl : ks.length = 3 := by have : (ks.length : Int) = 3 := h3; omega
    have g0 : 0 < ks.length := by omega
    have g1 : 1 < ks.length := by omega
    have g2 : 2 < ks.length := by omega
    exact ⟨g2, by simp [layT', laidL, Pt.toks, withinN_get g0, withinN_get g1, withinN_get g2]⟩
  · rintro rfl
    have hl : ks.length = 2 := by have : (ks.length : Int) = 2 := h3; omega
    have g0 : 0 < ks.length := by omega
    have g1 : 1 < ks.length := by omega
    exact ⟨g1, by simp [layT', laidL, Pt.toks, withinN_get g0, withinN_get g1]⟩
  · rintro rfl
    have hl : ks.length = 1 := by have : (ks.length : Int) = 1 := h3; omega
    have g0 : 0 < ks.length := by omega
    exact ⟨g0, by simp [layT', laidL, Pt.toks, withinN_get g0]⟩
  · rintro rfl
    have hl : ks.length = 2 := by have : (ks.length : Int) = 2 := h3; omega
    have g0 : 0 < ks.length := by omega
    have g1 : 1 < ks.length := by omega
    exact ⟨g1, by simp [layT', laidL, Pt.toks, withinN_get g0, withinN_get g1]⟩
  · rintro rfl
    have hl : ks.length = 1 := by have : (ks.length : Int) = 1 := h3; omega
    have g0 : 0 < ks.length := by omega
    exact ⟨g0, by simp [layT', laidL, Pt.toks, withinN_get g0]⟩
  · rintro rfl
    have hl : ks.length = 2 := by have : (ks.length : Int) = 2 := h3; omega
    have g0 : 0 < ks.length := by omega
    have g1 : 1 < ks.length := by omega
    exact ⟨g1, by simp [layT', laidL, Pt.toks, withinN_get g0, withinN_get g1]⟩
  · rintro rfl
    have hl : ks.length = 2 := by have : (ks.length : Int) = 2 := h3; omega
    have g0 : 0 < ks.length := by omega
    have g1 : 1 < ks.length := by omega
    exact ⟨g1, by simp [layT', laidL, Pt.toks, withinN_get g0, withinN_get g1]⟩
  · intro j1 j2 j3 j4 j5 j6 j7 j8 j9 j10 j11 j12
    have hk : k = 13 := by omega
    subst hk
    have hl : ks.length = 2 := by have : (ks.length : Int) = 2 := h3; omega
    have g0 : 0 < ks.length := by omega
    have g1 : 1 < ks.length := by omega
    exact ⟨g1, by simp [layT', laidL, Pt.toks, withinN_get g0, withinN_get g1]⟩
mutual
theorem toks_len : ∀ t : Tm, t.toks.length + 2 ≤ 8 * t.size
  | .mk k s n ks => by
    have h := within_len ks
    rw [toks_mk]
    simp only [Tm.size]
    have : (layT' k s n (withinN ks)).length ≤ 4 + ((withinN ks 0).length + (withinN ks 1).length + (withinN ks 2).length) := by
      unfold layT'
      by_cases c1 : (k == 1) = true
      · rw [if_pos c1]; simp only [List.length_cons, List.length_append, List.length_nil]; omega
      rw [if_neg c1]
      by_cases c2 : (k == 2) = true
      · rw [if_pos c2]; simp only [List.length_cons, List.length_append, List.length_nil]; omega
      rw [if_neg c2]
      by_cases c3 : (k == 3) = true
      · rw [if_pos c3]; simp only [List.length_cons, List.length_append, List.length_nil]; omega
      rw [if_neg c3]
      by_cases c4 : (k == 4) = true
      · rw [if_pos c4]; simp only [List.length_cons, List.length_append, List.length_nil]; omega
      rw [if_neg c4]
      by_cases c5 : (k == 5) = true
      · rw [if_pos c5]; simp only [List.length_cons, List.length_append, List.length_nil]; omega
      rw [if_neg c5]
      by_cases c6 : (k == 6) = true
      · rw [if_pos c6]; simp only [List.length_cons, List.length_append, List.length_nil]; omega
      rw [if_neg c6]
      by_cases c7 : (k == 7) = true
      · rw [if_pos c7]; simp only [List.length_cons, List.length_append, List.length_nil]; omega
      rw [if_neg c7]
      by_cases c8 : (k == 8) = true
      · rw [if_pos c8]; simp only [List.length_cons, List.length_append, List.length_nil]; omega
      rw [if_neg c8]
      by_cases c9 : (k == 9) = true
      · rw [if_pos c9]; simp only [List.length_cons, List.length_append, List.length_nil]; omega
      rw [if_neg c9]
      by_cases c10 : (k == 10) = true
      · rw [if_pos c10]; simp only [List.length_cons, List.length_append, List.length_nil]; omega
      rw [if_neg c10]
      by_cases c11 : (k == 11) = true
      · rw [if_pos c11]; simp only [List.length_cons, List.length_append, List.length_nil]; omega
      rw [if_neg c11]
      by_cases c12 : (k == 12) = true
      · rw [if_pos c12]; simp only [List.length_cons, List.length_append, List.length_nil]; omega
      rw [if_neg c12]
      simp only [List.length_cons, List.length_append, List.length_nil]; omega
    omega
theorem within_len : ∀ ks : List Tm, (withinN ks 0).length + (withinN ks 1).length + (withinN ks 2).length ≤ 8 * sizeL ks
  | [] => by simp [withinN]
  | t :: l => by
    have h := within_len l
    have h1 := toks_len t
    simp only [withinN, sizeL]
    have : (if t.kind == 1 || t.kind == 2 then t.toks else ⟨4, [40], 0⟩ :: (t.toks ++ [⟨4, [41], 0⟩])).length ≤ t.toks.length + 2 := by
      split <;> simp
    omega
end
theorem Tm.within_le (t : Tm) : t.within.length ≤ 8 * t.size := by
  have := toks_len t
  unfold Tm.within; split
  · omega
  · simp; omega
/-- Texts, a blank between. -/
def showL (ks : List Tk) : Bs := Lib.join (ks.map (·.text)) [32]
def Tm.show' (t : Tm) : Bs := if t.right then showL t.toks else [63]
end Go.Proofs.YtindlieilabgfaaGreatDoor
/- A program as a text; how long texts become. -/
set_option linter.unusedVariables false
set_option linter.unusedSectionVars false
set_option linter.unusedSimpArgs false
set_option autoImplicit false
set_option relaxedAutoImplicit false
namespace Go.Proofs.YtindlieilabgfaaGreatDoor
open Go X

theorem X.Hc.sub {H : GH} {g : Nat} {l : List Value} {e : TypeId} {z : Nat × Nat} (o n : Nat) (h : H g = some (.cells l.toArray e z)) : ∀ i u, ((l.drop o).take n)[i]? = some u → Hc H g (o + i) u := fun i u hu => ⟨_, _, _, h, by
  rw [List.getElem?_take] at hu
  split at hu
  · simpa using hu
  · cases hu⟩
theorem nameB_len {s : Bs} (h : nameB s = true) : s.length ≤ 16 := by
  unfold nameB at h
  simp only [Bool.and_eq_true, decide_eq_true_eq] at h
  have := h.2.2
  omega
theorem wordB_len {s : Bs} (h : wordB s = true) : s.length ≤ 16 := by
  unfold wordB at h
  simp only [Bool.and_eq_true] at h
  exact nameB_len h.1
theorem node_name {k : Int} {s : Bs} {n : Int} {l : Nat} (h : nodeB k s n l = true) : s.length ≤ 16 := by
  unfold nodeB at h
  rw [Bool.and_eq_true] at h
  have h := h.2
  split at h
  · rw [Bool.and_eq_true] at h; exact nameB_len h.1
  · split at h
    · have : ∀ x ∈ opsL, x.length ≤ 16 := by decide
      exact this s (by simpa using h)
    · have := of_decide_eq_true h; subst this; simp
theorem lay_texts {kd : Int} {s : Bs} {n : Int} {w : Nat → List Tk} (hs : s.length ≤ 21) (hi : (Lib.itoa n).length ≤ 21) (h0 : ∀ k ∈ w 0, k.text.length ≤ 21) (h1 : ∀ k ∈ w 1, k.text.length ≤ 21) (h2 : ∀ k ∈ w 2, k.text.length ≤ 21) :
    ∀ k ∈ layT' kd s n w, k.text.length ≤ 21 := by
  unfold layT'
  by_cases c1 : (kd == 1) = true
  · rw [if_pos c1]; simp only [List.forall_mem_cons, List.forall_mem_append, List.forall_mem_nil]; (try simp [hs, hi]); (try (repeat' first | exact h0 | exact h1 | exact h2 | constructor))
  rw [if_neg c1]
  by_cases c2 : (kd == 2) = true
  · rw [if_pos c2]; simp only [List.forall_mem_cons, List.forall_mem_append, List.forall_mem_nil]; (try simp [hs, hi]); (try (repeat' first | exact h0 | exact h1 | exact h2 | constructor))
  rw [if_neg c2]
  by_cases c3 : (kd == 3) = true
  · rw [if_pos c3]; simp only [List.forall_mem_cons, List.forall_mem_append, List.forall_mem_nil]; (try simp [hs, hi]); (try (repeat' first | exact h0 | exact h1 | exact h2 | constructor))
  rw [if_neg c3]
  by_cases c4 : (kd == 4) = true
  · rw [if_pos c4]; simp only [List.forall_mem_cons, List.forall_mem_append, List.forall_mem_nil]; (try simp [hs, hi]); (try (repeat' first | exact h0 | exact h1 | exact h2 | constructor))
  rw [if_neg c4]
  by_cases c5 : (kd == 5) = true
  · rw [if_pos c5]; simp only [List.forall_mem_cons, List.forall_mem_append, List.forall_mem_nil]; (try simp [hs, hi]); (try (repeat' first | exact h0 | exact h1 | exact h2 | constructor))
  rw [if_neg c5]
  by_cases c6 : (kd == 6) = true
  · rw [if_pos c6]; simp only [List.forall_mem_cons, List.forall_mem_append, List.forall_mem_nil]; (try simp [hs, hi]); (try (repeat' first | exact h0 | exact h1 | exact h2 | constructor))
  rw [if_neg c6]
  by_cases c7 : (kd == 7) = true
  · rw [if_pos c7]; simp only [List.forall_mem_cons, List.forall_mem_append, List.forall_mem_nil]; (try simp [hs, hi]); (try (repeat' first | exact h0 | exact h1 | exact h2 | constructor))
  rw [if_neg c7]
  by_cases c8 : (kd == 8) = true
  · rw [if_pos c8]; simp only [List.forall_mem_cons, List.forall_mem_append, List.forall_mem_nil]; (try simp [hs, hi]); (try (repeat' first | exact h0 | exact h1 | exact h2 | constructor))
  rw [if_neg c8]
  by_cases c9 : (kd == 9) = true
  · rw [if_pos c9]; simp only [List.forall_mem_cons, List.forall_mem_append, List.forall_mem_nil]; (try simp [hs, hi]); (try (repeat' first | exact h0 | exact h1 | exact h2 | constructor))
  rw [if_neg c9]
  by_cases c10 : (kd == 10) = true
  · rw [if_pos c10]; simp only [List.forall_mem_cons, List.forall_mem_append, List.forall_mem_nil]; (try simp [hs, hi]); (try (repeat' first | exact h0 | exact h1 | exact h2 | constructor))
  rw [if_neg c10]
  by_cases c11 : (kd == 11) = true
  · rw [if_pos c11]; simp only [List.forall_mem_cons, List.forall_mem_append, List.forall_mem_nil]; (try simp [hs, hi]); (try (repeat' first | exact h0 | exact h1 | exact h2 | constructor))
  rw [if_neg c11]
  by_cases c12 : (kd == 12) = true
  · rw [if_pos c12]; simp only [List.forall_mem_cons, List.forall_mem_append, List.forall_mem_nil]; (try simp [hs, hi]); (try (repeat' first | exact h0 | exact h1 | exact h2 | constructor))
  rw [if_neg c12]
  simp only [List.forall_mem_cons, List.forall_mem_append]; exact ⟨h0, by simp, h1⟩
mutual
theorem toks_texts : ∀ t : Tm, t.wrong = false → ∀ k ∈ t.toks, k.text.length ≤ 21
  | .mk kd s n ks, h => by
    rw [toks_mk]
    obtain ⟨hn, hk⟩ := right_of h
    have hl := node_name hn
    obtain ⟨_, _, _, h0, h1⟩ := kids_of_node hn
    have hw := within_texts ks hk
    exact lay_texts (by omega) (Lib.itoa_length_le n (by omega) (by omega)) (hw 0) (hw 1) (hw 2)
theorem within_texts : ∀ ks : List Tm, (∀ x ∈ ks, x.wrong = false) → ∀ i, ∀ k ∈ withinN ks i, k.text.length ≤ 21
  | [], _, i, k, hk => by simp [withinN] at hk
  | t :: l, h, 0, k, hk => by
    have ht := toks_texts t (h t (List.mem_cons_self ..))
    simp only [withinN] at hk
    split at hk
    · exact ht k hk
    · simp only [List.mem_cons, List.mem_append, List.not_mem_nil, or_false] at hk
      rcases hk with rfl | hk | rfl
      · simp
      · exact ht k hk
      · simp
  | t :: l, h, i + 1, k, hk => by
    simp only [withinN] at hk
    exact within_texts l (fun x hx => h x (List.mem_cons_of_mem _ hx)) i k hk
end
theorem lens_le {xs : List Bs} (h : ∀ x ∈ xs, x.length ≤ 21) : Lib.lens xs ≤ 21 * xs.length := by
  induction xs with
  | nil => simp [Lib.lens]
  | cons x l ih =>
    have h1 := h x (List.mem_cons_self ..)
    have h2 := ih fun y hy => h y (List.mem_cons_of_mem _ hy)
    simp only [Lib.lens, List.map_cons, List.sum_cons, List.length_cons] at *
    omega
theorem show_len {ks : List Tk} (h : ∀ k ∈ ks, k.text.length ≤ 21) : (showL ks).length ≤ 22 * ks.length := by
  unfold showL
  cases ks with
  | nil => simp [Lib.join_nil]
  | cons k l =>
    have := lens_le (xs := (k :: l).map (·.text)) (fun x hx => by
      obtain ⟨y, hy, rfl⟩ := List.mem_map.1 hx; exact h y hy)
    rw [List.map_cons] at this ⊢
    rw [Lib.join_length]
    simp only [List.length_cons, List.length_map, List.length_nil] at this ⊢
    omega
theorem show_le {t : Tm} (h : t.right = true) : (showL t.toks).length ≤ 2000000 := by
  unfold Tm.right at h
  simp only [Bool.and_eq_true, decide_eq_true_eq, Bool.not_eq_true'] at h
  have h1 := show_len (toks_texts t h.2.2)
  have h2 := toks_len t
  omega
theorem show'_le (t : Tm) : t.show'.length ≤ 2000000 := by
  unfold Tm.show'
  split
  · exact show_le (by assumption)
  · simp
/-- An input's line, a cell's, a definition's. -/
def Dc.inL (d : Dc) : Bs := ((([105, 110, 112, 117, 116, 32] ++ d.name) ++ [32, 58, 32]) ++ d.label) ++ [32, 46, 10]
def Dc.cellL (d : Dc) : Bs := ((((([99, 101, 108, 108, 32] ++ d.name) ++ [32, 58, 32]) ++ d.label) ++ [32, 61, 32]) ++ Lib.itoa d.n) ++ [32, 46, 10]
def Df.line (d : Df) : Bs := ((([100, 101, 102, 32] ++ d.name) ++ [32, 61, 32]) ++ d.t.show') ++ [32, 46, 10]
def Pg.text (p : Pg) : Bs := (((p.inputs.flatMap Dc.inL) ++ p.cells.flatMap Dc.cellL) ++ p.defs.flatMap Df.line) ++ (p.body.show' ++ [10])
def Pg.print (p : Pg) : Bs := if p.fits then if decide (65536 < (p.text.length : Int)) then [] else p.text else []
def Pg.right (p : Pg) : Bool := !decide (p.print = [])
theorem fits_of {p : Pg} (h : p.fits = true) : p.inputs.length ≤ 32 ∧ p.cells.length ≤ 32 ∧ p.defs.length ≤ 32 ∧ (∀ d ∈ p.inputs, d.wrong = false ∧ d.n = 0) ∧ (∀ d ∈ p.cells, d.wrong = false) ∧ (∀ d ∈ p.defs, d.wrong = false) ∧ p.body.right = true := by
  unfold Pg.fits Pg.bad at h
  simp only [Bool.and_eq_true, Bool.not_eq_true', Bool.or_eq_false_iff, List.any_eq_false, decide_eq_true_eq] at h
  obtain ⟨⟨h1, h2, h3, h4⟩, h5, h6⟩ := h
  unfold mx3 at h5
  have : (p.inputs.length : Int) ≤ 32 ∧ (p.cells.length : Int) ≤ 32 ∧ (p.defs.length : Int) ≤ 32 := by
    split at h5
    · split at h5 <;> (rename_i a b; refine ⟨?_, ?_, ?_⟩ <;> first | omega | (rw [if_pos (by assumption)] at a; omega) | (rw [if_neg (by assumption)] at a; omega))
    · split at h5 <;> (rename_i a b; refine ⟨?_, ?_, ?_⟩ <;> first | omega | (rw [if_pos (by assumption)] at a; omega) | (rw [if_neg (by assumption)] at a; omega))
  refine ⟨by omega, by omega, by omega, fun d hd => ⟨by simpa using h1 d hd, by simpa using h2 d hd⟩, fun d hd => by simpa using h3 d hd, fun d hd => by simpa using h4 d hd, h6⟩
theorem dc_len {d : Dc} (h : d.wrong = false) : d.name.length ≤ 16 ∧ d.label.length ≤ 16 ∧ 0 ≤ d.n ∧ d.n < 2147483648 := by
  unfold Dc.wrong at h
  simp only [Bool.or_eq_false_iff, Bool.not_eq_false', decide_eq_false_iff_not] at h
  exact ⟨wordB_len h.1, wordB_len h.2.1, by omega, by omega⟩
theorem df_len {d : Df} (h : d.wrong = false) : d.name.length ≤ 16 ∧ d.t.right = true := by
  unfold Df.wrong at h
  simp only [Bool.or_eq_false_iff, Bool.not_eq_false'] at h
  exact ⟨wordB_len h.1, h.2.1⟩
theorem flat_take {α : Type} {f : α → Bs} {xs : List α} {k : Nat} (h : k < xs.length) : (xs.take (k + 1)).flatMap f = (xs.take k).flatMap f ++ f xs[k] := by
  rw [List.take_succ_eq_append_getElem h, List.flatMap_append]; simp
theorem flat_len {α : Type} {f : α → Bs} {B : Nat} : ∀ {xs : List α}, (∀ x ∈ xs, (f x).length ≤ B) → (xs.flatMap f).length ≤ B * xs.length
  | [], _ => by simp
  | x :: l, h => by
    have h1 := h x (List.mem_cons_self ..)
    have h2 := flat_len (xs := l) fun y hy => h y (List.mem_cons_of_mem _ hy)
    rw [List.flatMap_cons, List.length_append, List.length_cons, Nat.mul_succ]; omega
theorem inL_len {d : Dc} (h : d.wrong = false) : d.inL.length ≤ 2000100 := by
  obtain ⟨h1, h2, h3, h4⟩ := dc_len h
  unfold Dc.inL; simp only [List.length_append, List.length_cons, List.length_nil]; omega
theorem cellL_len {d : Dc} (h : d.wrong = false) : d.cellL.length ≤ 2000100 := by
  obtain ⟨h1, h2, h3, h4⟩ := dc_len h
  have := Lib.itoa_length_le d.n (by omega) (by omega)
  unfold Dc.cellL; simp only [List.length_append, List.length_cons, List.length_nil]; omega
theorem line_len {d : Df} (h : d.wrong = false) : d.line.length ≤ 2000100 := by
  obtain ⟨h1, h2⟩ := df_len h
  have := show'_le d.t
  unfold Df.line; simp only [List.length_append, List.length_cons, List.length_nil]; omega
theorem flat_take_len {α : Type} {f : α → Bs} {xs : List α} (h : ∀ x ∈ xs, (f x).length ≤ 2000100) (hl : xs.length ≤ 32) (k : Nat) : ((xs.take k).flatMap f).length ≤ 64003200 := by
  have h1 := flat_len (f := f) (xs := xs.take k) fun x hx => h x (List.mem_of_mem_take hx)
  have h2 : (xs.take k).length ≤ 32 := by rw [List.length_take]; omega
  have := Nat.mul_le_mul_left 2000100 h2
  omega
end Go.Proofs.YtindlieilabgfaaGreatDoor
/- What names are free in a term; renaming. -/
set_option linter.unusedVariables false
set_option linter.unusedSectionVars false
set_option linter.unusedSimpArgs false
set_option autoImplicit false
set_option relaxedAutoImplicit false
namespace Go.Proofs.YtindlieilabgfaaGreatDoor
open Go X

/-- One more, one less. -/
def inc1 (b : Bs → Nat) (s : Bs) : Bs → Nat := fun x => if x = s then b x + 1 else b x
mutual
/-- Is x free in a term where b tells how often a name is bound around it? -/
def Tm.fr : Tm → (Bs → Nat) → Bs → Bool
  | .mk k s n ks, b, x => ((k == 2 && decide (b s = 0)) && decide (x = s)) || frL (bnd k) s ks b x
def frL (bd : Bool) (s : Bs) : List Tm → (Bs → Nat) → Bs → Bool
  | [], _, _ => false
  | t :: l, b, x => t.fr (if bd && l.isEmpty then inc1 b s else b) x || frL bd s l b x
end
theorem frL_snoc (bd : Bool) (s : Bs) (b : Bs → Nat) (x : Bs) (t : Tm) : ∀ l : List Tm, frL bd s (l ++ [t]) b x = ((l.any fun u => u.fr b x) || t.fr (if bd then inc1 b s else b) x)
  | [] => by simp [frL]
  | u :: l => by
    simp only [List.cons_append, frL, frL_snoc bd s b x t l, List.any_cons, Bool.or_assoc]
    have : (l ++ [t]).isEmpty = false := by cases l <;> rfl
    rw [this, Bool.and_false]; rfl
theorem frL_no (s : Bs) (b : Bs → Nat) (x : Bs) : ∀ l : List Tm, frL false s l b x = l.any fun u => u.fr b x
  | [] => rfl
  | u :: l => by simp only [frL, Bool.false_and, frL_no s b x l, List.any_cons]; rfl
/-- The part of a list's free names that the first k kids have. -/
def frT (bd : Bool) (s : Bs) (ks : List Tm) (k : Nat) (b : Bs → Nat) (x : Bs) : Bool :=
  (List.range k).any fun j => match ks[j]? with
    | some t => t.fr (if bd && j + 1 == ks.length then inc1 b s else b) x
    | none => false
theorem frT_zero (bd : Bool) (s : Bs) (ks : List Tm) (b : Bs → Nat) (x : Bs) : frT bd s ks 0 b x = false := rfl
theorem frT_succ (bd : Bool) (s : Bs) (ks : List Tm) (b : Bs → Nat) (x : Bs) {k : Nat} (h : k < ks.length) : frT bd s ks (k + 1) b x = (frT bd s ks k b x || ks[k].fr (if bd && k + 1 == ks.length then inc1 b s else b) x) := by
  unfold frT
  rw [List.range_succ, List.any_append]
  simp [List.getElem?_eq_getElem h]
theorem frT_all (bd : Bool) (s : Bs) (b : Bs → Nat) (x : Bs) (ks : List Tm) : frT bd s ks ks.length b x = frL bd s ks b x := by
  have key : ∀ (l : List Tm) (p : List Tm), ks = p ++ l → (frT bd s ks p.length b x || frL bd s l b x) = frT bd s ks ks.length b x := by
    intro l
    induction l with
    | nil => intro p e; simp [e, frL]
    | cons t l ih =>
      intro p e
      have h := ih (p ++ [t]) (by simp [e])
      rw [← h]
      have hlt : p.length < ks.length := by simp [e]
      have hk : ks[p.length] = t := by simp [e]
      rw [show (p ++ [t]).length = p.length + 1 by simp, frT_succ _ _ _ _ _ hlt, hk, Bool.or_assoc]
      congr 1
      simp only [frL]
      have : (p.length + 1 == ks.length) = l.isEmpty := by
        rw [e]; cases l <;> simp
      rw [this]
  have := key ks [] rfl
  rw [List.length_nil, frT_zero, Bool.false_or] at this
  exact this.symm
/-- A sorted list without doubles has what p tells. -/
def IsSet (ss : List Bs) (p : Bs → Bool) : Prop := ss.Nodup ∧ (∀ x, x ∈ ss ↔ p x = true) ∧ ss.Pairwise (fun x y => x ≤ y)
theorem bs_antisymm {x y : Bs} (h : x ≤ y) (k : y ≤ x) : x = y := List.le_antisymm h k
theorem isSet_uniq {ss ts : List Bs} {p : Bs → Bool} (h : IsSet ss p) (k : IsSet ts p) : ss = ts := by
  have hp : ss.Perm ts := (List.perm_ext_iff_of_nodup h.1 k.1).2 fun x => (h.2.1 x).trans (k.2.1 x).symm
  exact hp.eq_of_pairwise (fun a b _ _ h k => bs_antisymm h k) h.2.2 k.2.2
mutual
/-- All names of a term. -/
def Tm.names : Tm → List Bs
  | .mk _ s _ ks => s :: namesL ks
def namesL : List Tm → List Bs
  | [] => []
  | t :: l => t.names ++ namesL l
end
mutual
theorem names_len : ∀ t : Tm, t.names.length = t.size
  | .mk _ s _ ks => by simp only [Tm.names, Tm.size, List.length_cons, namesL_len ks]; omega
theorem namesL_len : ∀ l : List Tm, (namesL l).length = sizeL l
  | [] => rfl
  | t :: l => by simp only [namesL, sizeL, List.length_append, names_len t, namesL_len l]
end
mutual
theorem fr_names : ∀ (t : Tm) (b : Bs → Nat) (x : Bs), t.fr b x = true → x ∈ t.names
  | .mk k s n ks, b, x, h => by
    simp only [Tm.fr, Bool.or_eq_true, Bool.and_eq_true, decide_eq_true_eq] at h
    simp only [Tm.names, List.mem_cons]
    rcases h with h | h
    · exact .inl h.2
    · exact .inr (frL_names (bnd k) s ks b x h)
theorem frL_names (bd : Bool) (s : Bs) : ∀ (l : List Tm) (b : Bs → Nat) (x : Bs), frL bd s l b x = true → x ∈ namesL l
  | [], b, x, h => by simp [frL] at h
  | t :: l, b, x, h => by
    simp only [frL, Bool.or_eq_true] at h
    simp only [namesL, List.mem_append]
    rcases h with h | h
    · exact .inl (fr_names t _ x h)
    · exact .inr (frL_names bd s l b x h)
end
mutual
theorem names_long : ∀ (t : Tm) (x : Bs), x ∈ t.names → x.length ≤ t.long
  | .mk k s n ks, x, h => by
    simp only [Tm.names, List.mem_cons] at h
    simp only [Tm.long]
    rcases h with rfl | h
    · omega
    · have := namesL_long ks x h; omega
theorem namesL_long : ∀ (l : List Tm) (x : Bs), x ∈ namesL l → x.length ≤ longL l
  | [], x, h => by simp [namesL] at h
  | t :: l, x, h => by
    simp only [namesL, List.mem_append] at h
    simp only [longL]
    rcases h with h | h
    · have := names_long t x h; omega
    · have := namesL_long l x h; omega
end
/-- No name is bound. -/
def none0 : Bs → Nat := fun _ => 0
end Go.Proofs.YtindlieilabgfaaGreatDoor
/- Renaming, plainly. -/
set_option linter.unusedVariables false
set_option linter.unusedSectionVars false
set_option linter.unusedSimpArgs false
set_option autoImplicit false
set_option relaxedAutoImplicit false
namespace Go.Proofs.YtindlieilabgfaaGreatDoor
open Go X

/-- No panic. -/
def X.NP (Q : Exit → Act → World → Prop) : Exit → Act → World → Prop
  | .panic _, _, _ => False
  | e, a, w => Q e a w
theorem X.npN {Q : Exit → Act → World → Prop} {a : Act} {w : World} (h : Q .normal a w) : NP Q .normal a w := h
theorem X.np_mono {Q : Exit → Act → World → Prop} : ∀ e a w, NP Q e a w → Q e a w := by
  intro e a w h
  cases e <;> first | exact h | exact h.elim
section
variable {P : Program} {Q : Exit → Act → World → Prop} {E w : World} {H : GH} {N : Nat} {D : List Deferred} {F : List (Nat × Value)} {L : List It} {a : Act}
theorem X.rgxF {id : Nat} {l : List Oper} (ks : List Nat) (L1 : List It) (rd : List Nat) (n : Nat) (hm : P.follows .mixedOrders = true) (h : S E H N D F L a w)
    (k : ∀ a w, S E H N D F L a w → wpR P l.toArray (NP Q) (Sees H L1) rd n (Array.replicate n false) a w) (hn : l.length = n := by rfl) (hk : ks.map (fun k => L[k]?) = L1.map some := by rfl) : (Code.region id l.toArray true).wp P Q a w :=
  Code.wp_mono np_mono (rgx ks L1 rd n hm h k hn hk)
theorem X.rgdF {id : Nat} {l : List Oper} (ks : List Nat) (L1 : List It) (eff rd : List Nat) (nS : Nat) (hm : P.follows .mixedOrders = true) (hD : drawOk l.toArray eff rd nS = true) (h : S E H N D F L a w)
    (k : ∀ a w, S E H N D F L a w → (gd P l.toArray (NP Q) (Sees H L1) eff rd nS).G l a w) (hk : ks.map (fun k => L[k]?) = L1.map some := by rfl) : (Code.region id l.toArray true).wp P Q a w :=
  Code.wp_mono np_mono (rgd ks L1 eff rd nS hm hD h k hk (fun _ _ _ _ _ h => False.elim h))
end
/-- The number behind one, as Go's ints go. -/
def nx (n : Int) : Int := IntKind.i64.wrap (n + 1)
/-- Is it one of Go's ints? -/
def In64 (n : Int) : Prop := -9223372036854775808 ≤ n ∧ n ≤ 9223372036854775807
theorem nx_in (n : Int) : In64 (nx n) := by
  unfold In64 nx
  simp [IntKind.wrap, IntKind.bits, IntKind.signed]
  omega
def updS (σ : Bs → Option Bs) (s s' : Bs) : Bs → Option Bs := fun x => if x = s then some s' else σ x
/-- A renamed term's name. -/
def renN (k : Int) (s : Bs) (σ : Bs → Option Bs) (n : Int) : Bs := if bnd k then Lib.itoa n else if k == 2 then (σ s).getD s else s
mutual
def Tm.ren : Tm → (Bs → Option Bs) → Int → Tm × Int
  | .mk k s m ks, σ, n => (.mk k (renN k s σ n) m (renL (bnd k) s (renN k s σ n) ks σ (if bnd k then nx n else n)).1, (renL (bnd k) s (renN k s σ n) ks σ (if bnd k then nx n else n)).2)
def renL (bd : Bool) (s s' : Bs) : List Tm → (Bs → Option Bs) → Int → List Tm × Int
  | [], _, n => ([], n)
  | t :: l, σ, n => ((t.ren (if bd && l.isEmpty then updS σ s s' else σ) n).1 :: (renL bd s s' l σ (t.ren (if bd && l.isEmpty then updS σ s s' else σ) n).2).1, (renL bd s s' l σ (t.ren (if bd && l.isEmpty then updS σ s s' else σ) n).2).2)
end
/-- The first k kids, renamed. -/
def renT (bd : Bool) (s s' : Bs) (ks : List Tm) (σ : Bs → Option Bs) (n : Int) : Nat → List Tm × Int
  | 0 => ([], n)
  | k + 1 => match ks[k]? with
    | some t => ((renT bd s s' ks σ n k).1 ++ [(t.ren (if bd && k + 1 == ks.length then updS σ s s' else σ) (renT bd s s' ks σ n k).2).1], (t.ren (if bd && k + 1 == ks.length then updS σ s s' else σ) (renT bd s s' ks σ n k).2).2)
    | none => renT bd s s' ks σ n k
theorem renT_succ {bd : Bool} {s s' : Bs} {ks : List Tm} {σ : Bs → Option Bs} {n : Int} {k : Nat} (h : k < ks.length) :
    renT bd s s' ks σ n (k + 1) = ((renT bd s s' ks σ n k).1 ++ [(ks[k].ren (if bd && k + 1 == ks.length then updS σ s s' else σ) (renT bd s s' ks σ n k).2).1], (ks[k].ren (if bd && k + 1 == ks.length then updS σ s s' else σ) (renT bd s s' ks σ n k).2).2) := by
  simp only [renT, List.getElem?_eq_getElem h]
theorem renT_all (bd : Bool) (s s' : Bs) (ks : List Tm) (σ : Bs → Option Bs) (n : Int) : renT bd s s' ks σ n ks.length = renL bd s s' ks σ n := by
  have key : ∀ (l p : List Tm), ks = p ++ l → renT bd s s' ks σ n ks.length = ((renT bd s s' ks σ n p.length).1 ++ (renL bd s s' l σ (renT bd s s' ks σ n p.length).2).1, (renL bd s s' l σ (renT bd s s' ks σ n p.length).2).2) := by
    intro l
    induction l with
    | nil => intro p e; simp [e, renL]
    | cons t l ih =>
      intro p e
      have hlt : p.length < ks.length := by simp [e]
      have hk : ks[p.length] = t := by simp [e]
      have hl : (p.length + 1 == ks.length) = l.isEmpty := by rw [e]; cases l <;> simp
      rw [ih (p ++ [t]) (by simp [e]), show (p ++ [t]).length = p.length + 1 by simp, renT_succ hlt, hk, hl]
      simp [renL]
  have := key ks [] rfl
  rw [this]; simp [renT]
theorem rt_of_vt {H : GH} {cs : List Value} {t : Tm} (h : VT H (.agg cs.toArray) t) : RT H cs t := by
  obtain ⟨k, s, n, ks⟩ := t
  obtain ⟨A, c, e, h⟩ := h
  rw [rt_mk]
  refine ⟨.slice A ks.length c, ?_, h⟩
  have := congrArg (fun v => match v with | .agg a => a.toList | _ => []) e
  have t2 : cs = [Value.int .i64 k, str s, .int .i64 n, .slice A ks.length c] := by
    have t3 := this
    simp at t3
    exact t3
  exact t2
mutual
theorem ren_size : ∀ (t : Tm) (σ : Bs → Option Bs) (n : Int), (t.ren σ n).1.size = t.size
  | .mk k s m ks, σ, n => by simp only [Tm.ren, Tm.size, renL_size]
theorem renL_size (bd : Bool) (s s' : Bs) : ∀ (l : List Tm) (σ : Bs → Option Bs) (n : Int), sizeL (renL bd s s' l σ n).1 = sizeL l
  | [], _, _ => rfl
  | t :: l, σ, n => by simp only [renL, sizeL, ren_size t, renL_size bd s s' l]
end
theorem renL_length (bd : Bool) (s s' : Bs) : ∀ (l : List Tm) (σ : Bs → Option Bs) (n : Int), (renL bd s s' l σ n).1.length = l.length
  | [], _, _ => rfl
  | t :: l, σ, n => by simp only [renL, List.length_cons, renL_length bd s s' l]
theorem renT_length {bd : Bool} {s s' : Bs} {ks : List Tm} {σ : Bs → Option Bs} {n : Int} : ∀ {k : Nat}, k ≤ ks.length → (renT bd s s' ks σ n k).1.length = k
  | 0, _ => rfl
  | k + 1, h => by
    have ih := renT_length (bd := bd) (s := s) (s' := s') (ks := ks) (σ := σ) (n := n) (k := k) (by omega)
    rw [renT_succ (show k < ks.length by omega), List.length_append, ih]; rfl
mutual
theorem ren_in : ∀ (t : Tm) (σ : Bs → Option Bs) (n : Int), In64 n → In64 (t.ren σ n).2
  | .mk k s m ks, σ, n, h => by
    simp only [Tm.ren]
    exact renL_in _ _ _ ks σ _ (by split <;> first | exact nx_in n | exact h)
theorem renL_in (bd : Bool) (s s' : Bs) : ∀ (l : List Tm) (σ : Bs → Option Bs) (n : Int), In64 n → In64 (renL bd s s' l σ n).2
  | [], _, n, h => h
  | t :: l, σ, n, h => by simp only [renL]; exact renL_in bd s s' l σ _ (ren_in t _ n h)
end
theorem renT_in {bd : Bool} {s s' : Bs} {ks : List Tm} {σ : Bs → Option Bs} {n : Int} (h : In64 n) : ∀ k, In64 (renT bd s s' ks σ n k).2
  | 0 => h
  | k + 1 => by
    simp only [renT]
    split
    · exact ren_in _ _ _ (renT_in h k)
    · exact renT_in h k
end Go.Proofs.YtindlieilabgfaaGreatDoor
/- What is lent to be read, and taken back; a program, resolved. -/
set_option linter.unusedVariables false
set_option linter.unusedSectionVars false
set_option linter.unusedSimpArgs false
set_option linter.unusedSimpArgs false
set_option autoImplicit false
set_option relaxedAutoImplicit false
namespace Go.Proofs.YtindlieilabgfaaGreatDoor
open Go X

section
variable {E w : World} {H : GH} {N : Nat} {D : List Deferred} {F : List (Nat × Value)} {L : List It} {a : Act}
theorem X.St.thaw {H3 : GH} {g : Nat} {o : Obj} {w' : World} {L' : List It} (h : St E H3 L' w') (hg : H3 g = some o) (h0 : H g = none) (hl : LE H H3) : St E H (.obj g o :: L') w' := by
  refine ⟨h.os, h.tape, h.output, fun b x e => h.fro b x (hl b x e), fun i hi => ?_, fun i hi x hx => ?_, List.pairwise_cons.2 ⟨fun i hi x hx hxi => ?_, h.apart⟩⟩
  · cases hi with
    | head => exact h.fro g o hg
    | tail _ hi => exact h.holds i hi
  · cases hi with
    | head => simp [It.own] at hx; subst hx; exact h0
    | tail _ hi =>
      cases hH : H x with
      | none => rfl
      | some y => exact absurd ((hl x y hH).symm.trans (h.off i hi x hx)) (by simp)
  · simp [It.own] at hx; subst hx
    have := h.off i hi x hxi
    rw [hg] at this; cases this
/-- What may be done with what is taken back. -/
def X.Back (E : World) (H H' : GH) (i : It) : Prop := ∀ (N : Nat) (D : List Deferred) (F : List (Nat × Value)) (L' : List It) (a : Act) (w : World) (H3 : GH), LE H' H3 → S E H3 N D F L' a w → S E H N D F (i :: L') a w
theorem X.Back.get {H' H3 : GH} {i : It} (b : Back E H H' i) (hl : LE H' H3) (h : S E H3 N D F L a w) : S E H N D F (i :: L) a w := b _ _ _ _ _ _ _ hl h
/-- An own block is lent: frozen, till it is taken back. -/
theorem X.S.lendO (k0 : Nat) {g : Nat} {o : Obj} {L' : List It} (h : S E H N D F L a w) (hk : L[k0]? = some (.obj g o) := by rfl) (hL : L.eraseIdx k0 = L' := by rfl) :
    ∃ H', LE H H' ∧ S E H' N D F L' a w ∧ H' g = some o ∧ Back E H H' (.obj g o) := by
  have h0 : H g = none := h.st.off _ (List.mem_of_getElem? hk) g (by simp [It.own])
  obtain ⟨H', hle, h', hg⟩ := h.frz k0 hk hL
  exact ⟨H', hle, h', hg, fun _ _ _ _ _ _ H3 hl hs => ⟨hs.ag, hs.st.thaw (hl g o hg) h0 (hle.trans hl)⟩⟩
/-- A row is lent. -/
theorem X.S.lendR {α : Type} {R : GH → List Value → α → Prop} {sz : Nat} {xs : List Value} {ys : List α} (k0 : Nat) {v : Value} {e n : Nat} {L' : List It} (h : S E H N D F L a w) (hr : RowR R sz H xs ys) (hn : n = ys.length) (hR : ∀ H', LE H H' → ∀ cs y, y ∈ ys → R H cs y → R H' cs y)
    (hk : L[k0]? = some (.row v e sz n xs) := by rfl) (hL : L.eraseIdx k0 = L' := by rfl) :
    ∃ H', LE H H' ∧ S E H' N D F L' a w ∧ RS R sz H' v ys ∧ Back E H H' (.row v e sz n xs) := by
  have hp := h.pull k0 hk hL
  have hown : w.ownsRow 0 e sz v n xs := hp.st.holds _ (List.mem_cons_self ..)
  rcases hown.2 with ⟨rfl, h0⟩ | ⟨g, cap, cur, rfl, h1, hg, h2, h3, h4, h5⟩
  · have hys : ys = [] := List.eq_nil_of_length_eq_zero (by omega)
    have hxs : xs = [] := List.eq_nil_of_length_eq_zero (by rw [hown.1, h0, Nat.zero_mul])
    subst hys; subst hxs; subst h0
    exact ⟨H, LE.rfl, hp.del 0, RS.nil R sz H, fun _ _ _ _ _ _ H3 hl hs => (hs.less hl).row⟩
  · have hst : St E H (.obj g (.cells cur e (0, 0)) :: L') w :=
      hp.st.set (k := 0) (i := .row (.slice (some ⟨g, 0, none⟩) n cap) e sz n xs) (j := .obj g (.cells cur e (0, 0))) rfl hg (fun x hx => .inl (by simpa [It.own, Value.ownBlock] using hx)) rfl rfl rfl (fun _ _ _ => rfl)
    have h0 : H g = none := hst.off _ (List.mem_cons_self ..) g (by simp [It.own])
    have hs : S E H N D F (.obj g (.cells cur e (0, 0)) :: L') a w := ⟨h.ag, hst⟩
    obtain ⟨H', hle, h', hg'⟩ := hs.frz 0
    obtain ⟨css, l1, e1, p1⟩ := hr
    refine ⟨H', hle, h', ⟨some ⟨g, 0, none⟩, cap, by rw [hn], by omega, fun j y hy => ?_⟩, fun _ _ _ L2 _ w2 H3 hl hs2 => ⟨hs2.ag, ?_⟩⟩
    · have hj : j < css.length := by have := (List.getElem?_eq_some_iff.1 hy).1; omega
      obtain ⟨q1, q2⟩ := p1 j css[j] y (List.getElem?_eq_getElem hj) hy
      refine ⟨g, 0, css[j], rfl, q1, hR _ hle _ y (List.mem_of_getElem? hy) q2, fun i u hu => ⟨cur, e, (0, 0), hg', ?_⟩⟩
      have hi : i < sz := by have := (List.getElem?_eq_some_iff.1 hu).1; omega
      have hall : ∀ cs ∈ css, cs.length = sz := fun cs hcs => by
        obtain ⟨q, hq, rfl⟩ := List.getElem_of_mem hcs
        exact (p1 q css[q] (ys[q]'(by omega)) (List.getElem?_eq_getElem hq) (List.getElem?_eq_getElem (by omega))).1
      have hf := flatten_at hall (List.getElem?_eq_getElem hj) hi
      rw [hu, ← e1, ← h5, List.getElem?_take] at hf
      split at hf
      · simpa using hf
      · cases hf
    · have ht := hs2.st.thaw (hl g _ hg') h0 (hle.trans hl)
      refine ht.set (k := 0) (i := .obj g (.cells cur e (0, 0))) (j := .row (.slice (some ⟨g, 0, none⟩) n cap) e sz n xs) rfl ?_ (fun x hx => .inl (by simpa [It.own, Value.ownBlock] using hx)) rfl rfl rfl (fun _ _ _ => rfl)
      exact ⟨hown.1, .inr ⟨g, cap, cur, rfl, Nat.zero_le _, ht.holds _ (List.mem_cons_self ..), h2, h3, h4, h5⟩⟩
end
section
variable {P : Program} {ops : Array Oper} {Q : Exit → Act → World → Prop} {γ : Gd P ops Q} {rest : List Oper} {o : Oper} {E w : World} {H : GH} {N : Nat} {D : List Deferred} {F : List (Nat × Value)} {L : List It} {a : Act}
variable {t u t' : TypeId} {x y : Operand} {d : Nat} {g : Nat}
/-- append to a slice that is full and frozen: a new row; the source is a literal's block, item kb. -/
theorem X.apc {α : Type} {R : GH → List Value → α → Prop} (kb : Nat) {e sz by_ : Nat} {ys : List α} {A : Option Addr} {ty' : TypeId} {z : Nat × Nat} (news : List Value) (ht : rowT P t e sz by_ = true) (hs : RS R sz H (.slice A ys.length ys.length) ys) (h : S E H N D F L a w)
    (hb : (ys.length + 1) * by_ ≤ 140737488355328) (h63 : ys.length + 1 ≤ 4611686018427387904)
    (k : ∀ A' c' olds a w, RowR R sz H olds ys → S E H N D ((d, .slice A' (ys.length + 1) c') :: F) (.row (.slice A' (ys.length + 1) c') e sz (ys.length + 1) (olds ++ news) :: L) a w → γ.G rest a w)
    (hkb : L[kb]? = some (.obj g (.cells news.toArray ty' z)) := by rfl) (hl : news.length = sz := by rfl)
    (ho : o.op = .call { callee := .builtin .append, args := #[x, y], argTypes := #[t, t] } := by rfl) (hx : ev F x = some (.slice A ys.length ys.length) := by rfl) (hy : ev F y = some (.slice (some ⟨g, 0, none⟩) 1 1) := by rfl)
    (hw : wn ops F o = some true := by rfl) (hd : o.dst = some d := by rfl) (hN : Nat.blt d N = true := by rfl) (hE : γ.isE rest.length = true := by rfl)
    (hS : γ.isN rest.length = true → ∀ A' c' olds w, St E H (.row (.slice A' (ys.length + 1) c') e sz (ys.length + 1) (olds ++ news) :: L) w → γ.S w := by first | exact fun e => Bool.noConfusion (show false = true from e) | exact fun _ _ _ _ _ hw => hw.sees' LE.rfl (by simp) | exact fun _ _ _ _ _ hw => hw.sees' (by assumption) (by simp)) : γ.G (o :: rest) a w := by
  obtain ⟨hu, i, zv, hi, hz, hsz, hby, hzs, h0⟩ := row_of ht
  -- the old cells
  have hex : ∀ q, q ≤ ys.length → ∃ olds : List Value, RowR R sz H olds (ys.take q) ∧ ∀ b, A = some b → ∀ j u, olds[j]? = some u → w.cell? (b.add j) = some u := by
    intro q
    induction q with
    | zero => intro _; exact ⟨[], by simpa using RowR.nil, fun b _ j u hu => by simp at hu⟩
    | succ q ih =>
      intro hq
      obtain ⟨olds, hr, hc⟩ := ih (by omega)
      obtain ⟨g', off', cs, e2, hl', hR, hcell⟩ := RS.at_ hs (List.getElem?_eq_getElem (show q < ys.length by omega))
      subst e2
      refine ⟨olds ++ cs, by rw [List.take_succ_eq_append_getElem (by omega)]; exact hr.snoc hl' hR, fun b hbb j u hu' => ?_⟩
      cases hbb
      have hlen := hr.len
      rw [List.length_take, Nat.min_eq_left (by omega)] at hlen
      by_cases hj : j < olds.length
      · rw [List.getElem?_append_left hj] at hu'; exact hc _ rfl j u hu'
      · rw [List.getElem?_append_right (by omega)] at hu'
        have := (hcell _ u hu').cell h.st.sees
        rw [hlen] at this
        rw [Addr.add_mid]
        rwa [show off' + q * sz + (j - q * sz) = off' + j by omega] at this
  obtain ⟨olds, hr, hc⟩ := hex ys.length (Nat.le_refl _)
  rw [List.take_length] at hr
  have hol := hr.len
  have hnews : ∀ j v, news[j]? = some v → w.cell? ((⟨g, 0, none⟩ : Addr).add j) = some v := fun j v hj => by
    rw [Addr.add_mid, Nat.zero_add, cell_own (item_at h.st.sees hkb) j]; simpa using hj
  have hrun : ∃ c', ys.length + 1 ≤ c' ∧ c' ≤ maxLen ∧ (Builtin.append_ #[t, t] o.type #[.slice A ys.length ys.length, .slice (some ⟨g, 0, none⟩) 1 1]).run P w =
      .ok (.slice (some ⟨w.heap.size, 0, none⟩) (ys.length + 1) c') (w.drew.alloc (.cells (olds.toArray ++ news.toArray ++ Builtin.zeroCells zv.cells (c' - (ys.length + 1))) e)) := by
    refine ⟨grownCap w (ys.length + 1) ys.length e, grownCap_ge .., grownCap_le_maxLen _ _ _ _ (by simp only [maxLen]; omega), ?_⟩
    cases A with
    | none =>
      have hy0 : ys = [] := by
        cases ys with
        | nil => rfl
        | cons y0 l => obtain ⟨_, _, _, e3, _⟩ := RS.at_ hs (j := 0) rfl; cases e3
      subst hy0
      have ho0 : olds = [] := List.eq_nil_of_length_eq_zero (by simpa using hol)
      subst ho0
      have := run_append_nil (P := P) w t o.type e i zv hu hi hz ⟨g, 0, none⟩ 1 1 news (by rw [hsz, hl, Nat.one_mul]) hnews (by omega) (by omega) (by rw [hby]; simp at hb; omega)
      simpa using this
    | some b =>
      exact run_append_grow (P := P) w t o.type e i zv hu hi hz b ys.length ys.length olds (by rw [hsz]; exact hol) (hc b rfl) ⟨g, 0, none⟩ 1 1 news (by rw [hsz, hl, Nat.one_mul]) hnews (by omega) (by omega) (growslice_fits (by omega) (by rw [hby]; exact hb))
  obtain ⟨c', hge, hle, hrun⟩ := hrun
  have hd0 : St E H L w.drew := h.st.drew _
  have hst : St E H (.row (.slice (some ⟨w.heap.size, 0, none⟩) (ys.length + 1) c') e sz (ys.length + 1) (olds ++ news) :: L) (w.drew.alloc (.cells (olds.toArray ++ news.toArray ++ Builtin.zeroCells zv.cells (c' - (ys.length + 1))) e)) := by
    refine (hd0.alloc _).set (k := 0) (i := .obj _ _) (j := .row (.slice (some ⟨w.heap.size, 0, none⟩) (ys.length + 1) c') e sz (ys.length + 1) (olds ++ news)) rfl ?_ (fun x hx => .inl (by simpa [It.own, Value.ownBlock] using hx)) rfl rfl rfl (fun _ _ _ => rfl)
    refine ⟨by rw [List.length_append, hol, hl, Nat.succ_mul], .inr ⟨w.heap.size, _, _, rfl, Nat.zero_le _, (hd0.alloc _).holds _ (List.mem_cons_self ..), hge, hle, ?_, ?_⟩⟩
    · have : ys.length * sz + sz + (c' - (ys.length + 1)) * sz = c' * sz := by
        rw [← Nat.succ_mul, ← Nat.add_mul]; congr 1; omega
      simp only [Array.size_append, size_zeroCells, hzs, List.size_toArray, hol, hl]
      exact this
    · rw [Array.toList_append, Array.toList_append]
      simp only []
      rw [List.take_append_of_le_length (by rw [List.length_append, hol, hl, Nat.succ_mul]; exact Nat.le_refl _)]
      rw [List.take_of_length_le (by rw [List.length_append, hol, hl, Nat.succ_mul]; exact Nat.le_refl _)]
  exact val h hw hd hN hE (fun e => hS e _ _ _) (by simp [execOp, ho, resolve, invoke, builtin, h.ag.ev hx, h.ag.ev hy, hrun]) hst (k _ _ olds · · hr)
end
/-- Is a free name of a term not known? -/
def Tm.strange (known : List Bs) (t : Tm) : Bool := t.names.any fun x => t.fr none0 x && !known.contains x
theorem strange_of {t : Tm} {ss known : List Bs} (h : IsSet ss (t.fr none0)) : (ss.any fun s => !known.contains s) = t.strange known := by
  rw [Bool.eq_iff_iff, List.any_eq_true]
  unfold Tm.strange
  rw [List.any_eq_true]
  constructor
  · rintro ⟨x, hx, hk⟩
    have hf := (h.2.1 x).1 hx
    exact ⟨x, fr_names t _ x hf, by rw [hf, hk]; rfl⟩
  · rintro ⟨x, hx, hk⟩
    rw [Bool.and_eq_true] at hk
    exact ⟨x, (h.2.1 x).2 hk.1, hk.2⟩
def Pg.zero : Pg := ⟨[], [], [], .mk 0 [] 0 []⟩
def Pg.known (p : Pg) (k : Nat) : List Bs := (p.inputs ++ p.cells).map (·.name) ++ (p.defs.take k).map (·.name)
/-- Is a name declared twice? -/
def Pg.twice (p : Pg) : Bool := (List.range (p.known p.defs.length).length).any fun k => decide (indexL (p.known p.defs.length) ((p.known p.defs.length).getD k []) < (k : Int))
/-- The first k definitions, renamed; none if one is strange. -/
def Pg.go (p : Pg) : Nat → Option (List Df × Int)
  | 0 => some ([], 1)
  | k + 1 => match p.go k, p.defs[k]? with
    | some (ds, n), some d => if d.t.strange (p.known k) then none else some (ds ++ [⟨d.name, (d.t.ren (fun _ => none) n).1⟩], (d.t.ren (fun _ => none) n).2)
    | _, _ => none
def Pg.resolve (p : Pg) : Pg × Int :=
  if !p.right then (Pg.zero, 11)
  else if p.twice then (Pg.zero, 6)
  else match p.go p.defs.length with
    | none => (Pg.zero, 5)
    | some (ds, n) => if p.body.strange (p.known p.defs.length) then (Pg.zero, 5) else (⟨p.inputs, p.cells, ds, (p.body.ren (fun _ => none) n).1⟩, 0)
end Go.Proofs.YtindlieilabgfaaGreatDoor
/- The chapter's examples, plainly. -/
set_option linter.unusedVariables false
set_option linter.unusedSectionVars false
set_option linter.unusedSimpArgs false
set_option autoImplicit false
set_option relaxedAutoImplicit false
set_option maxRecDepth 100000
namespace Go.Proofs.YtindlieilabgfaaGreatDoor
open Go X

section
variable {P : Program} {Q : Exit → Act → World → Prop} {S0 : World → Prop} {rd : List Nat} {n : Nat} {listed : Array Bool} {l : List Oper}
theorem X.brl3 (i j k : Nat) {o o' o2 : Oper} (nd nd' nd2 : Bool) {a : Act} {w : World} (hr : Region.ready .any l.toArray listed = [i, j, k]) (hnd : needs l.toArray rd i = nd) (hnd' : needs l.toArray rd j = nd') (hnd2 : needs l.toArray rd k = nd2) (hS : (nd || (nd' || nd2)) = true → S0 w)
    (h : (gb P l.toArray Q S0 nd (Nx P l.toArray Q S0 rd n listed i)).G [o] a w) (h' : (gb P l.toArray Q S0 nd' (Nx P l.toArray Q S0 rd n listed j)).G [o'] a w) (h2 : (gb P l.toArray Q S0 nd2 (Nx P l.toArray Q S0 rd n listed k)).G [o2] a w)
    (hi : l[i]? = some o := by rfl) (hj : l[j]? = some o' := by rfl) (hk : l[k]? = some o2 := by rfl) : wpR P l.toArray Q S0 rd (n + 1) listed a w :=
  br3 i j k nd nd' nd2 hr (by simpa using hi) (by simpa using hj) (by simpa using hk) hnd hnd' hnd2 hS h h' h2
theorem X.brl4 (i j k m : Nat) {o o' o2 o3 : Oper} (nd nd' nd2 nd3 : Bool) {a : Act} {w : World} (hr : Region.ready .any l.toArray listed = [i, j, k, m]) (hnd : needs l.toArray rd i = nd) (hnd' : needs l.toArray rd j = nd') (hnd2 : needs l.toArray rd k = nd2) (hnd3 : needs l.toArray rd m = nd3) (hS : (nd || (nd' || (nd2 || nd3))) = true → S0 w)
    (h : (gb P l.toArray Q S0 nd (Nx P l.toArray Q S0 rd n listed i)).G [o] a w) (h' : (gb P l.toArray Q S0 nd' (Nx P l.toArray Q S0 rd n listed j)).G [o'] a w) (h2 : (gb P l.toArray Q S0 nd2 (Nx P l.toArray Q S0 rd n listed k)).G [o2] a w) (h3 : (gb P l.toArray Q S0 nd3 (Nx P l.toArray Q S0 rd n listed m)).G [o3] a w)
    (hi : l[i]? = some o := by rfl) (hj : l[j]? = some o' := by rfl) (hk : l[k]? = some o2 := by rfl) (hm : l[m]? = some o3 := by rfl) : wpR P l.toArray Q S0 rd (n + 1) listed a w := by
  refine ⟨(fun e => by rw [e] at hr; cases hr), fun q hq => ?_⟩
  rw [hr] at hq
  simp at hq
  rcases hq with rfl | rfl | rfl | rfl
  · exact wpOp_b (by simpa using hi) hnd h (fun e => hS (by rw [e]; rfl))
  · exact wpOp_b (by simpa using hj) hnd' h' (fun e => hS (by rw [e]; simp))
  · exact wpOp_b (by simpa using hk) hnd2 h2 (fun e => hS (by rw [e]; simp))
  · exact wpOp_b (by simpa using hm) hnd3 h3 (fun e => hS (by rw [e]; simp))
end
def exX : Tm := .mk 2 [120] 0 []
def exY : Tm := .mk 2 [121] 0 []
def exA : Tm := .mk 4 [] 0 [exX, exY]
def exF (t : Tm) : Tm := .mk 3 [120] 0 [t]
def exD : Dc := ⟨[121], [76, 111], 0⟩
def exP : Pg := ⟨[exD], [], [⟨[102], exF exX⟩], exF exA⟩
def exP2 : Pg := ⟨[exD, exD], [], [⟨[102], exF exX⟩], exF exA⟩
def exP3 : Pg := ⟨[], [], [], exX⟩
def none1 : Bs → Option Bs := fun _ => none
theorem ex1 : (exF exA).ren none1 3 = (.mk 3 [51] 0 [.mk 4 [] 0 [.mk 2 [51] 0 [], .mk 2 [121] 0 []]], 4) := by
  simp [none1, exF, exA, exX, exY, Tm.ren, renL, renN, bnd, Lib.itoa, Lib.decDigits, nx, updS, IntKind.wrap, IntKind.bits, IntKind.signed]
theorem ex2 : (exF (exF exX)).ren none1 (-1) = (.mk 3 [45, 49] 0 [.mk 3 [48] 0 [.mk 2 [48] 0 []]], 1) := by
  simp [none1, exF, exX, Tm.ren, renL, renN, bnd, Lib.itoa, Lib.decDigits, nx, updS, IntKind.wrap, IntKind.bits, IntKind.signed]
theorem exR1 : exP.go 1 = some ([⟨[102], .mk 3 [49] 0 [.mk 2 [49] 0 []]⟩], 2) := by
  simp [exP, Pg.go, exF, exX, Tm.ren, renL, renN, bnd, Lib.itoa, Lib.decDigits, nx, updS, IntKind.wrap, IntKind.bits, IntKind.signed, Tm.strange, Tm.names, namesL, Tm.fr, frL, none0, inc1]
theorem exR2 : (exF exA).ren (fun _ => none) 2 = (.mk 3 [50] 0 [.mk 4 [] 0 [.mk 2 [50] 0 [], .mk 2 [121] 0 []]], 3) := by
  simp [exF, exA, exX, exY, Tm.ren, renL, renN, bnd, Lib.itoa, Lib.decDigits, nx, updS, IntKind.wrap, IntKind.bits, IntKind.signed]
theorem ex3 : exP.resolve = (⟨[exD], [], [⟨[102], .mk 3 [49] 0 [.mk 2 [49] 0 []]⟩], .mk 3 [50] 0 [.mk 4 [] 0 [.mk 2 [50] 0 [], .mk 2 [121] 0 []]]⟩, 0) := by
  unfold Pg.resolve
  rw [if_neg (show ¬ ((!exP.right) = true) by decide), if_neg (show ¬ (exP.twice = true) by decide)]
  rw [show exP.go exP.defs.length = some ([⟨[102], .mk 3 [49] 0 [.mk 2 [49] 0 []]⟩], 2) from exR1]
  refine (if_neg (show ¬ (Tm.strange (exP.known exP.defs.length) exP.body = true) by decide)).trans ?_
  rw [show exP.body.ren (fun x => none) 2 = (.mk 3 [50] 0 [.mk 4 [] 0 [.mk 2 [50] 0 [], .mk 2 [121] 0 []]], 3) from exR2]; rfl
theorem ex4 : exP2.resolve.2 = 6 := by rfl
theorem ex5 : exP3.resolve.2 = 5 := by rfl
theorem ex6 : Pg.zero.resolve.2 = 11 := by rfl
theorem rt_leaf {H : GH} (k : Int) (s : Bs) (n : Int) : RT H [.int .i64 k, str s, .int .i64 n, .slice none 0 0] (.mk k s n []) := by
  rw [rt_mk]; exact ⟨_, rfl, RS.nil _ _ _⟩
theorem rt_of_ks {H : GH} {k : Int} {s : Bs} {n : Int} {A : Option Addr} {c : Nat} {ks : List Tm} (h : KS H A c ks) : RT H [.int .i64 k, str s, .int .i64 n, .slice A ks.length c] (.mk k s n ks) := by
  rw [rt_mk]; exact ⟨_, rfl, h⟩
end Go.Proofs.YtindlieilabgfaaGreatDoor
/- The arguments, opened: what a reading tells of the memory. -/
set_option linter.unusedVariables false
set_option linter.unusedSectionVars false
set_option linter.unusedSimpArgs false
set_option autoImplicit false
set_option relaxedAutoImplicit false
namespace Go.Proofs.YtindlieilabgfaaGreatDoor
open Go X

/-- All of a world's memory. -/
def HW (w : World) : GH := fun b => w.heap[b]?
theorem hc_of {w : World} {g off : Nat} {v : Value} (h : w.cell? ⟨g, off, none⟩ = some v) : Hc (HW w) g off v := by
  unfold World.cell? at h
  split at h
  · rename_i c e z hg; exact ⟨c, e, z, hg, by simpa using h⟩
  · cases h
theorem st_world (w : World) : St w (HW w) [] w where
  os := rfl
  tape := rfl
  output := rfl
  fro := fun _ _ h => h
  holds := fun _ h => absurd h List.not_mem_nil
  off := fun _ h => absurd h List.not_mem_nil
  apart := List.Pairwise.nil
theorem mapM_get {α β : Type} {f : α → Option β} : ∀ {l : List α} {ys : List β}, l.mapM f = some ys → ys.length = l.length ∧ ∀ (i : Nat) (a : α), l[i]? = some a → f a = ys[i]?
  | [], ys, h => by simp at h; subst h; simp
  | a :: l, ys, h => by
    simp only [List.mapM_cons, Option.bind_eq_bind, Option.bind_eq_some_iff, Option.pure_def, Option.some.injEq] at h
    obtain ⟨y, hy, zs, hz, rfl⟩ := h
    have ih := mapM_get hz
    refine ⟨by simp [ih.1], fun i b hb => ?_⟩
    cases i with
    | zero => simp at hb; subst hb; simpa using hy
    | succ i => simp at hb; simpa using ih.2 i b hb
theorem cells_get {w : World} {base : Nat} {a : Addr} {n : Nat} {cs : List Value} (h : w.cells? base a n = some cs) : cs.length = n ∧ ∀ i u, cs[i]? = some u → w.cell? (a.add i) = some u := by
  unfold World.cells? at h
  split at h
  · obtain ⟨h1, h2⟩ := mapM_get h
    have hl : cs.length = n := by simpa using h1
    refine ⟨hl, fun i u hu => ?_⟩
    have hi : i < n := by have := (List.getElem?_eq_some_iff.1 hu).1; omega
    have := h2 i i (by simp [hi])
    rw [this, hu]
  · cases h
section
variable {H : Type} {enc : TypeId × Value → H} {P : Program} {w : World} {base : Nat} {spare : Nat → Bool} {held : Bool}
theorem bulk_sum (l : List (DataW H)) : Rows.uptoBulkAll l = (l.map Rows.uptoBulk).sum := by
  induction l with
  | nil => rfl
  | cons d l ih => simp only [Rows.uptoBulkAll, List.map_cons, List.sum_cons, ih]
/-- A slice, its elements opened. -/
theorem open_sl {α : Type} {R : GH → List Value → α → Prop} {B : α → Nat} {t e sz fuel : Nat} {cs : List Value} {x : DataW H × List MemPlace} (ht : P.underlying t = some (.slice e)) (hc : P.cellsOf e = sz) (hsz : 0 < sz) (h : DataW.trod enc P w base spare held fuel t cs = some x)
    (hel : ∀ n cs' y, n < fuel → DataW.trod enc P w base spare held n e cs' = some y → ∃ a : α, R (HW w) cs' a ∧ B a ≤ Rows.uptoBulk y.1) :
    ∃ (A : Option Addr) (c : Nat) (ys : List α), cs = [.slice A ys.length c] ∧ RS R sz (HW w) (.slice A ys.length c) ys ∧ (ys.map B).sum + 1 ≤ Rows.uptoBulk x.1 := by
  rcases DataW.trod_slice ht h with ⟨rfl, rfl⟩ | ⟨a, len, cap, elems, rest, n, hn, rfl, rfl, hb, hl, hm, hlen, hget, _, _⟩
  · exact ⟨none, 0, [], rfl, RS.nil _ _ _, by simp [Rows.uptoBulk]⟩
  · have key : ∀ q, q ≤ len → ∃ ys : List α, ys.length = q ∧ (ys.map B).sum ≤ (((elems.take q).map (·.1)).map Rows.uptoBulk).sum ∧ ∀ j y, ys[j]? = some y → ∃ g off cs', a = ⟨g, off, none⟩ ∧ cs'.length = sz ∧ R (HW w) cs' y ∧ ∀ i u, cs'[i]? = some u → Hc (HW w) g (off + j * sz + i) u := by
      intro q
      induction q with
      | zero => intro _; exact ⟨[], rfl, by simp, fun j y hy => by simp at hy⟩
      | succ q ih =>
        intro hq
        obtain ⟨ys, h1, h2, h3⟩ := ih (by omega)
        have hge := hget q (by omega)
        have hel0 : elems[q]? = some elems[q] := List.getElem?_eq_getElem (by omega)
        rw [hel0] at hge
        obtain ⟨cs', hcs, htr⟩ := Option.bind_eq_some_iff.1 hge
        obtain ⟨y, hR, hB⟩ := hel n cs' _ (by omega) htr
        obtain ⟨hl', hcell⟩ := cells_get hcs
        rw [hc] at hl'
        have hspot : a.spot = none := by
          have h0 := hcell 0 (cs'[0]'(by omega)) (List.getElem?_eq_getElem _)
          cases hsp : a.spot with
          | none => rfl
          | some s =>
            exfalso
            by_cases hq0 : q * P.cellsOf e = 0
            · rw [hq0] at h0
              have : (a.add 0).add 0 = a := by simp [Addr.add]
              rw [this] at h0
              unfold World.cell? at h0
              split at h0
              · rw [hsp] at h0; simp at h0
              · cases h0
            · have hq1 : 0 < q := by
                rcases Nat.eq_zero_or_pos q with rfl | h; exact absurd (Nat.zero_mul _) hq0; exact h
              obtain ⟨g, off, _, he, _⟩ := h3 0 (ys[0]'(by omega)) (List.getElem?_eq_getElem _)
              rw [he] at hsp; cases hsp
        refine ⟨ys ++ [y], by simp [h1], ?_, fun j z hz => ?_⟩
        · rw [List.take_succ_eq_append_getElem (by omega)]
          simp only [List.map_append, List.sum_append, List.map_cons, List.map_nil, List.sum_cons, List.sum_nil]
          omega
        · by_cases hj : j < ys.length
          · rw [List.getElem?_append_left hj] at hz; exact h3 j z hz
          · have hj2 : j = ys.length := by
              have := (List.getElem?_eq_some_iff.1 hz).1
              simp at this; omega
            subst hj2
            simp at hz; subst hz
            obtain ⟨ab, ao, asp⟩ := a
            simp only at hspot; subst hspot
            refine ⟨ab, ao, cs', rfl, hl', hR, fun i u hu => ?_⟩
            have := hcell i u hu
            rw [hc, Addr.add_mid, Addr.add_mid, ← h1] at this
            exact hc_of this
    obtain ⟨ys, h1, h2, h3⟩ := key len (Nat.le_refl _)
    refine ⟨some a, cap, ys, by rw [h1], ⟨some a, cap, rfl, by omega, fun j y hy => ?_⟩, ?_⟩
    · obtain ⟨g, off, cs', he, hr⟩ := h3 j y hy
      exact ⟨g, off, cs', by rw [he], hr⟩
    · rw [List.take_of_length_le (by omega)] at h2
      simp only [Rows.uptoBulk, bulk_sum]
      omega
end
end Go.Proofs.YtindlieilabgfaaGreatDoor
/- Terms and programs, opened. -/
set_option linter.unusedVariables false
set_option linter.unusedSectionVars false
set_option linter.unusedSimpArgs false
set_option autoImplicit false
set_option relaxedAutoImplicit false
set_option maxRecDepth 100000
namespace Go.Proofs.YtindlieilabgfaaGreatDoor
open Go X

mutual
/-- How many nodes and letters a term has. -/
def Tm.wt : Tm → Nat
  | .mk _ s _ ks => 1 + s.length + wtL ks
def wtL : List Tm → Nat
  | [] => 0
  | t :: l => t.wt + wtL l
end
theorem wtL_sum : ∀ l : List Tm, wtL l = (l.map Tm.wt).sum
  | [] => rfl
  | t :: l => by simp only [wtL, List.map_cons, List.sum_cons, wtL_sum l]
mutual
theorem size_wt : ∀ t : Tm, t.size ≤ t.wt
  | .mk _ s _ ks => by simp only [Tm.size, Tm.wt]; have := sizeL_wt ks; omega
theorem sizeL_wt : ∀ l : List Tm, sizeL l ≤ wtL l
  | [] => by simp [sizeL]
  | t :: l => by simp only [sizeL, wtL]; have := size_wt t; have := sizeL_wt l; omega
end
mutual
theorem long_wt : ∀ t : Tm, t.long ≤ t.wt
  | .mk _ s _ ks => by simp only [Tm.long, Tm.wt]; have := longL_wt ks; omega
theorem longL_wt : ∀ l : List Tm, longL l ≤ wtL l
  | [] => by simp [longL]
  | t :: l => by simp only [longL, wtL]; have := long_wt t; have := longL_wt l; omega
end
section
variable {H : Type} {enc : TypeId × Value → H} {w : World} {base : Nat} {spare : Nat → Bool} {held : Bool}
theorem c24 : Tryz.prog.cellsOf 24 = 4 := by kernel_rfl
theorem c72 : Tryz.prog.cellsOf 72 = 3 := by kernel_rfl
theorem c68 : Tryz.prog.cellsOf 68 = 5 := by kernel_rfl
theorem c28 : Tryz.prog.cellsOf 28 = 7 := by kernel_rfl
theorem c1_3 : Tryz.prog.cellsOf 3 = 1 := by kernel_rfl
theorem c1_9 : Tryz.prog.cellsOf 9 = 1 := by kernel_rfl
theorem c1_2 : Tryz.prog.cellsOf 2 = 1 := by kernel_rfl
theorem c1_22 : Tryz.prog.cellsOf 22 = 1 := by kernel_rfl
theorem c1_25 : Tryz.prog.cellsOf 25 = 1 := by kernel_rfl
theorem c1_26 : Tryz.prog.cellsOf 26 = 1 := by kernel_rfl
theorem str_ba (s : ByteArray) : Value.string s = str s.data.toList := by
  simp [str]
/-- A piece of a list that is known. -/
theorem piece {cs : List Value} {o n : Nat} {l : List Value} (h : (cs.drop o).take n = l) (hl : l.length = n) : ∀ i, i < n → cs[o + i]? = l[i]? := by
  intro i hi
  rw [← h, List.getElem?_take, if_pos hi, List.getElem?_drop]
theorem open_tm : ∀ (fuel : Nat) (cs : List Value) (x : DataW H × List MemPlace), DataW.trod enc Tryz.prog w base spare held fuel 24 cs = some x → ∃ t : Tm, RT (HW w) cs t ∧ t.wt ≤ Rows.uptoBulk x.1 := by
  intro fuel
  induction fuel using Nat.strongRecOn with
  | _ fuel ih =>
  intro cs x h
  obtain ⟨xs, n, rfl, rfl, hl, hlen, hf⟩ := DataW.trod_struct Tryz.underlying24 h
  rw [c24] at hl
  match xs, hlen with
  | [y0, y1, y2, y3], _ =>
    obtain ⟨kd, e0, rfl, _⟩ := DataW.trod_int Tryz.underlying3 (hf 0 _ rfl)
    obtain ⟨s, e1, rfl, _⟩ := DataW.trod_string Tryz.underlying9 (hf 1 _ rfl)
    obtain ⟨nn, e2, rfl, _⟩ := DataW.trod_int Tryz.underlying2 (hf 2 _ rfl)
    obtain ⟨A, c, ks, e3, hks, hB⟩ := open_sl (R := RT) (B := Tm.wt) (sz := 4) Tryz.underlying22 c24 (by omega) (hf 3 _ rfl) (fun m cs' y hm hy => ih m (by omega) cs' y hy)
    have g0 : cs[0]? = _ := piece e0 rfl 0 (by show 0 < Tryz.prog.cellsOf 3; rw [c1_3]; omega)
    have g1 : cs[1]? = _ := piece e1 rfl 0 (by show 0 < Tryz.prog.cellsOf 9; rw [c1_9]; omega)
    have g2 : cs[2]? = _ := piece e2 rfl 0 (by show 0 < Tryz.prog.cellsOf 2; rw [c1_2]; omega)
    have g3 : cs[3]? = _ := piece e3 rfl 0 (by show 0 < Tryz.prog.cellsOf 22; rw [c1_22]; omega)
    refine ⟨.mk kd s.data.toList nn ks, ?_, ?_⟩
    · rw [rt_mk]
      refine ⟨.slice A ks.length c, ?_, hks⟩
      match cs, hl with
      | [a0, a1, a2, a3], _ =>
        simp at g0 g1 g2 g3
        rw [g0, g1, g2, g3, str_ba]
    · simp only [Tm.wt, wtL_sum, Rows.uptoBulk, Rows.uptoBulkAll, List.map_cons, List.map_nil]
      omega
theorem rs_cap {α : Type} {R : GH → List Value → α → Prop} {sz : Nat} {A : Option Addr} {n c : Nat} {ys : List α} (h : RS R sz (HW w) (.slice A n c) ys) : ys.length = n := by
  obtain ⟨A', c', e, _⟩ := h
  cases e; rfl
theorem rt_kids {cs : List Value} {t : Tm} (h : RT (HW w) cs t) : ∃ A c, cs = [.int .i64 t.kind, str t.name, .int .i64 t.n, .slice A t.kids.length c] ∧ KS (HW w) A c t.kids := by
  obtain ⟨k, s, n, ks⟩ := t
  rw [rt_mk] at h
  obtain ⟨v, rfl, A, c, rfl, h1, h2⟩ := h
  exact ⟨A, c, rfl, A, c, rfl, h1, h2⟩
theorem open_dc (fuel : Nat) (cs : List Value) (x : DataW H × List MemPlace) (h : DataW.trod enc Tryz.prog w base spare held fuel 72 cs = some x) : ∃ d : Dc, RDc (HW w) cs d ∧ d.name.length + d.label.length + 1 ≤ Rows.uptoBulk x.1 := by
  obtain ⟨xs, n, rfl, rfl, hl, hlen, hf⟩ := DataW.trod_struct Tryz.underlying72 h
  rw [c72] at hl
  match xs, hlen with
  | [y0, y1, y2], _ =>
    obtain ⟨s, e0, rfl, _⟩ := DataW.trod_string Tryz.underlying9 (hf 0 _ rfl)
    obtain ⟨s', e1, rfl, _⟩ := DataW.trod_string Tryz.underlying9 (hf 1 _ rfl)
    obtain ⟨nn, e2, rfl, _⟩ := DataW.trod_int Tryz.underlying2 (hf 2 _ rfl)
    have g0 : cs[0]? = _ := piece e0 rfl 0 (by show 0 < Tryz.prog.cellsOf 9; rw [c1_9]; omega)
    have g1 : cs[1]? = _ := piece e1 rfl 0 (by show 0 < Tryz.prog.cellsOf 9; rw [c1_9]; omega)
    have g2 : cs[2]? = _ := piece e2 rfl 0 (by show 0 < Tryz.prog.cellsOf 2; rw [c1_2]; omega)
    refine ⟨⟨s.data.toList, s'.data.toList, nn⟩, ?_, ?_⟩
    · match cs, hl with
      | [a0, a1, a2], _ =>
        simp at g0 g1 g2
        unfold RDc
        rw [g0, g1, g2, str_ba, str_ba]
    · simp only [Rows.uptoBulk, Rows.uptoBulkAll, List.map_cons, List.map_nil]
      omega
theorem open_df (fuel : Nat) (cs : List Value) (x : DataW H × List MemPlace) (h : DataW.trod enc Tryz.prog w base spare held fuel 68 cs = some x) : ∃ d : Df, RDf (HW w) cs d ∧ d.name.length + d.t.wt + 1 ≤ Rows.uptoBulk x.1 := by
  obtain ⟨xs, n, rfl, rfl, hl, hlen, hf⟩ := DataW.trod_struct Tryz.underlying68 h
  rw [c68] at hl
  match xs, hlen with
  | [y0, y1], _ =>
    obtain ⟨s, e0, rfl, _⟩ := DataW.trod_string Tryz.underlying9 (hf 0 _ rfl)
    obtain ⟨t, hrt, hB⟩ := open_tm n _ y1 (hf 1 _ rfl)
    have g0 : cs[0]? = _ := piece e0 rfl 0 (by show 0 < Tryz.prog.cellsOf 9; rw [c1_9]; omega)
    refine ⟨⟨s.data.toList, t⟩, ?_, ?_⟩
    · have hrt2 : RT (HW w) ((cs.drop 1).take (Tryz.prog.cellsOf 24)) t := hrt
      rw [c24] at hrt2
      match cs, hl with
      | [a0, a1, a2, a3, a4], _ =>
        simp at g0
        exact ⟨[a1, a2, a3, a4], by rw [g0, str_ba], hrt2⟩
    · simp only [Rows.uptoBulk, Rows.uptoBulkAll, List.map_cons, List.map_nil]
      omega
theorem sum_le {α : Type} {f : α → Nat} {x : α} {l : List α} (h : x ∈ l) : f x ≤ (l.map f).sum := by
  induction l with
  | nil => cases h
  | cons y l ih =>
    simp only [List.map_cons, List.sum_cons]
    cases h with
    | head => omega
    | tail _ h => have := ih h; omega
theorem len_le {α : Type} {f : α → Nat} {l : List α} : l.length ≤ (l.map fun x => f x + 1).sum := by
  induction l with
  | nil => simp
  | cons y l ih => simp only [List.map_cons, List.sum_cons, List.length_cons]; omega
theorem open_pg (fuel : Nat) (v : Value) (hv : ∃ cs, v = .agg cs) (x : DataW H × List MemPlace) (h : DataW.trod enc Tryz.prog w base spare held fuel 28 v.cells.toList = some x) (hx : Rows.uptoBulk x.1 ≤ 1048576) : ∃ p : Pg, VP (HW w) v p ∧ Mild p := by
  obtain ⟨cs, rfl⟩ := hv
  obtain ⟨xs, n, rfl, rfl, hl, hlen, hf⟩ := DataW.trod_struct Tryz.underlying28 h
  rw [c28] at hl
  match xs, hlen with
  | [y0, y1, y2, y3], _ =>
    obtain ⟨A1, k1, ds1, e0, hd1, hB1⟩ := open_sl (R := RDc) (B := fun d => d.name.length + d.label.length + 1) (sz := 3) Tryz.underlying25 c72 (by omega) (hf 0 _ rfl) (fun m cs' y _ hy => open_dc m cs' y hy)
    obtain ⟨A2, k2, ds2, e1, hd2, hB2⟩ := open_sl (R := RDc) (B := fun d => d.name.length + d.label.length + 1) (sz := 3) Tryz.underlying25 c72 (by omega) (hf 1 _ rfl) (fun m cs' y _ hy => open_dc m cs' y hy)
    obtain ⟨A3, k3, fs, e2, hd3, hB3⟩ := open_sl (R := RDf) (B := fun d => d.name.length + d.t.wt + 1) (sz := 5) Tryz.underlying26 c68 (by omega) (hf 2 _ rfl) (fun m cs' y _ hy => open_df m cs' y hy)
    obtain ⟨t, hrt, hB⟩ := open_tm n _ y3 (hf 3 _ rfl)
    have l1 := len_le (f := fun d : Dc => d.name.length + d.label.length) (l := ds1)
    have l2 := len_le (f := fun d : Dc => d.name.length + d.label.length) (l := ds2)
    have l3 := len_le (f := fun d : Df => d.name.length + d.t.wt) (l := fs)
    have g0 : cs.toList[0]? = _ := piece e0 rfl 0 (by show 0 < Tryz.prog.cellsOf 25; rw [c1_25]; omega)
    have g1 : cs.toList[1]? = _ := piece e1 rfl 0 (by show 0 < Tryz.prog.cellsOf 25; rw [c1_25]; omega)
    have g2 : cs.toList[2]? = _ := piece e2 rfl 0 (by show 0 < Tryz.prog.cellsOf 26; rw [c1_26]; omega)
    have hrt2 : RT (HW w) ((cs.toList.drop 3).take (Tryz.prog.cellsOf 24)) t := hrt
    rw [c24] at hrt2
    simp only [Rows.uptoBulk, Rows.uptoBulkAll, List.map_cons, List.map_nil] at hx
    have hsz := size_wt t
    have hlg := long_wt t
    refine ⟨⟨ds1, ds2, fs, t⟩, ?_, ⟨by show ds1.length < _; omega, by show ds2.length < _; omega, by show fs.length < _; omega, fun d hd => ?_, fun d hd => ?_, fun d hd => ?_, by show t.long < _; omega, by show t.size < _; omega⟩⟩
    · obtain ⟨A4, k4, e4, hk4⟩ := rt_kids hrt2
      refine ⟨A1, k1, A2, k2, A3, k3, A4, k4, ?_, hd1, hd2, hd3, hk4⟩
      obtain ⟨cl⟩ := cs
      have hl : cl.length = 7 := hl
      match cl, hl with
      | [a0, a1, a2, a3, a4, a5, a6], _ =>
        simp at g0 g1 g2 e4
        rw [g0, g1, g2, e4.1, e4.2.1, e4.2.2.1, e4.2.2.2]
    · have := sum_le (f := fun d : Dc => d.name.length + d.label.length + 1) hd; simp only at this; omega
    · have := sum_le (f := fun d : Dc => d.name.length + d.label.length + 1) hd; simp only at this; omega
    · have := sum_le (f := fun d : Df => d.name.length + d.t.wt + 1) hd
      have q1 := size_wt d.t
      have q2 := long_wt d.t
      simp only at this; omega
end
end Go.Proofs.YtindlieilabgfaaGreatDoor
/- Closed facts on the types and functions of this translation. -/
set_option linter.unusedVariables false
set_option linter.unusedSectionVars false
namespace Go.Proofs.YtindlieilabgfaaGreatDoor
open Go X
theorem bod10 : bodT Tryz.prog 10 = true := by kernel_rfl
theorem bod100 : bodT Tryz.prog 100 = true := by kernel_rfl
theorem bod101 : bodT Tryz.prog 101 = true := by kernel_rfl
theorem bod102 : bodT Tryz.prog 102 = true := by kernel_rfl
theorem bod103 : bodT Tryz.prog 103 = true := by kernel_rfl
theorem bod104 : bodT Tryz.prog 104 = true := by kernel_rfl
theorem bod105 : bodT Tryz.prog 105 = true := by kernel_rfl
theorem bod106 : bodT Tryz.prog 106 = true := by kernel_rfl
theorem bod107 : bodT Tryz.prog 107 = true := by kernel_rfl
theorem bod108 : bodT Tryz.prog 108 = true := by kernel_rfl
theorem bod109 : bodT Tryz.prog 109 = true := by kernel_rfl
theorem bod11 : bodT Tryz.prog 11 = true := by kernel_rfl
theorem bod110 : bodT Tryz.prog 110 = true := by kernel_rfl
theorem bod111 : bodT Tryz.prog 111 = true := by kernel_rfl
theorem bod112 : bodT Tryz.prog 112 = true := by kernel_rfl
theorem bod113 : bodT Tryz.prog 113 = true := by kernel_rfl
theorem bod114 : bodT Tryz.prog 114 = true := by kernel_rfl
theorem bod115 : bodT Tryz.prog 115 = true := by kernel_rfl
theorem bod116 : bodT Tryz.prog 116 = true := by kernel_rfl
theorem bod117 : bodT Tryz.prog 117 = true := by kernel_rfl
theorem bod118 : bodT Tryz.prog 118 = true := by kernel_rfl
theorem bod119 : bodT Tryz.prog 119 = true := by kernel_rfl
theorem bod12 : bodT Tryz.prog 12 = true := by kernel_rfl
theorem bod120 : bodT Tryz.prog 120 = true := by kernel_rfl
theorem bod121 : bodT Tryz.prog 121 = true := by kernel_rfl
theorem bod122 : bodT Tryz.prog 122 = true := by kernel_rfl
theorem bod123 : bodT Tryz.prog 123 = true := by kernel_rfl
theorem bod124 : bodT Tryz.prog 124 = true := by kernel_rfl
theorem bod125 : bodT Tryz.prog 125 = true := by kernel_rfl
theorem bod126 : bodT Tryz.prog 126 = true := by kernel_rfl
theorem bod127 : bodT Tryz.prog 127 = true := by kernel_rfl
theorem bod128 : bodT Tryz.prog 128 = true := by kernel_rfl
theorem bod129 : bodT Tryz.prog 129 = true := by kernel_rfl
theorem bod13 : bodT Tryz.prog 13 = true := by kernel_rfl
theorem bod130 : bodT Tryz.prog 130 = true := by kernel_rfl
theorem bod131 : bodT Tryz.prog 131 = true := by kernel_rfl
theorem bod132 : bodT Tryz.prog 132 = true := by kernel_rfl
theorem bod133 : bodT Tryz.prog 133 = true := by kernel_rfl
theorem bod134 : bodT Tryz.prog 134 = true := by kernel_rfl
theorem bod135 : bodT Tryz.prog 135 = true := by kernel_rfl
theorem bod136 : bodT Tryz.prog 136 = true := by kernel_rfl
theorem bod137 : bodT Tryz.prog 137 = true := by kernel_rfl
theorem bod138 : bodT Tryz.prog 138 = true := by kernel_rfl
theorem bod139 : bodT Tryz.prog 139 = true := by kernel_rfl
theorem bod14 : bodT Tryz.prog 14 = true := by kernel_rfl
theorem bod140 : bodT Tryz.prog 140 = true := by kernel_rfl
theorem bod141 : bodT Tryz.prog 141 = true := by kernel_rfl
theorem bod142 : bodT Tryz.prog 142 = true := by kernel_rfl
theorem bod143 : bodT Tryz.prog 143 = true := by kernel_rfl
theorem bod144 : bodT Tryz.prog 144 = true := by kernel_rfl
theorem bod145 : bodT Tryz.prog 145 = true := by kernel_rfl
theorem bod146 : bodT Tryz.prog 146 = true := by kernel_rfl
theorem bod147 : bodT Tryz.prog 147 = true := by kernel_rfl
theorem bod148 : bodT Tryz.prog 148 = true := by kernel_rfl
theorem bod149 : bodT Tryz.prog 149 = true := by kernel_rfl
theorem bod15 : bodT Tryz.prog 15 = true := by kernel_rfl
theorem bod150 : bodT Tryz.prog 150 = true := by kernel_rfl
theorem bod151 : bodT Tryz.prog 151 = true := by kernel_rfl
theorem bod152 : bodT Tryz.prog 152 = true := by kernel_rfl
theorem bod153 : bodT Tryz.prog 153 = true := by kernel_rfl
theorem bod154 : bodT Tryz.prog 154 = true := by kernel_rfl
theorem bod155 : bodT Tryz.prog 155 = true := by kernel_rfl
theorem bod156 : bodT Tryz.prog 156 = true := by kernel_rfl
theorem bod157 : bodT Tryz.prog 157 = true := by kernel_rfl
theorem bod158 : bodT Tryz.prog 158 = true := by kernel_rfl
theorem bod159 : bodT Tryz.prog 159 = true := by kernel_rfl
theorem bod16 : bodT Tryz.prog 16 = true := by kernel_rfl
theorem bod17 : bodT Tryz.prog 17 = true := by kernel_rfl
theorem bod18 : bodT Tryz.prog 18 = true := by kernel_rfl
theorem bod19 : bodT Tryz.prog 19 = true := by kernel_rfl
theorem bod20 : bodT Tryz.prog 20 = true := by kernel_rfl
theorem bod21 : bodT Tryz.prog 21 = true := by kernel_rfl
theorem bod22 : bodT Tryz.prog 22 = true := by kernel_rfl
theorem bod23 : bodT Tryz.prog 23 = true := by kernel_rfl
theorem bod24 : bodT Tryz.prog 24 = true := by kernel_rfl
theorem bod25 : bodT Tryz.prog 25 = true := by kernel_rfl
theorem bod26 : bodT Tryz.prog 26 = true := by kernel_rfl
theorem bod27 : bodT Tryz.prog 27 = true := by kernel_rfl
theorem bod28 : bodT Tryz.prog 28 = true := by kernel_rfl
theorem bod29 : bodT Tryz.prog 29 = true := by kernel_rfl
theorem bod3 : bodT Tryz.prog 3 = true := by kernel_rfl
theorem bod30 : bodT Tryz.prog 30 = true := by kernel_rfl
theorem bod31 : bodT Tryz.prog 31 = true := by kernel_rfl
theorem bod32 : bodT Tryz.prog 32 = true := by kernel_rfl
theorem bod33 : bodT Tryz.prog 33 = true := by kernel_rfl
theorem bod34 : bodT Tryz.prog 34 = true := by kernel_rfl
theorem bod35 : bodT Tryz.prog 35 = true := by kernel_rfl
theorem bod36 : bodT Tryz.prog 36 = true := by kernel_rfl
theorem bod37 : bodT Tryz.prog 37 = true := by kernel_rfl
theorem bod38 : bodT Tryz.prog 38 = true := by kernel_rfl
theorem bod39 : bodT Tryz.prog 39 = true := by kernel_rfl
theorem bod4 : bodT Tryz.prog 4 = true := by kernel_rfl
theorem bod40 : bodT Tryz.prog 40 = true := by kernel_rfl
theorem bod41 : bodT Tryz.prog 41 = true := by kernel_rfl
theorem bod42 : bodT Tryz.prog 42 = true := by kernel_rfl
theorem bod43 : bodT Tryz.prog 43 = true := by kernel_rfl
theorem bod44 : bodT Tryz.prog 44 = true := by kernel_rfl
theorem bod45 : bodT Tryz.prog 45 = true := by kernel_rfl
theorem bod46 : bodT Tryz.prog 46 = true := by kernel_rfl
theorem bod47 : bodT Tryz.prog 47 = true := by kernel_rfl
theorem bod48 : bodT Tryz.prog 48 = true := by kernel_rfl
theorem bod49 : bodT Tryz.prog 49 = true := by kernel_rfl
theorem bod5 : bodT Tryz.prog 5 = true := by kernel_rfl
theorem bod50 : bodT Tryz.prog 50 = true := by kernel_rfl
theorem bod51 : bodT Tryz.prog 51 = true := by kernel_rfl
theorem bod52 : bodT Tryz.prog 52 = true := by kernel_rfl
theorem bod53 : bodT Tryz.prog 53 = true := by kernel_rfl
theorem bod54 : bodT Tryz.prog 54 = true := by kernel_rfl
theorem bod55 : bodT Tryz.prog 55 = true := by kernel_rfl
theorem bod56 : bodT Tryz.prog 56 = true := by kernel_rfl
theorem bod57 : bodT Tryz.prog 57 = true := by kernel_rfl
theorem bod58 : bodT Tryz.prog 58 = true := by kernel_rfl
theorem bod59 : bodT Tryz.prog 59 = true := by kernel_rfl
theorem bod6 : bodT Tryz.prog 6 = true := by kernel_rfl
theorem bod60 : bodT Tryz.prog 60 = true := by kernel_rfl
theorem bod61 : bodT Tryz.prog 61 = true := by kernel_rfl
theorem bod62 : bodT Tryz.prog 62 = true := by kernel_rfl
theorem bod63 : bodT Tryz.prog 63 = true := by kernel_rfl
theorem bod64 : bodT Tryz.prog 64 = true := by kernel_rfl
theorem bod65 : bodT Tryz.prog 65 = true := by kernel_rfl
theorem bod66 : bodT Tryz.prog 66 = true := by kernel_rfl
theorem bod67 : bodT Tryz.prog 67 = true := by kernel_rfl
theorem bod68 : bodT Tryz.prog 68 = true := by kernel_rfl
theorem bod69 : bodT Tryz.prog 69 = true := by kernel_rfl
theorem bod7 : bodT Tryz.prog 7 = true := by kernel_rfl
theorem bod70 : bodT Tryz.prog 70 = true := by kernel_rfl
theorem bod71 : bodT Tryz.prog 71 = true := by kernel_rfl
theorem bod72 : bodT Tryz.prog 72 = true := by kernel_rfl
theorem bod73 : bodT Tryz.prog 73 = true := by kernel_rfl
theorem bod74 : bodT Tryz.prog 74 = true := by kernel_rfl
theorem bod75 : bodT Tryz.prog 75 = true := by kernel_rfl
theorem bod76 : bodT Tryz.prog 76 = true := by kernel_rfl
theorem bod77 : bodT Tryz.prog 77 = true := by kernel_rfl
theorem bod78 : bodT Tryz.prog 78 = true := by kernel_rfl
theorem bod79 : bodT Tryz.prog 79 = true := by kernel_rfl
theorem bod8 : bodT Tryz.prog 8 = true := by kernel_rfl
theorem bod80 : bodT Tryz.prog 80 = true := by kernel_rfl
theorem bod81 : bodT Tryz.prog 81 = true := by kernel_rfl
theorem bod82 : bodT Tryz.prog 82 = true := by kernel_rfl
theorem bod83 : bodT Tryz.prog 83 = true := by kernel_rfl
theorem bod84 : bodT Tryz.prog 84 = true := by kernel_rfl
theorem bod85 : bodT Tryz.prog 85 = true := by kernel_rfl
theorem bod86 : bodT Tryz.prog 86 = true := by kernel_rfl
theorem bod87 : bodT Tryz.prog 87 = true := by kernel_rfl
theorem bod88 : bodT Tryz.prog 88 = true := by kernel_rfl
theorem bod89 : bodT Tryz.prog 89 = true := by kernel_rfl
theorem bod9 : bodT Tryz.prog 9 = true := by kernel_rfl
theorem bod90 : bodT Tryz.prog 90 = true := by kernel_rfl
theorem bod91 : bodT Tryz.prog 91 = true := by kernel_rfl
theorem bod92 : bodT Tryz.prog 92 = true := by kernel_rfl
theorem bod93 : bodT Tryz.prog 93 = true := by kernel_rfl
theorem bod94 : bodT Tryz.prog 94 = true := by kernel_rfl
theorem bod95 : bodT Tryz.prog 95 = true := by kernel_rfl
theorem bod96 : bodT Tryz.prog 96 = true := by kernel_rfl
theorem bod97 : bodT Tryz.prog 97 = true := by kernel_rfl
theorem bod98 : bodT Tryz.prog 98 = true := by kernel_rfl
theorem bod99 : bodT Tryz.prog 99 = true := by kernel_rfl
theorem bs115 : bsT Tryz.prog 115 = some (117, 2, #[.string ⟨#[]⟩, .string ⟨#[]⟩]) := by kernel_rfl
theorem bs119 : bsT Tryz.prog 119 = some (3, 1, #[.int .i64 0]) := by kernel_rfl
theorem bs120 : bsT Tryz.prog 120 = some (25, 1, #[.slice none 0 0]) := by kernel_rfl
theorem bs141 : bsT Tryz.prog 141 = some (167, 3, #[.int .i64 0, .string ⟨#[]⟩, .int .i64 0]) := by kernel_rfl
theorem bs145 : bsT Tryz.prog 145 = some (176, 3, #[.int .i64 0, .string ⟨#[]⟩, .int .i64 0]) := by kernel_rfl
theorem bs177 : bsT Tryz.prog 177 = some (145, 1, #[.slice none 0 0]) := by kernel_rfl
theorem bs204 : bsT Tryz.prog 204 = some (206, 1, #[.nilIface]) := by kernel_rfl
theorem bs22 : bsT Tryz.prog 22 = some (24, 4, #[.int .i64 0, .string ⟨#[]⟩, .int .i64 0, .slice none 0 0]) := by kernel_rfl
theorem bs25 : bsT Tryz.prog 25 = some (72, 3, #[.string ⟨#[]⟩, .string ⟨#[]⟩, .int .i64 0]) := by kernel_rfl
theorem bs26 : bsT Tryz.prog 26 = some (68, 5, #[.string ⟨#[]⟩, .int .i64 0, .string ⟨#[]⟩, .int .i64 0, .slice none 0 0]) := by kernel_rfl
theorem bs29 : bsT Tryz.prog 29 = some (5, 1, #[.int .u8 0]) := by kernel_rfl
theorem bs33 : bsT Tryz.prog 33 = some (35, 4, #[.int .i64 0, .string ⟨#[]⟩, .int .i64 0, .slice none 0 0]) := by kernel_rfl
theorem bs43 : bsT Tryz.prog 43 = some (28, 7, #[.slice none 0 0, .slice none 0 0, .slice none 0 0, .int .i64 0, .string ⟨#[]⟩, .int .i64 0, .slice none 0 0]) := by kernel_rfl
theorem bs47 : bsT Tryz.prog 47 = some (97, 3, #[.string ⟨#[]⟩, .string ⟨#[]⟩, .int .i64 0]) := by kernel_rfl
theorem bs48 : bsT Tryz.prog 48 = some (95, 5, #[.string ⟨#[]⟩, .int .i64 0, .string ⟨#[]⟩, .int .i64 0, .slice none 0 0]) := by kernel_rfl
theorem bs58 : bsT Tryz.prog 58 = some (9, 1, #[.string ⟨#[]⟩]) := by kernel_rfl
theorem cnc1 : cncT Tryz.prog 1 = true := by kernel_rfl
theorem cnc10 : cncT Tryz.prog 10 = true := by kernel_rfl
theorem cnc100 : cncT Tryz.prog 100 = true := by kernel_rfl
theorem cnc101 : cncT Tryz.prog 101 = true := by kernel_rfl
theorem cnc102 : cncT Tryz.prog 102 = true := by kernel_rfl
theorem cnc103 : cncT Tryz.prog 103 = true := by kernel_rfl
theorem cnc104 : cncT Tryz.prog 104 = true := by kernel_rfl
theorem cnc105 : cncT Tryz.prog 105 = true := by kernel_rfl
theorem cnc106 : cncT Tryz.prog 106 = true := by kernel_rfl
theorem cnc107 : cncT Tryz.prog 107 = true := by kernel_rfl
theorem cnc108 : cncT Tryz.prog 108 = true := by kernel_rfl
theorem cnc109 : cncT Tryz.prog 109 = true := by kernel_rfl
theorem cnc11 : cncT Tryz.prog 11 = true := by kernel_rfl
theorem cnc110 : cncT Tryz.prog 110 = true := by kernel_rfl
theorem cnc112 : cncT Tryz.prog 112 = true := by kernel_rfl
theorem cnc113 : cncT Tryz.prog 113 = true := by kernel_rfl
theorem cnc114 : cncT Tryz.prog 114 = true := by kernel_rfl
theorem cnc115 : cncT Tryz.prog 115 = true := by kernel_rfl
theorem cnc117 : cncT Tryz.prog 117 = true := by kernel_rfl
theorem cnc118 : cncT Tryz.prog 118 = true := by kernel_rfl
theorem cnc119 : cncT Tryz.prog 119 = true := by kernel_rfl
theorem cnc12 : cncT Tryz.prog 12 = true := by kernel_rfl
theorem cnc120 : cncT Tryz.prog 120 = true := by kernel_rfl
theorem cnc121 : cncT Tryz.prog 121 = true := by kernel_rfl
theorem cnc122 : cncT Tryz.prog 122 = true := by kernel_rfl
theorem cnc123 : cncT Tryz.prog 123 = true := by kernel_rfl
theorem cnc124 : cncT Tryz.prog 124 = true := by kernel_rfl
theorem cnc125 : cncT Tryz.prog 125 = true := by kernel_rfl
theorem cnc126 : cncT Tryz.prog 126 = true := by kernel_rfl
theorem cnc127 : cncT Tryz.prog 127 = true := by kernel_rfl
theorem cnc128 : cncT Tryz.prog 128 = true := by kernel_rfl
theorem cnc129 : cncT Tryz.prog 129 = true := by kernel_rfl
theorem cnc130 : cncT Tryz.prog 130 = true := by kernel_rfl
theorem cnc131 : cncT Tryz.prog 131 = true := by kernel_rfl
theorem cnc132 : cncT Tryz.prog 132 = true := by kernel_rfl
theorem cnc133 : cncT Tryz.prog 133 = true := by kernel_rfl
theorem cnc134 : cncT Tryz.prog 134 = true := by kernel_rfl
theorem cnc135 : cncT Tryz.prog 135 = true := by kernel_rfl
theorem cnc136 : cncT Tryz.prog 136 = true := by kernel_rfl
theorem cnc137 : cncT Tryz.prog 137 = true := by kernel_rfl
theorem cnc138 : cncT Tryz.prog 138 = true := by kernel_rfl
theorem cnc139 : cncT Tryz.prog 139 = true := by kernel_rfl
theorem cnc14 : cncT Tryz.prog 14 = true := by kernel_rfl
theorem cnc140 : cncT Tryz.prog 140 = true := by kernel_rfl
theorem cnc141 : cncT Tryz.prog 141 = true := by kernel_rfl
theorem cnc142 : cncT Tryz.prog 142 = true := by kernel_rfl
theorem cnc143 : cncT Tryz.prog 143 = true := by kernel_rfl
theorem cnc144 : cncT Tryz.prog 144 = true := by kernel_rfl
theorem cnc145 : cncT Tryz.prog 145 = true := by kernel_rfl
theorem cnc146 : cncT Tryz.prog 146 = true := by kernel_rfl
theorem cnc147 : cncT Tryz.prog 147 = true := by kernel_rfl
theorem cnc148 : cncT Tryz.prog 148 = true := by kernel_rfl
theorem cnc15 : cncT Tryz.prog 15 = true := by kernel_rfl
theorem cnc150 : cncT Tryz.prog 150 = true := by kernel_rfl
theorem cnc151 : cncT Tryz.prog 151 = true := by kernel_rfl
theorem cnc152 : cncT Tryz.prog 152 = true := by kernel_rfl
theorem cnc153 : cncT Tryz.prog 153 = true := by kernel_rfl
theorem cnc155 : cncT Tryz.prog 155 = true := by kernel_rfl
theorem cnc156 : cncT Tryz.prog 156 = true := by kernel_rfl
theorem cnc157 : cncT Tryz.prog 157 = true := by kernel_rfl
theorem cnc158 : cncT Tryz.prog 158 = true := by kernel_rfl
theorem cnc159 : cncT Tryz.prog 159 = true := by kernel_rfl
theorem cnc16 : cncT Tryz.prog 16 = true := by kernel_rfl
theorem cnc160 : cncT Tryz.prog 160 = true := by kernel_rfl
theorem cnc161 : cncT Tryz.prog 161 = true := by kernel_rfl
theorem cnc163 : cncT Tryz.prog 163 = true := by kernel_rfl
theorem cnc165 : cncT Tryz.prog 165 = true := by kernel_rfl
theorem cnc167 : cncT Tryz.prog 167 = true := by kernel_rfl
theorem cnc168 : cncT Tryz.prog 168 = true := by kernel_rfl
theorem cnc17 : cncT Tryz.prog 17 = true := by kernel_rfl
theorem cnc170 : cncT Tryz.prog 170 = true := by kernel_rfl
theorem cnc171 : cncT Tryz.prog 171 = true := by kernel_rfl
theorem cnc172 : cncT Tryz.prog 172 = true := by kernel_rfl
theorem cnc173 : cncT Tryz.prog 173 = true := by kernel_rfl
theorem cnc174 : cncT Tryz.prog 174 = true := by kernel_rfl
theorem cnc175 : cncT Tryz.prog 175 = true := by kernel_rfl
theorem cnc176 : cncT Tryz.prog 176 = true := by kernel_rfl
theorem cnc177 : cncT Tryz.prog 177 = true := by kernel_rfl
theorem cnc178 : cncT Tryz.prog 178 = true := by kernel_rfl
theorem cnc179 : cncT Tryz.prog 179 = true := by kernel_rfl
theorem cnc180 : cncT Tryz.prog 180 = true := by kernel_rfl
theorem cnc181 : cncT Tryz.prog 181 = true := by kernel_rfl
theorem cnc182 : cncT Tryz.prog 182 = true := by kernel_rfl
theorem cnc183 : cncT Tryz.prog 183 = true := by kernel_rfl
theorem cnc184 : cncT Tryz.prog 184 = true := by kernel_rfl
theorem cnc185 : cncT Tryz.prog 185 = true := by kernel_rfl
theorem cnc186 : cncT Tryz.prog 186 = true := by kernel_rfl
theorem cnc189 : cncT Tryz.prog 189 = true := by kernel_rfl
theorem cnc19 : cncT Tryz.prog 19 = true := by kernel_rfl
theorem cnc190 : cncT Tryz.prog 190 = true := by kernel_rfl
theorem cnc191 : cncT Tryz.prog 191 = true := by kernel_rfl
theorem cnc194 : cncT Tryz.prog 194 = true := by kernel_rfl
theorem cnc195 : cncT Tryz.prog 195 = true := by kernel_rfl
theorem cnc197 : cncT Tryz.prog 197 = true := by kernel_rfl
theorem cnc198 : cncT Tryz.prog 198 = true := by kernel_rfl
theorem cnc2 : cncT Tryz.prog 2 = true := by kernel_rfl
theorem cnc202 : cncT Tryz.prog 202 = true := by kernel_rfl
theorem cnc203 : cncT Tryz.prog 203 = true := by kernel_rfl
theorem cnc204 : cncT Tryz.prog 204 = true := by kernel_rfl
theorem cnc207 : cncT Tryz.prog 207 = true := by kernel_rfl
theorem cnc209 : cncT Tryz.prog 209 = true := by kernel_rfl
theorem cnc21 : cncT Tryz.prog 21 = true := by kernel_rfl
theorem cnc210 : cncT Tryz.prog 210 = true := by kernel_rfl
theorem cnc212 : cncT Tryz.prog 212 = true := by kernel_rfl
theorem cnc216 : cncT Tryz.prog 216 = true := by kernel_rfl
theorem cnc217 : cncT Tryz.prog 217 = true := by kernel_rfl
theorem cnc219 : cncT Tryz.prog 219 = true := by kernel_rfl
theorem cnc22 : cncT Tryz.prog 22 = true := by kernel_rfl
theorem cnc222 : cncT Tryz.prog 222 = true := by kernel_rfl
theorem cnc223 : cncT Tryz.prog 223 = true := by kernel_rfl
theorem cnc224 : cncT Tryz.prog 224 = true := by kernel_rfl
theorem cnc225 : cncT Tryz.prog 225 = true := by kernel_rfl
theorem cnc226 : cncT Tryz.prog 226 = true := by kernel_rfl
theorem cnc227 : cncT Tryz.prog 227 = true := by kernel_rfl
theorem cnc229 : cncT Tryz.prog 229 = true := by kernel_rfl
theorem cnc24 : cncT Tryz.prog 24 = true := by kernel_rfl
theorem cnc25 : cncT Tryz.prog 25 = true := by kernel_rfl
theorem cnc26 : cncT Tryz.prog 26 = true := by kernel_rfl
theorem cnc28 : cncT Tryz.prog 28 = true := by kernel_rfl
theorem cnc29 : cncT Tryz.prog 29 = true := by kernel_rfl
theorem cnc3 : cncT Tryz.prog 3 = true := by kernel_rfl
theorem cnc30 : cncT Tryz.prog 30 = true := by kernel_rfl
theorem cnc32 : cncT Tryz.prog 32 = true := by kernel_rfl
theorem cnc33 : cncT Tryz.prog 33 = true := by kernel_rfl
theorem cnc35 : cncT Tryz.prog 35 = true := by kernel_rfl
theorem cnc37 : cncT Tryz.prog 37 = true := by kernel_rfl
theorem cnc38 : cncT Tryz.prog 38 = true := by kernel_rfl
theorem cnc39 : cncT Tryz.prog 39 = true := by kernel_rfl
theorem cnc4 : cncT Tryz.prog 4 = true := by kernel_rfl
theorem cnc40 : cncT Tryz.prog 40 = true := by kernel_rfl
theorem cnc41 : cncT Tryz.prog 41 = true := by kernel_rfl
theorem cnc42 : cncT Tryz.prog 42 = true := by kernel_rfl
theorem cnc43 : cncT Tryz.prog 43 = true := by kernel_rfl
theorem cnc44 : cncT Tryz.prog 44 = true := by kernel_rfl
theorem cnc46 : cncT Tryz.prog 46 = true := by kernel_rfl
theorem cnc47 : cncT Tryz.prog 47 = true := by kernel_rfl
theorem cnc48 : cncT Tryz.prog 48 = true := by kernel_rfl
theorem cnc5 : cncT Tryz.prog 5 = true := by kernel_rfl
theorem cnc50 : cncT Tryz.prog 50 = true := by kernel_rfl
theorem cnc52 : cncT Tryz.prog 52 = true := by kernel_rfl
theorem cnc53 : cncT Tryz.prog 53 = true := by kernel_rfl
theorem cnc54 : cncT Tryz.prog 54 = true := by kernel_rfl
theorem cnc55 : cncT Tryz.prog 55 = true := by kernel_rfl
theorem cnc56 : cncT Tryz.prog 56 = true := by kernel_rfl
theorem cnc57 : cncT Tryz.prog 57 = true := by kernel_rfl
theorem cnc58 : cncT Tryz.prog 58 = true := by kernel_rfl
theorem cnc59 : cncT Tryz.prog 59 = true := by kernel_rfl
theorem cnc6 : cncT Tryz.prog 6 = true := by kernel_rfl
theorem cnc60 : cncT Tryz.prog 60 = true := by kernel_rfl
theorem cnc61 : cncT Tryz.prog 61 = true := by kernel_rfl
theorem cnc62 : cncT Tryz.prog 62 = true := by kernel_rfl
theorem cnc63 : cncT Tryz.prog 63 = true := by kernel_rfl
theorem cnc64 : cncT Tryz.prog 64 = true := by kernel_rfl
theorem cnc65 : cncT Tryz.prog 65 = true := by kernel_rfl
theorem cnc66 : cncT Tryz.prog 66 = true := by kernel_rfl
theorem cnc68 : cncT Tryz.prog 68 = true := by kernel_rfl
theorem cnc69 : cncT Tryz.prog 69 = true := by kernel_rfl
theorem cnc70 : cncT Tryz.prog 70 = true := by kernel_rfl
theorem cnc72 : cncT Tryz.prog 72 = true := by kernel_rfl
theorem cnc73 : cncT Tryz.prog 73 = true := by kernel_rfl
theorem cnc74 : cncT Tryz.prog 74 = true := by kernel_rfl
theorem cnc75 : cncT Tryz.prog 75 = true := by kernel_rfl
theorem cnc76 : cncT Tryz.prog 76 = true := by kernel_rfl
theorem cnc78 : cncT Tryz.prog 78 = true := by kernel_rfl
theorem cnc79 : cncT Tryz.prog 79 = true := by kernel_rfl
theorem cnc8 : cncT Tryz.prog 8 = true := by kernel_rfl
theorem cnc80 : cncT Tryz.prog 80 = true := by kernel_rfl
theorem cnc81 : cncT Tryz.prog 81 = true := by kernel_rfl
theorem cnc82 : cncT Tryz.prog 82 = true := by kernel_rfl
theorem cnc83 : cncT Tryz.prog 83 = true := by kernel_rfl
theorem cnc85 : cncT Tryz.prog 85 = true := by kernel_rfl
theorem cnc86 : cncT Tryz.prog 86 = true := by kernel_rfl
theorem cnc87 : cncT Tryz.prog 87 = true := by kernel_rfl
theorem cnc88 : cncT Tryz.prog 88 = true := by kernel_rfl
theorem cnc89 : cncT Tryz.prog 89 = true := by kernel_rfl
theorem cnc9 : cncT Tryz.prog 9 = true := by kernel_rfl
theorem cnc90 : cncT Tryz.prog 90 = true := by kernel_rfl
theorem cnc91 : cncT Tryz.prog 91 = true := by kernel_rfl
theorem cnc92 : cncT Tryz.prog 92 = true := by kernel_rfl
theorem cnc93 : cncT Tryz.prog 93 = true := by kernel_rfl
theorem cnc95 : cncT Tryz.prog 95 = true := by kernel_rfl
theorem cnc96 : cncT Tryz.prog 96 = true := by kernel_rfl
theorem cnc97 : cncT Tryz.prog 97 = true := by kernel_rfl
theorem cnc98 : cncT Tryz.prog 98 = true := by kernel_rfl
theorem cnc99 : cncT Tryz.prog 99 = true := by kernel_rfl
theorem fl117_0 : fldT Tryz.prog 117 0 = some 0 := by kernel_rfl
theorem fl117_1 : fldT Tryz.prog 117 1 = some 1 := by kernel_rfl
theorem fl14_0 : fldT Tryz.prog 14 0 = some 0 := by kernel_rfl
theorem fl14_1 : fldT Tryz.prog 14 1 = some 1 := by kernel_rfl
theorem fl167_0 : fldT Tryz.prog 167 0 = some 0 := by kernel_rfl
theorem fl167_1 : fldT Tryz.prog 167 1 = some 1 := by kernel_rfl
theorem fl167_2 : fldT Tryz.prog 167 2 = some 2 := by kernel_rfl
theorem fl170_0 : fldT Tryz.prog 170 0 = some 0 := by kernel_rfl
theorem fl176_0 : fldT Tryz.prog 176 0 = some 0 := by kernel_rfl
theorem fl176_1 : fldT Tryz.prog 176 1 = some 1 := by kernel_rfl
theorem fl176_2 : fldT Tryz.prog 176 2 = some 2 := by kernel_rfl
theorem fl19_0 : fldT Tryz.prog 19 0 = some 0 := by kernel_rfl
theorem fl197_0 : fldT Tryz.prog 197 0 = some 0 := by kernel_rfl
theorem fl197_1 : fldT Tryz.prog 197 1 = some 1 := by kernel_rfl
theorem fl219_0 : fldT Tryz.prog 219 0 = some 0 := by kernel_rfl
theorem fl219_1 : fldT Tryz.prog 219 1 = some 1 := by kernel_rfl
theorem fl219_2 : fldT Tryz.prog 219 2 = some 2 := by kernel_rfl
theorem fl219_3 : fldT Tryz.prog 219 3 = some 3 := by kernel_rfl
theorem fl229_0 : fldT Tryz.prog 229 0 = some 0 := by kernel_rfl
theorem fl229_1 : fldT Tryz.prog 229 1 = some 1 := by kernel_rfl
theorem fl229_10 : fldT Tryz.prog 229 10 = some 10 := by kernel_rfl
theorem fl229_2 : fldT Tryz.prog 229 2 = some 2 := by kernel_rfl
theorem fl229_3 : fldT Tryz.prog 229 3 = some 3 := by kernel_rfl
theorem fl229_4 : fldT Tryz.prog 229 4 = some 4 := by kernel_rfl
theorem fl229_5 : fldT Tryz.prog 229 5 = some 5 := by kernel_rfl
theorem fl229_6 : fldT Tryz.prog 229 6 = some 6 := by kernel_rfl
theorem fl229_7 : fldT Tryz.prog 229 7 = some 7 := by kernel_rfl
theorem fl229_8 : fldT Tryz.prog 229 8 = some 8 := by kernel_rfl
theorem fl229_9 : fldT Tryz.prog 229 9 = some 9 := by kernel_rfl
theorem fl24_0 : fldT Tryz.prog 24 0 = some 0 := by kernel_rfl
theorem fl24_1 : fldT Tryz.prog 24 1 = some 1 := by kernel_rfl
theorem fl24_2 : fldT Tryz.prog 24 2 = some 2 := by kernel_rfl
theorem fl24_3 : fldT Tryz.prog 24 3 = some 3 := by kernel_rfl
theorem fl28_0 : fldT Tryz.prog 28 0 = some 0 := by kernel_rfl
theorem fl28_1 : fldT Tryz.prog 28 1 = some 1 := by kernel_rfl
theorem fl28_2 : fldT Tryz.prog 28 2 = some 2 := by kernel_rfl
theorem fl28_3 : fldT Tryz.prog 28 3 = some 3 := by kernel_rfl
theorem fl35_0 : fldT Tryz.prog 35 0 = some 0 := by kernel_rfl
theorem fl35_1 : fldT Tryz.prog 35 1 = some 1 := by kernel_rfl
theorem fl35_2 : fldT Tryz.prog 35 2 = some 2 := by kernel_rfl
theorem fl35_3 : fldT Tryz.prog 35 3 = some 3 := by kernel_rfl
theorem fl50_0 : fldT Tryz.prog 50 0 = some 0 := by kernel_rfl
theorem fl50_1 : fldT Tryz.prog 50 1 = some 1 := by kernel_rfl
theorem fl50_2 : fldT Tryz.prog 50 2 = some 2 := by kernel_rfl
theorem fl50_3 : fldT Tryz.prog 50 3 = some 3 := by kernel_rfl
theorem fl68_0 : fldT Tryz.prog 68 0 = some 0 := by kernel_rfl
theorem fl68_1 : fldT Tryz.prog 68 1 = some 1 := by kernel_rfl
theorem fl72_0 : fldT Tryz.prog 72 0 = some 0 := by kernel_rfl
theorem fl72_1 : fldT Tryz.prog 72 1 = some 1 := by kernel_rfl
theorem fl72_2 : fldT Tryz.prog 72 2 = some 2 := by kernel_rfl
theorem fl78_0 : fldT Tryz.prog 78 0 = some 0 := by kernel_rfl
theorem fl78_1 : fldT Tryz.prog 78 1 = some 1 := by kernel_rfl
theorem fl8_0 : fldT Tryz.prog 8 0 = some 0 := by kernel_rfl
theorem fl8_1 : fldT Tryz.prog 8 1 = some 1 := by kernel_rfl
theorem fl8_2 : fldT Tryz.prog 8 2 = some 2 := by kernel_rfl
theorem fl8_3 : fldT Tryz.prog 8 3 = some 3 := by kernel_rfl
theorem fl85_0 : fldT Tryz.prog 85 0 = some 0 := by kernel_rfl
theorem fl85_1 : fldT Tryz.prog 85 1 = some 1 := by kernel_rfl
theorem fl95_0 : fldT Tryz.prog 95 0 = some 0 := by kernel_rfl
theorem fl95_1 : fldT Tryz.prog 95 1 = some 1 := by kernel_rfl
theorem fl97_0 : fldT Tryz.prog 97 0 = some 0 := by kernel_rfl
theorem fl97_1 : fldT Tryz.prog 97 1 = some 1 := by kernel_rfl
theorem fl97_2 : fldT Tryz.prog 97 2 = some 2 := by kernel_rfl
theorem lay117 : layT Tryz.prog 117 = some #[(0, 1), (1, 1)] := by kernel_rfl
theorem lay14 : layT Tryz.prog 14 = some #[(0, 1), (1, 1)] := by kernel_rfl
theorem lay167 : layT Tryz.prog 167 = some #[(0, 1), (1, 1), (2, 1)] := by kernel_rfl
theorem lay170 : layT Tryz.prog 170 = some #[(0, 4)] := by kernel_rfl
theorem lay176 : layT Tryz.prog 176 = some #[(0, 1), (1, 1), (2, 1)] := by kernel_rfl
theorem lay19 : layT Tryz.prog 19 = some #[(0, 1)] := by kernel_rfl
theorem lay197 : layT Tryz.prog 197 = some #[(0, 1), (1, 1)] := by kernel_rfl
theorem lay219 : layT Tryz.prog 219 = some #[(0, 1), (1, 1), (2, 1), (3, 1)] := by kernel_rfl
theorem lay222 : layT Tryz.prog 222 = some #[(0, 0)] := by kernel_rfl
theorem lay229 : layT Tryz.prog 229 = some #[(0, 1), (1, 1), (2, 1), (3, 1), (4, 1), (5, 1), (6, 1), (7, 1), (8, 1), (9, 1), (10, 1)] := by kernel_rfl
theorem lay24 : layT Tryz.prog 24 = some #[(0, 1), (1, 1), (2, 1), (3, 1)] := by kernel_rfl
theorem lay28 : layT Tryz.prog 28 = some #[(0, 1), (1, 1), (2, 1), (3, 4)] := by kernel_rfl
theorem lay35 : layT Tryz.prog 35 = some #[(0, 1), (1, 1), (2, 1), (3, 1)] := by kernel_rfl
theorem lay50 : layT Tryz.prog 50 = some #[(0, 1), (1, 1), (2, 1), (3, 4)] := by kernel_rfl
theorem lay68 : layT Tryz.prog 68 = some #[(0, 1), (1, 4)] := by kernel_rfl
theorem lay72 : layT Tryz.prog 72 = some #[(0, 1), (1, 1), (2, 1)] := by kernel_rfl
theorem lay78 : layT Tryz.prog 78 = some #[(0, 1), (1, 1)] := by kernel_rfl
theorem lay8 : layT Tryz.prog 8 = some #[(0, 1), (1, 1), (2, 1), (3, 1)] := by kernel_rfl
theorem lay85 : layT Tryz.prog 85 = some #[(0, 1), (1, 1)] := by kernel_rfl
theorem lay95 : layT Tryz.prog 95 = some #[(0, 1), (1, 4)] := by kernel_rfl
theorem lay97 : layT Tryz.prog 97 = some #[(0, 1), (1, 1), (2, 1)] := by kernel_rfl
theorem mix : Tryz.prog.follows .mixedOrders = true := by kernel_rfl
theorem row115 : rowT Tryz.prog 115 117 2 32 = true := by kernel_rfl
theorem row119 : rowT Tryz.prog 119 3 1 8 = true := by kernel_rfl
theorem row120 : rowT Tryz.prog 120 25 1 24 = true := by kernel_rfl
theorem row141 : rowT Tryz.prog 141 167 3 32 = true := by kernel_rfl
theorem row145 : rowT Tryz.prog 145 176 3 32 = true := by kernel_rfl
theorem row177 : rowT Tryz.prog 177 145 1 24 = true := by kernel_rfl
theorem row204 : rowT Tryz.prog 204 206 1 16 = true := by kernel_rfl
theorem row22 : rowT Tryz.prog 22 24 4 56 = true := by kernel_rfl
theorem row25 : rowT Tryz.prog 25 72 3 40 = true := by kernel_rfl
theorem row26 : rowT Tryz.prog 26 68 5 72 = true := by kernel_rfl
theorem row29 : rowT Tryz.prog 29 5 1 1 = true := by kernel_rfl
theorem row33 : rowT Tryz.prog 33 35 4 56 = true := by kernel_rfl
theorem row43 : rowT Tryz.prog 43 28 7 128 = true := by kernel_rfl
theorem row47 : rowT Tryz.prog 47 97 3 40 = true := by kernel_rfl
theorem row48 : rowT Tryz.prog 48 95 5 72 = true := by kernel_rfl
theorem row58 : rowT Tryz.prog 58 9 1 16 = true := by kernel_rfl
theorem sli115 : sliT Tryz.prog 115 = some 117 := by kernel_rfl
theorem sli119 : sliT Tryz.prog 119 = some 3 := by kernel_rfl
theorem sli120 : sliT Tryz.prog 120 = some 25 := by kernel_rfl
theorem sli141 : sliT Tryz.prog 141 = some 167 := by kernel_rfl
theorem sli145 : sliT Tryz.prog 145 = some 176 := by kernel_rfl
theorem sli177 : sliT Tryz.prog 177 = some 145 := by kernel_rfl
theorem sli204 : sliT Tryz.prog 204 = some 206 := by kernel_rfl
theorem sli22 : sliT Tryz.prog 22 = some 24 := by kernel_rfl
theorem sli25 : sliT Tryz.prog 25 = some 72 := by kernel_rfl
theorem sli26 : sliT Tryz.prog 26 = some 68 := by kernel_rfl
theorem sli29 : sliT Tryz.prog 29 = some 5 := by kernel_rfl
theorem sli33 : sliT Tryz.prog 33 = some 35 := by kernel_rfl
theorem sli43 : sliT Tryz.prog 43 = some 28 := by kernel_rfl
theorem sli47 : sliT Tryz.prog 47 = some 97 := by kernel_rfl
theorem sli48 : sliT Tryz.prog 48 = some 95 := by kernel_rfl
theorem sli58 : sliT Tryz.prog 58 = some 9 := by kernel_rfl
theorem str10 : strT Tryz.prog 10 = true := by kernel_rfl
theorem str11 : strT Tryz.prog 11 = true := by kernel_rfl
theorem str172 : strT Tryz.prog 172 = true := by kernel_rfl
theorem str174 : strT Tryz.prog 174 = true := by kernel_rfl
theorem str175 : strT Tryz.prog 175 = true := by kernel_rfl
theorem str9 : strT Tryz.prog 9 = true := by kernel_rfl
theorem sz10 : szT Tryz.prog 10 1 = true := by kernel_rfl
theorem sz11 : szT Tryz.prog 11 1 = true := by kernel_rfl
theorem sz115 : szT Tryz.prog 115 1 = true := by kernel_rfl
theorem sz117 : szT Tryz.prog 117 2 = true := by kernel_rfl
theorem sz119 : szT Tryz.prog 119 1 = true := by kernel_rfl
theorem sz12 : szT Tryz.prog 12 1 = true := by kernel_rfl
theorem sz120 : szT Tryz.prog 120 1 = true := by kernel_rfl
theorem sz128 : szT Tryz.prog 128 1 = true := by kernel_rfl
theorem sz136 : szT Tryz.prog 136 1 = true := by kernel_rfl
theorem sz14 : szT Tryz.prog 14 2 = true := by kernel_rfl
theorem sz141 : szT Tryz.prog 141 1 = true := by kernel_rfl
theorem sz145 : szT Tryz.prog 145 1 = true := by kernel_rfl
theorem sz148 : szT Tryz.prog 148 1 = true := by kernel_rfl
theorem sz15 : szT Tryz.prog 15 1 = true := by kernel_rfl
theorem sz157 : szT Tryz.prog 157 1 = true := by kernel_rfl
theorem sz16 : szT Tryz.prog 16 1 = true := by kernel_rfl
theorem sz167 : szT Tryz.prog 167 3 = true := by kernel_rfl
theorem sz17 : szT Tryz.prog 17 1 = true := by kernel_rfl
theorem sz170 : szT Tryz.prog 170 4 = true := by kernel_rfl
theorem sz172 : szT Tryz.prog 172 1 = true := by kernel_rfl
theorem sz174 : szT Tryz.prog 174 1 = true := by kernel_rfl
theorem sz175 : szT Tryz.prog 175 1 = true := by kernel_rfl
theorem sz176 : szT Tryz.prog 176 3 = true := by kernel_rfl
theorem sz177 : szT Tryz.prog 177 1 = true := by kernel_rfl
theorem sz181 : szT Tryz.prog 181 1 = true := by kernel_rfl
theorem sz185 : szT Tryz.prog 185 1 = true := by kernel_rfl
theorem sz19 : szT Tryz.prog 19 1 = true := by kernel_rfl
theorem sz195 : szT Tryz.prog 195 1 = true := by kernel_rfl
theorem sz197 : szT Tryz.prog 197 2 = true := by kernel_rfl
theorem sz199 : szT Tryz.prog 199 1 = true := by kernel_rfl
theorem sz2 : szT Tryz.prog 2 1 = true := by kernel_rfl
theorem sz20 : szT Tryz.prog 20 1 = true := by kernel_rfl
theorem sz200 : szT Tryz.prog 200 1 = true := by kernel_rfl
theorem sz204 : szT Tryz.prog 204 1 = true := by kernel_rfl
theorem sz205 : szT Tryz.prog 205 1 = true := by kernel_rfl
theorem sz206 : szT Tryz.prog 206 1 = true := by kernel_rfl
theorem sz207 : szT Tryz.prog 207 1 = true := by kernel_rfl
theorem sz21 : szT Tryz.prog 21 1 = true := by kernel_rfl
theorem sz212 : szT Tryz.prog 212 1 = true := by kernel_rfl
theorem sz219 : szT Tryz.prog 219 4 = true := by kernel_rfl
theorem sz22 : szT Tryz.prog 22 1 = true := by kernel_rfl
theorem sz222 : szT Tryz.prog 222 0 = true := by kernel_rfl
theorem sz223 : szT Tryz.prog 223 1 = true := by kernel_rfl
theorem sz224 : szT Tryz.prog 224 1 = true := by kernel_rfl
theorem sz226 : szT Tryz.prog 226 1 = true := by kernel_rfl
theorem sz227 : szT Tryz.prog 227 1 = true := by kernel_rfl
theorem sz229 : szT Tryz.prog 229 11 = true := by kernel_rfl
theorem sz24 : szT Tryz.prog 24 4 = true := by kernel_rfl
theorem sz25 : szT Tryz.prog 25 1 = true := by kernel_rfl
theorem sz26 : szT Tryz.prog 26 1 = true := by kernel_rfl
theorem sz28 : szT Tryz.prog 28 7 = true := by kernel_rfl
theorem sz29 : szT Tryz.prog 29 1 = true := by kernel_rfl
theorem sz3 : szT Tryz.prog 3 1 = true := by kernel_rfl
theorem sz33 : szT Tryz.prog 33 1 = true := by kernel_rfl
theorem sz35 : szT Tryz.prog 35 4 = true := by kernel_rfl
theorem sz4 : szT Tryz.prog 4 1 = true := by kernel_rfl
theorem sz43 : szT Tryz.prog 43 1 = true := by kernel_rfl
theorem sz44 : szT Tryz.prog 44 1 = true := by kernel_rfl
theorem sz47 : szT Tryz.prog 47 1 = true := by kernel_rfl
theorem sz48 : szT Tryz.prog 48 1 = true := by kernel_rfl
theorem sz5 : szT Tryz.prog 5 1 = true := by kernel_rfl
theorem sz50 : szT Tryz.prog 50 7 = true := by kernel_rfl
theorem sz56 : szT Tryz.prog 56 1 = true := by kernel_rfl
theorem sz58 : szT Tryz.prog 58 1 = true := by kernel_rfl
theorem sz6 : szT Tryz.prog 6 1 = true := by kernel_rfl
theorem sz68 : szT Tryz.prog 68 5 = true := by kernel_rfl
theorem sz72 : szT Tryz.prog 72 3 = true := by kernel_rfl
theorem sz75 : szT Tryz.prog 75 1 = true := by kernel_rfl
theorem sz76 : szT Tryz.prog 76 1 = true := by kernel_rfl
theorem sz78 : szT Tryz.prog 78 2 = true := by kernel_rfl
theorem sz8 : szT Tryz.prog 8 4 = true := by kernel_rfl
theorem sz83 : szT Tryz.prog 83 1 = true := by kernel_rfl
theorem sz85 : szT Tryz.prog 85 2 = true := by kernel_rfl
theorem sz9 : szT Tryz.prog 9 1 = true := by kernel_rfl
theorem sz95 : szT Tryz.prog 95 5 = true := by kernel_rfl
theorem sz97 : szT Tryz.prog 97 3 = true := by kernel_rfl
theorem sz99 : szT Tryz.prog 99 1 = true := by kernel_rfl
theorem t1_1 : ty1 Tryz.prog 1 = true := by kernel_rfl
theorem t1_10 : ty1 Tryz.prog 10 = true := by kernel_rfl
theorem t1_100 : ty1 Tryz.prog 100 = true := by kernel_rfl
theorem t1_101 : ty1 Tryz.prog 101 = true := by kernel_rfl
theorem t1_102 : ty1 Tryz.prog 102 = true := by kernel_rfl
theorem t1_103 : ty1 Tryz.prog 103 = true := by kernel_rfl
theorem t1_104 : ty1 Tryz.prog 104 = true := by kernel_rfl
theorem t1_105 : ty1 Tryz.prog 105 = true := by kernel_rfl
theorem t1_106 : ty1 Tryz.prog 106 = true := by kernel_rfl
theorem t1_107 : ty1 Tryz.prog 107 = true := by kernel_rfl
theorem t1_108 : ty1 Tryz.prog 108 = true := by kernel_rfl
theorem t1_109 : ty1 Tryz.prog 109 = true := by kernel_rfl
theorem t1_11 : ty1 Tryz.prog 11 = true := by kernel_rfl
theorem t1_110 : ty1 Tryz.prog 110 = true := by kernel_rfl
theorem t1_112 : ty1 Tryz.prog 112 = true := by kernel_rfl
theorem t1_113 : ty1 Tryz.prog 113 = true := by kernel_rfl
theorem t1_114 : ty1 Tryz.prog 114 = true := by kernel_rfl
theorem t1_115 : ty1 Tryz.prog 115 = true := by kernel_rfl
theorem t1_118 : ty1 Tryz.prog 118 = true := by kernel_rfl
theorem t1_119 : ty1 Tryz.prog 119 = true := by kernel_rfl
theorem t1_12 : ty1 Tryz.prog 12 = true := by kernel_rfl
theorem t1_120 : ty1 Tryz.prog 120 = true := by kernel_rfl
theorem t1_121 : ty1 Tryz.prog 121 = true := by kernel_rfl
theorem t1_122 : ty1 Tryz.prog 122 = true := by kernel_rfl
theorem t1_123 : ty1 Tryz.prog 123 = true := by kernel_rfl
theorem t1_124 : ty1 Tryz.prog 124 = true := by kernel_rfl
theorem t1_125 : ty1 Tryz.prog 125 = true := by kernel_rfl
theorem t1_126 : ty1 Tryz.prog 126 = true := by kernel_rfl
theorem t1_127 : ty1 Tryz.prog 127 = true := by kernel_rfl
theorem t1_128 : ty1 Tryz.prog 128 = true := by kernel_rfl
theorem t1_129 : ty1 Tryz.prog 129 = true := by kernel_rfl
theorem t1_130 : ty1 Tryz.prog 130 = true := by kernel_rfl
theorem t1_131 : ty1 Tryz.prog 131 = true := by kernel_rfl
theorem t1_132 : ty1 Tryz.prog 132 = true := by kernel_rfl
theorem t1_133 : ty1 Tryz.prog 133 = true := by kernel_rfl
theorem t1_134 : ty1 Tryz.prog 134 = true := by kernel_rfl
theorem t1_135 : ty1 Tryz.prog 135 = true := by kernel_rfl
theorem t1_136 : ty1 Tryz.prog 136 = true := by kernel_rfl
theorem t1_137 : ty1 Tryz.prog 137 = true := by kernel_rfl
theorem t1_138 : ty1 Tryz.prog 138 = true := by kernel_rfl
theorem t1_139 : ty1 Tryz.prog 139 = true := by kernel_rfl
theorem t1_140 : ty1 Tryz.prog 140 = true := by kernel_rfl
theorem t1_141 : ty1 Tryz.prog 141 = true := by kernel_rfl
theorem t1_142 : ty1 Tryz.prog 142 = true := by kernel_rfl
theorem t1_143 : ty1 Tryz.prog 143 = true := by kernel_rfl
theorem t1_144 : ty1 Tryz.prog 144 = true := by kernel_rfl
theorem t1_145 : ty1 Tryz.prog 145 = true := by kernel_rfl
theorem t1_146 : ty1 Tryz.prog 146 = true := by kernel_rfl
theorem t1_147 : ty1 Tryz.prog 147 = true := by kernel_rfl
theorem t1_148 : ty1 Tryz.prog 148 = true := by kernel_rfl
theorem t1_15 : ty1 Tryz.prog 15 = true := by kernel_rfl
theorem t1_150 : ty1 Tryz.prog 150 = true := by kernel_rfl
theorem t1_151 : ty1 Tryz.prog 151 = true := by kernel_rfl
theorem t1_152 : ty1 Tryz.prog 152 = true := by kernel_rfl
theorem t1_153 : ty1 Tryz.prog 153 = true := by kernel_rfl
theorem t1_155 : ty1 Tryz.prog 155 = true := by kernel_rfl
theorem t1_156 : ty1 Tryz.prog 156 = true := by kernel_rfl
theorem t1_157 : ty1 Tryz.prog 157 = true := by kernel_rfl
theorem t1_158 : ty1 Tryz.prog 158 = true := by kernel_rfl
theorem t1_159 : ty1 Tryz.prog 159 = true := by kernel_rfl
theorem t1_16 : ty1 Tryz.prog 16 = true := by kernel_rfl
theorem t1_160 : ty1 Tryz.prog 160 = true := by kernel_rfl
theorem t1_161 : ty1 Tryz.prog 161 = true := by kernel_rfl
theorem t1_163 : ty1 Tryz.prog 163 = true := by kernel_rfl
theorem t1_165 : ty1 Tryz.prog 165 = true := by kernel_rfl
theorem t1_168 : ty1 Tryz.prog 168 = true := by kernel_rfl
theorem t1_17 : ty1 Tryz.prog 17 = true := by kernel_rfl
theorem t1_171 : ty1 Tryz.prog 171 = true := by kernel_rfl
theorem t1_172 : ty1 Tryz.prog 172 = true := by kernel_rfl
theorem t1_173 : ty1 Tryz.prog 173 = true := by kernel_rfl
theorem t1_174 : ty1 Tryz.prog 174 = true := by kernel_rfl
theorem t1_175 : ty1 Tryz.prog 175 = true := by kernel_rfl
theorem t1_177 : ty1 Tryz.prog 177 = true := by kernel_rfl
theorem t1_178 : ty1 Tryz.prog 178 = true := by kernel_rfl
theorem t1_179 : ty1 Tryz.prog 179 = true := by kernel_rfl
theorem t1_180 : ty1 Tryz.prog 180 = true := by kernel_rfl
theorem t1_181 : ty1 Tryz.prog 181 = true := by kernel_rfl
theorem t1_182 : ty1 Tryz.prog 182 = true := by kernel_rfl
theorem t1_183 : ty1 Tryz.prog 183 = true := by kernel_rfl
theorem t1_184 : ty1 Tryz.prog 184 = true := by kernel_rfl
theorem t1_185 : ty1 Tryz.prog 185 = true := by kernel_rfl
theorem t1_186 : ty1 Tryz.prog 186 = true := by kernel_rfl
theorem t1_189 : ty1 Tryz.prog 189 = true := by kernel_rfl
theorem t1_190 : ty1 Tryz.prog 190 = true := by kernel_rfl
theorem t1_191 : ty1 Tryz.prog 191 = true := by kernel_rfl
theorem t1_194 : ty1 Tryz.prog 194 = true := by kernel_rfl
theorem t1_195 : ty1 Tryz.prog 195 = true := by kernel_rfl
theorem t1_198 : ty1 Tryz.prog 198 = true := by kernel_rfl
theorem t1_199 : ty1 Tryz.prog 199 = true := by kernel_rfl
theorem t1_2 : ty1 Tryz.prog 2 = true := by kernel_rfl
theorem t1_20 : ty1 Tryz.prog 20 = true := by kernel_rfl
theorem t1_200 : ty1 Tryz.prog 200 = true := by kernel_rfl
theorem t1_202 : ty1 Tryz.prog 202 = true := by kernel_rfl
theorem t1_203 : ty1 Tryz.prog 203 = true := by kernel_rfl
theorem t1_204 : ty1 Tryz.prog 204 = true := by kernel_rfl
theorem t1_205 : ty1 Tryz.prog 205 = true := by kernel_rfl
theorem t1_206 : ty1 Tryz.prog 206 = true := by kernel_rfl
theorem t1_207 : ty1 Tryz.prog 207 = true := by kernel_rfl
theorem t1_209 : ty1 Tryz.prog 209 = true := by kernel_rfl
theorem t1_21 : ty1 Tryz.prog 21 = true := by kernel_rfl
theorem t1_210 : ty1 Tryz.prog 210 = true := by kernel_rfl
theorem t1_212 : ty1 Tryz.prog 212 = true := by kernel_rfl
theorem t1_216 : ty1 Tryz.prog 216 = true := by kernel_rfl
theorem t1_217 : ty1 Tryz.prog 217 = true := by kernel_rfl
theorem t1_22 : ty1 Tryz.prog 22 = true := by kernel_rfl
theorem t1_223 : ty1 Tryz.prog 223 = true := by kernel_rfl
theorem t1_224 : ty1 Tryz.prog 224 = true := by kernel_rfl
theorem t1_225 : ty1 Tryz.prog 225 = true := by kernel_rfl
theorem t1_226 : ty1 Tryz.prog 226 = true := by kernel_rfl
theorem t1_227 : ty1 Tryz.prog 227 = true := by kernel_rfl
theorem t1_25 : ty1 Tryz.prog 25 = true := by kernel_rfl
theorem t1_26 : ty1 Tryz.prog 26 = true := by kernel_rfl
theorem t1_29 : ty1 Tryz.prog 29 = true := by kernel_rfl
theorem t1_3 : ty1 Tryz.prog 3 = true := by kernel_rfl
theorem t1_30 : ty1 Tryz.prog 30 = true := by kernel_rfl
theorem t1_32 : ty1 Tryz.prog 32 = true := by kernel_rfl
theorem t1_33 : ty1 Tryz.prog 33 = true := by kernel_rfl
theorem t1_37 : ty1 Tryz.prog 37 = true := by kernel_rfl
theorem t1_38 : ty1 Tryz.prog 38 = true := by kernel_rfl
theorem t1_39 : ty1 Tryz.prog 39 = true := by kernel_rfl
theorem t1_4 : ty1 Tryz.prog 4 = true := by kernel_rfl
theorem t1_40 : ty1 Tryz.prog 40 = true := by kernel_rfl
theorem t1_41 : ty1 Tryz.prog 41 = true := by kernel_rfl
theorem t1_42 : ty1 Tryz.prog 42 = true := by kernel_rfl
theorem t1_43 : ty1 Tryz.prog 43 = true := by kernel_rfl
theorem t1_44 : ty1 Tryz.prog 44 = true := by kernel_rfl
theorem t1_46 : ty1 Tryz.prog 46 = true := by kernel_rfl
theorem t1_47 : ty1 Tryz.prog 47 = true := by kernel_rfl
theorem t1_48 : ty1 Tryz.prog 48 = true := by kernel_rfl
theorem t1_5 : ty1 Tryz.prog 5 = true := by kernel_rfl
theorem t1_52 : ty1 Tryz.prog 52 = true := by kernel_rfl
theorem t1_53 : ty1 Tryz.prog 53 = true := by kernel_rfl
theorem t1_54 : ty1 Tryz.prog 54 = true := by kernel_rfl
theorem t1_55 : ty1 Tryz.prog 55 = true := by kernel_rfl
theorem t1_56 : ty1 Tryz.prog 56 = true := by kernel_rfl
theorem t1_57 : ty1 Tryz.prog 57 = true := by kernel_rfl
theorem t1_58 : ty1 Tryz.prog 58 = true := by kernel_rfl
theorem t1_59 : ty1 Tryz.prog 59 = true := by kernel_rfl
theorem t1_6 : ty1 Tryz.prog 6 = true := by kernel_rfl
theorem t1_60 : ty1 Tryz.prog 60 = true := by kernel_rfl
theorem t1_61 : ty1 Tryz.prog 61 = true := by kernel_rfl
theorem t1_62 : ty1 Tryz.prog 62 = true := by kernel_rfl
theorem t1_63 : ty1 Tryz.prog 63 = true := by kernel_rfl
theorem t1_64 : ty1 Tryz.prog 64 = true := by kernel_rfl
theorem t1_65 : ty1 Tryz.prog 65 = true := by kernel_rfl
theorem t1_66 : ty1 Tryz.prog 66 = true := by kernel_rfl
theorem t1_69 : ty1 Tryz.prog 69 = true := by kernel_rfl
theorem t1_70 : ty1 Tryz.prog 70 = true := by kernel_rfl
theorem t1_73 : ty1 Tryz.prog 73 = true := by kernel_rfl
theorem t1_74 : ty1 Tryz.prog 74 = true := by kernel_rfl
theorem t1_75 : ty1 Tryz.prog 75 = true := by kernel_rfl
theorem t1_76 : ty1 Tryz.prog 76 = true := by kernel_rfl
theorem t1_79 : ty1 Tryz.prog 79 = true := by kernel_rfl
theorem t1_80 : ty1 Tryz.prog 80 = true := by kernel_rfl
theorem t1_81 : ty1 Tryz.prog 81 = true := by kernel_rfl
theorem t1_82 : ty1 Tryz.prog 82 = true := by kernel_rfl
theorem t1_83 : ty1 Tryz.prog 83 = true := by kernel_rfl
theorem t1_86 : ty1 Tryz.prog 86 = true := by kernel_rfl
theorem t1_87 : ty1 Tryz.prog 87 = true := by kernel_rfl
theorem t1_88 : ty1 Tryz.prog 88 = true := by kernel_rfl
theorem t1_89 : ty1 Tryz.prog 89 = true := by kernel_rfl
theorem t1_9 : ty1 Tryz.prog 9 = true := by kernel_rfl
theorem t1_90 : ty1 Tryz.prog 90 = true := by kernel_rfl
theorem t1_91 : ty1 Tryz.prog 91 = true := by kernel_rfl
theorem t1_92 : ty1 Tryz.prog 92 = true := by kernel_rfl
theorem t1_93 : ty1 Tryz.prog 93 = true := by kernel_rfl
theorem t1_96 : ty1 Tryz.prog 96 = true := by kernel_rfl
theorem t1_98 : ty1 Tryz.prog 98 = true := by kernel_rfl
theorem t1_99 : ty1 Tryz.prog 99 = true := by kernel_rfl
theorem tN117 : tyN Tryz.prog 117 2 = true := by kernel_rfl
theorem tN14 : tyN Tryz.prog 14 2 = true := by kernel_rfl
theorem tN162 : tyN Tryz.prog 162 24 = true := by kernel_rfl
theorem tN167 : tyN Tryz.prog 167 3 = true := by kernel_rfl
theorem tN170 : tyN Tryz.prog 170 4 = true := by kernel_rfl
theorem tN176 : tyN Tryz.prog 176 3 = true := by kernel_rfl
theorem tN187 : tyN Tryz.prog 187 14 = true := by kernel_rfl
theorem tN188 : tyN Tryz.prog 188 5 = true := by kernel_rfl
theorem tN19 : tyN Tryz.prog 19 1 = true := by kernel_rfl
theorem tN192 : tyN Tryz.prog 192 20 = true := by kernel_rfl
theorem tN193 : tyN Tryz.prog 193 65 = true := by kernel_rfl
theorem tN197 : tyN Tryz.prog 197 2 = true := by kernel_rfl
theorem tN211 : tyN Tryz.prog 211 14 = true := by kernel_rfl
theorem tN213 : tyN Tryz.prog 213 32 = true := by kernel_rfl
theorem tN214 : tyN Tryz.prog 214 64 = true := by kernel_rfl
theorem tN219 : tyN Tryz.prog 219 4 = true := by kernel_rfl
theorem tN220 : tyN Tryz.prog 220 0 = true := by kernel_rfl
theorem tN222 : tyN Tryz.prog 222 0 = true := by kernel_rfl
theorem tN229 : tyN Tryz.prog 229 11 = true := by kernel_rfl
theorem tN24 : tyN Tryz.prog 24 4 = true := by kernel_rfl
theorem tN28 : tyN Tryz.prog 28 7 = true := by kernel_rfl
theorem tN35 : tyN Tryz.prog 35 4 = true := by kernel_rfl
theorem tN50 : tyN Tryz.prog 50 7 = true := by kernel_rfl
theorem tN68 : tyN Tryz.prog 68 5 = true := by kernel_rfl
theorem tN72 : tyN Tryz.prog 72 3 = true := by kernel_rfl
theorem tN78 : tyN Tryz.prog 78 2 = true := by kernel_rfl
theorem tN8 : tyN Tryz.prog 8 4 = true := by kernel_rfl
theorem tN85 : tyN Tryz.prog 85 2 = true := by kernel_rfl
theorem tN95 : tyN Tryz.prog 95 5 = true := by kernel_rfl
theorem tN97 : tyN Tryz.prog 97 3 = true := by kernel_rfl
theorem zr1 : zrT Tryz.prog 1 = some (.nilFunc) := by kernel_rfl
theorem zr10 : zrT Tryz.prog 10 = some (.string ⟨#[]⟩) := by kernel_rfl
theorem zr100 : zrT Tryz.prog 100 = some (.nilFunc) := by kernel_rfl
theorem zr101 : zrT Tryz.prog 101 = some (.nilFunc) := by kernel_rfl
theorem zr102 : zrT Tryz.prog 102 = some (.nilFunc) := by kernel_rfl
theorem zr103 : zrT Tryz.prog 103 = some (.nilFunc) := by kernel_rfl
theorem zr104 : zrT Tryz.prog 104 = some (.nilFunc) := by kernel_rfl
theorem zr105 : zrT Tryz.prog 105 = some (.nilFunc) := by kernel_rfl
theorem zr106 : zrT Tryz.prog 106 = some (.nilFunc) := by kernel_rfl
theorem zr107 : zrT Tryz.prog 107 = some (.nilFunc) := by kernel_rfl
theorem zr108 : zrT Tryz.prog 108 = some (.nilFunc) := by kernel_rfl
theorem zr109 : zrT Tryz.prog 109 = some (.nilFunc) := by kernel_rfl
theorem zr11 : zrT Tryz.prog 11 = some (.string ⟨#[]⟩) := by kernel_rfl
theorem zr110 : zrT Tryz.prog 110 = some (.nilFunc) := by kernel_rfl
theorem zr112 : zrT Tryz.prog 112 = some (.nilFunc) := by kernel_rfl
theorem zr113 : zrT Tryz.prog 113 = some (.nilFunc) := by kernel_rfl
theorem zr114 : zrT Tryz.prog 114 = some (.nilFunc) := by kernel_rfl
theorem zr115 : zrT Tryz.prog 115 = some (.slice none 0 0) := by kernel_rfl
theorem zr117 : zrT Tryz.prog 117 = some (.agg #[.string ⟨#[]⟩, .string ⟨#[]⟩]) := by kernel_rfl
theorem zr118 : zrT Tryz.prog 118 = some (.nilFunc) := by kernel_rfl
theorem zr119 : zrT Tryz.prog 119 = some (.slice none 0 0) := by kernel_rfl
theorem zr12 : zrT Tryz.prog 12 = some (.int .u64 0) := by kernel_rfl
theorem zr120 : zrT Tryz.prog 120 = some (.slice none 0 0) := by kernel_rfl
theorem zr121 : zrT Tryz.prog 121 = some (.nilFunc) := by kernel_rfl
theorem zr122 : zrT Tryz.prog 122 = some (.nilFunc) := by kernel_rfl
theorem zr123 : zrT Tryz.prog 123 = some (.nilFunc) := by kernel_rfl
theorem zr124 : zrT Tryz.prog 124 = some (.nilFunc) := by kernel_rfl
theorem zr125 : zrT Tryz.prog 125 = some (.nilFunc) := by kernel_rfl
theorem zr126 : zrT Tryz.prog 126 = some (.nilFunc) := by kernel_rfl
theorem zr127 : zrT Tryz.prog 127 = some (.nilFunc) := by kernel_rfl
theorem zr128 : zrT Tryz.prog 128 = some (.int .u64 0) := by kernel_rfl
theorem zr129 : zrT Tryz.prog 129 = some (.nilFunc) := by kernel_rfl
theorem zr130 : zrT Tryz.prog 130 = some (.nilFunc) := by kernel_rfl
theorem zr131 : zrT Tryz.prog 131 = some (.nilFunc) := by kernel_rfl
theorem zr132 : zrT Tryz.prog 132 = some (.nilFunc) := by kernel_rfl
theorem zr133 : zrT Tryz.prog 133 = some (.nilFunc) := by kernel_rfl
theorem zr134 : zrT Tryz.prog 134 = some (.nilFunc) := by kernel_rfl
theorem zr135 : zrT Tryz.prog 135 = some (.nilFunc) := by kernel_rfl
theorem zr136 : zrT Tryz.prog 136 = some (.int .u64 0) := by kernel_rfl
theorem zr137 : zrT Tryz.prog 137 = some (.nilFunc) := by kernel_rfl
theorem zr138 : zrT Tryz.prog 138 = some (.nilFunc) := by kernel_rfl
theorem zr139 : zrT Tryz.prog 139 = some (.nilFunc) := by kernel_rfl
theorem zr14 : zrT Tryz.prog 14 = some (.agg #[.string ⟨#[]⟩, .int .u64 0]) := by kernel_rfl
theorem zr140 : zrT Tryz.prog 140 = some (.nilFunc) := by kernel_rfl
theorem zr141 : zrT Tryz.prog 141 = some (.slice none 0 0) := by kernel_rfl
theorem zr142 : zrT Tryz.prog 142 = some (.nilFunc) := by kernel_rfl
theorem zr143 : zrT Tryz.prog 143 = some (.nilFunc) := by kernel_rfl
theorem zr144 : zrT Tryz.prog 144 = some (.nilFunc) := by kernel_rfl
theorem zr145 : zrT Tryz.prog 145 = some (.slice none 0 0) := by kernel_rfl
theorem zr146 : zrT Tryz.prog 146 = some (.nilFunc) := by kernel_rfl
theorem zr147 : zrT Tryz.prog 147 = some (.nilFunc) := by kernel_rfl
theorem zr148 : zrT Tryz.prog 148 = some (.int .i64 0) := by kernel_rfl
theorem zr15 : zrT Tryz.prog 15 = some (.pointer none) := by kernel_rfl
theorem zr150 : zrT Tryz.prog 150 = some (.nilFunc) := by kernel_rfl
theorem zr151 : zrT Tryz.prog 151 = some (.nilFunc) := by kernel_rfl
theorem zr152 : zrT Tryz.prog 152 = some (.nilFunc) := by kernel_rfl
theorem zr153 : zrT Tryz.prog 153 = some (.nilFunc) := by kernel_rfl
theorem zr155 : zrT Tryz.prog 155 = some (.nilFunc) := by kernel_rfl
theorem zr156 : zrT Tryz.prog 156 = some (.nilFunc) := by kernel_rfl
theorem zr157 : zrT Tryz.prog 157 = some (.int .u32 0) := by kernel_rfl
theorem zr158 : zrT Tryz.prog 158 = some (.nilFunc) := by kernel_rfl
theorem zr159 : zrT Tryz.prog 159 = some (.nilFunc) := by kernel_rfl
theorem zr16 : zrT Tryz.prog 16 = some (.pointer none) := by kernel_rfl
theorem zr160 : zrT Tryz.prog 160 = some (.nilFunc) := by kernel_rfl
theorem zr161 : zrT Tryz.prog 161 = some (.nilFunc) := by kernel_rfl
theorem zr163 : zrT Tryz.prog 163 = some (.nilFunc) := by kernel_rfl
theorem zr165 : zrT Tryz.prog 165 = some (.nilFunc) := by kernel_rfl
theorem zr167 : zrT Tryz.prog 167 = some (.agg #[.int .i64 0, .string ⟨#[]⟩, .int .i64 0]) := by kernel_rfl
theorem zr168 : zrT Tryz.prog 168 = some (.nilFunc) := by kernel_rfl
theorem zr17 : zrT Tryz.prog 17 = some (.pointer none) := by kernel_rfl
theorem zr170 : zrT Tryz.prog 170 = some (.agg #[.int .i64 0, .string ⟨#[]⟩, .int .i64 0, .slice none 0 0]) := by kernel_rfl
theorem zr171 : zrT Tryz.prog 171 = some (.nilFunc) := by kernel_rfl
theorem zr172 : zrT Tryz.prog 172 = some (.string ⟨#[]⟩) := by kernel_rfl
theorem zr173 : zrT Tryz.prog 173 = some (.nilFunc) := by kernel_rfl
theorem zr174 : zrT Tryz.prog 174 = some (.string ⟨#[]⟩) := by kernel_rfl
theorem zr175 : zrT Tryz.prog 175 = some (.string ⟨#[]⟩) := by kernel_rfl
theorem zr176 : zrT Tryz.prog 176 = some (.agg #[.int .i64 0, .string ⟨#[]⟩, .int .i64 0]) := by kernel_rfl
theorem zr177 : zrT Tryz.prog 177 = some (.slice none 0 0) := by kernel_rfl
theorem zr178 : zrT Tryz.prog 178 = some (.nilFunc) := by kernel_rfl
theorem zr179 : zrT Tryz.prog 179 = some (.nilFunc) := by kernel_rfl
theorem zr180 : zrT Tryz.prog 180 = some (.nilFunc) := by kernel_rfl
theorem zr181 : zrT Tryz.prog 181 = some (.int .u64 0) := by kernel_rfl
theorem zr182 : zrT Tryz.prog 182 = some (.nilFunc) := by kernel_rfl
theorem zr183 : zrT Tryz.prog 183 = some (.nilFunc) := by kernel_rfl
theorem zr184 : zrT Tryz.prog 184 = some (.nilFunc) := by kernel_rfl
theorem zr185 : zrT Tryz.prog 185 = some (.pointer none) := by kernel_rfl
theorem zr186 : zrT Tryz.prog 186 = some (.nilFunc) := by kernel_rfl
theorem zr189 : zrT Tryz.prog 189 = some (.nilFunc) := by kernel_rfl
theorem zr19 : zrT Tryz.prog 19 = some (.agg #[.pointer none]) := by kernel_rfl
theorem zr190 : zrT Tryz.prog 190 = some (.nilFunc) := by kernel_rfl
theorem zr191 : zrT Tryz.prog 191 = some (.nilFunc) := by kernel_rfl
theorem zr194 : zrT Tryz.prog 194 = some (.nilFunc) := by kernel_rfl
theorem zr195 : zrT Tryz.prog 195 = some (.pointer none) := by kernel_rfl
theorem zr197 : zrT Tryz.prog 197 = some (.agg #[.pointer none, .slice none 0 0]) := by kernel_rfl
theorem zr198 : zrT Tryz.prog 198 = some (.nilFunc) := by kernel_rfl
theorem zr199 : zrT Tryz.prog 199 = some (.nilIface) := by kernel_rfl
theorem zr2 : zrT Tryz.prog 2 = some (.int .i64 0) := by kernel_rfl
theorem zr20 : zrT Tryz.prog 20 = some (.nilIface) := by kernel_rfl
theorem zr200 : zrT Tryz.prog 200 = some (.nilIface) := by kernel_rfl
theorem zr202 : zrT Tryz.prog 202 = some (.nilFunc) := by kernel_rfl
theorem zr203 : zrT Tryz.prog 203 = some (.nilFunc) := by kernel_rfl
theorem zr204 : zrT Tryz.prog 204 = some (.slice none 0 0) := by kernel_rfl
theorem zr205 : zrT Tryz.prog 205 = some (.nilIface) := by kernel_rfl
theorem zr206 : zrT Tryz.prog 206 = some (.nilIface) := by kernel_rfl
theorem zr207 : zrT Tryz.prog 207 = some (.pointer none) := by kernel_rfl
theorem zr209 : zrT Tryz.prog 209 = some (.nilFunc) := by kernel_rfl
theorem zr21 : zrT Tryz.prog 21 = some (.int .i32 0) := by kernel_rfl
theorem zr210 : zrT Tryz.prog 210 = some (.nilFunc) := by kernel_rfl
theorem zr212 : zrT Tryz.prog 212 = some (.pointer none) := by kernel_rfl
theorem zr216 : zrT Tryz.prog 216 = some (.nilFunc) := by kernel_rfl
theorem zr217 : zrT Tryz.prog 217 = some (.nilFunc) := by kernel_rfl
theorem zr219 : zrT Tryz.prog 219 = some (.agg #[.pointer none, .pointer none, .pointer none, .string ⟨#[]⟩]) := by kernel_rfl
theorem zr22 : zrT Tryz.prog 22 = some (.slice none 0 0) := by kernel_rfl
theorem zr222 : zrT Tryz.prog 222 = some (.agg #[]) := by kernel_rfl
theorem zr223 : zrT Tryz.prog 223 = some (.int .u8 0) := by kernel_rfl
theorem zr224 : zrT Tryz.prog 224 = some (.int .u8 0) := by kernel_rfl
theorem zr225 : zrT Tryz.prog 225 = some (.nilFunc) := by kernel_rfl
theorem zr226 : zrT Tryz.prog 226 = some (.int .i32 0) := by kernel_rfl
theorem zr227 : zrT Tryz.prog 227 = some (.int .i32 0) := by kernel_rfl
theorem zr229 : zrT Tryz.prog 229 = some (.agg #[.int .u64 0, .int .u64 0, .int .u32 0, .int .u8 0, .int .u8 0, .int .u8 0, .int .u8 0, .nilFunc, .pointer none, .int .i32 0, .int .i32 0]) := by kernel_rfl
theorem zr24 : zrT Tryz.prog 24 = some (.agg #[.int .i64 0, .string ⟨#[]⟩, .int .i64 0, .slice none 0 0]) := by kernel_rfl
theorem zr25 : zrT Tryz.prog 25 = some (.slice none 0 0) := by kernel_rfl
theorem zr26 : zrT Tryz.prog 26 = some (.slice none 0 0) := by kernel_rfl
theorem zr28 : zrT Tryz.prog 28 = some (.agg #[.slice none 0 0, .slice none 0 0, .slice none 0 0, .int .i64 0, .string ⟨#[]⟩, .int .i64 0, .slice none 0 0]) := by kernel_rfl
theorem zr29 : zrT Tryz.prog 29 = some (.slice none 0 0) := by kernel_rfl
theorem zr3 : zrT Tryz.prog 3 = some (.int .i64 0) := by kernel_rfl
theorem zr30 : zrT Tryz.prog 30 = some (.nilFunc) := by kernel_rfl
theorem zr32 : zrT Tryz.prog 32 = some (.nilFunc) := by kernel_rfl
theorem zr33 : zrT Tryz.prog 33 = some (.slice none 0 0) := by kernel_rfl
theorem zr35 : zrT Tryz.prog 35 = some (.agg #[.int .i64 0, .string ⟨#[]⟩, .int .i64 0, .slice none 0 0]) := by kernel_rfl
theorem zr37 : zrT Tryz.prog 37 = some (.nilFunc) := by kernel_rfl
theorem zr38 : zrT Tryz.prog 38 = some (.nilFunc) := by kernel_rfl
theorem zr39 : zrT Tryz.prog 39 = some (.nilFunc) := by kernel_rfl
theorem zr4 : zrT Tryz.prog 4 = some (.bool false) := by kernel_rfl
theorem zr40 : zrT Tryz.prog 40 = some (.nilFunc) := by kernel_rfl
theorem zr41 : zrT Tryz.prog 41 = some (.nilFunc) := by kernel_rfl
theorem zr42 : zrT Tryz.prog 42 = some (.nilFunc) := by kernel_rfl
theorem zr43 : zrT Tryz.prog 43 = some (.slice none 0 0) := by kernel_rfl
theorem zr44 : zrT Tryz.prog 44 = some (.int .i64 0) := by kernel_rfl
theorem zr46 : zrT Tryz.prog 46 = some (.nilFunc) := by kernel_rfl
theorem zr47 : zrT Tryz.prog 47 = some (.slice none 0 0) := by kernel_rfl
theorem zr48 : zrT Tryz.prog 48 = some (.slice none 0 0) := by kernel_rfl
theorem zr5 : zrT Tryz.prog 5 = some (.int .u8 0) := by kernel_rfl
theorem zr50 : zrT Tryz.prog 50 = some (.agg #[.slice none 0 0, .slice none 0 0, .slice none 0 0, .int .i64 0, .string ⟨#[]⟩, .int .i64 0, .slice none 0 0]) := by kernel_rfl
theorem zr52 : zrT Tryz.prog 52 = some (.nilFunc) := by kernel_rfl
theorem zr53 : zrT Tryz.prog 53 = some (.nilFunc) := by kernel_rfl
theorem zr54 : zrT Tryz.prog 54 = some (.nilFunc) := by kernel_rfl
theorem zr55 : zrT Tryz.prog 55 = some (.nilFunc) := by kernel_rfl
theorem zr56 : zrT Tryz.prog 56 = some (.int .u16 0) := by kernel_rfl
theorem zr57 : zrT Tryz.prog 57 = some (.nilFunc) := by kernel_rfl
theorem zr58 : zrT Tryz.prog 58 = some (.slice none 0 0) := by kernel_rfl
theorem zr59 : zrT Tryz.prog 59 = some (.nilFunc) := by kernel_rfl
theorem zr6 : zrT Tryz.prog 6 = some (.int .u8 0) := by kernel_rfl
theorem zr60 : zrT Tryz.prog 60 = some (.nilFunc) := by kernel_rfl
theorem zr61 : zrT Tryz.prog 61 = some (.nilFunc) := by kernel_rfl
theorem zr62 : zrT Tryz.prog 62 = some (.nilFunc) := by kernel_rfl
theorem zr63 : zrT Tryz.prog 63 = some (.nilFunc) := by kernel_rfl
theorem zr64 : zrT Tryz.prog 64 = some (.nilFunc) := by kernel_rfl
theorem zr65 : zrT Tryz.prog 65 = some (.nilFunc) := by kernel_rfl
theorem zr66 : zrT Tryz.prog 66 = some (.nilFunc) := by kernel_rfl
theorem zr68 : zrT Tryz.prog 68 = some (.agg #[.string ⟨#[]⟩, .int .i64 0, .string ⟨#[]⟩, .int .i64 0, .slice none 0 0]) := by kernel_rfl
theorem zr69 : zrT Tryz.prog 69 = some (.nilFunc) := by kernel_rfl
theorem zr70 : zrT Tryz.prog 70 = some (.nilFunc) := by kernel_rfl
theorem zr72 : zrT Tryz.prog 72 = some (.agg #[.string ⟨#[]⟩, .string ⟨#[]⟩, .int .i64 0]) := by kernel_rfl
theorem zr73 : zrT Tryz.prog 73 = some (.nilFunc) := by kernel_rfl
theorem zr74 : zrT Tryz.prog 74 = some (.nilFunc) := by kernel_rfl
theorem zr75 : zrT Tryz.prog 75 = some (.pointer none) := by kernel_rfl
theorem zr76 : zrT Tryz.prog 76 = some (.map none) := by kernel_rfl
theorem zr78 : zrT Tryz.prog 78 = some (.agg #[.map none, .int .i64 0]) := by kernel_rfl
theorem zr79 : zrT Tryz.prog 79 = some (.nilFunc) := by kernel_rfl
theorem zr8 : zrT Tryz.prog 8 = some (.agg #[.int .i64 0, .int .i64 0, .bool false, .int .u8 0]) := by kernel_rfl
theorem zr80 : zrT Tryz.prog 80 = some (.nilFunc) := by kernel_rfl
theorem zr81 : zrT Tryz.prog 81 = some (.nilFunc) := by kernel_rfl
theorem zr82 : zrT Tryz.prog 82 = some (.nilFunc) := by kernel_rfl
theorem zr83 : zrT Tryz.prog 83 = some (.pointer none) := by kernel_rfl
theorem zr85 : zrT Tryz.prog 85 = some (.agg #[.slice none 0 0, .int .i64 0]) := by kernel_rfl
theorem zr86 : zrT Tryz.prog 86 = some (.nilFunc) := by kernel_rfl
theorem zr87 : zrT Tryz.prog 87 = some (.nilFunc) := by kernel_rfl
theorem zr88 : zrT Tryz.prog 88 = some (.nilFunc) := by kernel_rfl
theorem zr89 : zrT Tryz.prog 89 = some (.nilFunc) := by kernel_rfl
theorem zr9 : zrT Tryz.prog 9 = some (.string ⟨#[]⟩) := by kernel_rfl
theorem zr90 : zrT Tryz.prog 90 = some (.nilFunc) := by kernel_rfl
theorem zr91 : zrT Tryz.prog 91 = some (.nilFunc) := by kernel_rfl
theorem zr92 : zrT Tryz.prog 92 = some (.nilFunc) := by kernel_rfl
theorem zr93 : zrT Tryz.prog 93 = some (.nilFunc) := by kernel_rfl
theorem zr95 : zrT Tryz.prog 95 = some (.agg #[.string ⟨#[]⟩, .int .i64 0, .string ⟨#[]⟩, .int .i64 0, .slice none 0 0]) := by kernel_rfl
theorem zr96 : zrT Tryz.prog 96 = some (.nilFunc) := by kernel_rfl
theorem zr97 : zrT Tryz.prog 97 = some (.agg #[.string ⟨#[]⟩, .string ⟨#[]⟩, .int .i64 0]) := by kernel_rfl
theorem zr98 : zrT Tryz.prog 98 = some (.nilFunc) := by kernel_rfl
theorem zr99 : zrT Tryz.prog 99 = some (.map none) := by kernel_rfl
end Go.Proofs.YtindlieilabgfaaGreatDoor
/- Walks: package term: Binder, Size, Depth; Count of package scope. -/
set_option linter.unusedVariables false
set_option linter.unusedSimpArgs false
set_option linter.unusedSectionVars false
set_option autoImplicit false
set_option relaxedAutoImplicit false
set_option maxRecDepth 10000
namespace Go.Proofs.YtindlieilabgfaaGreatDoor
open Go X
theorem Binder_ok (k n : Int) (s : Bs) (v : Value) (E : World) (H : GH) (L : List It) : Ok Tryz.prog 38 #[.agg #[.int .i64 k, str s, .int .i64 n, v]] E H L fun r H' L' => r = .bool (bnd k) ∧ H = H' ∧ L = L' := by
  refine enter (N := 16) [(0, _)] Tryz.func38 rfl rfl rfl rfl fun a w h => ?_
  refine sq ?_
  refine rg0 ?_
  refine bxA h fun g1 a w h => ?_
  refine as_ h fun a w h => ?_
  refine nl0 ?_
  refine thN ?_
  refine sq ?_
  refine rg0 ?_
  refine fa fl24_0 (r := 0) h fun a w h => ?_
  refine ld 0 t1_3 h fun a w h => ?_
  refine eqi h fun a w h => ?_
  refine h.spl (fun c5 h => ?_) (fun c5 h => ?_)
  · refine mv h fun a w h => ?_
    refine sk h (k := fun a w h => ?_)
    refine sk h (k := fun a w h => ?_)
    refine sk h (k := fun a w h => ?_)
    refine pkT h fun a w h => ?_
    refine mv h fun a w h => ?_
    refine sk h (k := fun a w h => ?_)
    refine sk h (k := fun a w h => ?_)
    refine sk h (k := fun a w h => ?_)
    refine pkT h fun a w h => ?_
    refine as_ h fun a w h => ?_
    refine nl0 ?_
    refine thN ?_
    refine ret_ ?_
    refine fin1 2 1 h LE.rfl ?_
    exact ⟨by first | (simp only [bnd, *]; done) | (simp only [bnd, *]; rfl), rfl, rfl⟩
  · refine mv h fun a w h => ?_
    refine fa fl24_0 (r := 0) h fun a w h => ?_
    refine ld 0 t1_3 h fun a w h => ?_
    refine eqi h fun a w h => ?_
    refine pkF h fun a w h => ?_
    refine h.spl (fun c10 h => ?_) (fun c10 h => ?_)
    · refine mv h fun a w h => ?_
      refine sk h (k := fun a w h => ?_)
      refine sk h (k := fun a w h => ?_)
      refine sk h (k := fun a w h => ?_)
      refine pkT h fun a w h => ?_
      refine as_ h fun a w h => ?_
      refine nl0 ?_
      refine thN ?_
      refine ret_ ?_
      refine fin1 2 1 h LE.rfl ?_
      exact ⟨by first | (simp only [bnd, *]; done) | (simp only [bnd, *]; rfl), rfl, rfl⟩
    · refine mv h fun a w h => ?_
      refine fa fl24_0 (r := 0) h fun a w h => ?_
      refine ld 0 t1_3 h fun a w h => ?_
      refine eqi h fun a w h => ?_
      refine pkF h fun a w h => ?_
      refine as_ h fun a w h => ?_
      refine nl0 ?_
      refine thN ?_
      refine ret_ ?_
      refine fin1 2 1 h LE.rfl ?_
      exact ⟨by first | (simp only [bnd, *]; done) | (simp only [bnd, *]; rfl), rfl, rfl⟩

theorem Size_ok : ∀ (t : Tm) (v : Value) (E : World) (H : GH) (L : List It), VT H v t → t.size < 1000000000000 →
    Ok Tryz.prog 24 #[v] E H L fun r H' L' => r = .int .i64 t.size ∧ H = H' ∧ L = L' := by
  intro t
  induction t using Tm.ind with
  | h kd nm nn ks ih =>
  intro v E H L hv hb
  obtain ⟨A, c, rfl, hks⟩ := hv
  simp only [Tm.size] at hb
  have hks : KS H A c ks := hks
  have hlen := length_le_sizeL ks
  refine enter (N := 19) [(0, _)] Tryz.func24 rfl rfl rfl rfl fun a w h => ?_
  refine sq ?_
  refine rg0 ?_
  refine bxA h fun g1 a w h => ?_
  refine as_ h fun a w h => ?_
  refine nl0 ?_
  refine thN ?_
  refine sq ?_
  refine rg0 ?_
  refine as_ h fun a w h => ?_
  refine nl0 ?_
  refine thN ?_
  refine sq ?_
  refine sq ?_
  refine rg0 ?_
  refine fa fl24_3 (r := 3) h fun a w h => ?_
  refine ld 0 t1_22 h fun a w h => ?_
  refine ln sli22 h fun a w h => ?_
  refine mv h fun a w h => ?_
  refine nl0 ?_
  refine thN ?_
  refine blk ?_
  refine lp (β := Nat) (fun k a w => (k ≤ ks.length) ∧ S E H 19 [] [(9, .int .i64 (k : Int)), (3, .int .i64 ((1 + sizeL (ks.take k) : Nat) : Int)), (7, .slice A ks.length c), (8, .int .i64 (ks.length : Int))] (L) a w)
    (fun k => ks.length - k) 0 ⟨Nat.zero_le _, h.to 1 _⟩ ?_
  rintro k a w ⟨pre, h⟩
  refine sq ?_
  refine rg0 ?_
  refine lt h fun a w h => ?_
  refine nl0 ?_
  refine thN ?_
  refine sq ?_
  refine cdB h (fun c10 => ?_) (fun c10 => ?_)
  · have c10 : k < ks.length := by simpa using c10
    obtain ⟨g, off, A2, c2, rfl, hvt, hcell⟩ := KS.get hks c10
    have hsz := size_get_le c10
    have hts := take_size c10
    have hlt := size_take_le ks (k + 1)
    refine sk_ ?_
    refine thN ?_
    refine sq ?_
    refine blk ?_
    refine sq ?_
    refine rg0 ?_
    refine ia sli22 sz24 rfl c10 h fun a w h => ?_
    refine ldHN tN24 rfl hcell h fun a w h => ?_
    refine al zr24 h fun g5 a w h => ?_
    refine sw0 tN24 h fun a w h => ?_
    refine nl0 ?_
    refine thN ?_
    refine rg0 ?_
    refine mv h fun a w h => ?_
    refine ldW 0 tN24 h fun a w h => ?_
    refine cl bod24 (ih _ (List.getElem_mem c10) _ E H _ hvt (by omega)) h fun r15 H15 L15 a w le15 R h => ?_
    obtain ⟨rfl, rfl, rfl⟩ := R
    refine adr (((1 + sizeL (ks.take (k + 1)) : Nat) : Int)) ?_ h fun a w h => ?_
    · rw [w64 (by omega) (by omega)]; exact hts
    refine as_ h fun a w h => ?_
    refine nl0 ?_
    refine ibN ?_
    refine thN ?_
    refine rg0 ?_
    refine inc ?_ h fun a w h => ?_
    · omega
    refine mv h fun a w h => ?_
    refine nl0 ?_
    refine thN ?_
    exact ⟨(k + 1), ⟨by omega, h.to 1 _⟩, by show _ - (k + 1) < _ - k; omega⟩
  · have hk : k = ks.length := by simp at c10; omega
    refine exit_ ?_
    refine thE ?_
    refine thE ?_
    refine ibH ?_
    refine thN ?_
    refine sq ?_
    refine rg0 ?_
    refine mv h fun a w h => ?_
    refine as_ h fun a w h => ?_
    refine nl0 ?_
    refine thN ?_
    refine ret_ ?_
    refine fin1 2 0 h LE.rfl ?_
    refine ⟨?_, rfl, rfl⟩
    rw [hk, List.take_length]; rfl

theorem Depth_ok : ∀ (t : Tm) (v : Value) (E : World) (H : GH) (L : List It), VT H v t → t.size < 1000000000000 →
    Ok Tryz.prog 25 #[v] E H L fun r H' L' => r = .int .i64 t.depth ∧ H = H' ∧ L = L' := by
  intro t
  induction t using Tm.ind with
  | h kd nm nn ks ih =>
  intro v E H L hv hb
  obtain ⟨A, c, rfl, hks⟩ := hv
  simp only [Tm.size] at hb
  have hks : KS H A c ks := hks
  have hlen := length_le_sizeL ks
  refine enter (N := 20) [(0, _)] Tryz.func25 rfl rfl rfl rfl fun a w h => ?_
  refine sq ?_
  refine rg0 ?_
  refine bxA h fun g1 a w h => ?_
  refine as_ h fun a w h => ?_
  refine nl0 ?_
  refine thN ?_
  refine sq ?_
  refine rg0 ?_
  refine as_ h fun a w h => ?_
  refine nl0 ?_
  refine thN ?_
  refine sq ?_
  refine sq ?_
  refine rg0 ?_
  refine fa fl24_3 (r := 3) h fun a w h => ?_
  refine ld 0 t1_22 h fun a w h => ?_
  refine ln sli22 h fun a w h => ?_
  refine mv h fun a w h => ?_
  refine nl0 ?_
  refine thN ?_
  refine blk ?_
  refine lp (β := Nat) (fun k a w => (k ≤ ks.length) ∧ S E H 20 [] [(9, .int .i64 (k : Int)), (3, .int .i64 ((depthL (ks.take k) : Nat) : Int)), (7, .slice A ks.length c), (8, .int .i64 (ks.length : Int))] (L) a w)
    (fun k => ks.length - k) 0 ⟨Nat.zero_le _, h.to 1 _⟩ ?_
  rintro k a w ⟨pre, h⟩
  refine sq ?_
  refine rg0 ?_
  refine lt h fun a w h => ?_
  refine nl0 ?_
  refine thN ?_
  refine sq ?_
  refine cdB h (fun c10 => ?_) (fun c10 => ?_)
  · have c10 : k < ks.length := by simpa using c10
    obtain ⟨g, off, A2, c2, rfl, hvt, hcell⟩ := KS.get hks c10
    have hsz := size_get_le c10
    have htd := take_depth c10
    have hmx : (if ((depthL (ks.take k) : Nat) : Int) < (ks[k].depth : Int) then (ks[k].depth : Int) else ((depthL (ks.take k) : Nat) : Int)) = ((depthL (ks.take (k + 1)) : Nat) : Int) := by rw [htd]; split <;> omega
    refine sk_ ?_
    refine thN ?_
    refine sq ?_
    refine blk ?_
    refine sq ?_
    refine rg0 ?_
    refine ia sli22 sz24 rfl c10 h fun a w h => ?_
    refine ldHN tN24 rfl hcell h fun a w h => ?_
    refine al zr24 h fun g5 a w h => ?_
    refine sw0 tN24 h fun a w h => ?_
    refine nl0 ?_
    refine thN ?_
    refine rg0 ?_
    refine mv h fun a w h => ?_
    refine ldW 0 tN24 h fun a w h => ?_
    refine cl bod25 (ih _ (List.getElem_mem c10) _ E H _ hvt (by omega)) h fun r15 H15 L15 a w le15 R h => ?_
    obtain ⟨rfl, rfl, rfl⟩ := R
    refine mx h fun a w h => ?_
    rw [hmx] at h
    refine as_ h fun a w h => ?_
    refine nl0 ?_
    refine ibN ?_
    refine thN ?_
    refine rg0 ?_
    refine inc ?_ h fun a w h => ?_
    · omega
    refine mv h fun a w h => ?_
    refine nl0 ?_
    refine thN ?_
    exact ⟨(k + 1), ⟨by omega, h.to 1 _⟩, by show _ - (k + 1) < _ - k; omega⟩
  · have hk : k = ks.length := by simp at c10; omega
    refine exit_ ?_
    refine thE ?_
    refine thE ?_
    refine ibH ?_
    refine thN ?_
    refine sq ?_
    refine rg0 ?_
    refine mv h fun a w h => ?_
    refine adr (((depthL ks + 1 : Nat) : Int)) ?_ h fun a w h => ?_
    · have := depthL_le ks; rw [hk, List.take_length, w64 (by omega) (by omega)]; omega
    refine as_ h fun a w h => ?_
    refine nl0 ?_
    refine thN ?_
    refine ret_ ?_
    refine fin1 2 0 h LE.rfl ?_
    exact ⟨rfl, rfl, rfl⟩

theorem Count_ok : ∀ (t : Tm) (v : Value) (E : World) (H : GH) (L : List It), VT H v t → t.size < 1000000000000 →
    Ok Tryz.prog 14 #[v] E H L fun r H' L' => r = .int .i64 t.count ∧ H = H' ∧ L = L' := by
  intro t
  induction t using Tm.ind with
  | h kd nm nn ks ih =>
  intro v E H L hv hb
  obtain ⟨A, c, rfl, hks⟩ := hv
  simp only [Tm.size] at hb
  have hks : KS H A c ks := hks
  have hlen := length_le_sizeL ks
  refine enter (N := 23) [(0, _)] Tryz.func14 rfl rfl rfl rfl fun a w h => ?_
  refine sq ?_
  refine rg0 ?_
  refine bxA h fun g1 a w h => ?_
  refine as_ h fun a w h => ?_
  refine nl0 ?_
  refine thN ?_
  refine sq ?_
  refine rg0 ?_
  refine as_ h fun a w h => ?_
  refine nl0 ?_
  refine thN ?_
  refine sq ?_
  refine sq ?_
  refine rg0 ?_
  refine ldW 0 tN24 h fun a w h => ?_
  refine cl bod38 (Binder_ok _ _ _ _ _ _ _) h fun r7 H7 L7 a w le7 R h => ?_
  obtain ⟨rfl, rfl, rfl⟩ := R
  refine nl0 ?_
  refine thN ?_
  refine cdB h (fun c7 => ?_) (fun c7 => ?_)
  · have c7 : bnd kd = true := c7
    refine rg0 ?_
    refine mv h fun a w h => ?_
    refine adr (((if bnd kd then 1 else 0 : Nat) : Int)) ?_ h fun a w h => ?_
    · rw [c7]; rfl
    refine as_ h fun a w h => ?_
    refine nl0 ?_
    refine thN ?_
    refine sq ?_
    refine sq ?_
    refine rg0 ?_
    refine fa fl24_3 (r := 3) h fun a w h => ?_
    refine ld 0 t1_22 h fun a w h => ?_
    refine ln sli22 h fun a w h => ?_
    refine mv h fun a w h => ?_
    refine nl0 ?_
    refine thN ?_
    refine blk ?_
    refine lp (β := Nat) (fun k a w => (k ≤ ks.length) ∧ S E H 23 [] [(13, .int .i64 (k : Int)), (3, .int .i64 (((if bnd kd then 1 else 0) + countL (ks.take k) : Nat) : Int)), (11, .slice A ks.length c), (12, .int .i64 (ks.length : Int))] (L) a w)
      (fun k => ks.length - k) 0 ⟨Nat.zero_le _, h.to 1 _⟩ ?_
    rintro k a w ⟨pre, h⟩
    refine sq ?_
    refine rg0 ?_
    refine lt h fun a w h => ?_
    refine nl0 ?_
    refine thN ?_
    refine sq ?_
    refine cdB h (fun c14 => ?_) (fun c14 => ?_)
    · have c14 : k < ks.length := by simpa using c14
      obtain ⟨g, off, A2, c2, rfl, hvt, hcell⟩ := KS.get hks c14
      have hsz := size_get_le c14
      have hts := take_count c14
      refine sk_ ?_
      refine thN ?_
      refine sq ?_
      refine blk ?_
      refine sq ?_
      refine rg0 ?_
      refine ia sli22 sz24 rfl c14 h fun a w h => ?_
      refine ldHN tN24 rfl hcell h fun a w h => ?_
      refine al zr24 h fun g5 a w h => ?_
      refine sw0 tN24 h fun a w h => ?_
      refine nl0 ?_
      refine thN ?_
      refine rg0 ?_
      refine mv h fun a w h => ?_
      refine ldW 0 tN24 h fun a w h => ?_
      refine cl bod14 (ih _ (List.getElem_mem c14) _ E H _ hvt (by omega)) h fun r19 H19 L19 a w le19 R h => ?_
      obtain ⟨rfl, rfl, rfl⟩ := R
      refine adr ((((if bnd kd then 1 else 0) + countL (ks.take (k + 1)) : Nat) : Int)) ?_ h fun a w h => ?_
      · have : countL (ks.take (k + 1)) ≤ sizeL ks := Nat.le_trans (countL_le _) (size_take_le ks _); rw [hts] at this ⊢; rw [w64 (by split <;> omega) (by split <;> omega)]; omega
      refine as_ h fun a w h => ?_
      refine nl0 ?_
      refine ibN ?_
      refine thN ?_
      refine rg0 ?_
      refine inc ?_ h fun a w h => ?_
      · omega
      refine mv h fun a w h => ?_
      refine nl0 ?_
      refine thN ?_
      exact ⟨(k + 1), ⟨by omega, h.to 1 _⟩, by show _ - (k + 1) < _ - k; omega⟩
    · have hk : k = ks.length := by simp at c14; omega
      refine exit_ ?_
      refine thE ?_
      refine thE ?_
      refine ibH ?_
      refine thN ?_
      refine sq ?_
      refine rg0 ?_
      refine mv h fun a w h => ?_
      refine as_ h fun a w h => ?_
      refine nl0 ?_
      refine thN ?_
      refine ret_ ?_
      refine fin1 2 0 h LE.rfl ?_
      refine ⟨?_, rfl, rfl⟩
      rw [hk, List.take_length]; rfl
  · have c7 : bnd kd = false := c7
    have e0 : (0 : Int) = ((if bnd kd then 1 else 0 : Nat) : Int) := by rw [c7]; rfl
    rw [e0] at h
    refine sk_ ?_
    refine thN ?_
    refine sq ?_
    refine sq ?_
    refine rg0 ?_
    refine fa fl24_3 (r := 3) h fun a w h => ?_
    refine ld 0 t1_22 h fun a w h => ?_
    refine ln sli22 h fun a w h => ?_
    refine mv h fun a w h => ?_
    refine nl0 ?_
    refine thN ?_
    refine blk ?_
    refine lp (β := Nat) (fun k a w => (k ≤ ks.length) ∧ S E H 23 [] [(13, .int .i64 (k : Int)), (3, .int .i64 (((if bnd kd then 1 else 0) + countL (ks.take k) : Nat) : Int)), (11, .slice A ks.length c), (12, .int .i64 (ks.length : Int))] (L) a w)
      (fun k => ks.length - k) 0 ⟨Nat.zero_le _, h.to 1 _⟩ ?_
    rintro k a w ⟨pre, h⟩
    refine sq ?_
    refine rg0 ?_
    refine lt h fun a w h => ?_
    refine nl0 ?_
    refine thN ?_
    refine sq ?_
    refine cdB h (fun c14 => ?_) (fun c14 => ?_)
    · have c14 : k < ks.length := by simpa using c14
      obtain ⟨g, off, A2, c2, rfl, hvt, hcell⟩ := KS.get hks c14
      have hsz := size_get_le c14
      have hts := take_count c14
      refine sk_ ?_
      refine thN ?_
      refine sq ?_
      refine blk ?_
      refine sq ?_
      refine rg0 ?_
      refine ia sli22 sz24 rfl c14 h fun a w h => ?_
      refine ldHN tN24 rfl hcell h fun a w h => ?_
      refine al zr24 h fun g5 a w h => ?_
      refine sw0 tN24 h fun a w h => ?_
      refine nl0 ?_
      refine thN ?_
      refine rg0 ?_
      refine mv h fun a w h => ?_
      refine ldW 0 tN24 h fun a w h => ?_
      refine cl bod14 (ih _ (List.getElem_mem c14) _ E H _ hvt (by omega)) h fun r19 H19 L19 a w le19 R h => ?_
      obtain ⟨rfl, rfl, rfl⟩ := R
      refine adr ((((if bnd kd then 1 else 0) + countL (ks.take (k + 1)) : Nat) : Int)) ?_ h fun a w h => ?_
      · have : countL (ks.take (k + 1)) ≤ sizeL ks := Nat.le_trans (countL_le _) (size_take_le ks _); rw [hts] at this ⊢; rw [w64 (by split <;> omega) (by split <;> omega)]; omega
      refine as_ h fun a w h => ?_
      refine nl0 ?_
      refine ibN ?_
      refine thN ?_
      refine rg0 ?_
      refine inc ?_ h fun a w h => ?_
      · omega
      refine mv h fun a w h => ?_
      refine nl0 ?_
      refine thN ?_
      exact ⟨(k + 1), ⟨by omega, h.to 1 _⟩, by show _ - (k + 1) < _ - k; omega⟩
    · have hk : k = ks.length := by simp at c14; omega
      refine exit_ ?_
      refine thE ?_
      refine thE ?_
      refine ibH ?_
      refine thN ?_
      refine sq ?_
      refine rg0 ?_
      refine mv h fun a w h => ?_
      refine as_ h fun a w h => ?_
      refine nl0 ?_
      refine thN ?_
      refine ret_ ?_
      refine fin1 2 0 h LE.rfl ?_
      refine ⟨?_, rfl, rfl⟩
      rw [hk, List.take_length]; rfl
end Go.Proofs.YtindlieilabgfaaGreatDoor
/- Walks: names, keywords; slices.Index and Contains at texts. -/
set_option linter.unusedVariables false
set_option linter.unusedSimpArgs false
set_option linter.unusedSectionVars false
set_option autoImplicit false
set_option relaxedAutoImplicit false
set_option maxRecDepth 10000
namespace Go.Proofs.YtindlieilabgfaaGreatDoor
open Go X
/-- What the package-level tables hold. -/
structure Laid (H : GH) : Prop where
  keys : SS H (some ⟨3, 0, none⟩) 14 keysL
  ops : SS H (some ⟨1, 0, none⟩) 5 opsL
  kids : ∀ (j : Nat) (k : Int), kidsL[j]? = some k → Hc H 0 j (.int .i64 k)
  pow : ∀ w, Sees H [] w → Lib.TabIs Tryz.prog w "internal/strconv.uint64pow10" .u64 Lib.pow10Tab
theorem Laid.up {H H' : GH} (h : Laid H) (hl : LE H H') : Laid H' := ⟨h.keys.up hl, h.ops.up hl, fun j k e => (h.kids j k e).mono hl, fun w hw => h.pow w ⟨fun b o e => hw.fro b o (hl b o e), fun i hi => by cases hi⟩⟩
theorem arrK : arrT Tryz.prog 211 = some (14, 9) := by kernel_rfl
theorem arrO : arrT Tryz.prog 188 = some (5, 9) := by kernel_rfl
theorem arrN : arrT Tryz.prog 187 = some (14, 3) := by kernel_rfl

theorem letter_ok (c : UInt8) (E : World) (H : GH) (L : List It) : Ok Tryz.prog 154 #[.int .u8 (c.toNat : Int)] E H L fun r H' L' => r = .bool (letterB c) ∧ H = H' ∧ L = L' := by
  refine enter (N := 11) [(0, _)] Tryz.func154 rfl rfl rfl rfl fun a w h => ?_
  refine sq ?_
  refine rg0 ?_
  refine as_ h fun a w h => ?_
  refine nl0 ?_
  refine thN ?_
  refine sq ?_
  refine rg0 ?_
  refine mv h fun a w h => ?_
  refine orb (c := c) (c' := 32) h fun a w h => ?_
  refine ge h fun a w h => ?_
  refine h.spl (fun c5 h => ?_) (fun c5 h => ?_)
  · refine mv h fun a w h => ?_
    refine mv h fun a w h => ?_
    refine orb (c := c) (c' := 32) h fun a w h => ?_
    refine le h fun a w h => ?_
    refine pkT h fun a w h => ?_
    refine as_ h fun a w h => ?_
    refine nl0 ?_
    refine thN ?_
    refine ret_ ?_
    refine fin1 2 0 h LE.rfl ?_
    exact ⟨by unfold letterB; rw [c5]; first | done | rfl, rfl, rfl⟩
  · refine mv h fun a w h => ?_
    refine sk h (k := fun a w h => ?_)
    refine sk h (k := fun a w h => ?_)
    refine sk h (k := fun a w h => ?_)
    refine pkF h fun a w h => ?_
    refine as_ h fun a w h => ?_
    refine nl0 ?_
    refine thN ?_
    refine ret_ ?_
    refine fin1 2 0 h LE.rfl ?_
    exact ⟨by unfold letterB; rw [c5]; first | done | rfl, rfl, rfl⟩

theorem Name_ok (s : Bs) (E : World) (H : GH) (L : List It) (hb : s.length < 1000000000000) : Ok Tryz.prog 140 #[str s] E H L fun r H' L' => r = .bool (nameB s) ∧ H = H' ∧ L = L' := by
  refine enter (N := 42) [(0, _)] Tryz.func140 rfl rfl rfl rfl fun a w h => ?_
  refine sq ?_
  refine rg0 ?_
  refine as_ h fun a w h => ?_
  refine nl0 ?_
  refine thN ?_
  refine sq ?_
  refine sq ?_
  refine rg0 ?_
  refine mv h fun a w h => ?_
  refine lnb str9 h fun a w h => ?_
  refine mv h fun a w h => ?_
  refine nl0 ?_
  refine thN ?_
  refine blk ?_
  refine lp (β := Nat) (fun k a w => (k ≤ s.length ∧ ∀ j, j < k → okAt s j = true) ∧ S E H 42 [] [(7, .int .i64 (k : Int)), (6, .int .i64 (s.length : Int)), (0, str s)] (L) a w)
    (fun k => s.length - k) 0 ⟨⟨Nat.zero_le _, fun j hj => absurd hj (by omega)⟩, h.to 0 _⟩ ?_
  rintro k a w ⟨pre, h⟩
  refine sq ?_
  refine rg0 ?_
  refine lt h fun a w h => ?_
  refine nl0 ?_
  refine thN ?_
  refine sq ?_
  refine cdB h (fun c8 => ?_) (fun c8 => ?_)
  · have c8 : k < s.length := by simpa using c8
    obtain ⟨c, hc⟩ : ∃ c, s[k]? = some c := ⟨s[k], List.getElem?_eq_getElem c8⟩
    have hgd : s.getD k 0 = c := by simp [List.getD, hc]
    have hoc : okAt s k = (letterB c || (k != 0 && digitB c)) := by unfold okAt; rw [hgd]
    refine sk_ ?_
    refine thN ?_
    refine sq ?_
    refine blk ?_
    refine sq ?_
    refine rg0 ?_
    refine mv h fun a w h => ?_
    refine as_ h fun a w h => ?_
    refine nl0 ?_
    refine thN ?_
    refine sq ?_
    refine rg0 ?_
    refine mv h fun a w h => ?_
    refine mv h fun a w h => ?_
    refine ix str9 rfl hc h fun a w h => ?_
    refine ge h fun a w h => ?_
    refine h.spl (fun c13 h => ?_) (fun c13 h => ?_)
    · refine mv h fun a w h => ?_
      refine mv h fun a w h => ?_
      refine mv h fun a w h => ?_
      refine ix str9 rfl hc h fun a w h => ?_
      refine le h fun a w h => ?_
      refine pkT h fun a w h => ?_
      refine as_ h fun a w h => ?_
      refine nl0 ?_
      refine thN ?_
      refine sq ?_
      refine rg0 ?_
      refine mv h fun a w h => ?_
      refine mv h fun a w h => ?_
      refine ix str9 rfl hc h fun a w h => ?_
      refine cl bod154 (letter_ok c E H _) h fun r23 H23 L23 a w le23 R h => ?_
      obtain ⟨rfl, rfl, rfl⟩ := R
      refine nt h fun a w h => ?_
      refine h.spl (fun c24 h => ?_) (fun c24 h => ?_)
      · refine mv h fun a w h => ?_
        refine mv h fun a w h => ?_
        refine eqi h fun a w h => ?_
        refine h.spl (fun c27 h => ?_) (fun c27 h => ?_)
        · refine mv h fun a w h => ?_
          refine sk h (k := fun a w h => ?_)
          refine sk h (k := fun a w h => ?_)
          refine pkT h fun a w h => ?_
          refine pkT h fun a w h => ?_
          refine nl0 ?_
          refine thN ?_
          have hno : okAt s k = false := by rw [hoc]; (try simp at c8 c13 c24 c27); (try simp [digitB, c8, c13, c24, c27]); (try omega)
          refine cdT h ?_
          refine sq ?_
          refine rg0 ?_
          refine as_ h fun a w h => ?_
          refine nl0 ?_
          refine thN ?_
          refine ret_ ?_
          refine ibR ?_
          refine thR ?_
          refine thR ?_
          refine ibR ?_
          refine thR ?_
          refine fin1 2 0 h LE.rfl ?_
          exact ⟨by rw [nameB_no c8 hno], rfl, rfl⟩
        · refine mv h fun a w h => ?_
          refine mv h fun a w h => ?_
          refine nt h fun a w h => ?_
          refine pkF h fun a w h => ?_
          refine pkT h fun a w h => ?_
          refine nl0 ?_
          refine thN ?_
          refine cdB h (fun c32 => ?_) (fun c32 => ?_)
          · have hno : okAt s k = false := by rw [hoc]; (try simp at c8 c13 c24 c27 c32); (try simp [digitB, c8, c13, c24, c27, c32]); (try omega)
            refine sq ?_
            refine rg0 ?_
            refine as_ h fun a w h => ?_
            refine nl0 ?_
            refine thN ?_
            refine ret_ ?_
            refine ibR ?_
            refine thR ?_
            refine thR ?_
            refine ibR ?_
            refine thR ?_
            refine fin1 2 0 h LE.rfl ?_
            exact ⟨by rw [nameB_no c8 hno], rfl, rfl⟩
          · have hok : okAt s k = true := by rw [hoc]; (try simp at c8 c13 c24 c27 c32); (try simp [digitB, c8, c13, c24, c27, c32]); (try omega)
            refine sk_ ?_
            refine ibN ?_
            refine thN ?_
            refine rg0 ?_
            refine inc ?_ h fun a w h => ?_
            · omega
            refine mv h fun a w h => ?_
            refine nl0 ?_
            refine thN ?_
            exact ⟨(k + 1), ⟨⟨by omega, fun j hj => by rcases Nat.lt_succ_iff_lt_or_eq.1 hj with hj | rfl <;> first | exact hok | exact pre.2 _ hj⟩, h.to 0 _⟩, by show _ - (k + 1) < _ - k; omega⟩
      · refine mv h fun a w h => ?_
        refine sk h (k := fun a w h => ?_)
        refine sk h (k := fun a w h => ?_)
        refine sk h (k := fun a w h => ?_)
        refine sk h (k := fun a w h => ?_)
        refine sk h (k := fun a w h => ?_)
        refine sk h (k := fun a w h => ?_)
        refine pkF h fun a w h => ?_
        refine nl0 ?_
        refine thN ?_
        have hok : okAt s k = true := by rw [hoc]; (try simp at c8 c13 c24); (try simp [digitB, c8, c13, c24]); (try omega)
        refine cdF h ?_
        refine sk_ ?_
        refine ibN ?_
        refine thN ?_
        refine rg0 ?_
        refine inc ?_ h fun a w h => ?_
        · omega
        refine mv h fun a w h => ?_
        refine nl0 ?_
        refine thN ?_
        exact ⟨(k + 1), ⟨⟨by omega, fun j hj => by rcases Nat.lt_succ_iff_lt_or_eq.1 hj with hj | rfl <;> first | exact hok | exact pre.2 _ hj⟩, h.to 0 _⟩, by show _ - (k + 1) < _ - k; omega⟩
    · refine mv h fun a w h => ?_
      refine sk h (k := fun a w h => ?_)
      refine sk h (k := fun a w h => ?_)
      refine sk h (k := fun a w h => ?_)
      refine sk h (k := fun a w h => ?_)
      refine pkF h fun a w h => ?_
      refine as_ h fun a w h => ?_
      refine nl0 ?_
      refine thN ?_
      refine sq ?_
      refine rg0 ?_
      refine mv h fun a w h => ?_
      refine mv h fun a w h => ?_
      refine ix str9 rfl hc h fun a w h => ?_
      refine cl bod154 (letter_ok c E H _) h fun r23 H23 L23 a w le23 R h => ?_
      obtain ⟨rfl, rfl, rfl⟩ := R
      refine nt h fun a w h => ?_
      refine h.spl (fun c24 h => ?_) (fun c24 h => ?_)
      · refine mv h fun a w h => ?_
        refine mv h fun a w h => ?_
        refine eqi h fun a w h => ?_
        refine h.spl (fun c27 h => ?_) (fun c27 h => ?_)
        · refine mv h fun a w h => ?_
          refine sk h (k := fun a w h => ?_)
          refine sk h (k := fun a w h => ?_)
          refine pkT h fun a w h => ?_
          refine pkT h fun a w h => ?_
          refine nl0 ?_
          refine thN ?_
          have hno : okAt s k = false := by rw [hoc]; (try simp at c8 c13 c24 c27); (try simp [digitB, c8, c13, c24, c27]); (try omega)
          refine cdT h ?_
          refine sq ?_
          refine rg0 ?_
          refine as_ h fun a w h => ?_
          refine nl0 ?_
          refine thN ?_
          refine ret_ ?_
          refine ibR ?_
          refine thR ?_
          refine thR ?_
          refine ibR ?_
          refine thR ?_
          refine fin1 2 0 h LE.rfl ?_
          exact ⟨by rw [nameB_no c8 hno], rfl, rfl⟩
        · refine mv h fun a w h => ?_
          refine mv h fun a w h => ?_
          refine nt h fun a w h => ?_
          refine pkF h fun a w h => ?_
          refine pkT h fun a w h => ?_
          refine nl0 ?_
          refine thN ?_
          refine cdB h (fun c32 => ?_) (fun c32 => ?_)
          · have hno : okAt s k = false := by rw [hoc]; (try simp at c8 c13 c24 c27 c32); (try simp [digitB, c8, c13, c24, c27, c32]); (try omega)
            refine sq ?_
            refine rg0 ?_
            refine as_ h fun a w h => ?_
            refine nl0 ?_
            refine thN ?_
            refine ret_ ?_
            refine ibR ?_
            refine thR ?_
            refine thR ?_
            refine ibR ?_
            refine thR ?_
            refine fin1 2 0 h LE.rfl ?_
            exact ⟨by rw [nameB_no c8 hno], rfl, rfl⟩
          · have hok : okAt s k = true := by rw [hoc]; (try simp at c8 c13 c24 c27 c32); (try simp [digitB, c8, c13, c24, c27, c32]); (try omega)
            refine sk_ ?_
            refine ibN ?_
            refine thN ?_
            refine rg0 ?_
            refine inc ?_ h fun a w h => ?_
            · omega
            refine mv h fun a w h => ?_
            refine nl0 ?_
            refine thN ?_
            exact ⟨(k + 1), ⟨⟨by omega, fun j hj => by rcases Nat.lt_succ_iff_lt_or_eq.1 hj with hj | rfl <;> first | exact hok | exact pre.2 _ hj⟩, h.to 0 _⟩, by show _ - (k + 1) < _ - k; omega⟩
      · refine mv h fun a w h => ?_
        refine sk h (k := fun a w h => ?_)
        refine sk h (k := fun a w h => ?_)
        refine sk h (k := fun a w h => ?_)
        refine sk h (k := fun a w h => ?_)
        refine sk h (k := fun a w h => ?_)
        refine sk h (k := fun a w h => ?_)
        refine pkF h fun a w h => ?_
        refine nl0 ?_
        refine thN ?_
        have hok : okAt s k = true := by rw [hoc]; (try simp at c8 c13 c24); (try simp [digitB, c8, c13, c24]); (try omega)
        refine cdF h ?_
        refine sk_ ?_
        refine ibN ?_
        refine thN ?_
        refine rg0 ?_
        refine inc ?_ h fun a w h => ?_
        · omega
        refine mv h fun a w h => ?_
        refine nl0 ?_
        refine thN ?_
        exact ⟨(k + 1), ⟨⟨by omega, fun j hj => by rcases Nat.lt_succ_iff_lt_or_eq.1 hj with hj | rfl <;> first | exact hok | exact pre.2 _ hj⟩, h.to 0 _⟩, by show _ - (k + 1) < _ - k; omega⟩
  · have hk : k = s.length := by simp at c8; omega
    have hall : ∀ j, j < s.length → okAt s j = true := by rw [← hk]; exact pre.2
    refine exit_ ?_
    refine thE ?_
    refine thE ?_
    refine ibH ?_
    refine thN ?_
    refine sq ?_
    refine rg0 ?_
    refine mv h fun a w h => ?_
    refine lnb str9 h fun a w h => ?_
    refine gt h fun a w h => ?_
    refine h.spl (fun c36 h => ?_) (fun c36 h => ?_)
    · refine mv h fun a w h => ?_
      refine mv h fun a w h => ?_
      refine lnb str9 h fun a w h => ?_
      refine le h fun a w h => ?_
      refine pkT h fun a w h => ?_
      refine as_ h fun a w h => ?_
      refine nl0 ?_
      refine thN ?_
      refine ret_ ?_
      refine fin1 2 0 h LE.rfl ?_
      exact ⟨by rw [nameB_yes hall, c36]; first | done | rfl, rfl, rfl⟩
    · refine mv h fun a w h => ?_
      refine sk h (k := fun a w h => ?_)
      refine sk h (k := fun a w h => ?_)
      refine sk h (k := fun a w h => ?_)
      refine pkF h fun a w h => ?_
      refine as_ h fun a w h => ?_
      refine nl0 ?_
      refine thN ?_
      refine ret_ ?_
      refine fin1 2 0 h LE.rfl ?_
      exact ⟨by rw [nameB_yes hall, c36]; first | done | rfl, rfl, rfl⟩

theorem Index_ok (ss : List Bs) (s : Bs) (A : Option Addr) (c : Nat) (E : World) (H : GH) (L : List It) (hss : SS H A c ss) (hb : ss.length < 1000000000000) :
    Ok Tryz.prog 43 #[.slice A ss.length c, str s] E H L fun r H' L' => r = .int .i64 (indexL ss s) ∧ H = H' ∧ L = L' := by
  refine enter (N := 19) [(0, _), (1, _)] Tryz.func43 rfl rfl rfl rfl fun a w h => ?_
  refine sq ?_
  refine rg0 ?_
  refine as_ h fun a w h => ?_
  refine nl0 ?_
  refine thN ?_
  refine sq ?_
  refine sq ?_
  refine rg0 ?_
  refine mv h fun a w h => ?_
  refine ln sli58 h fun a w h => ?_
  refine mv h fun a w h => ?_
  refine nl0 ?_
  refine thN ?_
  refine blk ?_
  refine lp (β := Nat) (fun k a w => (k ≤ ss.length ∧ ∀ j (hj : j < ss.length), j < k → ss[j] ≠ s) ∧ S E H 19 [] [(8, .int .i64 (k : Int)), (6, .slice A ss.length c), (7, .int .i64 (ss.length : Int)), (0, .slice A ss.length c), (1, str s)] (L) a w)
    (fun k => ss.length - k) 0 ⟨⟨Nat.zero_le _, fun j hj h0 => absurd h0 (by omega)⟩, h.to 0 _⟩ ?_
  rintro k a w ⟨pre, h⟩
  refine sq ?_
  refine rg0 ?_
  refine lt h fun a w h => ?_
  refine nl0 ?_
  refine thN ?_
  refine sq ?_
  refine cdB h (fun c9 => ?_) (fun c9 => ?_)
  · have c9 : k < ss.length := by simpa using c9
    obtain ⟨g, off, rfl, hcell⟩ := hss.get c9
    refine sk_ ?_
    refine thN ?_
    refine sq ?_
    refine blk ?_
    refine sq ?_
    refine rg0 ?_
    refine mv h fun a w h => ?_
    refine as_ h fun a w h => ?_
    refine nl0 ?_
    refine thN ?_
    refine sq ?_
    refine rg0 ?_
    refine mv h fun a w h => ?_
    refine mv h fun a w h => ?_
    refine mv h fun a w h => ?_
    refine ia sli58 sz9 rfl c9 h fun a w h => ?_
    refine ldH t1_9 hcell h fun a w h => ?_
    refine eqb h fun a w h => ?_
    refine nl0 ?_
    refine thN ?_
    refine cdB h (fun c16 => ?_) (fun c16 => ?_)
    · have hfact : indexL ss s = (k : Int) := indexL_at c9 (fun j hj hjk => pre.2 j hj hjk) (of_decide_eq_true c16).symm
      refine sq ?_
      refine rg0 ?_
      refine mv h fun a w h => ?_
      refine as_ h fun a w h => ?_
      refine nl0 ?_
      refine thN ?_
      refine ret_ ?_
      refine ibR ?_
      refine thR ?_
      refine thR ?_
      refine ibR ?_
      refine thR ?_
      refine fin1 4 0 h LE.rfl ?_
      exact ⟨by rw [hfact], rfl, rfl⟩
    · have hne : ss[k] ≠ s := fun e => of_decide_eq_false c16 e.symm
      refine sk_ ?_
      refine ibN ?_
      refine thN ?_
      refine rg0 ?_
      refine inc ?_ h fun a w h => ?_
      · omega
      refine mv h fun a w h => ?_
      refine nl0 ?_
      refine thN ?_
      exact ⟨(k + 1), ⟨⟨by omega, fun j hj hjk => by rcases Nat.lt_succ_iff_lt_or_eq.1 hjk with h0 | rfl <;> first | exact hne | exact pre.2 j hj h0⟩, h.to 0 _⟩, by show _ - (k + 1) < _ - k; omega⟩
  · have hk : k = ss.length := by simp at c9; omega
    have hfact : indexL ss s = -1 := indexL_no fun j hj => pre.2 j hj (by omega)
    refine exit_ ?_
    refine thE ?_
    refine thE ?_
    refine ibH ?_
    refine thN ?_
    refine sq ?_
    refine rg0 ?_
    refine as_ h fun a w h => ?_
    refine nl0 ?_
    refine thN ?_
    refine ret_ ?_
    refine fin1 4 0 h LE.rfl ?_
    exact ⟨by rw [hfact], rfl, rfl⟩

theorem Contains_ok (ss : List Bs) (s : Bs) (A : Option Addr) (c : Nat) (E : World) (H : GH) (L : List It) (hss : SS H A c ss) (hb : ss.length < 1000000000000) :
    Ok Tryz.prog 47 #[.slice A ss.length c, str s] E H L fun r H' L' => r = .bool (ss.contains s) ∧ H = H' ∧ L = L' := by
  refine enter (N := 9) [(0, _), (1, _)] Tryz.func47 rfl rfl rfl rfl fun a w h => ?_
  refine sq ?_
  refine rg0 ?_
  refine as_ h fun a w h => ?_
  refine nl0 ?_
  refine thN ?_
  refine sq ?_
  refine rg0 ?_
  refine mv h fun a w h => ?_
  refine mv h fun a w h => ?_
  refine cl bod43 (Index_ok ss s A c E H _ hss hb) h fun r7 H7 L7 a w le7 R h => ?_
  obtain ⟨rfl, rfl, rfl⟩ := R
  refine ge h fun a w h => ?_
  refine as_ h fun a w h => ?_
  refine nl0 ?_
  refine thN ?_
  refine ret_ ?_
  refine fin1 4 0 h LE.rfl ?_
  exact ⟨by rw [← indexL_ge], rfl, rfl⟩

theorem Keyword_ok (s : Bs) (E : World) (H : GH) (L : List It) (hL : Laid H) :
    Ok Tryz.prog 141 #[str s] E H L fun r H' L' => r = .bool (keywordB s) ∧ H = H' ∧ L = L' := by
  refine enter (N := 6) [(0, _)] Tryz.func141 rfl rfl rfl rfl fun a w h => ?_
  refine sq ?_
  refine rg0 ?_
  refine as_ h fun a w h => ?_
  refine nl0 ?_
  refine thN ?_
  refine sq ?_
  refine rg0 ?_
  refine sla arrK sz9 h fun a w h => ?_
  refine mv h fun a w h => ?_
  refine cl bod47 (Contains_ok keysL s _ 14 E H _ hL.keys (by decide)) h fun r5 H5 L5 a w le5 R h => ?_
  obtain ⟨rfl, rfl, rfl⟩ := R
  refine as_ h fun a w h => ?_
  refine nl0 ?_
  refine thN ?_
  refine ret_ ?_
  refine fin1 2 0 h LE.rfl ?_
  exact ⟨rfl, rfl, rfl⟩
end Go.Proofs.YtindlieilabgfaaGreatDoor
/- What the package-level tables hold when the call begins. -/
set_option linter.unusedVariables false
set_option linter.unusedSectionVars false
set_option linter.unusedSimpArgs false
set_option autoImplicit false
set_option relaxedAutoImplicit false
set_option maxRecDepth 100000
namespace Go.Proofs.YtindlieilabgfaaGreatDoor
open Go X

theorem lv_get {P : Program} {w : World} {n : String} {d : DataW Unit} : ∀ {l : List (String × DataW Unit)} {ps : List MemPlace}, DataW.LaidVars P w l ps → (n, d) ∈ l →
    ∃ g t cs fuel p, P.globalNamed n = some g ∧ (P.globals[g]?).map (·.type) = some t ∧ w.var? P n = some cs ∧ DataW.trod (fun _ => ()) P w 0 (fun _ => true) false fuel t cs.toList = some (d, p)
  | [], _, _, hm => by cases hm
  | (n', d') :: l, ps, h, hm => by
    obtain ⟨g, t, cs, fuel, p, q, h1, h2, h3, h4, h5, h6⟩ := h
    cases hm with
    | head => exact ⟨g, t, cs, fuel, p, h1, h2, h3, h4⟩
    | tail _ hm => exact lv_get h5 hm
theorem str_cells {P : Program} {w : World} {fuel t e n : Nat} {cs : List Value} {ss : List Bs} {p : List MemPlace} (ht : P.underlying t = some (.array n e)) (he : P.underlying e = some .string) (hc : P.cellsOf e = 1)
    (h : DataW.trod (fun _ => ()) P w 0 (fun _ => true) false fuel t cs = some (.agg (ss.map fun s => .lit (.string s)), p)) : ∀ (i : Nat) (s : Bs), ss[i]? = some s → cs[i]? = some (str s) := by
  obtain ⟨xs, m, rfl, hx, hl, hlen, hf⟩ := DataW.trod_array ht h
  intro i s hs
  have hmap : ss.map (fun s => DataW.lit (H := Unit) (.string s)) = xs.map (·.1) := by
    have := congrArg Prod.fst hx
    simpa using this
  have hxi : (xs.map (·.1))[i]? = some (.lit (.string s)) := by rw [← hmap]; simp [hs]
  rw [List.getElem?_map, Option.map_eq_some_iff] at hxi
  obtain ⟨y, hy, hys⟩ := hxi
  have hi : i < n := by have := (List.getElem?_eq_some_iff.1 hy).1; omega
  have hg := hf i hi
  rw [hy, hc] at hg
  obtain ⟨b, e0, hyb, _⟩ := DataW.trod_string he hg
  have := piece e0 rfl 0 (by omega)
  rw [Nat.add_zero, Nat.mul_one] at this
  rw [this]
  have hb : b.data.toList = s := by rw [hyb] at hys; simpa using hys
  rw [← hb, ← str_ba]; rfl
theorem ss_of {w : World} {g n : Nat} {cs : Array Value} {ss : List Bs} (hg : ∀ i : Nat, w.cell? ⟨g, i, none⟩ = cs[i]?) (h : ∀ (i : Nat) (s : Bs), ss[i]? = some s → cs.toList[i]? = some (str s)) (hn : n = ss.length) : SS (HW w) (some ⟨g, 0, none⟩) n ss := by
  subst hn
  refine ⟨_, _, rfl, Nat.le_refl _, fun j s hs => ⟨g, 0, [str s], rfl, rfl, rfl, fun i u hu => ?_⟩⟩
  cases i with
  | zero =>
    simp at hu; subst hu
    refine hc_of ?_
    rw [hg]
    have := h j s hs
    simpa using this
  | succ i => simp at hu
theorem laid_of {l : List (String × DataW Unit)} {ps : List MemPlace} {W : World} (h : DataW.LaidVars Tryz.prog W l ps) (h1 : ("internal/strconv.uint64pow10", Rows.laid_internal_strconv_uint64pow10) ∈ l) (h2 : ("chancel/lex.keys", Rows.laid_chancel_lex_keys) ∈ l)
    (h3 : ("chancel/term.kids", Rows.laid_chancel_term_kids) ∈ l) (h4 : ("chancel/term.ops", Rows.laid_chancel_term_ops) ∈ l) : Laid (HW W) := by
  refine ⟨?_, ?_, ?_, ?_⟩
  · obtain ⟨g, t, cs, fuel, p, hg, hty, hvar, htr⟩ := lv_get h h2
    obtain rfl : g = 3 := Option.some.inj (hg.symm.trans (show Tryz.prog.globalNamed "chancel/lex.keys" = some 3 by kernel_rfl))
    obtain rfl : t = 211 := Option.some.inj (hty.symm.trans (show (Tryz.prog.globals[3]?).map (·.type) = some 211 by kernel_rfl))
    exact ss_of (World.var?_cell hg hvar) (str_cells (ss := keysL) Tryz.underlying211 Tryz.underlying9 c1_9 htr) rfl
  · obtain ⟨g, t, cs, fuel, p, hg, hty, hvar, htr⟩ := lv_get h h4
    obtain rfl : g = 1 := Option.some.inj (hg.symm.trans (show Tryz.prog.globalNamed "chancel/term.ops" = some 1 by kernel_rfl))
    obtain rfl : t = 188 := Option.some.inj (hty.symm.trans (show (Tryz.prog.globals[1]?).map (·.type) = some 188 by kernel_rfl))
    exact ss_of (World.var?_cell hg hvar) (str_cells (ss := opsL) Tryz.underlying188 Tryz.underlying9 c1_9 htr) rfl
  · obtain ⟨g, t, cs, fuel, p, hg, hty, hvar, htr⟩ := lv_get h h3
    obtain rfl : g = 0 := Option.some.inj (hg.symm.trans (show Tryz.prog.globalNamed "chancel/term.kids" = some 0 by kernel_rfl))
    obtain rfl : t = 187 := Option.some.inj (hty.symm.trans (show (Tryz.prog.globals[0]?).map (·.type) = some 187 by kernel_rfl))
    have hcs := Lib.cells_of_tab (zs := kidsL) (k := .i64) Tryz.underlying187 Tryz.underlying3 c1_3 (by kernel_rfl) htr
    intro j k hk
    refine hc_of ?_
    rw [World.var?_cell hg hvar, ← Array.getElem?_toList, hcs]
    simp [hk]
  · obtain ⟨g, t, cs, fuel, p, hg, hty, hvar, htr⟩ := lv_get h h1
    obtain rfl : t = 192 := by
      have hg2 : g = 2 := Option.some.inj (hg.symm.trans (show Tryz.prog.globalNamed "internal/strconv.uint64pow10" = some 2 by kernel_rfl))
      subst hg2
      exact Option.some.inj (hty.symm.trans (show (Tryz.prog.globals[2]?).map (·.type) = some 192 by kernel_rfl))
    have hcs := Lib.cells_of_tab (zs := Lib.pow10Tab) (k := .u64) Tryz.underlying192 Tryz.underlying128 (by kernel_rfl) (by kernel_rfl) htr
    intro w hw
    unfold Lib.TabIs
    unfold World.var? at hvar ⊢
    rw [hg] at hvar ⊢
    simp only [Option.bind_some] at hvar ⊢
    split at hvar
    · rename_i c e z hc
      cases hvar
      have := hw.fro g _ hc
      rw [this]
      simp only
      rw [← hcs]
    · cases hvar
end Go.Proofs.YtindlieilabgfaaGreatDoor
/- What a walk gives, as the row says it: true, and the arguments read as before. -/
set_option linter.unusedVariables false
set_option linter.unusedSectionVars false
set_option linter.unusedSimpArgs false
set_option autoImplicit false
set_option relaxedAutoImplicit false
namespace Go.Proofs.YtindlieilabgfaaGreatDoor
open Go X Go.ChangeShapes Go.WideShapes Go.ChangeAt

theorem below_of {W W' : World} {H' : GH} {L' : List It} (hl : LE (HW W) H') (h : St W H' L' W') : RowKit.Below W.heap.size W W' where
  os := h.os
  tape := h.tape
  output := h.output
  size := by
    rcases Nat.eq_zero_or_pos W.heap.size with h0 | h0
    · omega
    · have := h.size_le (b := W.heap.size - 1) (o := W.heap[W.heap.size - 1]'(by omega)) (hl _ _ (by unfold HW; exact Array.getElem?_eq_getElem _))
      omega
  block := fun k hk => by
    have h1 : HW W k = some (W.heap[k]'hk) := Array.getElem?_eq_getElem _
    rw [h.fro k _ (hl _ _ h1)]; exact h1.symm
theorem kept_of {W W' : World} {may : MemPlace → Prop} (h : RowKit.Below W.heap.size W W') : W.keptBut W' may := by
  refine ⟨h.os, h.output, fun i hi => ?_⟩
  rw [h.block i hi]
  cases hx : W.heap[i]? with
  | none => rfl
  | some o => cases o <;> first | exact ⟨rfl, rfl, rfl, fun _ _ => rfl⟩ | exact .inr ⟨rfl, rfl⟩ | rfl
theorem post_true {H : Type} {enc : TypeId × Value → H} {P : Program} {f : Func} {s : ChangeSpec} {apart fresh handsOn again : Bool} {W W' : World} {args : Array Value} {ds gs : List (DataW H)} {before : List MemPlace}
    (hW : DataW.Whole enc P f.params.toList s.vars apart W args.toList ds gs before) (hv : s.vars = []) (hfn : (s.fn H (ds ++ gs)).results = [.lit (.bool true)]) (hfa : (s.fn H (ds ++ gs)).args = ds) (hfv : (s.fn H (ds ++ gs)).vars = [])
    (hb : RowKit.Below W.heap.size W W') (hlo : laidOutB P = true) (hrd : ∀ t ∈ f.params.toList, P.readableRec t = true ∧ t < P.types.size) (hrt : f.resultTypes = #[4]) (hu4 : P.underlying 4 = some .bool) : s.post enc P f apart fresh handsOn again W args (.bool true) W' := by
  have hW' := hW
  obtain ⟨p, q, hA, hV, rfl, hz, hn⟩ := hW
  have hq : q = [] := by
    rw [hv] at hV
    cases gs with
    | nil => exact hV
    | cons g gs => exact hV.elim
  subst hq
  have hlt : ∀ x ∈ p, x.block < W.heap.size := fun x hx => hW'.lt x (by simpa using hx)
  have hargs : ∀ sp : Nat → Bool, (∀ x ∈ p, sp x.block = true) → DataW.TrodAll enc P W' 0 sp true f.params.toList args.toList ds p := by
    intro sp hsp
    clear hW' hz hn hfa hfn hfv
    generalize f.params.toList = ts at hA hrd
    generalize args.toList = vs at hA
    induction ts generalizing vs ds p with
    | nil => cases vs <;> cases ds <;> first | exact hA | exact hA.elim
    | cons t ts ih =>
      cases vs with
      | nil => exact hA.elim
      | cons v vs =>
        cases ds with
        | nil => exact hA.elim
        | cons d ds =>
          obtain ⟨p1, p2, h1, h2, rfl⟩ := hA
          refine ⟨p1, p2, WideElems.Trod_stays hlo (hrd t (List.mem_cons_self ..)).1 (hrd t (List.mem_cons_self ..)).2 h1 (fun x hx => hb.same (hlt x (by simp [hx]))) (fun x hx => hsp x (by simp [hx])), ?_, rfl⟩
          exact ih p2 (fun x hx => hlt x (by simp [hx])) (fun x hx => hsp x (by simp [hx])) (fun t ht => hrd t (List.mem_cons_of_mem _ ht)) vs h2
  have hres : ∀ (b : Nat) (sp : Nat → Bool) (hd : Bool), DataW.TrodAll enc P W' b sp hd f.resultTypes.toList ((Value.bool true).resultList f.resultTypes.size) [.lit (.bool true)] [] := by
    intro b sp hd
    rw [hrt]
    exact ⟨[], [], ⟨1, by simp [DataW.trod, hu4, Value.cells]⟩, rfl, rfl⟩
  refine ⟨ds, gs, p ++ [], [], p, [], hW', ?_, ?_, ?_, World.keptBut_mono (fun x hx => ⟨hx, .inr (.inl (by simpa using hx))⟩) (kept_of (may := (· ∈ p ++ [])) hb), fun _ => ?_⟩
  · rw [hfn]; exact hres _ _ _
  · rw [hfa]; exact hargs _ (fun x hx => by simpa using hlt x hx)
  · rw [hv, hfv]; exact rfl
  · refine ⟨fun j t r h1 h2 => ?_, [.lit (.bool true)] ++ ds, [], [] ++ p, ⟨[] ++ p, [], trodAll_append (hargs _ (fun _ _ => rfl)) (hres _ _ _), by rw [hv]; exact rfl, by simp, fun b off hx => ?_, fun ha => by have := hn ha; simpa using this⟩, fun x hx _ => by simpa using hx⟩
    · rw [hrt] at h1 h2
      cases j with
      | zero =>
        simp at h1 h2
        subst h1
        have h3 : r = .bool true := by
          have : ((Value.bool true).resultList 1)[0]? = some r := h2
          simp [Value.resultList] at this; exact this.symm
        subst h3
        simp [Value.okWide, hu4, Cell.okWide, Cell.ok]
      | succ j => simp at h1
    · have hx' : MemPlace.cell b off ∈ p := by simpa using hx
      have h4 := hz b off (by simpa using hx')
      have h5 : b < W.heap.size := hlt _ hx'
      unfold World.frozen? at h4 ⊢
      simp only at h4 ⊢
      rw [hb.block b h5]; exact h4
end Go.Proofs.YtindlieilabgfaaGreatDoor
/- More words of the walk: elements' addresses by an equation; pieces of known cells; whole numbers and truths as elements. -/
set_option linter.unusedVariables false
set_option linter.unusedSectionVars false
set_option linter.unusedSimpArgs false
set_option autoImplicit false
set_option relaxedAutoImplicit false
namespace Go.Proofs.YtindlieilabgfaaGreatDoor.X
open Go
section
variable {P : Program} {ops : Array Oper} {Q : Exit → Act → World → Prop} {γ : Gd P ops Q} {rest : List Oper} {o : Oper} {E w : World} {H : GH} {N : Nat} {D : List Deferred} {F : List (Nat × Value)} {L : List It} {a : Act}
variable {t u : TypeId} {x y : Operand} {d : Nat} {g off : Nat}
/-- The address of an element; where the slice lies is told by an equation. -/
theorem iaE {e sz n c j : Nat} {i : Int} {kd : IntKind} {A : Option Addr} (hs : sliT P t = some e) (hz : szT P e sz = true) (hi : i = j) (hj : j < n) (hA : A = some ⟨g, off, none⟩) (h : S E H N D F L a w)
    (k : ∀ a w, S E H N D ((d, .pointer (some ⟨g, off + j * sz, none⟩)) :: F) L a w → γ.G rest a w)
    (ho : o.op = .indexAddr t x y := by rfl) (hx : ev F x = some (.slice A n c) := by rfl) (hy : ev F y = some (.int kd i) := by rfl)
    (hw : wn ops F o = some true := by rfl) (hd : o.dst = some d := by rfl) (hN : Nat.blt d N = true := by rfl) : γ.G (o :: rest) a w := by
  subst hA
  exact ia hs hz hi hj h k ho hx hy hw hd hN
end
theorem sbL {H : GH} {g o : Nat} {l : List Value} (k n : Nat) (h : ∀ i u, l[i]? = some u → Hc H g (o + i) u) : ∀ i u, ((l.drop k).take n)[i]? = some u → Hc H g (o + k + i) u := fun i u hu => by
  rw [List.getElem?_take] at hu
  split at hu
  · rw [List.getElem?_drop] at hu
    have := h (k + i) u hu
    rwa [← Nat.add_assoc] at this
  · cases hu
def RInt (_H : GH) (cs : List Value) (n : Int) : Prop := cs = [.int .i64 n]
abbrev IS (H : GH) (A : Option Addr) (c : Nat) (ns : List Int) : Prop := RS RInt 1 H (.slice A ns.length c) ns
theorem IS.up {H H' : GH} {A : Option Addr} {c : Nat} {ns : List Int} (h : IS H A c ns) (hl : LE H H') : IS H' A c ns := RS.mono h hl fun _ _ _ h => h
theorem IS.get {H : GH} {A : Option Addr} {c : Nat} {ns : List Int} (h : IS H A c ns) {j : Nat} (hj : j < ns.length) : ∃ g off, A = some ⟨g, off, none⟩ ∧ Hc H g (off + j * 1) (.int .i64 ns[j]) := by
  obtain ⟨g, off, cs, hA, hl, hr, hc⟩ := RS.at_ h (List.getElem?_eq_getElem hj)
  unfold RInt at hr; subst hr
  exact ⟨g, off, hA, by simpa using hc 0 _ rfl⟩
theorem rint_one {H : GH} {ns : List Int} : ∀ cs y, y ∈ ns → RInt H cs y → ∀ u ∈ cs, u.oneCell' = true := by
  intro cs y _ h u hu
  unfold RInt at h; subst h; simp at hu; subst hu; rfl
def RU8 (_H : GH) (cs : List Value) (n : UInt8) : Prop := cs = [.int .u8 (n.toNat : Int)]
abbrev US (H : GH) (A : Option Addr) (c : Nat) (ns : List UInt8) : Prop := RS RU8 1 H (.slice A ns.length c) ns
theorem US.up {H H' : GH} {A : Option Addr} {c : Nat} {ns : List UInt8} (h : US H A c ns) (hl : LE H H') : US H' A c ns := RS.mono h hl fun _ _ _ h => h
theorem US.get {H : GH} {A : Option Addr} {c : Nat} {ns : List UInt8} (h : US H A c ns) {j : Nat} (hj : j < ns.length) : ∃ g off, A = some ⟨g, off, none⟩ ∧ Hc H g (off + j * 1) (.int .u8 (ns[j].toNat : Int)) := by
  obtain ⟨g, off, cs, hA, hl, hr, hc⟩ := RS.at_ h (List.getElem?_eq_getElem hj)
  unfold RU8 at hr; subst hr
  exact ⟨g, off, hA, by simpa using hc 0 _ rfl⟩
theorem rstr_row {H : GH} : ∀ ss : List (List UInt8), RowR RStr 1 H (ss.map fun s => .string ⟨s.toArray⟩) ss
  | [] => RowR.nil
  | s :: ss => by
    have := (RowR.one (R := RStr) (sz := 1) (H := H) (cs := [.string ⟨s.toArray⟩]) (y := s) rfl rfl).app (rstr_row ss)
    simpa using this
theorem S.lenrow {E w : World} {H : GH} {N : Nat} {D : List Deferred} {F : List (Nat × Value)} {L : List It} {a : Act} (h : S E H N D F L a w) : True := trivial
end Go.Proofs.YtindlieilabgfaaGreatDoor.X
/- Structs of texts, numbers and truths, compared. -/
set_option linter.unusedVariables false
set_option linter.unusedSectionVars false
set_option linter.unusedSimpArgs false
set_option autoImplicit false
set_option relaxedAutoImplicit false
namespace Go.Proofs.YtindlieilabgfaaGreatDoor.X
open Go
/-- Are two plain values of a kind the same? -/
def eqv : Nat → Value → Value → Option Bool
  | 0, .int k a, .int k' b => if k = k' then some (a == b) else none
  | 1, .bool a, .bool b => some (a == b)
  | 2, .string a, .string b => some (decide (a.data.toList = b.data.toList))
  | _, _, _ => none
def eqCells : List Nat → List Value → List Value → Option Bool
  | [], [], [] => some true
  | k :: ks, x :: xs, y :: ys => match eqv k x y, eqCells ks xs ys with
    | some a, some b => some (a && b)
    | _, _ => none
  | _, _, _ => none
def kOf (P : Program) (t : TypeId) : Option Nat := match P.underlying t with
  | some (.int _) => some 0
  | some .bool => some 1
  | some .string => some 2
  | _ => none
def flatFs (P : Program) : Nat → List Field → Option (List Nat)
  | _, [] => some []
  | i, f :: fs => if f.name != "_" && f.offset == i then match kOf P f.type, flatFs P (i + 1) fs with
    | some k, some ks => some (k :: ks)
    | _, _ => none else none
def flatT (P : Program) (t : TypeId) : Option (List Nat) := match P.underlying t with
  | some (.struct fs) => if !P.stoodInHeld t && !P.eqGuardType P.depth t then flatFs P 0 fs.toList else none
  | _ => none
section
variable {P : Program}
theorem kOf_part {t : TypeId} {k : Nat} (ht : kOf P t = some k) {cs : Array Value} {i : Nat} {v : Value} (hv : cs[i]? = some v) (w : World) : (part t cs i).run P w = .ok v w := by
  have hagg : (isAgg t).run P w = .ok false w := by
    unfold kOf at ht
    split at ht <;> first | (rename_i q; simp [isAgg, run_underlying q]) | cases ht
  simp [part, hagg, hv]
theorem eqv_run {t : TypeId} {k : Nat} (ht : kOf P t = some k) {x y : Value} {b : Bool} (hb : eqv k x y = some b) (d : Nat) (w : World) : (Op.equalIn (d + 1) t x y).run P w = .ok b w := by
  unfold kOf at ht
  unfold eqv at hb
  split at hb
  · rename_i k1 a k2 c
    split at ht <;> cases ht
    split at hb
    · rename_i q hq e; subst e
      simp at hb; subst hb
      exact run_equalIn_int w d t k1 q a c hq
    · cases hb
  · split at ht <;> cases ht
    rename_i hq
    simp at hb; subst hb
    exact run_equalIn_bool' w d t _ _ hq
  · rename_i a c
    split at ht <;> cases ht
    rename_i hq
    simp at hb; subst hb
    rw [run_equalIn_string w d t a c hq]
    congr 1
    rw [ByteArray.toList_eq, ByteArray.toList_eq]
    rw [Bool.eq_iff_iff]; simp
  · cases hb
theorem eqFields_run (xs ys : Array Value) (d : Nat) (w : World) : ∀ (fs : List Field) (i : Nat) (ks : List Nat) (b : Bool), flatFs P i fs = some ks → eqCells ks (xs.toList.drop i) (ys.toList.drop i) = some b → (Op.eqFields (d + 1) xs ys fs).run P w = .ok b w
  | [], i, ks, b, h, hb => by
    simp [flatFs] at h; subst h
    unfold eqCells at hb
    split at hb <;> simp_all [Op.eqFields]
  | f :: fs, i, ks, b, h, hb => by
    simp only [flatFs] at h
    split at h
    · rename_i hc
      simp only [bne_iff_ne, ne_eq, Bool.and_eq_true, beq_iff_eq] at hc
      split at h
      · rename_i k ks' h1 h2
        cases h
        generalize e1 : xs.toList.drop i = xl at hb
        generalize e2 : ys.toList.drop i = yl at hb
        cases xl with
        | nil => simp [eqCells] at hb
        | cons x xs' =>
        cases yl with
        | nil => simp [eqCells] at hb
        | cons y ys' =>
          simp only [eqCells] at hb
          split at hb
          · rename_i a b' h3 h4
            cases hb
            have hx : xs[i]? = some x := by
              have := congrArg (fun l => l[0]?) e1; simpa using this
            have hy : ys[i]? = some y := by
              have := congrArg (fun l => l[0]?) e2; simpa using this
            have hxs : xs' = xs.toList.drop (i + 1) := by
              have := congrArg List.tail e1; simpa using this.symm
            have hys : ys' = ys.toList.drop (i + 1) := by
              have := congrArg List.tail e2; simpa using this.symm
            subst hxs; subst hys
            have ih := eqFields_run xs ys d w fs (i + 1) ks' b' h2 h4
            simp only [Op.eqFields, ne_eq, hc.1, not_false_eq_true, if_true, hc.2]
            simp only [Sem.run_bind, kOf_part h1 hx, kOf_part h1 hy, Result.andThen_ok, eqv_run h1 h3]
            cases a
            · simp
            · simpa using ih
          · cases hb
      · cases h
    · cases h
theorem flat_of {t : TypeId} {ks : List Nat} (h : flatT P t = some ks) : ∃ fs, P.underlying t = some (.struct fs) ∧ P.fieldsOf t = fs ∧ P.stoodInHeld t = false ∧ P.eqGuardType P.depth t = false ∧ flatFs P 0 fs.toList = some ks := by
  unfold flatT at h
  split at h
  · rename_i fs hu
    split at h
    · rename_i hc
      simp at hc
      exact ⟨fs, hu, by simp [Program.fieldsOf, hu], hc.1, hc.2, h⟩
    · cases h
  · cases h
theorem eq_agg_run {t : TypeId} {ks : List Nat} {xs ys : Array Value} {b : Bool} (h : flatT P t = some ks) (hb : eqCells ks xs.toList ys.toList = some b) (w : World) : (Op.equalIn 10000 t (.agg xs) (.agg ys)).run P w = .ok b w := by
  obtain ⟨fs, h1, h2, h3, _, h5⟩ := flat_of h
  rw [run_equalIn_agg w 9999 t xs ys (by rw [h1, h2]) h3, h2]
  exact eqFields_run xs ys 9998 w fs.toList 0 ks b h5 (by simpa using hb)
variable {ops : Array Oper} {Q : Exit → Act → World → Prop} {γ : Gd P ops Q} {rest : List Oper} {o : Oper} {E w : World} {H : GH} {N : Nat} {D : List Deferred} {F : List (Nat × Value)} {L : List It} {a : Act}
variable {t u : TypeId} {x y : Operand} {d : Nat} {xs ys : Array Value} {ks : List Nat} {b : Bool}
theorem eqa (hf : flatT P t = some ks) (h : S E H N D F L a w) (k : ∀ a w, S E H N D ((d, .bool b) :: F) L a w → γ.G rest a w)
    (ho : o.op = .binOp .eql t x y u := by rfl) (hx : ev F x = some (.agg xs) := by rfl) (hy : ev F y = some (.agg ys) := by rfl) (hb : eqCells ks xs.toList ys.toList = some b := by rfl)
    (hw : wn ops F o = some true := by rfl) (hd : o.dst = some d := by rfl) (hN : Nat.blt d N = true := by rfl) : γ.G (o :: rest) a w :=
  bo (fun w => by
    obtain ⟨_, _, _, _, h4, _⟩ := flat_of hf
    rw [Sem.run_bind, run_eqGuard_agg w _ t x y xs ys h4, Result.andThen_ok, run_eql_struct, eq_agg_run hf hb]; rfl) h k ho hx hy hw hd hN
theorem nea (hf : flatT P t = some ks) (h : S E H N D F L a w) (k : ∀ a w, S E H N D ((d, .bool (!b)) :: F) L a w → γ.G rest a w)
    (ho : o.op = .binOp .neq t x y u := by rfl) (hx : ev F x = some (.agg xs) := by rfl) (hy : ev F y = some (.agg ys) := by rfl) (hb : eqCells ks xs.toList ys.toList = some b := by rfl)
    (hw : wn ops F o = some true := by rfl) (hd : o.dst = some d := by rfl) (hN : Nat.blt d N = true := by rfl) : γ.G (o :: rest) a w :=
  bo (fun w => by
    obtain ⟨_, _, _, _, h4, _⟩ := flat_of hf
    rw [Sem.run_bind, run_eqGuard_agg w _ t x y xs ys h4, Result.andThen_ok, run_neq_struct, eq_agg_run hf hb]; rfl) h k ho hx hy hw hd hN
def boolT (P : Program) (t : TypeId) : Bool := match P.underlying t with
  | some .bool => true
  | _ => false
theorem und_bool (h : boolT P t = true) : P.underlying t = some .bool := by
  unfold boolT at h; split at h
  · assumption
  · cases h
theorem eqbo {p q : Bool} (hf : boolT P t = true) (h : S E H N D F L a w) (k : ∀ a w, S E H N D ((d, .bool (p == q)) :: F) L a w → γ.G rest a w)
    (ho : o.op = .binOp .eql t x y u := by rfl) (hx : ev F x = some (.bool p) := by rfl) (hy : ev F y = some (.bool q) := by rfl)
    (hw : wn ops F o = some true := by rfl) (hd : o.dst = some d := by rfl) (hN : Nat.blt d N = true := by rfl) : γ.G (o :: rest) a w :=
  bo (fun w => by
    have h1 := run_equalIn_bool' w 9999 t p q (und_bool hf)
    simp [eqGuard, binOp, Op.equal, Op.maxDepth, h1]) h k ho hx hy hw hd hN
theorem nebo {p q : Bool} (hf : boolT P t = true) (h : S E H N D F L a w) (k : ∀ a w, S E H N D ((d, .bool (p != q)) :: F) L a w → γ.G rest a w)
    (ho : o.op = .binOp .neq t x y u := by rfl) (hx : ev F x = some (.bool p) := by rfl) (hy : ev F y = some (.bool q) := by rfl)
    (hw : wn ops F o = some true := by rfl) (hd : o.dst = some d := by rfl) (hN : Nat.blt d N = true := by rfl) : γ.G (o :: rest) a w :=
  bo (fun w => by
    have h1 := run_equalIn_bool' w 9999 t p q (und_bool hf)
    simp [eqGuard, binOp, Op.equal, Op.maxDepth, h1, bne]) h k ho hx hy hw hd hN
end
end Go.Proofs.YtindlieilabgfaaGreatDoor.X
/- append, with what the new length comes to. -/
set_option linter.unusedVariables false
set_option linter.unusedSectionVars false
set_option linter.unusedSimpArgs false
set_option autoImplicit false
set_option relaxedAutoImplicit false
namespace Go.Proofs.YtindlieilabgfaaGreatDoor.X
open Go
section
variable {P : Program} {ops : Array Oper} {Q : Exit → Act → World → Prop} {γ : Gd P ops Q} {rest : List Oper} {o : Oper} {E w : World} {H : GH} {N : Nat} {D : List Deferred} {F : List (Nat × Value)} {L : List It} {a : Act}
variable {t u : TypeId} {x y : Operand} {d : Nat} {g off : Nat} {v : Value}
theorem apn (kr kb : Nat) {e sz by_ n m : Nat} {xs : List Value} {ty' : TypeId} {z : Nat × Nat} {L' : It → List It} (news : List Value) (n' : Nat) (hn' : n + m = n') (ht : rowT P t e sz by_ = true) (h : S E H N D F L a w)
    (hb : n' * by_ ≤ 140737488355328) (h63 : n' ≤ 4611686018427387904)
    (k : ∀ v' a w, v'.oneCell' = true → S E H N D ((d, v') :: F) (L' (.row v' e sz n' (xs ++ news))) a w → γ.G rest a w)
    (hL : ∀ i, L.set kr i = L' i := by intro _; rfl) (hkr : L[kr]? = some (.row v e sz n xs) := by rfl) (hkb : L[kb]? = some (.obj g (.cells news.toArray ty' z)) := by rfl)
    (hl : news.length = m * sz := by rfl) (h1 : news.all (·.oneCell') = true := by rfl)
    (ho : o.op = .call { callee := .builtin .append, args := #[x, y], argTypes := #[t, t] } := by rfl) (hx : ev F x = some v := by rfl) (hy : ev F y = some (.slice (some ⟨g, 0, none⟩) m m) := by rfl)
    (hw : wn ops F o = some true := by rfl) (hd : o.dst = some d := by rfl) (hN : Nat.blt d N = true := by rfl) (hE : γ.isE rest.length = true := by rfl) (hS : γ.isN rest.length = true → ∀ v' w, St E H (L' (.row v' e sz n' (xs ++ news))) w → γ.S w := by first | exact fun e => Bool.noConfusion (show false = true from e) | exact fun _ _ _ hw => hw.sees' LE.rfl (by simp) | exact fun _ _ _ hw => hw.sees' (by assumption) (by simp)) : γ.G (o :: rest) a w := by
  subst hn'
  exact apb kr kb news ht h hb h63 k hL hkr hkb hl h1 ho hx hy hw hd hN hE hS
theorem apsn {α : Type} {R : GH → List Value → α → Prop} (kr : Nat) {e sz by_ n : Nat} {xs : List Value} {ys : List α} {vy : Value} {L' : It → List It} (n' : Nat) (hn' : n + ys.length = n') (ht : rowT P t e sz by_ = true) (hs : RS R sz H vy ys) (hone : ∀ cs y, y ∈ ys → R H cs y → ∀ u ∈ cs, u.oneCell' = true)
    (h : S E H N D F L a w) (hb : n' * by_ ≤ 140737488355328) (h63 : n' ≤ 4611686018427387904)
    (k : ∀ v' news a w, v'.oneCell' = true → RowR R sz H news ys → S E H N D ((d, v') :: F) (L' (.row v' e sz n' (xs ++ news))) a w → γ.G rest a w)
    (hL : ∀ i, L.set kr i = L' i := by intro _; rfl) (hkr : L[kr]? = some (.row v e sz n xs) := by rfl)
    (ho : o.op = .call { callee := .builtin .append, args := #[x, y], argTypes := #[t, t] } := by rfl) (hx : ev F x = some v := by rfl) (hy : ev F y = some vy := by rfl)
    (hw : wn ops F o = some true := by rfl) (hd : o.dst = some d := by rfl) (hN : Nat.blt d N = true := by rfl)
    (hE : γ.isE rest.length = true := by rfl) (hS : γ.isN rest.length = true → ∀ v' news w, St E H (L' (.row v' e sz n' (xs ++ news))) w → γ.S w := by first | exact fun e => Bool.noConfusion (show false = true from e) | exact fun _ _ _ _ hw => hw.sees' LE.rfl (by simp) | exact fun _ _ _ _ hw => hw.sees' (by assumption) (by simp)) : γ.G (o :: rest) a w := by
  subst hn'
  exact aps kr ht hs hone h hb h63 k hL hkr ho hx hy hw hd hN hE hS
end
end Go.Proofs.YtindlieilabgfaaGreatDoor.X
/- More operations: remainders, products, conversions of whole numbers, min, a slice's front. -/
set_option linter.unusedVariables false
set_option linter.unusedSectionVars false
set_option linter.unusedSimpArgs false
set_option autoImplicit false
set_option relaxedAutoImplicit false
namespace Go.Proofs.YtindlieilabgfaaGreatDoor.X
open Go
def intT (P : Program) (t : TypeId) : Option IntKind := match P.underlying t with
  | some (.int k) => some k
  | _ => none
theorem und_int {P : Program} {t : TypeId} {k : IntKind} (h : intT P t = some k) : P.underlying t = some (.int k) := by
  unfold intT at h; split at h
  · cases h; assumption
  · cases h
section
variable {P : Program} {ops : Array Oper} {Q : Exit → Act → World → Prop} {γ : Gd P ops Q} {rest : List Oper} {o : Oper} {E w : World} {H : GH} {N : Nat} {D : List Deferred} {F : List (Nat × Value)} {L : List It} {a : Act}
variable {t u : TypeId} {x y : Operand} {d : Nat} {kd : IntKind}
/-- A remainder of two numbers that are not negative. -/
theorem rm (m n : Nat) (hn : 0 < n) (h : S E H N D F L a w) (k : ∀ a w, S E H N D ((d, .int kd ((m % n : Nat) : Int)) :: F) L a w → γ.G rest a w)
    (ho : o.op = .binOp .rem t x y u := by rfl) (hx : ev F x = some (.int kd (m : Int)) := by rfl) (hy : ev F y = some (.int kd (n : Int)) := by rfl)
    (hw : wn ops F o = some true := by rfl) (hd : o.dst = some d := by rfl) (hN : Nat.blt d N = true := by rfl) : γ.G (o :: rest) a w :=
  bo (run_int _ _ (fun w => by
    have h0 : ¬ ((n : Int) = 0) := by omega
    have h1 : (m : Int).tmod (n : Int) = ((m % n : Nat) : Int) := rfl
    simp only [binOp, Op.intDiv, if_neg h0, h1]; simp)) h k ho hx hy hw hd hN
/-- A quotient of two numbers that are not negative. -/
theorem qu (m n : Nat) (hn : 0 < n) (hr : kd.wrap ((m / n : Nat) : Int) = ((m / n : Nat) : Int)) (h : S E H N D F L a w) (k : ∀ a w, S E H N D ((d, .int kd ((m / n : Nat) : Int)) :: F) L a w → γ.G rest a w)
    (ho : o.op = .binOp .quo t x y u := by rfl) (hx : ev F x = some (.int kd (m : Int)) := by rfl) (hy : ev F y = some (.int kd (n : Int)) := by rfl)
    (hw : wn ops F o = some true := by rfl) (hd : o.dst = some d := by rfl) (hN : Nat.blt d N = true := by rfl) : γ.G (o :: rest) a w :=
  bo (run_int _ _ (fun w => by
    have h0 : ¬ ((n : Int) = 0) := by omega
    have h1 : (m : Int).tdiv (n : Int) = ((m / n : Nat) : Int) := rfl
    simp only [binOp, Op.intDiv, if_neg h0, h1, hr]; simp)) h k ho hx hy hw hd hN
theorem ml {m n : Int} (r : Int) (hr : kd.wrap (m * n) = r) (h : S E H N D F L a w) (k : ∀ a w, S E H N D ((d, .int kd r) :: F) L a w → γ.G rest a w)
    (ho : o.op = .binOp .mul t x y u := by rfl) (hx : ev F x = some (.int kd m) := by rfl) (hy : ev F y = some (.int kd n) := by rfl)
    (hw : wn ops F o = some true := by rfl) (hd : o.dst = some d := by rfl) (hN : Nat.blt d N = true := by rfl) : γ.G (o :: rest) a w :=
  bo (run_int _ _ (fun w => by subst hr; simp [binOp, Op.intArith])) h k ho hx hy hw hd hN
/-- A whole number of another kind. -/
theorem cv {k2 k3 : IntKind} {n : Int} (r : Int) (hr : k2.wrap n = r) (hs : intT P t = some k3) (ht : intT P u = some k2) (h : S E H N D F L a w) (k : ∀ a w, S E H N D ((d, .int k2 r) :: F) L a w → γ.G rest a w)
    (ho : o.op = .convert t u x := by rfl) (hx : ev F x = some (.int kd n) := by rfl)
    (hw : wn ops F o = some true := by rfl) (hd : o.dst = some d := by rfl) (hN : Nat.blt d N = true := by rfl) : γ.G (o :: rest) a w :=
  pv h (fun w => by
    subst hr
    simp [execOp, ho, h.ag.ev hx, convert, run_underlying (und_int hs), run_underlying (und_int ht), Conv.intToInt]) k hw hd hN
/-- min of two ints. -/
theorem mn {t2 : Array TypeId} {m n : Int} (r : Int) (hr : (if n < m then n else m) = r) (h : S E H N D F L a w) (k : ∀ a w, S E H N D ((d, .int .i64 r) :: F) L a w → γ.G rest a w)
    (ho : o.op = .call { callee := .builtin .min, args := #[x, y], argTypes := t2 } := by rfl) (hx : ev F x = some (.int .i64 m) := by rfl) (hy : ev F y = some (.int .i64 n) := by rfl)
    (hw : wn ops F o = some true := by rfl) (hd : o.dst = some d := by rfl) (hN : Nat.blt d N = true := by rfl) : γ.G (o :: rest) a w :=
  pv h (fun w => by
    subst hr
    simp [execOp, ho, resolve, invoke, builtin, h.ag.ev hx, h.ag.ev hy, Builtin.min_, Builtin.min2]) k hw hd hN
/-- A slice's front. -/
theorem slh {e sz n c hi : Nat} {A : Option Addr} (hs : sliT P t = some e) (hz : szT P e sz = true) (hh : hi ≤ c) (h : S E H N D F L a w)
    (k : ∀ a w, S E H N D ((d, .slice A hi c) :: F) L a w → γ.G rest a w)
    (ho : o.op = .slice t x none (some y) none := by rfl) (hx : ev F x = some (.slice A n c) := by rfl) (hy : ev F y = some (.int kd (hi : Int)) := by rfl)
    (hw : wn ops F o = some true := by rfl) (hd : o.dst = some d := by rfl) (hN : Nat.blt d N = true := by rfl) : γ.G (o :: rest) a w := by
  have e1 : (if c = 0 then A else A.map (·.add (0 * sz))) = A := by
    split
    · rfl
    · cases A <;> simp [Addr.add]
  refine sl (l := 0) (h' := hi) (m := c) hs hz (fun w => ?_) h (fun a w h => ?_) ho hx hw hd hN
  · simp [Instr.sliceBounds, h.ag.ev hy, asIntOf, Instr.sliceBound, hh]
  · rw [e1, Nat.sub_zero, Nat.sub_zero] at h; exact k a w h
theorem slhN {e sz n c : Nat} {A : Option Addr} (hi n' : Nat) (hn : hi = n') (hs : sliT P t = some e) (hz : szT P e sz = true) (hh : hi ≤ c) (h : S E H N D F L a w)
    (k : ∀ a w, S E H N D ((d, .slice A n' c) :: F) L a w → γ.G rest a w)
    (ho : o.op = .slice t x none (some y) none := by rfl) (hx : ev F x = some (.slice A n c) := by rfl) (hy : ev F y = some (.int kd (hi : Int)) := by rfl)
    (hw : wn ops F o = some true := by rfl) (hd : o.dst = some d := by rfl) (hN : Nat.blt d N = true := by rfl) : γ.G (o :: rest) a w := by
  subst hn
  exact slh hs hz hh h k ho hx hy hw hd hN
end
/-- A cut ahead of what stands behind. -/
theorem thc {P : Program} {Q : Exit → Act → World → Prop} {a : Act} {w : World} {c : Code} {K : Act → World → Prop} (I : Act → World → Prop) (h : c.wp P (Exit.then I Q) a w) (k : ∀ a w, I a w → K a w) : c.wp P (Exit.then K Q) a w :=
  Code.wp_mono (fun e a w h => by cases e <;> first | exact k a w h | exact h) h
theorem RS.capl {α : Type} {R : GH → List Value → α → Prop} {sz n c : Nat} {H : GH} {A : Option Addr} {xs : List α} (h : RS R sz H (.slice A n c) xs) : xs.length ≤ c := by
  obtain ⟨A', c', e, h1, h2⟩ := h
  cases e; exact h1
theorem RS.front {α : Type} {R : GH → List Value → α → Prop} {sz n c hi : Nat} {H : GH} {A : Option Addr} {xs : List α} (h : RS R sz H (.slice A n c) xs) (hh : hi ≤ xs.length) : RS R sz H (.slice A (xs.take hi).length c) (xs.take hi) := by
  obtain ⟨A', c', e, h1, h2⟩ := h
  cases e
  refine ⟨A, c, rfl, by rw [List.length_take]; omega, fun j x hx => h2 j x ?_⟩
  rw [List.getElem?_take] at hx
  split at hx
  · exact hx
  · cases hx
theorem rint_row {H : GH} : ∀ ns : List Int, RowR RInt 1 H (ns.map fun n => .int .i64 n) ns
  | [] => RowR.nil
  | n :: ns => by
    have := (RowR.one (R := RInt) (sz := 1) (H := H) (cs := [.int .i64 n]) (y := n) rfl rfl).app (rint_row ns)
    simpa using this
end Go.Proofs.YtindlieilabgfaaGreatDoor.X
/- More arguments, opened: bytes, numbers. -/
set_option linter.unusedVariables false
set_option linter.unusedSectionVars false
set_option linter.unusedSimpArgs false
set_option autoImplicit false
set_option relaxedAutoImplicit false
set_option maxRecDepth 100000
namespace Go.Proofs.YtindlieilabgfaaGreatDoor
open Go X

section
variable {P : Program} {w : World} {r : Reach} {base : Nat} {t : TypeId} {v : Value}
theorem cells_int {k : IntKind} (hu : P.underlying t = some (.int k)) (h : Value.okWide P w r base t v) : v.cells.toList = [v] := by
  unfold Value.okWide at h
  rw [hu] at h
  cases v <;> simp_all [Cell.okWide, Cell.ok, Value.cells]
theorem cells_slice {e : TypeId} (hu : P.underlying t = some (.slice e)) (h : Value.okWide P w r base t v) : v.cells.toList = [v] := by
  unfold Value.okWide at h
  rw [hu] at h
  cases v <;> simp_all [Cell.okWide, Cell.ok, Value.cells]
end
section
variable {H : Type} {enc : TypeId × Value → H} {P : Program} {w : World} {base : Nat} {spare : Nat → Bool} {held : Bool}
theorem lit_in {k : IntKind} {n : Int} (h : (Lit.int k n).wf = true) : k.min ≤ n ∧ n ≤ k.max := by
  simp only [Lit.wf, Bool.and_eq_true, decide_eq_true_eq] at h; exact h
theorem open_int {k : IntKind} {t fuel : TypeId} {v : Value} {x : DataW H × List MemPlace} (hu : P.underlying t = some (.int k)) (hv : v.cells.toList = [v]) (h : DataW.trod enc P w base spare held fuel t v.cells.toList = some x) : ∃ n, v = .int k n ∧ k.min ≤ n ∧ n ≤ k.max := by
  obtain ⟨n, e, _, hw⟩ := DataW.trod_int hu h
  rw [hv] at e
  exact ⟨n, by simpa using e, lit_in hw⟩
theorem open_u8s {t e fuel : Nat} {v : Value} {x : DataW H × List MemPlace} (ht : P.underlying t = some (.slice e)) (he : P.underlying e = some (.int .u8)) (hc : P.cellsOf e = 1) (hv : v.cells.toList = [v]) (h : DataW.trod enc P w base spare held fuel t v.cells.toList = some x) (hx : Rows.uptoBulk x.1 ≤ 1048576) :
    ∃ (A : Option Addr) (c : Nat) (l : List UInt8), v = .slice A l.length c ∧ US (HW w) A c l ∧ l.length < 1000000000000 := by
  obtain ⟨A, c, ys, e1, hs, hB⟩ := open_sl (R := RU8) (B := fun _ => 1) (sz := 1) ht hc (by omega) h (fun n cs' y _ hy => by
    obtain ⟨n, rfl, e2, hw⟩ := DataW.trod_int he hy
    have hr := lit_in hw
    simp [IntKind.min, IntKind.max, IntKind.signed, IntKind.bits] at hr
    refine ⟨UInt8.ofNat n.toNat, ?_, ?_⟩
    · unfold RU8
      have : (UInt8.ofNat n.toNat).toNat = n.toNat := by simp [UInt8.toNat_ofNat']; omega
      rw [this]; congr 2; omega
    · rw [e2]; simp [Rows.uptoBulk])
  rw [hv] at e1
  refine ⟨A, c, ys, by simpa using e1, hs, ?_⟩
  have : (ys.map fun _ => 1).sum = ys.length := by clear hs e1 hB; induction ys with
    | nil => rfl
    | cons y l ih => simp only [List.map_cons, List.sum_cons, List.length_cons, ih]; omega
  omega
end
end Go.Proofs.YtindlieilabgfaaGreatDoor
/- Closed facts: structs that may be compared. -/
set_option linter.unusedVariables false
set_option linter.unusedSimpArgs false
set_option linter.unusedSectionVars false
set_option autoImplicit false
set_option relaxedAutoImplicit false
set_option maxRecDepth 10000
namespace Go.Proofs.YtindlieilabgfaaGreatDoor
open Go X
theorem flt117 : flatT Tryz.prog 117 = some [2, 2] := by kernel_rfl
theorem flt167 : flatT Tryz.prog 167 = some [0, 2, 0] := by kernel_rfl
theorem flt176 : flatT Tryz.prog 176 = some [0, 2, 0] := by kernel_rfl
theorem flt72 : flatT Tryz.prog 72 = some [2, 2, 0] := by kernel_rfl
theorem flt97 : flatT Tryz.prog 97 = some [2, 2, 0] := by kernel_rfl
theorem it12 : intT Tryz.prog 12 = some .u64 := by kernel_rfl
theorem it128 : intT Tryz.prog 128 = some .u64 := by kernel_rfl
theorem it136 : intT Tryz.prog 136 = some .u64 := by kernel_rfl
theorem it148 : intT Tryz.prog 148 = some .i64 := by kernel_rfl
theorem it157 : intT Tryz.prog 157 = some .u32 := by kernel_rfl
theorem it181 : intT Tryz.prog 181 = some .u64 := by kernel_rfl
theorem it2 : intT Tryz.prog 2 = some .i64 := by kernel_rfl
theorem it21 : intT Tryz.prog 21 = some .i32 := by kernel_rfl
theorem it223 : intT Tryz.prog 223 = some .u8 := by kernel_rfl
theorem it224 : intT Tryz.prog 224 = some .u8 := by kernel_rfl
theorem it226 : intT Tryz.prog 226 = some .i32 := by kernel_rfl
theorem it227 : intT Tryz.prog 227 = some .i32 := by kernel_rfl
theorem it3 : intT Tryz.prog 3 = some .i64 := by kernel_rfl
theorem it44 : intT Tryz.prog 44 = some .i64 := by kernel_rfl
theorem it5 : intT Tryz.prog 5 = some .u8 := by kernel_rfl
theorem it56 : intT Tryz.prog 56 = some .u16 := by kernel_rfl
theorem it6 : intT Tryz.prog 6 = some .u8 := by kernel_rfl
theorem boo4 : boolT Tryz.prog 4 = true := by kernel_rfl
end Go.Proofs.YtindlieilabgfaaGreatDoor
/- Walks: what a node may be. -/
set_option linter.unusedVariables false
set_option linter.unusedSimpArgs false
set_option linter.unusedSectionVars false
set_option autoImplicit false
set_option relaxedAutoImplicit false
set_option maxRecDepth 10000
namespace Go.Proofs.YtindlieilabgfaaGreatDoor
open Go X
theorem kids_at {j : Nat} (h : j < 14) : kidsL[j]? = some (kidsL.getD j (-1)) := by
  have : j < kidsL.length := h
  simp [List.getD, List.getElem?_eq_getElem this]

theorem node_ok (t : Tm) (v : Value) (E : World) (H : GH) (L : List It) (hv : VT H v t) (hL : Laid H) (hb : t.name.length < 1000000000000) : Ok Tryz.prog 115 #[v] E H L fun r H' L' => r = .bool t.node ∧ H = H' ∧ L = L' := by
  obtain ⟨A, c, rfl, hks⟩ := hv
  refine enter (N := 69) [(0, _)] Tryz.func115 rfl rfl rfl rfl fun a w h => ?_
  refine sq ?_
  refine rg0 ?_
  refine bxA h fun g1 a w h => ?_
  refine as_ h fun a w h => ?_
  refine nl0 ?_
  refine thN ?_
  refine sq ?_
  refine sq ?_
  refine rgd [0] [_] [] [1, 5, 10, 13, 15, 20, 25, 30, 34] 0 mix (by kernel_rfl) h (fun a w h => ?_)
  refine fa fl24_0 (r := 0) h fun a w h => ?_
  refine ldD 0 t1_3 h fun a w h => ?_
  refine lt h fun a w h => ?_
  refine h.spl (fun c5 h => ?_) (fun c5 h => ?_)
  · refine mv h fun a w h => ?_
    refine sk h (k := fun a w h => ?_)
    refine sk h (k := fun a w h => ?_)
    refine sk h (k := fun a w h => ?_)
    refine pkT h fun a w h => ?_
    refine mv h fun a w h => ?_
    refine sk h (k := fun a w h => ?_)
    refine sk h (k := fun a w h => ?_)
    refine sk h (k := fun a w h => ?_)
    refine sk h (k := fun a w h => ?_)
    refine sk h (k := fun a w h => ?_)
    refine sk h (k := fun a w h => ?_)
    refine sk h (k := fun a w h => ?_)
    refine sk h (k := fun a w h => ?_)
    refine pkT h fun a w h => ?_
    refine mv h fun a w h => ?_
    refine sk h (k := fun a w h => ?_)
    refine sk h (k := fun a w h => ?_)
    refine sk h (k := fun a w h => ?_)
    refine pkT h fun a w h => ?_
    refine mv h fun a w h => ?_
    refine sk h (k := fun a w h => ?_)
    refine sk h (k := fun a w h => ?_)
    refine sk h (k := fun a w h => ?_)
    refine pkT h fun a w h => ?_
    refine mv h fun a w h => ?_
    refine sk h (k := fun a w h => ?_)
    refine sk h (k := fun a w h => ?_)
    refine sk h (k := fun a w h => ?_)
    refine sk h (k := fun a w h => ?_)
    refine sk h (k := fun a w h => ?_)
    refine sk h (k := fun a w h => ?_)
    refine sk h (k := fun a w h => ?_)
    refine sk h (k := fun a w h => ?_)
    refine pkT h fun a w h => ?_
    refine nl0 ?_
    refine thN ?_
    refine cdT h ?_
    refine sq ?_
    refine rg0 ?_
    refine as_ h fun a w h => ?_
    refine nl0 ?_
    refine thN ?_
    refine ret_ ?_
    refine thR ?_
    refine fin1 2 1 h LE.rfl ?_
    exact ⟨by first | (simp only [Tm.node, nodeB, c5]; done) | (simp only [Tm.node, nodeB, c5]; rfl), rfl, rfl⟩
  · refine mv h fun a w h => ?_
    refine fa fl24_0 (r := 0) h fun a w h => ?_
    refine ldD 0 t1_3 h fun a w h => ?_
    refine ge h fun a w h => ?_
    refine pkF h fun a w h => ?_
    refine h.spl (fun c10 h => ?_) (fun c10 h => ?_)
    · refine mv h fun a w h => ?_
      refine sk h (k := fun a w h => ?_)
      refine sk h (k := fun a w h => ?_)
      refine sk h (k := fun a w h => ?_)
      refine sk h (k := fun a w h => ?_)
      refine sk h (k := fun a w h => ?_)
      refine sk h (k := fun a w h => ?_)
      refine sk h (k := fun a w h => ?_)
      refine sk h (k := fun a w h => ?_)
      refine pkT h fun a w h => ?_
      refine mv h fun a w h => ?_
      refine sk h (k := fun a w h => ?_)
      refine sk h (k := fun a w h => ?_)
      refine sk h (k := fun a w h => ?_)
      refine pkT h fun a w h => ?_
      refine mv h fun a w h => ?_
      refine sk h (k := fun a w h => ?_)
      refine sk h (k := fun a w h => ?_)
      refine sk h (k := fun a w h => ?_)
      refine pkT h fun a w h => ?_
      refine mv h fun a w h => ?_
      refine sk h (k := fun a w h => ?_)
      refine sk h (k := fun a w h => ?_)
      refine sk h (k := fun a w h => ?_)
      refine sk h (k := fun a w h => ?_)
      refine sk h (k := fun a w h => ?_)
      refine sk h (k := fun a w h => ?_)
      refine sk h (k := fun a w h => ?_)
      refine sk h (k := fun a w h => ?_)
      refine pkT h fun a w h => ?_
      refine nl0 ?_
      refine thN ?_
      refine cdT h ?_
      refine sq ?_
      refine rg0 ?_
      refine as_ h fun a w h => ?_
      refine nl0 ?_
      refine thN ?_
      refine ret_ ?_
      refine thR ?_
      refine fin1 2 1 h LE.rfl ?_
      exact ⟨by first | (simp only [Tm.node, nodeB, c5, c10]; done) | (simp only [Tm.node, nodeB, c5, c10]; rfl), rfl, rfl⟩
    · have hk0 : 1 ≤ t.kind := by have := of_decide_eq_false c5; omega
      have hk1 : t.kind < 14 := by have := of_decide_eq_false c10; omega
      have hkt : t.kind = (t.kind.toNat : Int) := by omega
      have hkl : t.kind.toNat < 14 := by omega
      have hkc : Hc H 0 (0 + t.kind.toNat * 1) (.int .i64 (kidsL.getD t.kind.toNat (-1))) := by rw [Nat.zero_add, Nat.mul_one]; exact hL.kids _ _ (kids_at hkl)
      refine mv h fun a w h => ?_
      refine fa fl24_3 (r := 3) h fun a w h => ?_
      refine ldD 0 t1_22 h fun a w h => ?_
      refine ln sli22 h fun a w h => ?_
      refine fa fl24_0 (r := 0) h fun a w h => ?_
      refine ldD 0 t1_3 h fun a w h => ?_
      refine iaA arrN sz3 hkt hkl h fun a w h => ?_
      refine ldHD t1_3 hkc h fun a w h => ?_
      refine nei h fun a w h => ?_
      refine pkF h fun a w h => ?_
      refine h.spl (fun c20 h => ?_) (fun c20 h => ?_)
      · refine mv h fun a w h => ?_
        refine sk h (k := fun a w h => ?_)
        refine sk h (k := fun a w h => ?_)
        refine sk h (k := fun a w h => ?_)
        refine pkT h fun a w h => ?_
        refine mv h fun a w h => ?_
        refine sk h (k := fun a w h => ?_)
        refine sk h (k := fun a w h => ?_)
        refine sk h (k := fun a w h => ?_)
        refine pkT h fun a w h => ?_
        refine mv h fun a w h => ?_
        refine sk h (k := fun a w h => ?_)
        refine sk h (k := fun a w h => ?_)
        refine sk h (k := fun a w h => ?_)
        refine sk h (k := fun a w h => ?_)
        refine sk h (k := fun a w h => ?_)
        refine sk h (k := fun a w h => ?_)
        refine sk h (k := fun a w h => ?_)
        refine sk h (k := fun a w h => ?_)
        refine pkT h fun a w h => ?_
        refine nl0 ?_
        refine thN ?_
        refine cdT h ?_
        refine sq ?_
        refine rg0 ?_
        refine as_ h fun a w h => ?_
        refine nl0 ?_
        refine thN ?_
        refine ret_ ?_
        refine thR ?_
        refine fin1 2 1 h LE.rfl ?_
        exact ⟨by first | (simp only [Tm.node, nodeB, c5, c10, c20]; done) | (simp only [Tm.node, nodeB, c5, c10, c20]; rfl), rfl, rfl⟩
      · refine mv h fun a w h => ?_
        refine fa fl24_2 (r := 2) h fun a w h => ?_
        refine ldD 0 t1_2 h fun a w h => ?_
        refine lt h fun a w h => ?_
        refine pkF h fun a w h => ?_
        refine h.spl (fun c25 h => ?_) (fun c25 h => ?_)
        · refine mv h fun a w h => ?_
          refine sk h (k := fun a w h => ?_)
          refine sk h (k := fun a w h => ?_)
          refine sk h (k := fun a w h => ?_)
          refine pkT h fun a w h => ?_
          refine mv h fun a w h => ?_
          refine sk h (k := fun a w h => ?_)
          refine sk h (k := fun a w h => ?_)
          refine sk h (k := fun a w h => ?_)
          refine sk h (k := fun a w h => ?_)
          refine sk h (k := fun a w h => ?_)
          refine sk h (k := fun a w h => ?_)
          refine sk h (k := fun a w h => ?_)
          refine sk h (k := fun a w h => ?_)
          refine pkT h fun a w h => ?_
          refine nl0 ?_
          refine thN ?_
          refine cdT h ?_
          refine sq ?_
          refine rg0 ?_
          refine as_ h fun a w h => ?_
          refine nl0 ?_
          refine thN ?_
          refine ret_ ?_
          refine thR ?_
          refine fin1 2 1 h LE.rfl ?_
          exact ⟨by first | (simp only [Tm.node, nodeB, c5, c10, c20, c25]; done) | (simp only [Tm.node, nodeB, c5, c10, c20, c25]; rfl), rfl, rfl⟩
        · refine mv h fun a w h => ?_
          refine fa fl24_2 (r := 2) h fun a w h => ?_
          refine ldD 0 t1_2 h fun a w h => ?_
          refine ge h fun a w h => ?_
          refine pkF h fun a w h => ?_
          refine h.spl (fun c30 h => ?_) (fun c30 h => ?_)
          · refine mv h fun a w h => ?_
            refine sk h (k := fun a w h => ?_)
            refine sk h (k := fun a w h => ?_)
            refine sk h (k := fun a w h => ?_)
            refine sk h (k := fun a w h => ?_)
            refine sk h (k := fun a w h => ?_)
            refine sk h (k := fun a w h => ?_)
            refine sk h (k := fun a w h => ?_)
            refine sk h (k := fun a w h => ?_)
            refine pkT h fun a w h => ?_
            refine nl0 ?_
            refine thN ?_
            refine cdT h ?_
            refine sq ?_
            refine rg0 ?_
            refine as_ h fun a w h => ?_
            refine nl0 ?_
            refine thN ?_
            refine ret_ ?_
            refine thR ?_
            refine fin1 2 1 h LE.rfl ?_
            exact ⟨by first | (simp only [Tm.node, nodeB, c5, c10, c20, c25, c30]; done) | (simp only [Tm.node, nodeB, c5, c10, c20, c25, c30]; rfl), rfl, rfl⟩
          · refine mv h fun a w h => ?_
            refine fa fl24_0 (r := 0) h fun a w h => ?_
            refine ldD 0 t1_3 h fun a w h => ?_
            refine nei h fun a w h => ?_
            refine h.spl (fun c34 h => ?_) (fun c34 h => ?_)
            · refine mv h fun a w h => ?_
              refine fa fl24_2 (r := 2) h fun a w h => ?_
              refine ldD 0 t1_2 h fun a w h => ?_
              refine nei h fun a w h => ?_
              refine pkT h fun a w h => ?_
              refine pkF h fun a w h => ?_
              refine nl0 ?_
              refine thN ?_
              refine cdB h (fun c40 => ?_) (fun c40 => ?_)
              · refine sq ?_
                refine rg0 ?_
                refine as_ h fun a w h => ?_
                refine nl0 ?_
                refine thN ?_
                refine ret_ ?_
                refine thR ?_
                refine fin1 2 1 h LE.rfl ?_
                exact ⟨by first | (simp only [Tm.node, nodeB, c5, c10, c20, c25, c30, c34, c40]; done) | (simp only [Tm.node, nodeB, c5, c10, c20, c25, c30, c34, c40]; rfl), rfl, rfl⟩
              · refine sk_ ?_
                refine thN ?_
                refine sq ?_
                refine blk ?_
                refine sq ?_
                refine rg0 ?_
                refine ldW 0 tN24 h fun a w h => ?_
                refine cl bod38 (Binder_ok _ _ _ _ _ _ _) h fun r43 H43 L43 a w le43 R h => ?_
                obtain ⟨rfl, rfl, rfl⟩ := R
                refine h.spl (fun c43 h => ?_) (fun c43 h => ?_)
                · refine mv h fun a w h => ?_
                  refine sk h (k := fun a w h => ?_)
                  refine sk h (k := fun a w h => ?_)
                  refine sk h (k := fun a w h => ?_)
                  refine pkT h fun a w h => ?_
                  refine as_ h fun a w h => ?_
                  refine nl0 ?_
                  refine thN ?_
                  refine cdT h ?_
                  refine sq ?_
                  refine rg0 ?_
                  refine fa fl24_1 (r := 1) h fun a w h => ?_
                  refine ld 0 t1_9 h fun a w h => ?_
                  refine cl bod140 (Name_ok _ E H _ (by omega)) h fun r51 H51 L51 a w le51 R h => ?_
                  obtain ⟨rfl, rfl, rfl⟩ := R
                  refine h.spl (fun c51 h => ?_) (fun c51 h => ?_)
                  · refine mv h fun a w h => ?_
                    refine fa fl24_1 (r := 1) h fun a w h => ?_
                    refine ld 0 t1_9 h fun a w h => ?_
                    refine cl bod141 (Keyword_ok _ E H _ hL) h fun r55 H55 L55 a w le55 R h => ?_
                    obtain ⟨rfl, rfl, rfl⟩ := R
                    refine nt h fun a w h => ?_
                    refine pkT h fun a w h => ?_
                    refine as_ h fun a w h => ?_
                    refine nl0 ?_
                    refine thN ?_
                    refine ret_ ?_
                    refine ibR ?_
                    refine thR ?_
                    refine fin1 2 1 h LE.rfl ?_
                    exact ⟨by first | (simp only [Tm.node, nodeB, c5, c10, c20, c25, c30, c34, c40, c43, c51]; done) | (simp only [Tm.node, nodeB, c5, c10, c20, c25, c30, c34, c40, c43, c51]; rfl), rfl, rfl⟩
                  · refine mv h fun a w h => ?_
                    refine sk h (k := fun a w h => ?_)
                    refine sk h (k := fun a w h => ?_)
                    refine sk h (k := fun a w h => ?_)
                    refine sk h (k := fun a w h => ?_)
                    refine pkF h fun a w h => ?_
                    refine as_ h fun a w h => ?_
                    refine nl0 ?_
                    refine thN ?_
                    refine ret_ ?_
                    refine ibR ?_
                    refine thR ?_
                    refine fin1 2 1 h LE.rfl ?_
                    exact ⟨by first | (simp only [Tm.node, nodeB, c5, c10, c20, c25, c30, c34, c40, c43, c51]; done) | (simp only [Tm.node, nodeB, c5, c10, c20, c25, c30, c34, c40, c43, c51]; rfl), rfl, rfl⟩
                · refine mv h fun a w h => ?_
                  refine fa fl24_0 (r := 0) h fun a w h => ?_
                  refine ld 0 t1_3 h fun a w h => ?_
                  refine eqi h fun a w h => ?_
                  refine pkF h fun a w h => ?_
                  refine as_ h fun a w h => ?_
                  refine nl0 ?_
                  refine thN ?_
                  refine cdB h (fun c41 => ?_) (fun c41 => ?_)
                  · refine sq ?_
                    refine rg0 ?_
                    refine fa fl24_1 (r := 1) h fun a w h => ?_
                    refine ld 0 t1_9 h fun a w h => ?_
                    refine cl bod140 (Name_ok _ E H _ (by omega)) h fun r51 H51 L51 a w le51 R h => ?_
                    obtain ⟨rfl, rfl, rfl⟩ := R
                    refine h.spl (fun c51 h => ?_) (fun c51 h => ?_)
                    · refine mv h fun a w h => ?_
                      refine fa fl24_1 (r := 1) h fun a w h => ?_
                      refine ld 0 t1_9 h fun a w h => ?_
                      refine cl bod141 (Keyword_ok _ E H _ hL) h fun r55 H55 L55 a w le55 R h => ?_
                      obtain ⟨rfl, rfl, rfl⟩ := R
                      refine nt h fun a w h => ?_
                      refine pkT h fun a w h => ?_
                      refine as_ h fun a w h => ?_
                      refine nl0 ?_
                      refine thN ?_
                      refine ret_ ?_
                      refine ibR ?_
                      refine thR ?_
                      refine fin1 2 1 h LE.rfl ?_
                      exact ⟨by first | (simp only [Tm.node, nodeB, c5, c10, c20, c25, c30, c34, c40, c43, c41, c51]; done) | (simp only [Tm.node, nodeB, c5, c10, c20, c25, c30, c34, c40, c43, c41, c51]; rfl), rfl, rfl⟩
                    · refine mv h fun a w h => ?_
                      refine sk h (k := fun a w h => ?_)
                      refine sk h (k := fun a w h => ?_)
                      refine sk h (k := fun a w h => ?_)
                      refine sk h (k := fun a w h => ?_)
                      refine pkF h fun a w h => ?_
                      refine as_ h fun a w h => ?_
                      refine nl0 ?_
                      refine thN ?_
                      refine ret_ ?_
                      refine ibR ?_
                      refine thR ?_
                      refine fin1 2 1 h LE.rfl ?_
                      exact ⟨by first | (simp only [Tm.node, nodeB, c5, c10, c20, c25, c30, c34, c40, c43, c41, c51]; done) | (simp only [Tm.node, nodeB, c5, c10, c20, c25, c30, c34, c40, c43, c41, c51]; rfl), rfl, rfl⟩
                  · refine sq ?_
                    refine rg0 ?_
                    refine fa fl24_0 (r := 0) h fun a w h => ?_
                    refine ld 0 t1_3 h fun a w h => ?_
                    refine eqi h fun a w h => ?_
                    refine as_ h fun a w h => ?_
                    refine nl0 ?_
                    refine thN ?_
                    refine cdB h (fun c58 => ?_) (fun c58 => ?_)
                    · refine sq ?_
                      refine rgd [0] [_] [1] [2] 3 mix (by kernel_rfl) h (fun a w h => ?_)
                      refine sla arrO sz9 h fun a w h => ?_
                      refine fa fl24_1 (r := 1) h fun a w h => ?_
                      refine ldD 0 t1_9 h fun a w h => ?_
                      refine cl bod47 (Contains_ok opsL _ _ 5 E H _ hL.ops (by decide)) h fun r65 H65 L65 a w le65 R h => ?_
                      obtain ⟨rfl, rfl, rfl⟩ := R
                      refine as_ h fun a w h => ?_
                      refine nl0 ?_
                      refine thN ?_
                      refine ret_ ?_
                      refine ibR ?_
                      refine thR ?_
                      refine fin1 2 1 h LE.rfl ?_
                      exact ⟨by first | (simp only [Tm.node, nodeB, c5, c10, c20, c25, c30, c34, c40, c43, c41, c58]; done) | (simp only [Tm.node, nodeB, c5, c10, c20, c25, c30, c34, c40, c43, c41, c58]; rfl), rfl, rfl⟩
                    · refine sk_ ?_
                      refine ibN ?_
                      refine thN ?_
                      refine sq ?_
                      refine rg0 ?_
                      refine fa fl24_1 (r := 1) h fun a w h => ?_
                      refine ld 0 t1_9 h fun a w h => ?_
                      refine eqb h fun a w h => ?_
                      refine as_ h fun a w h => ?_
                      refine nl0 ?_
                      refine thN ?_
                      refine ret_ ?_
                      refine fin1 2 1 h LE.rfl ?_
                      exact ⟨by first | (simp only [Tm.node, nodeB, c5, c10, c20, c25, c30, c34, c40, c43, c41, c58]; done) | (simp only [Tm.node, nodeB, c5, c10, c20, c25, c30, c34, c40, c43, c41, c58]; rfl), rfl, rfl⟩
            · refine mv h fun a w h => ?_
              refine sk h (k := fun a w h => ?_)
              refine sk h (k := fun a w h => ?_)
              refine sk h (k := fun a w h => ?_)
              refine pkF h fun a w h => ?_
              refine pkF h fun a w h => ?_
              refine nl0 ?_
              refine thN ?_
              refine cdF h ?_
              refine sk_ ?_
              refine thN ?_
              refine sq ?_
              refine blk ?_
              refine sq ?_
              refine rg0 ?_
              refine ldW 0 tN24 h fun a w h => ?_
              refine cl bod38 (Binder_ok _ _ _ _ _ _ _) h fun r43 H43 L43 a w le43 R h => ?_
              obtain ⟨rfl, rfl, rfl⟩ := R
              refine h.spl (fun c43 h => ?_) (fun c43 h => ?_)
              · refine mv h fun a w h => ?_
                refine sk h (k := fun a w h => ?_)
                refine sk h (k := fun a w h => ?_)
                refine sk h (k := fun a w h => ?_)
                refine pkT h fun a w h => ?_
                refine as_ h fun a w h => ?_
                refine nl0 ?_
                refine thN ?_
                refine cdT h ?_
                refine sq ?_
                refine rg0 ?_
                refine fa fl24_1 (r := 1) h fun a w h => ?_
                refine ld 0 t1_9 h fun a w h => ?_
                refine cl bod140 (Name_ok _ E H _ (by omega)) h fun r51 H51 L51 a w le51 R h => ?_
                obtain ⟨rfl, rfl, rfl⟩ := R
                refine h.spl (fun c51 h => ?_) (fun c51 h => ?_)
                · refine mv h fun a w h => ?_
                  refine fa fl24_1 (r := 1) h fun a w h => ?_
                  refine ld 0 t1_9 h fun a w h => ?_
                  refine cl bod141 (Keyword_ok _ E H _ hL) h fun r55 H55 L55 a w le55 R h => ?_
                  obtain ⟨rfl, rfl, rfl⟩ := R
                  refine nt h fun a w h => ?_
                  refine pkT h fun a w h => ?_
                  refine as_ h fun a w h => ?_
                  refine nl0 ?_
                  refine thN ?_
                  refine ret_ ?_
                  refine ibR ?_
                  refine thR ?_
                  refine fin1 2 1 h LE.rfl ?_
                  exact ⟨by first | (simp only [Tm.node, nodeB, c5, c10, c20, c25, c30, c34, c43, c51]; done) | (simp only [Tm.node, nodeB, c5, c10, c20, c25, c30, c34, c43, c51]; rfl), rfl, rfl⟩
                · refine mv h fun a w h => ?_
                  refine sk h (k := fun a w h => ?_)
                  refine sk h (k := fun a w h => ?_)
                  refine sk h (k := fun a w h => ?_)
                  refine sk h (k := fun a w h => ?_)
                  refine pkF h fun a w h => ?_
                  refine as_ h fun a w h => ?_
                  refine nl0 ?_
                  refine thN ?_
                  refine ret_ ?_
                  refine ibR ?_
                  refine thR ?_
                  refine fin1 2 1 h LE.rfl ?_
                  exact ⟨by first | (simp only [Tm.node, nodeB, c5, c10, c20, c25, c30, c34, c43, c51]; done) | (simp only [Tm.node, nodeB, c5, c10, c20, c25, c30, c34, c43, c51]; rfl), rfl, rfl⟩
              · refine mv h fun a w h => ?_
                refine fa fl24_0 (r := 0) h fun a w h => ?_
                refine ld 0 t1_3 h fun a w h => ?_
                refine eqi h fun a w h => ?_
                refine pkF h fun a w h => ?_
                refine as_ h fun a w h => ?_
                refine nl0 ?_
                refine thN ?_
                refine cdB h (fun c41 => ?_) (fun c41 => ?_)
                · refine sq ?_
                  refine rg0 ?_
                  refine fa fl24_1 (r := 1) h fun a w h => ?_
                  refine ld 0 t1_9 h fun a w h => ?_
                  refine cl bod140 (Name_ok _ E H _ (by omega)) h fun r51 H51 L51 a w le51 R h => ?_
                  obtain ⟨rfl, rfl, rfl⟩ := R
                  refine h.spl (fun c51 h => ?_) (fun c51 h => ?_)
                  · refine mv h fun a w h => ?_
                    refine fa fl24_1 (r := 1) h fun a w h => ?_
                    refine ld 0 t1_9 h fun a w h => ?_
                    refine cl bod141 (Keyword_ok _ E H _ hL) h fun r55 H55 L55 a w le55 R h => ?_
                    obtain ⟨rfl, rfl, rfl⟩ := R
                    refine nt h fun a w h => ?_
                    refine pkT h fun a w h => ?_
                    refine as_ h fun a w h => ?_
                    refine nl0 ?_
                    refine thN ?_
                    refine ret_ ?_
                    refine ibR ?_
                    refine thR ?_
                    refine fin1 2 1 h LE.rfl ?_
                    exact ⟨by first | (simp only [Tm.node, nodeB, c5, c10, c20, c25, c30, c34, c43, c41, c51]; done) | (simp only [Tm.node, nodeB, c5, c10, c20, c25, c30, c34, c43, c41, c51]; rfl), rfl, rfl⟩
                  · refine mv h fun a w h => ?_
                    refine sk h (k := fun a w h => ?_)
                    refine sk h (k := fun a w h => ?_)
                    refine sk h (k := fun a w h => ?_)
                    refine sk h (k := fun a w h => ?_)
                    refine pkF h fun a w h => ?_
                    refine as_ h fun a w h => ?_
                    refine nl0 ?_
                    refine thN ?_
                    refine ret_ ?_
                    refine ibR ?_
                    refine thR ?_
                    refine fin1 2 1 h LE.rfl ?_
                    exact ⟨by first | (simp only [Tm.node, nodeB, c5, c10, c20, c25, c30, c34, c43, c41, c51]; done) | (simp only [Tm.node, nodeB, c5, c10, c20, c25, c30, c34, c43, c41, c51]; rfl), rfl, rfl⟩
                · refine sq ?_
                  refine rg0 ?_
                  refine fa fl24_0 (r := 0) h fun a w h => ?_
                  refine ld 0 t1_3 h fun a w h => ?_
                  refine eqi h fun a w h => ?_
                  refine as_ h fun a w h => ?_
                  refine nl0 ?_
                  refine thN ?_
                  refine cdB h (fun c58 => ?_) (fun c58 => ?_)
                  · refine sq ?_
                    refine rgd [0] [_] [1] [2] 3 mix (by kernel_rfl) h (fun a w h => ?_)
                    refine sla arrO sz9 h fun a w h => ?_
                    refine fa fl24_1 (r := 1) h fun a w h => ?_
                    refine ldD 0 t1_9 h fun a w h => ?_
                    refine cl bod47 (Contains_ok opsL _ _ 5 E H _ hL.ops (by decide)) h fun r65 H65 L65 a w le65 R h => ?_
                    obtain ⟨rfl, rfl, rfl⟩ := R
                    refine as_ h fun a w h => ?_
                    refine nl0 ?_
                    refine thN ?_
                    refine ret_ ?_
                    refine ibR ?_
                    refine thR ?_
                    refine fin1 2 1 h LE.rfl ?_
                    exact ⟨by first | (simp only [Tm.node, nodeB, c5, c10, c20, c25, c30, c34, c43, c41, c58]; done) | (simp only [Tm.node, nodeB, c5, c10, c20, c25, c30, c34, c43, c41, c58]; rfl), rfl, rfl⟩
                  · refine sk_ ?_
                    refine ibN ?_
                    refine thN ?_
                    refine sq ?_
                    refine rg0 ?_
                    refine fa fl24_1 (r := 1) h fun a w h => ?_
                    refine ld 0 t1_9 h fun a w h => ?_
                    refine eqb h fun a w h => ?_
                    refine as_ h fun a w h => ?_
                    refine nl0 ?_
                    refine thN ?_
                    refine ret_ ?_
                    refine fin1 2 1 h LE.rfl ?_
                    exact ⟨by first | (simp only [Tm.node, nodeB, c5, c10, c20, c25, c30, c34, c43, c41, c58]; done) | (simp only [Tm.node, nodeB, c5, c10, c20, c25, c30, c34, c43, c41, c58]; rfl), rfl, rfl⟩
end Go.Proofs.YtindlieilabgfaaGreatDoor
