/- Plain words: names, keywords, nodes. -/
import Derived.Test.YtindlieilabgfaaGreatDoorT1
set_option linter.unusedVariables false
set_option linter.unusedSectionVars false
set_option linter.unusedSimpArgs false
set_option autoImplicit false
set_option relaxedAutoImplicit false
namespace Go.Proofs.YtindlieilabgfaaGreatDoor
open Go X

def letterB (c : UInt8) : Bool := decide ((97 : Int) ≤ ((c ||| 32).toNat : Int)) && decide (((c ||| 32).toNat : Int) ≤ (122 : Int))
def digitB (c : UInt8) : Bool := decide ((48 : Int) ≤ (c.toNat : Int)) && decide ((c.toNat : Int) ≤ (57 : Int))
/-- Is byte j of a name well placed? -/
def okAt (s : Bs) (j : Nat) : Bool := letterB (s.getD j 0) || (j != 0 && digitB (s.getD j 0))
def nameB (s : Bs) : Bool := (List.range s.length).all (okAt s) && (decide ((0 : Int) < (s.length : Int)) && decide ((s.length : Int) ≤ 16))
theorem nameB_no {s : Bs} {k : Nat} (hk : k < s.length) (h : okAt s k = false) : nameB s = false := by
  unfold nameB
  have : (List.range s.length).all (okAt s) = false := by
    rw [List.all_eq_false]; exact ⟨k, List.mem_range.2 hk, by simp [h]⟩
  rw [this]; rfl
theorem nameB_yes {s : Bs} (h : ∀ j, j < s.length → okAt s j = true) : nameB s = (decide ((0 : Int) < (s.length : Int)) && decide ((s.length : Int) ≤ 16)) := by
  unfold nameB
  have : (List.range s.length).all (okAt s) = true := by
    rw [List.all_eq_true]; exact fun j hj => h j (List.mem_range.1 hj)
  rw [this]; rfl
def keysL : List Bs := [[102, 117, 110], [108, 101, 116], [105, 110], [105, 102], [116, 104, 101, 110], [101, 108, 115, 101], [119, 104, 105, 108, 101], [100, 111], [114, 97, 105, 115, 101], [116, 114, 121], [119, 105, 116, 104], [105, 110, 112, 117, 116], [99, 101, 108, 108], [100, 101, 102]]
def opsL : List Bs := [[43], [45], [42], [60], [61]]
def kidsL : List Int := [-1, 0, 0, 1, 2, 2, 3, 2, 1, 2, 1, 2, 2, 2]
def keywordB (s : Bs) : Bool := keysL.contains s
/-- Where a text stands among some; -1: nowhere. -/
def indexL (ss : List Bs) (s : Bs) : Int := match ss.findIdx? (· == s) with
  | some j => (j : Int)
  | none => -1
theorem indexL_at {ss : List Bs} {s : Bs} {k : Nat} (hk : k < ss.length) (h : ∀ j (hj : j < ss.length), j < k → ss[j] ≠ s) (e : ss[k] = s) : indexL ss s = (k : Int) := by
  unfold indexL
  have : ss.findIdx? (· == s) = some k := by
    rw [List.findIdx?_eq_some_iff_getElem]
    refine ⟨hk, by simp [e], fun j hj => ?_⟩
    simpa using h j (by omega) hj
  rw [this]
theorem indexL_no {ss : List Bs} {s : Bs} (h : ∀ j (hj : j < ss.length), ss[j] ≠ s) : indexL ss s = -1 := by
  unfold indexL
  have : ss.findIdx? (· == s) = none := by
    rw [List.findIdx?_eq_none_iff]
    intro x hx
    obtain ⟨j, hj, rfl⟩ := List.getElem_of_mem hx
    simpa using h j hj
  rw [this]
theorem indexL_ge (ss : List Bs) (s : Bs) : decide ((0 : Int) ≤ indexL ss s) = ss.contains s := by
  by_cases hc : s ∈ ss
  · rw [List.contains_iff_mem.2 hc, decide_eq_true_eq]
    unfold indexL
    split
    · omega
    · rename_i h
      rw [List.findIdx?_eq_none_iff] at h
      simpa using h s hc
  · have : ss.contains s = false := by simpa using hc
    rw [this, decide_eq_false_iff_not, indexL_no (fun j hj e => hc (by rw [← e]; exact List.getElem_mem hj))]
    decide
/-- Is a term alone well made? -/
def nodeB (k : Int) (s : Bs) (n : Int) (l : Nat) : Bool :=
  !(decide (k < 1) || (decide (14 ≤ k) || (((l : Int) != kidsL.getD k.toNat (-1)) || (decide (n < 0) || (decide (2147483648 ≤ n) || ((k != 1) && (n != 0))))))) &&
    (if bnd k || k == 2 then nameB s && !keywordB s else if k == 12 then opsL.contains s else decide (s = []))
end Go.Proofs.YtindlieilabgfaaGreatDoor
