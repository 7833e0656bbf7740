/- A program as a text; how long texts become. -/
import Derived.Test.YtindlieilabgfaaGreatDoorT3
import Derived.Lib.ItoaLen
set_option linter.unusedVariables false
set_option linter.unusedSectionVars false
set_option linter.unusedSimpArgs false
set_option autoImplicit false
set_option relaxedAutoImplicit false
namespace Go.Proofs.YtindlieilabgfaaGreatDoor
open Go X

theorem X.Hc.sub {H : GH} {g : Nat} {l : List Value} {e : TypeId} {z : Nat × Nat} (o n : Nat) (h : H g = some (.cells l.toArray e z)) : ∀ i u, ((l.drop o).take n)[i]? = some u → Hc H g (o + i) u := fun i u hu => ⟨_, _, _, h, by
  rw [List.getElem?_take] at hu
  split at hu
  · simpa using hu
  · cases hu⟩
theorem nameB_len {s : Bs} (h : nameB s = true) : s.length ≤ 16 := by
  unfold nameB at h
  simp only [Bool.and_eq_true, decide_eq_true_eq] at h
  have := h.2.2
  omega
theorem wordB_len {s : Bs} (h : wordB s = true) : s.length ≤ 16 := by
  unfold wordB at h
  simp only [Bool.and_eq_true] at h
  exact nameB_len h.1
theorem node_name {k : Int} {s : Bs} {n : Int} {l : Nat} (h : nodeB k s n l = true) : s.length ≤ 16 := by
  unfold nodeB at h
  rw [Bool.and_eq_true] at h
  have h := h.2
  split at h
  · rw [Bool.and_eq_true] at h; exact nameB_len h.1
  · split at h
    · have : ∀ x ∈ opsL, x.length ≤ 16 := by decide
      exact this s (by simpa using h)
    · have := of_decide_eq_true h; subst this; simp
theorem lay_texts {kd : Int} {s : Bs} {n : Int} {w : Nat → List Tk} (hs : s.length ≤ 21) (hi : (Lib.itoa n).length ≤ 21) (h0 : ∀ k ∈ w 0, k.text.length ≤ 21) (h1 : ∀ k ∈ w 1, k.text.length ≤ 21) (h2 : ∀ k ∈ w 2, k.text.length ≤ 21) :
    ∀ k ∈ layT' kd s n w, k.text.length ≤ 21 := by
  unfold layT'
  by_cases c1 : (kd == 1) = true
  · rw [if_pos c1]; simp only [List.forall_mem_cons, List.forall_mem_append, List.forall_mem_nil]; (try simp [hs, hi]); (try (repeat' first | exact h0 | exact h1 | exact h2 | constructor))
  rw [if_neg c1]
  by_cases c2 : (kd == 2) = true
  · rw [if_pos c2]; simp only [List.forall_mem_cons, List.forall_mem_append, List.forall_mem_nil]; (try simp [hs, hi]); (try (repeat' first | exact h0 | exact h1 | exact h2 | constructor))
  rw [if_neg c2]
  by_cases c3 : (kd == 3) = true
  · rw [if_pos c3]; simp only [List.forall_mem_cons, List.forall_mem_append, List.forall_mem_nil]; (try simp [hs, hi]); (try (repeat' first | exact h0 | exact h1 | exact h2 | constructor))
  rw [if_neg c3]
  by_cases c4 : (kd == 4) = true
  · rw [if_pos c4]; simp only [List.forall_mem_cons, List.forall_mem_append, List.forall_mem_nil]; (try simp [hs, hi]); (try (repeat' first | exact h0 | exact h1 | exact h2 | constructor))
  rw [if_neg c4]
  by_cases c5 : (kd == 5) = true
  · rw [if_pos c5]; simp only [List.forall_mem_cons, List.forall_mem_append, List.forall_mem_nil]; (try simp [hs, hi]); (try (repeat' first | exact h0 | exact h1 | exact h2 | constructor))
  rw [if_neg c5]
  by_cases c6 : (kd == 6) = true
  · rw [if_pos c6]; simp only [List.forall_mem_cons, List.forall_mem_append, List.forall_mem_nil]; (try simp [hs, hi]); (try (repeat' first | exact h0 | exact h1 | exact h2 | constructor))
  rw [if_neg c6]
  by_cases c7 : (kd == 7) = true
  · rw [if_pos c7]; simp only [List.forall_mem_cons, List.forall_mem_append, List.forall_mem_nil]; (try simp [hs, hi]); (try (repeat' first | exact h0 | exact h1 | exact h2 | constructor))
  rw [if_neg c7]
  by_cases c8 : (kd == 8) = true
  · rw [if_pos c8]; simp only [List.forall_mem_cons, List.forall_mem_append, List.forall_mem_nil]; (try simp [hs, hi]); (try (repeat' first | exact h0 | exact h1 | exact h2 | constructor))
  rw [if_neg c8]
  by_cases c9 : (kd == 9) = true
  · rw [if_pos c9]; simp only [List.forall_mem_cons, List.forall_mem_append, List.forall_mem_nil]; (try simp [hs, hi]); (try (repeat' first | exact h0 | exact h1 | exact h2 | constructor))
  rw [if_neg c9]
  by_cases c10 : (kd == 10) = true
  · rw [if_pos c10]; simp only [List.forall_mem_cons, List.forall_mem_append, List.forall_mem_nil]; (try simp [hs, hi]); (try (repeat' first | exact h0 | exact h1 | exact h2 | constructor))
  rw [if_neg c10]
  by_cases c11 : (kd == 11) = true
  · rw [if_pos c11]; simp only [List.forall_mem_cons, List.forall_mem_append, List.forall_mem_nil]; (try simp [hs, hi]); (try (repeat' first | exact h0 | exact h1 | exact h2 | constructor))
  rw [if_neg c11]
  by_cases c12 : (kd == 12) = true
  · rw [if_pos c12]; simp only [List.forall_mem_cons, List.forall_mem_append, List.forall_mem_nil]; (try simp [hs, hi]); (try (repeat' first | exact h0 | exact h1 | exact h2 | constructor))
  rw [if_neg c12]
  simp only [List.forall_mem_cons, List.forall_mem_append]; exact ⟨h0, by simp, h1⟩
mutual
theorem toks_texts : ∀ t : Tm, t.wrong = false → ∀ k ∈ t.toks, k.text.length ≤ 21
  | .mk kd s n ks, h => by
    rw [toks_mk]
    obtain ⟨hn, hk⟩ := right_of h
    have hl := node_name hn
    obtain ⟨_, _, _, h0, h1⟩ := kids_of_node hn
    have hw := within_texts ks hk
    exact lay_texts (by omega) (Lib.itoa_length_le n (by omega) (by omega)) (hw 0) (hw 1) (hw 2)
theorem within_texts : ∀ ks : List Tm, (∀ x ∈ ks, x.wrong = false) → ∀ i, ∀ k ∈ withinN ks i, k.text.length ≤ 21
  | [], _, i, k, hk => by simp [withinN] at hk
  | t :: l, h, 0, k, hk => by
    have ht := toks_texts t (h t (List.mem_cons_self ..))
    simp only [withinN] at hk
    split at hk
    · exact ht k hk
    · simp only [List.mem_cons, List.mem_append, List.not_mem_nil, or_false] at hk
      rcases hk with rfl | hk | rfl
      · simp
      · exact ht k hk
      · simp
  | t :: l, h, i + 1, k, hk => by
    simp only [withinN] at hk
    exact within_texts l (fun x hx => h x (List.mem_cons_of_mem _ hx)) i k hk
end
theorem lens_le {xs : List Bs} (h : ∀ x ∈ xs, x.length ≤ 21) : Lib.lens xs ≤ 21 * xs.length := by
  induction xs with
  | nil => simp [Lib.lens]
  | cons x l ih =>
    have h1 := h x (List.mem_cons_self ..)
    have h2 := ih fun y hy => h y (List.mem_cons_of_mem _ hy)
    simp only [Lib.lens, List.map_cons, List.sum_cons, List.length_cons] at *
    omega
theorem show_len {ks : List Tk} (h : ∀ k ∈ ks, k.text.length ≤ 21) : (showL ks).length ≤ 22 * ks.length := by
  unfold showL
  cases ks with
  | nil => simp [Lib.join_nil]
  | cons k l =>
    have := lens_le (xs := (k :: l).map (·.text)) (fun x hx => by
      obtain ⟨y, hy, rfl⟩ := List.mem_map.1 hx; exact h y hy)
    rw [List.map_cons] at this ⊢
    rw [Lib.join_length]
    simp only [List.length_cons, List.length_map, List.length_nil] at this ⊢
    omega
theorem show_le {t : Tm} (h : t.right = true) : (showL t.toks).length ≤ 2000000 := by
  unfold Tm.right at h
  simp only [Bool.and_eq_true, decide_eq_true_eq, Bool.not_eq_true'] at h
  have h1 := show_len (toks_texts t h.2.2)
  have h2 := toks_len t
  omega
theorem show'_le (t : Tm) : t.show'.length ≤ 2000000 := by
  unfold Tm.show'
  split
  · exact show_le (by assumption)
  · simp
/-- An input's line, a cell's, a definition's. -/
def Dc.inL (d : Dc) : Bs := ((([105, 110, 112, 117, 116, 32] ++ d.name) ++ [32, 58, 32]) ++ d.label) ++ [32, 46, 10]
def Dc.cellL (d : Dc) : Bs := ((((([99, 101, 108, 108, 32] ++ d.name) ++ [32, 58, 32]) ++ d.label) ++ [32, 61, 32]) ++ Lib.itoa d.n) ++ [32, 46, 10]
def Df.line (d : Df) : Bs := ((([100, 101, 102, 32] ++ d.name) ++ [32, 61, 32]) ++ d.t.show') ++ [32, 46, 10]
def Pg.text (p : Pg) : Bs := (((p.inputs.flatMap Dc.inL) ++ p.cells.flatMap Dc.cellL) ++ p.defs.flatMap Df.line) ++ (p.body.show' ++ [10])
def Pg.print (p : Pg) : Bs := if p.fits then if decide (65536 < (p.text.length : Int)) then [] else p.text else []
def Pg.right (p : Pg) : Bool := !decide (p.print = [])
theorem fits_of {p : Pg} (h : p.fits = true) : p.inputs.length ≤ 32 ∧ p.cells.length ≤ 32 ∧ p.defs.length ≤ 32 ∧ (∀ d ∈ p.inputs, d.wrong = false ∧ d.n = 0) ∧ (∀ d ∈ p.cells, d.wrong = false) ∧ (∀ d ∈ p.defs, d.wrong = false) ∧ p.body.right = true := by
  unfold Pg.fits Pg.bad at h
  simp only [Bool.and_eq_true, Bool.not_eq_true', Bool.or_eq_false_iff, List.any_eq_false, decide_eq_true_eq] at h
  obtain ⟨⟨h1, h2, h3, h4⟩, h5, h6⟩ := h
  unfold mx3 at h5
  have : (p.inputs.length : Int) ≤ 32 ∧ (p.cells.length : Int) ≤ 32 ∧ (p.defs.length : Int) ≤ 32 := by
    split at h5
    · split at h5 <;> (rename_i a b; refine ⟨?_, ?_, ?_⟩ <;> first | omega | (rw [if_pos (by assumption)] at a; omega) | (rw [if_neg (by assumption)] at a; omega))
    · split at h5 <;> (rename_i a b; refine ⟨?_, ?_, ?_⟩ <;> first | omega | (rw [if_pos (by assumption)] at a; omega) | (rw [if_neg (by assumption)] at a; omega))
  refine ⟨by omega, by omega, by omega, fun d hd => ⟨by simpa using h1 d hd, by simpa using h2 d hd⟩, fun d hd => by simpa using h3 d hd, fun d hd => by simpa using h4 d hd, h6⟩
theorem dc_len {d : Dc} (h : d.wrong = false) : d.name.length ≤ 16 ∧ d.label.length ≤ 16 ∧ 0 ≤ d.n ∧ d.n < 2147483648 := by
  unfold Dc.wrong at h
  simp only [Bool.or_eq_false_iff, Bool.not_eq_false', decide_eq_false_iff_not] at h
  exact ⟨wordB_len h.1, wordB_len h.2.1, by omega, by omega⟩
theorem df_len {d : Df} (h : d.wrong = false) : d.name.length ≤ 16 ∧ d.t.right = true := by
  unfold Df.wrong at h
  simp only [Bool.or_eq_false_iff, Bool.not_eq_false'] at h
  exact ⟨wordB_len h.1, h.2.1⟩
theorem flat_take {α : Type} {f : α → Bs} {xs : List α} {k : Nat} (h : k < xs.length) : (xs.take (k + 1)).flatMap f = (xs.take k).flatMap f ++ f xs[k] := by
  rw [List.take_succ_eq_append_getElem h, List.flatMap_append]; simp
theorem flat_len {α : Type} {f : α → Bs} {B : Nat} : ∀ {xs : List α}, (∀ x ∈ xs, (f x).length ≤ B) → (xs.flatMap f).length ≤ B * xs.length
  | [], _ => by simp
  | x :: l, h => by
    have h1 := h x (List.mem_cons_self ..)
    have h2 := flat_len (xs := l) fun y hy => h y (List.mem_cons_of_mem _ hy)
    rw [List.flatMap_cons, List.length_append, List.length_cons, Nat.mul_succ]; omega
theorem inL_len {d : Dc} (h : d.wrong = false) : d.inL.length ≤ 2000100 := by
  obtain ⟨h1, h2, h3, h4⟩ := dc_len h
  unfold Dc.inL; simp only [List.length_append, List.length_cons, List.length_nil]; omega
theorem cellL_len {d : Dc} (h : d.wrong = false) : d.cellL.length ≤ 2000100 := by
  obtain ⟨h1, h2, h3, h4⟩ := dc_len h
  have := Lib.itoa_length_le d.n (by omega) (by omega)
  unfold Dc.cellL; simp only [List.length_append, List.length_cons, List.length_nil]; omega
theorem line_len {d : Df} (h : d.wrong = false) : d.line.length ≤ 2000100 := by
  obtain ⟨h1, h2⟩ := df_len h
  have := show'_le d.t
  unfold Df.line; simp only [List.length_append, List.length_cons, List.length_nil]; omega
theorem flat_take_len {α : Type} {f : α → Bs} {xs : List α} (h : ∀ x ∈ xs, (f x).length ≤ 2000100) (hl : xs.length ≤ 32) (k : Nat) : ((xs.take k).flatMap f).length ≤ 64003200 := by
  have h1 := flat_len (f := f) (xs := xs.take k) fun x hx => h x (List.mem_of_mem_take hx)
  have h2 : (xs.take k).length ≤ 32 := by rw [List.length_take]; omega
  have := Nat.mul_le_mul_left 2000100 h2
  omega
end Go.Proofs.YtindlieilabgfaaGreatDoor
