/- Parts of the proof: T4, T5, T6, T7, T8, G1, G2, F, W1, W3, G3, G4, X13, X14, X15, X16, G7, F2, W4, W5, Shelf, W6, W7, W8. -/
import Derived.Test.YtindlieilabgfaaGreatDoorZp1
import Derived.Lib.ItoaLen
import Derived.Test.YtindlieilabgfaaGreatDoorRows
import Derived.ChangeArms
import Derived.Lib.SmallJoins
import Derived.Deep.Strs
import Derived.Test.YtindlieilabgfaaGreatDoorProg
import Derived.Shelf.Strconv.Itoa4
import Derived.Lib.LaidTab
import Derived.OpenShut
import Derived.FnData
import Derived.WideKeyArgs
import Derived.ChangeSame
import Derived.Deep.DeepHandedRow
import Derived.Below
import Derived.Laws.StructEq
import Derived.Shelf.Strings.Builder1
import Derived.Shelf.Strings.Builder2
import Derived.Shelf.Strings.OnBuilder
import Derived.Shelf.Small.Bits
import Derived.Shelf.Strings.BuilderF
import Derived.Shelf.Strings.BuilderK
import Derived.Shelf.Strings.Builder2Cap
import Derived.Shelf.Strconv.Itoa0
import Derived.Shelf.Strconv.Itoa1
import Derived.Shelf.LaysM
import Derived.Shelf.Strconv.Itoa2
import Derived.Shelf.Strconv.Itoa3
import Derived.Shelf.Sort.Plain
import Derived.Shelf.Strings.BuilderCap
import Derived.Shelf.Slices.Turned
import Derived.Shelf.Slices.In.SortNone
/- A program as a text; how long texts become. -/
set_option linter.unusedVariables false
set_option linter.unusedSectionVars false
set_option linter.unusedSimpArgs false
set_option autoImplicit false
set_option relaxedAutoImplicit false
namespace Go.Proofs.YtindlieilabgfaaGreatDoor
open Go X
theorem X.Hc.sub {H : GH} {g : Nat} {l : List Value} {e : TypeId} {z : Nat × Nat} (o n : Nat) (h : H g = some (.cells l.toArray e z)) : ∀ i u, ((l.drop o).take n)[i]? = some u → Hc H g (o + i) u := fun i u hu => ⟨_, _, _, h, by
  rw [List.getElem?_take] at hu
  split at hu
  · simpa using hu
  · cases hu⟩
theorem nameB_len {s : Bs} (h : nameB s = true) : s.length ≤ 16 := by
  unfold nameB at h
  simp only [Bool.and_eq_true, decide_eq_true_eq] at h
  have := h.2.2
  omega
theorem wordB_len {s : Bs} (h : wordB s = true) : s.length ≤ 16 := by
  unfold wordB at h
  simp only [Bool.and_eq_true] at h
  exact nameB_len h.1
theorem node_name {k : Int} {s : Bs} {n : Int} {l : Nat} (h : nodeB k s n l = true) : s.length ≤ 16 := by
  unfold nodeB at h
  rw [Bool.and_eq_true] at h
  have h := h.2
  split at h
  · rw [Bool.and_eq_true] at h; exact nameB_len h.1
  · split at h
    · have : ∀ x ∈ opsL, x.length ≤ 16 := by decide
      exact this s (by simpa using h)
    · have := of_decide_eq_true h; subst this; simp
theorem lay_texts {kd : Int} {s : Bs} {n : Int} {w : Nat → List Tk} (hs : s.length ≤ 21) (hi : (Lib.itoa n).length ≤ 21) (h0 : ∀ k ∈ w 0, k.text.length ≤ 21) (h1 : ∀ k ∈ w 1, k.text.length ≤ 21) (h2 : ∀ k ∈ w 2, k.text.length ≤ 21) :
    ∀ k ∈ layT' kd s n w, k.text.length ≤ 21 := by
  unfold layT'
  by_cases c1 : (kd == 1) = true
  · rw [if_pos c1]; simp only [List.forall_mem_cons, List.forall_mem_append, List.forall_mem_nil]; (try simp [hs, hi]); (try (repeat' first | exact h0 | exact h1 | exact h2 | constructor))
  rw [if_neg c1]
  by_cases c2 : (kd == 2) = true
  · rw [if_pos c2]; simp only [List.forall_mem_cons, List.forall_mem_append, List.forall_mem_nil]; (try simp [hs, hi]); (try (repeat' first | exact h0 | exact h1 | exact h2 | constructor))
  rw [if_neg c2]
  by_cases c3 : (kd == 3) = true
  · rw [if_pos c3]; simp only [List.forall_mem_cons, List.forall_mem_append, List.forall_mem_nil]; (try simp [hs, hi]); (try (repeat' first | exact h0 | exact h1 | exact h2 | constructor))
  rw [if_neg c3]
  by_cases c4 : (kd == 4) = true
  · rw [if_pos c4]; simp only [List.forall_mem_cons, List.forall_mem_append, List.forall_mem_nil]; (try simp [hs, hi]); (try (repeat' first | exact h0 | exact h1 | exact h2 | constructor))
  rw [if_neg c4]
  by_cases c5 : (kd == 5) = true
  · rw [if_pos c5]; simp only [List.forall_mem_cons, List.forall_mem_append, List.forall_mem_nil]; (try simp [hs, hi]); (try (repeat' first | exact h0 | exact h1 | exact h2 | constructor))
  rw [if_neg c5]
  by_cases c6 : (kd == 6) = true
  · rw [if_pos c6]; simp only [List.forall_mem_cons, List.forall_mem_append, List.forall_mem_nil]; (try simp [hs, hi]); (try (repeat' first | exact h0 | exact h1 | exact h2 | constructor))
  rw [if_neg c6]
  by_cases c7 : (kd == 7) = true
  · rw [if_pos c7]; simp only [List.forall_mem_cons, List.forall_mem_append, List.forall_mem_nil]; (try simp [hs, hi]); (try (repeat' first | exact h0 | exact h1 | exact h2 | constructor))
  rw [if_neg c7]
  by_cases c8 : (kd == 8) = true
  · rw [if_pos c8]; simp only [List.forall_mem_cons, List.forall_mem_append, List.forall_mem_nil]; (try simp [hs, hi]); (try (repeat' first | exact h0 | exact h1 | exact h2 | constructor))
  rw [if_neg c8]
  by_cases c9 : (kd == 9) = true
  · rw [if_pos c9]; simp only [List.forall_mem_cons, List.forall_mem_append, List.forall_mem_nil]; (try simp [hs, hi]); (try (repeat' first | exact h0 | exact h1 | exact h2 | constructor))
  rw [if_neg c9]
  by_cases c10 : (kd == 10) = true
  · rw [if_pos c10]; simp only [List.forall_mem_cons, List.forall_mem_append, List.forall_mem_nil]; (try simp [hs, hi]); (try (repeat' first | exact h0 | exact h1 | exact h2 | constructor))
  rw [if_neg c10]
  by_cases c11 : (kd == 11) = true
  · rw [if_pos c11]; simp only [List.forall_mem_cons, List.forall_mem_append, List.forall_mem_nil]; (try simp [hs, hi]); (try (repeat' first | exact h0 | exact h1 | exact h2 | constructor))
  rw [if_neg c11]
  by_cases c12 : (kd == 12) = true
  · rw [if_pos c12]; simp only [List.forall_mem_cons, List.forall_mem_append, List.forall_mem_nil]; (try simp [hs, hi]); (try (repeat' first | exact h0 | exact h1 | exact h2 | constructor))
  rw [if_neg c12]
  simp only [List.forall_mem_cons, List.forall_mem_append]; exact ⟨h0, by simp, h1⟩
mutual
theorem toks_texts : ∀ t : Tm, t.wrong = false → ∀ k ∈ t.toks, k.text.length ≤ 21
  | .mk kd s n ks, h => by
    rw [toks_mk]
    obtain ⟨hn, hk⟩ := right_of h
    have hl := node_name hn
    obtain ⟨_, _, _, h0, h1⟩ := kids_of_node hn
    have hw := within_texts ks hk
    exact lay_texts (by omega) (Lib.itoa_length_le n (by omega) (by omega)) (hw 0) (hw 1) (hw 2)
theorem within_texts : ∀ ks : List Tm, (∀ x ∈ ks, x.wrong = false) → ∀ i, ∀ k ∈ withinN ks i, k.text.length ≤ 21
  | [], _, i, k, hk => by simp [withinN] at hk
  | t :: l, h, 0, k, hk => by
    have ht := toks_texts t (h t (List.mem_cons_self ..))
    simp only [withinN] at hk
    split at hk
    · exact ht k hk
    · simp only [List.mem_cons, List.mem_append, List.not_mem_nil, or_false] at hk
      rcases hk with rfl | hk | rfl
      · simp
      · exact ht k hk
      · simp
  | t :: l, h, i + 1, k, hk => by
    simp only [withinN] at hk
    exact within_texts l (fun x hx => h x (List.mem_cons_of_mem _ hx)) i k hk
end
theorem lens_le {xs : List Bs} (h : ∀ x ∈ xs, x.length ≤ 21) : Lib.lens xs ≤ 21 * xs.length := by
  induction xs with
  | nil => simp [Lib.lens]
  | cons x l ih =>
    have h1 := h x (List.mem_cons_self ..)
    have h2 := ih fun y hy => h y (List.mem_cons_of_mem _ hy)
    simp only [Lib.lens, List.map_cons, List.sum_cons, List.length_cons] at *
    omega
theorem show_len {ks : List Tk} (h : ∀ k ∈ ks, k.text.length ≤ 21) : (showL ks).length ≤ 22 * ks.length := by
  unfold showL
  cases ks with
  | nil => simp [Lib.join_nil]
  | cons k l =>
    have := lens_le (xs := (k :: l).map (·.text)) (fun x hx => by
      obtain ⟨y, hy, rfl⟩ := List.mem_map.1 hx; exact h y hy)
    rw [List.map_cons] at this ⊢
    rw [Lib.join_length]
    simp only [List.length_cons, List.length_map, List.length_nil] at this ⊢
    omega
theorem show_le {t : Tm} (h : t.right = true) : (showL t.toks).length ≤ 2000000 := by
  unfold Tm.right at h
  simp only [Bool.and_eq_true, decide_eq_true_eq, Bool.not_eq_true'] at h
  have h1 := show_len (toks_texts t h.2.2)
  have h2 := toks_len t
  omega
theorem show'_le (t : Tm) : t.show'.length ≤ 2000000 := by
  unfold Tm.show'
  split
  · exact show_le (by assumption)
  · simp
/-- An input's line, a cell's, a definition's. -/
def Dc.inL (d : Dc) : Bs := ((([105, 110, 112, 117, 116, 32] ++ d.name) ++ [32, 58, 32]) ++ d.label) ++ [32, 46, 10]
def Dc.cellL (d : Dc) : Bs := ((((([99, 101, 108, 108, 32] ++ d.name) ++ [32, 58, 32]) ++ d.label) ++ [32, 61, 32]) ++ Lib.itoa d.n) ++ [32, 46, 10]
def Df.line (d : Df) : Bs := ((([100, 101, 102, 32] ++ d.name) ++ [32, 61, 32]) ++ d.t.show') ++ [32, 46, 10]
def Pg.text (p : Pg) : Bs := (((p.inputs.flatMap Dc.inL) ++ p.cells.flatMap Dc.cellL) ++ p.defs.flatMap Df.line) ++ (p.body.show' ++ [10])
def Pg.print (p : Pg) : Bs := if p.fits then if decide (65536 < (p.text.length : Int)) then [] else p.text else []
def Pg.right (p : Pg) : Bool := !decide (p.print = [])
theorem fits_of {p : Pg} (h : p.fits = true) : p.inputs.length ≤ 32 ∧ p.cells.length ≤ 32 ∧ p.defs.length ≤ 32 ∧ (∀ d ∈ p.inputs, d.wrong = false ∧ d.n = 0) ∧ (∀ d ∈ p.cells, d.wrong = false) ∧ (∀ d ∈ p.defs, d.wrong = false) ∧ p.body.right = true := by
  unfold Pg.fits Pg.bad at h
  simp only [Bool.and_eq_true, Bool.not_eq_true', Bool.or_eq_false_iff, List.any_eq_false, decide_eq_true_eq] at h
  obtain ⟨⟨h1, h2, h3, h4⟩, h5, h6⟩ := h
  unfold mx3 at h5
  have : (p.inputs.length : Int) ≤ 32 ∧ (p.cells.length : Int) ≤ 32 ∧ (p.defs.length : Int) ≤ 32 := by
    split at h5
    · split at h5 <;> (rename_i a b; refine ⟨?_, ?_, ?_⟩ <;> first | omega | (rw [if_pos (by assumption)] at a; omega) | (rw [if_neg (by assumption)] at a; omega))
    · split at h5 <;> (rename_i a b; refine ⟨?_, ?_, ?_⟩ <;> first | omega | (rw [if_pos (by assumption)] at a; omega) | (rw [if_neg (by assumption)] at a; omega))
  refine ⟨by omega, by omega, by omega, fun d hd => ⟨by simpa using h1 d hd, by simpa using h2 d hd⟩, fun d hd => by simpa using h3 d hd, fun d hd => by simpa using h4 d hd, h6⟩
theorem dc_len {d : Dc} (h : d.wrong = false) : d.name.length ≤ 16 ∧ d.label.length ≤ 16 ∧ 0 ≤ d.n ∧ d.n < 2147483648 := by
  unfold Dc.wrong at h
  simp only [Bool.or_eq_false_iff, Bool.not_eq_false', decide_eq_false_iff_not] at h
  exact ⟨wordB_len h.1, wordB_len h.2.1, by omega, by omega⟩
theorem df_len {d : Df} (h : d.wrong = false) : d.name.length ≤ 16 ∧ d.t.right = true := by
  unfold Df.wrong at h
  simp only [Bool.or_eq_false_iff, Bool.not_eq_false'] at h
  exact ⟨wordB_len h.1, h.2.1⟩
theorem flat_take {α : Type} {f : α → Bs} {xs : List α} {k : Nat} (h : k < xs.length) : (xs.take (k + 1)).flatMap f = (xs.take k).flatMap f ++ f xs[k] := by
  rw [List.take_succ_eq_append_getElem h, List.flatMap_append]; simp
theorem flat_len {α : Type} {f : α → Bs} {B : Nat} : ∀ {xs : List α}, (∀ x ∈ xs, (f x).length ≤ B) → (xs.flatMap f).length ≤ B * xs.length
  | [], _ => by simp
  | x :: l, h => by
    have h1 := h x (List.mem_cons_self ..)
    have h2 := flat_len (xs := l) fun y hy => h y (List.mem_cons_of_mem _ hy)
    rw [List.flatMap_cons, List.length_append, List.length_cons, Nat.mul_succ]; omega
theorem inL_len {d : Dc} (h : d.wrong = false) : d.inL.length ≤ 2000100 := by
  obtain ⟨h1, h2, h3, h4⟩ := dc_len h
  unfold Dc.inL; simp only [List.length_append, List.length_cons, List.length_nil]; omega
theorem cellL_len {d : Dc} (h : d.wrong = false) : d.cellL.length ≤ 2000100 := by
  obtain ⟨h1, h2, h3, h4⟩ := dc_len h
  have := Lib.itoa_length_le d.n (by omega) (by omega)
  unfold Dc.cellL; simp only [List.length_append, List.length_cons, List.length_nil]; omega
theorem line_len {d : Df} (h : d.wrong = false) : d.line.length ≤ 2000100 := by
  obtain ⟨h1, h2⟩ := df_len h
  have := show'_le d.t
  unfold Df.line; simp only [List.length_append, List.length_cons, List.length_nil]; omega
theorem flat_take_len {α : Type} {f : α → Bs} {xs : List α} (h : ∀ x ∈ xs, (f x).length ≤ 2000100) (hl : xs.length ≤ 32) (k : Nat) : ((xs.take k).flatMap f).length ≤ 64003200 := by
  have h1 := flat_len (f := f) (xs := xs.take k) fun x hx => h x (List.mem_of_mem_take hx)
  have h2 : (xs.take k).length ≤ 32 := by rw [List.length_take]; omega
  have := Nat.mul_le_mul_left 2000100 h2
  omega
end Go.Proofs.YtindlieilabgfaaGreatDoor
/- What names are free in a term; renaming. -/
set_option linter.unusedVariables false
set_option linter.unusedSectionVars false
set_option linter.unusedSimpArgs false
set_option autoImplicit false
set_option relaxedAutoImplicit false
namespace Go.Proofs.YtindlieilabgfaaGreatDoor
open Go X
/-- One more, one less. -/
def inc1 (b : Bs → Nat) (s : Bs) : Bs → Nat := fun x => if x = s then b x + 1 else b x
mutual
/-- Is x free in a term where b tells how often a name is bound around it? -/
def Tm.fr : Tm → (Bs → Nat) → Bs → Bool
  | .mk k s n ks, b, x => ((k == 2 && decide (b s = 0)) && decide (x = s)) || frL (bnd k) s ks b x
def frL (bd : Bool) (s : Bs) : List Tm → (Bs → Nat) → Bs → Bool
  | [], _, _ => false
  | t :: l, b, x => t.fr (if bd && l.isEmpty then inc1 b s else b) x || frL bd s l b x
end
/-- The part of a list's free names that the first k kids have. -/
def frT (bd : Bool) (s : Bs) (ks : List Tm) (k : Nat) (b : Bs → Nat) (x : Bs) : Bool :=
  (List.range k).any fun j => match ks[j]? with
    | some t => t.fr (if bd && j + 1 == ks.length then inc1 b s else b) x
    | none => false
theorem frT_zero (bd : Bool) (s : Bs) (ks : List Tm) (b : Bs → Nat) (x : Bs) : frT bd s ks 0 b x = false := rfl
theorem frT_succ (bd : Bool) (s : Bs) (ks : List Tm) (b : Bs → Nat) (x : Bs) {k : Nat} (h : k < ks.length) : frT bd s ks (k + 1) b x = (frT bd s ks k b x || ks[k].fr (if bd && k + 1 == ks.length then inc1 b s else b) x) := by
  unfold frT
  rw [List.range_succ, List.any_append]
  simp [List.getElem?_eq_getElem h]
theorem frT_all (bd : Bool) (s : Bs) (b : Bs → Nat) (x : Bs) (ks : List Tm) : frT bd s ks ks.length b x = frL bd s ks b x := by
  have key : ∀ (l : List Tm) (p : List Tm), ks = p ++ l → (frT bd s ks p.length b x || frL bd s l b x) = frT bd s ks ks.length b x := by
    intro l
    induction l with
    | nil => intro p e; simp [e, frL]
    | cons t l ih =>
      intro p e
      have h := ih (p ++ [t]) (by simp [e])
      rw [← h]
      have hlt : p.length < ks.length := by simp [e]
      have hk : ks[p.length] = t := by simp [e]
      rw [show (p ++ [t]).length = p.length + 1 by simp, frT_succ _ _ _ _ _ hlt, hk, Bool.or_assoc]
      congr 1
      simp only [frL]
      have : (p.length + 1 == ks.length) = l.isEmpty := by
        rw [e]; cases l <;> simp
      rw [this]
  have := key ks [] rfl
  rw [List.length_nil, frT_zero, Bool.false_or] at this
  exact this.symm
/-- A sorted list without doubles has what p tells. -/
def IsSet (ss : List Bs) (p : Bs → Bool) : Prop := ss.Nodup ∧ (∀ x, x ∈ ss ↔ p x = true) ∧ ss.Pairwise (fun x y => x ≤ y)
mutual
/-- All names of a term. -/
def Tm.names : Tm → List Bs
  | .mk _ s _ ks => s :: namesL ks
def namesL : List Tm → List Bs
  | [] => []
  | t :: l => t.names ++ namesL l
end
mutual
theorem names_len : ∀ t : Tm, t.names.length = t.size
  | .mk _ s _ ks => by simp only [Tm.names, Tm.size, List.length_cons, namesL_len ks]; omega
theorem namesL_len : ∀ l : List Tm, (namesL l).length = sizeL l
  | [] => rfl
  | t :: l => by simp only [namesL, sizeL, List.length_append, names_len t, namesL_len l]
end
mutual
theorem fr_names : ∀ (t : Tm) (b : Bs → Nat) (x : Bs), t.fr b x = true → x ∈ t.names
  | .mk k s n ks, b, x, h => by
    simp only [Tm.fr, Bool.or_eq_true, Bool.and_eq_true, decide_eq_true_eq] at h
    simp only [Tm.names, List.mem_cons]
    rcases h with h | h
    · exact .inl h.2
    · exact .inr (frL_names (bnd k) s ks b x h)
theorem frL_names (bd : Bool) (s : Bs) : ∀ (l : List Tm) (b : Bs → Nat) (x : Bs), frL bd s l b x = true → x ∈ namesL l
  | [], b, x, h => by simp [frL] at h
  | t :: l, b, x, h => by
    simp only [frL, Bool.or_eq_true] at h
    simp only [namesL, List.mem_append]
    rcases h with h | h
    · exact .inl (fr_names t _ x h)
    · exact .inr (frL_names bd s l b x h)
end
mutual
theorem names_long : ∀ (t : Tm) (x : Bs), x ∈ t.names → x.length ≤ t.long
  | .mk k s n ks, x, h => by
    simp only [Tm.names, List.mem_cons] at h
    simp only [Tm.long]
    rcases h with rfl | h
    · omega
    · have := namesL_long ks x h; omega
theorem namesL_long : ∀ (l : List Tm) (x : Bs), x ∈ namesL l → x.length ≤ longL l
  | [], x, h => by simp [namesL] at h
  | t :: l, x, h => by
    simp only [namesL, List.mem_append] at h
    simp only [longL]
    rcases h with h | h
    · have := names_long t x h; omega
    · have := namesL_long l x h; omega
end
/-- No name is bound. -/
def none0 : Bs → Nat := fun _ => 0
end Go.Proofs.YtindlieilabgfaaGreatDoor
/- Renaming, plainly. -/
set_option linter.unusedVariables false
set_option linter.unusedSectionVars false
set_option linter.unusedSimpArgs false
set_option autoImplicit false
set_option relaxedAutoImplicit false
namespace Go.Proofs.YtindlieilabgfaaGreatDoor
open Go X
/-- No panic. -/
def X.NP (Q : Exit → Act → World → Prop) : Exit → Act → World → Prop
  | .panic _, _, _ => False
  | e, a, w => Q e a w
theorem X.npN {Q : Exit → Act → World → Prop} {a : Act} {w : World} (h : Q .normal a w) : NP Q .normal a w := h
theorem X.np_mono {Q : Exit → Act → World → Prop} : ∀ e a w, NP Q e a w → Q e a w := by
  intro e a w h
  cases e <;> first | exact h | exact h.elim
section
variable {P : Program} {Q : Exit → Act → World → Prop} {E w : World} {H : GH} {N : Nat} {D : List Deferred} {F : List (Nat × Value)} {L : List It} {a : Act}
theorem X.rgxF {id : Nat} {l : List Oper} (ks : List Nat) (L1 : List It) (rd : List Nat) (n : Nat) (hm : P.follows .mixedOrders = true) (h : S E H N D F L a w)
    (k : ∀ a w, S E H N D F L a w → wpR P l.toArray (NP Q) (Sees H L1) rd n (Array.replicate n false) a w) (hn : l.length = n := by rfl) (hk : ks.map (fun k => L[k]?) = L1.map some := by rfl) : (Code.region id l.toArray true).wp P Q a w :=
  Code.wp_mono np_mono (rgx ks L1 rd n hm h k hn hk)
theorem X.rgdF {id : Nat} {l : List Oper} (ks : List Nat) (L1 : List It) (eff rd : List Nat) (nS : Nat) (hm : P.follows .mixedOrders = true) (hD : drawOk l.toArray eff rd nS = true) (h : S E H N D F L a w)
    (k : ∀ a w, S E H N D F L a w → (gd P l.toArray (NP Q) (Sees H L1) eff rd nS).G l a w) (hk : ks.map (fun k => L[k]?) = L1.map some := by rfl) : (Code.region id l.toArray true).wp P Q a w :=
  Code.wp_mono np_mono (rgd ks L1 eff rd nS hm hD h k hk (fun _ _ _ _ _ h => False.elim h))
end
/-- The number behind one, as Go's ints go. -/
def nx (n : Int) : Int := IntKind.i64.wrap (n + 1)
/-- Is it one of Go's ints? -/
def In64 (n : Int) : Prop := -9223372036854775808 ≤ n ∧ n ≤ 9223372036854775807
theorem nx_in (n : Int) : In64 (nx n) := by
  unfold In64 nx
  simp [IntKind.wrap, IntKind.bits, IntKind.signed]
  omega
def updS (σ : Bs → Option Bs) (s s' : Bs) : Bs → Option Bs := fun x => if x = s then some s' else σ x
/-- A renamed term's name. -/
def renN (k : Int) (s : Bs) (σ : Bs → Option Bs) (n : Int) : Bs := if bnd k then Lib.itoa n else if k == 2 then (σ s).getD s else s
mutual
def Tm.ren : Tm → (Bs → Option Bs) → Int → Tm × Int
  | .mk k s m ks, σ, n => (.mk k (renN k s σ n) m (renL (bnd k) s (renN k s σ n) ks σ (if bnd k then nx n else n)).1, (renL (bnd k) s (renN k s σ n) ks σ (if bnd k then nx n else n)).2)
def renL (bd : Bool) (s s' : Bs) : List Tm → (Bs → Option Bs) → Int → List Tm × Int
  | [], _, n => ([], n)
  | t :: l, σ, n => ((t.ren (if bd && l.isEmpty then updS σ s s' else σ) n).1 :: (renL bd s s' l σ (t.ren (if bd && l.isEmpty then updS σ s s' else σ) n).2).1, (renL bd s s' l σ (t.ren (if bd && l.isEmpty then updS σ s s' else σ) n).2).2)
end
/-- The first k kids, renamed. -/
def renT (bd : Bool) (s s' : Bs) (ks : List Tm) (σ : Bs → Option Bs) (n : Int) : Nat → List Tm × Int
  | 0 => ([], n)
  | k + 1 => match ks[k]? with
    | some t => ((renT bd s s' ks σ n k).1 ++ [(t.ren (if bd && k + 1 == ks.length then updS σ s s' else σ) (renT bd s s' ks σ n k).2).1], (t.ren (if bd && k + 1 == ks.length then updS σ s s' else σ) (renT bd s s' ks σ n k).2).2)
    | none => renT bd s s' ks σ n k
theorem renT_succ {bd : Bool} {s s' : Bs} {ks : List Tm} {σ : Bs → Option Bs} {n : Int} {k : Nat} (h : k < ks.length) :
    renT bd s s' ks σ n (k + 1) = ((renT bd s s' ks σ n k).1 ++ [(ks[k].ren (if bd && k + 1 == ks.length then updS σ s s' else σ) (renT bd s s' ks σ n k).2).1], (ks[k].ren (if bd && k + 1 == ks.length then updS σ s s' else σ) (renT bd s s' ks σ n k).2).2) := by
  simp only [renT, List.getElem?_eq_getElem h]
theorem renT_all (bd : Bool) (s s' : Bs) (ks : List Tm) (σ : Bs → Option Bs) (n : Int) : renT bd s s' ks σ n ks.length = renL bd s s' ks σ n := by
  have key : ∀ (l p : List Tm), ks = p ++ l → renT bd s s' ks σ n ks.length = ((renT bd s s' ks σ n p.length).1 ++ (renL bd s s' l σ (renT bd s s' ks σ n p.length).2).1, (renL bd s s' l σ (renT bd s s' ks σ n p.length).2).2) := by
    intro l
    induction l with
    | nil => intro p e; simp [e, renL]
    | cons t l ih =>
      intro p e
      have hlt : p.length < ks.length := by simp [e]
      have hk : ks[p.length] = t := by simp [e]
      have hl : (p.length + 1 == ks.length) = l.isEmpty := by rw [e]; cases l <;> simp
      rw [ih (p ++ [t]) (by simp [e]), show (p ++ [t]).length = p.length + 1 by simp, renT_succ hlt, hk, hl]
      simp [renL]
  have := key ks [] rfl
  rw [this]; simp [renT]
theorem rt_of_vt {H : GH} {cs : List Value} {t : Tm} (h : VT H (.agg cs.toArray) t) : RT H cs t := by
  obtain ⟨k, s, n, ks⟩ := t
  obtain ⟨A, c, e, h⟩ := h
  rw [rt_mk]
  refine ⟨.slice A ks.length c, ?_, h⟩
  have := congrArg (fun v => match v with | .agg a => a.toList | _ => []) e
  have t2 : cs = [Value.int .i64 k, str s, .int .i64 n, .slice A ks.length c] := by
    have t3 := this
    simp at t3
    exact t3
  exact t2
mutual
theorem ren_size : ∀ (t : Tm) (σ : Bs → Option Bs) (n : Int), (t.ren σ n).1.size = t.size
  | .mk k s m ks, σ, n => by simp only [Tm.ren, Tm.size, renL_size]
theorem renL_size (bd : Bool) (s s' : Bs) : ∀ (l : List Tm) (σ : Bs → Option Bs) (n : Int), sizeL (renL bd s s' l σ n).1 = sizeL l
  | [], _, _ => rfl
  | t :: l, σ, n => by simp only [renL, sizeL, ren_size t, renL_size bd s s' l]
end
theorem renT_length {bd : Bool} {s s' : Bs} {ks : List Tm} {σ : Bs → Option Bs} {n : Int} : ∀ {k : Nat}, k ≤ ks.length → (renT bd s s' ks σ n k).1.length = k
  | 0, _ => rfl
  | k + 1, h => by
    have ih := renT_length (bd := bd) (s := s) (s' := s') (ks := ks) (σ := σ) (n := n) (k := k) (by omega)
    rw [renT_succ (show k < ks.length by omega), List.length_append, ih]; rfl
mutual
theorem ren_in : ∀ (t : Tm) (σ : Bs → Option Bs) (n : Int), In64 n → In64 (t.ren σ n).2
  | .mk k s m ks, σ, n, h => by
    simp only [Tm.ren]
    exact renL_in _ _ _ ks σ _ (by split <;> first | exact nx_in n | exact h)
theorem renL_in (bd : Bool) (s s' : Bs) : ∀ (l : List Tm) (σ : Bs → Option Bs) (n : Int), In64 n → In64 (renL bd s s' l σ n).2
  | [], _, n, h => h
  | t :: l, σ, n, h => by simp only [renL]; exact renL_in bd s s' l σ _ (ren_in t _ n h)
end
theorem renT_in {bd : Bool} {s s' : Bs} {ks : List Tm} {σ : Bs → Option Bs} {n : Int} (h : In64 n) : ∀ k, In64 (renT bd s s' ks σ n k).2
  | 0 => h
  | k + 1 => by
    simp only [renT]
    split
    · exact ren_in _ _ _ (renT_in h k)
    · exact renT_in h k
end Go.Proofs.YtindlieilabgfaaGreatDoor
/- What is lent to be read, and taken back; a program, resolved. -/
set_option linter.unusedVariables false
set_option linter.unusedSectionVars false
set_option linter.unusedSimpArgs false
set_option linter.unusedSimpArgs false
set_option autoImplicit false
set_option relaxedAutoImplicit false
namespace Go.Proofs.YtindlieilabgfaaGreatDoor
open Go X
section
variable {E w : World} {H : GH} {N : Nat} {D : List Deferred} {F : List (Nat × Value)} {L : List It} {a : Act}
theorem X.St.thaw {H3 : GH} {g : Nat} {o : Obj} {w' : World} {L' : List It} (h : St E H3 L' w') (hg : H3 g = some o) (h0 : H g = none) (hl : LE H H3) : St E H (.obj g o :: L') w' := by
  refine ⟨h.os, h.tape, h.output, fun b x e => h.fro b x (hl b x e), fun i hi => ?_, fun i hi x hx => ?_, List.pairwise_cons.2 ⟨fun i hi x hx hxi => ?_, h.apart⟩⟩
  · cases hi with
    | head => exact h.fro g o hg
    | tail _ hi => exact h.holds i hi
  · cases hi with
    | head => simp [It.own] at hx; subst hx; exact h0
    | tail _ hi =>
      cases hH : H x with
      | none => rfl
      | some y => exact absurd ((hl x y hH).symm.trans (h.off i hi x hx)) (by simp)
  · simp [It.own] at hx; subst hx
    have := h.off i hi x hxi
    rw [hg] at this; cases this
/-- What may be done with what is taken back. -/
def X.Back (E : World) (H H' : GH) (i : It) : Prop := ∀ (N : Nat) (D : List Deferred) (F : List (Nat × Value)) (L' : List It) (a : Act) (w : World) (H3 : GH), LE H' H3 → S E H3 N D F L' a w → S E H N D F (i :: L') a w
theorem X.Back.get {H' H3 : GH} {i : It} (b : Back E H H' i) (hl : LE H' H3) (h : S E H3 N D F L a w) : S E H N D F (i :: L) a w := b _ _ _ _ _ _ _ hl h
/-- An own block is lent: frozen, till it is taken back. -/
theorem X.S.lendO (k0 : Nat) {g : Nat} {o : Obj} {L' : List It} (h : S E H N D F L a w) (hk : L[k0]? = some (.obj g o) := by rfl) (hL : L.eraseIdx k0 = L' := by rfl) :
    ∃ H', LE H H' ∧ S E H' N D F L' a w ∧ H' g = some o ∧ Back E H H' (.obj g o) := by
  have h0 : H g = none := h.st.off _ (List.mem_of_getElem? hk) g (by simp [It.own])
  obtain ⟨H', hle, h', hg⟩ := h.frz k0 hk hL
  exact ⟨H', hle, h', hg, fun _ _ _ _ _ _ H3 hl hs => ⟨hs.ag, hs.st.thaw (hl g o hg) h0 (hle.trans hl)⟩⟩
/-- A row is lent. -/
theorem X.S.lendR {α : Type} {R : GH → List Value → α → Prop} {sz : Nat} {xs : List Value} {ys : List α} (k0 : Nat) {v : Value} {e n : Nat} {L' : List It} (h : S E H N D F L a w) (hr : RowR R sz H xs ys) (hn : n = ys.length) (hR : ∀ H', LE H H' → ∀ cs y, y ∈ ys → R H cs y → R H' cs y)
    (hk : L[k0]? = some (.row v e sz n xs) := by rfl) (hL : L.eraseIdx k0 = L' := by rfl) :
    ∃ H', LE H H' ∧ S E H' N D F L' a w ∧ RS R sz H' v ys ∧ Back E H H' (.row v e sz n xs) := by
  have hp := h.pull k0 hk hL
  have hown : w.ownsRow 0 e sz v n xs := hp.st.holds _ (List.mem_cons_self ..)
  rcases hown.2 with ⟨rfl, h0⟩ | ⟨g, cap, cur, rfl, h1, hg, h2, h3, h4, h5⟩
  · have hys : ys = [] := List.eq_nil_of_length_eq_zero (by omega)
    have hxs : xs = [] := List.eq_nil_of_length_eq_zero (by rw [hown.1, h0, Nat.zero_mul])
    subst hys; subst hxs; subst h0
    exact ⟨H, LE.rfl, hp.del 0, RS.nil R sz H, fun _ _ _ _ _ _ H3 hl hs => (hs.less hl).row⟩
  · have hst : St E H (.obj g (.cells cur e (0, 0)) :: L') w :=
      hp.st.set (k := 0) (i := .row (.slice (some ⟨g, 0, none⟩) n cap) e sz n xs) (j := .obj g (.cells cur e (0, 0))) rfl hg (fun x hx => .inl (by simpa [It.own, Value.ownBlock] using hx)) rfl rfl rfl (fun _ _ _ => rfl)
    have h0 : H g = none := hst.off _ (List.mem_cons_self ..) g (by simp [It.own])
    have hs : S E H N D F (.obj g (.cells cur e (0, 0)) :: L') a w := ⟨h.ag, hst⟩
    obtain ⟨H', hle, h', hg'⟩ := hs.frz 0
    obtain ⟨css, l1, e1, p1⟩ := hr
    refine ⟨H', hle, h', ⟨some ⟨g, 0, none⟩, cap, by rw [hn], by omega, fun j y hy => ?_⟩, fun _ _ _ L2 _ w2 H3 hl hs2 => ⟨hs2.ag, ?_⟩⟩
    · have hj : j < css.length := by have := (List.getElem?_eq_some_iff.1 hy).1; omega
      obtain ⟨q1, q2⟩ := p1 j css[j] y (List.getElem?_eq_getElem hj) hy
      refine ⟨g, 0, css[j], rfl, q1, hR _ hle _ y (List.mem_of_getElem? hy) q2, fun i u hu => ⟨cur, e, (0, 0), hg', ?_⟩⟩
      have hi : i < sz := by have := (List.getElem?_eq_some_iff.1 hu).1; omega
      have hall : ∀ cs ∈ css, cs.length = sz := fun cs hcs => by
        obtain ⟨q, hq, rfl⟩ := List.getElem_of_mem hcs
        exact (p1 q css[q] (ys[q]'(by omega)) (List.getElem?_eq_getElem hq) (List.getElem?_eq_getElem (by omega))).1
      have hf := flatten_at hall (List.getElem?_eq_getElem hj) hi
      rw [hu, ← e1, ← h5, List.getElem?_take] at hf
      split at hf
      · simpa using hf
      · cases hf
    · have ht := hs2.st.thaw (hl g _ hg') h0 (hle.trans hl)
      refine ht.set (k := 0) (i := .obj g (.cells cur e (0, 0))) (j := .row (.slice (some ⟨g, 0, none⟩) n cap) e sz n xs) rfl ?_ (fun x hx => .inl (by simpa [It.own, Value.ownBlock] using hx)) rfl rfl rfl (fun _ _ _ => rfl)
      exact ⟨hown.1, .inr ⟨g, cap, cur, rfl, Nat.zero_le _, ht.holds _ (List.mem_cons_self ..), h2, h3, h4, h5⟩⟩
end
section
variable {P : Program} {ops : Array Oper} {Q : Exit → Act → World → Prop} {γ : Gd P ops Q} {rest : List Oper} {o : Oper} {E w : World} {H : GH} {N : Nat} {D : List Deferred} {F : List (Nat × Value)} {L : List It} {a : Act}
variable {t u t' : TypeId} {x y : Operand} {d : Nat} {g : Nat}
/-- append to a slice that is full and frozen: a new row; the source is a literal's block, item kb. -/
theorem X.apc {α : Type} {R : GH → List Value → α → Prop} (kb : Nat) {e sz by_ : Nat} {ys : List α} {A : Option Addr} {ty' : TypeId} {z : Nat × Nat} (news : List Value) (ht : rowT P t e sz by_ = true) (hs : RS R sz H (.slice A ys.length ys.length) ys) (h : S E H N D F L a w)
    (hb : (ys.length + 1) * by_ ≤ 140737488355328) (h63 : ys.length + 1 ≤ 4611686018427387904)
    (k : ∀ A' c' olds a w, RowR R sz H olds ys → S E H N D ((d, .slice A' (ys.length + 1) c') :: F) (.row (.slice A' (ys.length + 1) c') e sz (ys.length + 1) (olds ++ news) :: L) a w → γ.G rest a w)
    (hkb : L[kb]? = some (.obj g (.cells news.toArray ty' z)) := by rfl) (hl : news.length = sz := by rfl)
    (ho : o.op = .call { callee := .builtin .append, args := #[x, y], argTypes := #[t, t] } := by rfl) (hx : ev F x = some (.slice A ys.length ys.length) := by rfl) (hy : ev F y = some (.slice (some ⟨g, 0, none⟩) 1 1) := by rfl)
    (hw : wn ops F o = some true := by rfl) (hd : o.dst = some d := by rfl) (hN : Nat.blt d N = true := by rfl) (hE : γ.isE rest.length = true := by rfl)
    (hS : γ.isN rest.length = true → ∀ A' c' olds w, St E H (.row (.slice A' (ys.length + 1) c') e sz (ys.length + 1) (olds ++ news) :: L) w → γ.S w := by first | exact fun e => Bool.noConfusion (show false = true from e) | exact fun _ _ _ _ _ hw => hw.sees' LE.rfl (by simp) | exact fun _ _ _ _ _ hw => hw.sees' (by assumption) (by simp)) : γ.G (o :: rest) a w := by
  obtain ⟨hu, i, zv, hi, hz, hsz, hby, hzs, h0⟩ := row_of ht
  -- the old cells
  have hex : ∀ q, q ≤ ys.length → ∃ olds : List Value, RowR R sz H olds (ys.take q) ∧ ∀ b, A = some b → ∀ j u, olds[j]? = some u → w.cell? (b.add j) = some u := by
    intro q
    induction q with
    | zero => intro _; exact ⟨[], by simpa using RowR.nil, fun b _ j u hu => by simp at hu⟩
    | succ q ih =>
      intro hq
      obtain ⟨olds, hr, hc⟩ := ih (by omega)
      obtain ⟨g', off', cs, e2, hl', hR, hcell⟩ := RS.at_ hs (List.getElem?_eq_getElem (show q < ys.length by omega))
      subst e2
      refine ⟨olds ++ cs, by rw [List.take_succ_eq_append_getElem (by omega)]; exact hr.snoc hl' hR, fun b hbb j u hu' => ?_⟩
      cases hbb
      have hlen := hr.len
      rw [List.length_take, Nat.min_eq_left (by omega)] at hlen
      by_cases hj : j < olds.length
      · rw [List.getElem?_append_left hj] at hu'; exact hc _ rfl j u hu'
      · rw [List.getElem?_append_right (by omega)] at hu'
        have := (hcell _ u hu').cell h.st.sees
        rw [hlen] at this
        rw [Addr.add_mid]
        rwa [show off' + q * sz + (j - q * sz) = off' + j by omega] at this
  obtain ⟨olds, hr, hc⟩ := hex ys.length (Nat.le_refl _)
  rw [List.take_length] at hr
  have hol := hr.len
  have hnews : ∀ j v, news[j]? = some v → w.cell? ((⟨g, 0, none⟩ : Addr).add j) = some v := fun j v hj => by
    rw [Addr.add_mid, Nat.zero_add, cell_own (item_at h.st.sees hkb) j]; simpa using hj
  have hrun : ∃ c', ys.length + 1 ≤ c' ∧ c' ≤ maxLen ∧ (Builtin.append_ #[t, t] o.type #[.slice A ys.length ys.length, .slice (some ⟨g, 0, none⟩) 1 1]).run P w =
      .ok (.slice (some ⟨w.heap.size, 0, none⟩) (ys.length + 1) c') (w.drew.alloc (.cells (olds.toArray ++ news.toArray ++ Builtin.zeroCells zv.cells (c' - (ys.length + 1))) e)) := by
    refine ⟨grownCap w (ys.length + 1) ys.length e, grownCap_ge .., grownCap_le_maxLen _ _ _ _ (by simp only [maxLen]; omega), ?_⟩
    cases A with
    | none =>
      have hy0 : ys = [] := by
        cases ys with
        | nil => rfl
        | cons y0 l => obtain ⟨_, _, _, e3, _⟩ := RS.at_ hs (j := 0) rfl; cases e3
      subst hy0
      have ho0 : olds = [] := List.eq_nil_of_length_eq_zero (by simpa using hol)
      subst ho0
      have := run_append_nil (P := P) w t o.type e i zv hu hi hz ⟨g, 0, none⟩ 1 1 news (by rw [hsz, hl, Nat.one_mul]) hnews (by omega) (by omega) (by rw [hby]; simp at hb; omega)
      simpa using this
    | some b =>
      exact run_append_grow (P := P) w t o.type e i zv hu hi hz b ys.length ys.length olds (by rw [hsz]; exact hol) (hc b rfl) ⟨g, 0, none⟩ 1 1 news (by rw [hsz, hl, Nat.one_mul]) hnews (by omega) (by omega) (growslice_fits (by omega) (by rw [hby]; exact hb))
  obtain ⟨c', hge, hle, hrun⟩ := hrun
  have hd0 : St E H L w.drew := h.st.drew _
  have hst : St E H (.row (.slice (some ⟨w.heap.size, 0, none⟩) (ys.length + 1) c') e sz (ys.length + 1) (olds ++ news) :: L) (w.drew.alloc (.cells (olds.toArray ++ news.toArray ++ Builtin.zeroCells zv.cells (c' - (ys.length + 1))) e)) := by
    refine (hd0.alloc _).set (k := 0) (i := .obj _ _) (j := .row (.slice (some ⟨w.heap.size, 0, none⟩) (ys.length + 1) c') e sz (ys.length + 1) (olds ++ news)) rfl ?_ (fun x hx => .inl (by simpa [It.own, Value.ownBlock] using hx)) rfl rfl rfl (fun _ _ _ => rfl)
    refine ⟨by rw [List.length_append, hol, hl, Nat.succ_mul], .inr ⟨w.heap.size, _, _, rfl, Nat.zero_le _, (hd0.alloc _).holds _ (List.mem_cons_self ..), hge, hle, ?_, ?_⟩⟩
    · have : ys.length * sz + sz + (c' - (ys.length + 1)) * sz = c' * sz := by
        rw [← Nat.succ_mul, ← Nat.add_mul]; congr 1; omega
      simp only [Array.size_append, size_zeroCells, hzs, List.size_toArray, hol, hl]
      exact this
    · rw [Array.toList_append, Array.toList_append]
      simp only []
      rw [List.take_append_of_le_length (by rw [List.length_append, hol, hl, Nat.succ_mul]; exact Nat.le_refl _)]
      rw [List.take_of_length_le (by rw [List.length_append, hol, hl, Nat.succ_mul]; exact Nat.le_refl _)]
  exact val h hw hd hN hE (fun e => hS e _ _ _) (by simp [execOp, ho, resolve, invoke, builtin, h.ag.ev hx, h.ag.ev hy, hrun]) hst (k _ _ olds · · hr)
end
/-- Is a free name of a term not known? -/
def Tm.strange (known : List Bs) (t : Tm) : Bool := t.names.any fun x => t.fr none0 x && !known.contains x
theorem strange_of {t : Tm} {ss known : List Bs} (h : IsSet ss (t.fr none0)) : (ss.any fun s => !known.contains s) = t.strange known := by
  rw [Bool.eq_iff_iff, List.any_eq_true]
  unfold Tm.strange
  rw [List.any_eq_true]
  constructor
  · rintro ⟨x, hx, hk⟩
    have hf := (h.2.1 x).1 hx
    exact ⟨x, fr_names t _ x hf, by rw [hf, hk]; rfl⟩
  · rintro ⟨x, hx, hk⟩
    rw [Bool.and_eq_true] at hk
    exact ⟨x, (h.2.1 x).2 hk.1, hk.2⟩
def Pg.zero : Pg := ⟨[], [], [], .mk 0 [] 0 []⟩
def Pg.known (p : Pg) (k : Nat) : List Bs := (p.inputs ++ p.cells).map (·.name) ++ (p.defs.take k).map (·.name)
/-- Is a name declared twice? -/
def Pg.twice (p : Pg) : Bool := (List.range (p.known p.defs.length).length).any fun k => decide (indexL (p.known p.defs.length) ((p.known p.defs.length).getD k []) < (k : Int))
/-- The first k definitions, renamed; none if one is strange. -/
def Pg.go (p : Pg) : Nat → Option (List Df × Int)
  | 0 => some ([], 1)
  | k + 1 => match p.go k, p.defs[k]? with
    | some (ds, n), some d => if d.t.strange (p.known k) then none else some (ds ++ [⟨d.name, (d.t.ren (fun _ => none) n).1⟩], (d.t.ren (fun _ => none) n).2)
    | _, _ => none
def Pg.resolve (p : Pg) : Pg × Int :=
  if !p.right then (Pg.zero, 11)
  else if p.twice then (Pg.zero, 6)
  else match p.go p.defs.length with
    | none => (Pg.zero, 5)
    | some (ds, n) => if p.body.strange (p.known p.defs.length) then (Pg.zero, 5) else (⟨p.inputs, p.cells, ds, (p.body.ren (fun _ => none) n).1⟩, 0)
end Go.Proofs.YtindlieilabgfaaGreatDoor
/- The chapter's examples, plainly. -/
set_option linter.unusedVariables false
set_option linter.unusedSectionVars false
set_option linter.unusedSimpArgs false
set_option autoImplicit false
set_option relaxedAutoImplicit false
set_option maxRecDepth 100000
namespace Go.Proofs.YtindlieilabgfaaGreatDoor
open Go X
section
variable {P : Program} {Q : Exit → Act → World → Prop} {S0 : World → Prop} {rd : List Nat} {n : Nat} {listed : Array Bool} {l : List Oper}
theorem X.brl3 (i j k : Nat) {o o' o2 : Oper} (nd nd' nd2 : Bool) {a : Act} {w : World} (hr : Region.ready .any l.toArray listed = [i, j, k]) (hnd : needs l.toArray rd i = nd) (hnd' : needs l.toArray rd j = nd') (hnd2 : needs l.toArray rd k = nd2) (hS : (nd || (nd' || nd2)) = true → S0 w)
    (h : (gb P l.toArray Q S0 nd (Nx P l.toArray Q S0 rd n listed i)).G [o] a w) (h' : (gb P l.toArray Q S0 nd' (Nx P l.toArray Q S0 rd n listed j)).G [o'] a w) (h2 : (gb P l.toArray Q S0 nd2 (Nx P l.toArray Q S0 rd n listed k)).G [o2] a w)
    (hi : l[i]? = some o := by rfl) (hj : l[j]? = some o' := by rfl) (hk : l[k]? = some o2 := by rfl) : wpR P l.toArray Q S0 rd (n + 1) listed a w :=
  br3 i j k nd nd' nd2 hr (by simpa using hi) (by simpa using hj) (by simpa using hk) hnd hnd' hnd2 hS h h' h2
theorem X.brl4 (i j k m : Nat) {o o' o2 o3 : Oper} (nd nd' nd2 nd3 : Bool) {a : Act} {w : World} (hr : Region.ready .any l.toArray listed = [i, j, k, m]) (hnd : needs l.toArray rd i = nd) (hnd' : needs l.toArray rd j = nd') (hnd2 : needs l.toArray rd k = nd2) (hnd3 : needs l.toArray rd m = nd3) (hS : (nd || (nd' || (nd2 || nd3))) = true → S0 w)
    (h : (gb P l.toArray Q S0 nd (Nx P l.toArray Q S0 rd n listed i)).G [o] a w) (h' : (gb P l.toArray Q S0 nd' (Nx P l.toArray Q S0 rd n listed j)).G [o'] a w) (h2 : (gb P l.toArray Q S0 nd2 (Nx P l.toArray Q S0 rd n listed k)).G [o2] a w) (h3 : (gb P l.toArray Q S0 nd3 (Nx P l.toArray Q S0 rd n listed m)).G [o3] a w)
    (hi : l[i]? = some o := by rfl) (hj : l[j]? = some o' := by rfl) (hk : l[k]? = some o2 := by rfl) (hm : l[m]? = some o3 := by rfl) : wpR P l.toArray Q S0 rd (n + 1) listed a w := by
  refine ⟨(fun e => by rw [e] at hr; cases hr), fun q hq => ?_⟩
  rw [hr] at hq
  simp at hq
  rcases hq with rfl | rfl | rfl | rfl
  · exact wpOp_b (by simpa using hi) hnd h (fun e => hS (by rw [e]; rfl))
  · exact wpOp_b (by simpa using hj) hnd' h' (fun e => hS (by rw [e]; simp))
  · exact wpOp_b (by simpa using hk) hnd2 h2 (fun e => hS (by rw [e]; simp))
  · exact wpOp_b (by simpa using hm) hnd3 h3 (fun e => hS (by rw [e]; simp))
end
def exX : Tm := .mk 2 [120] 0 []
def exY : Tm := .mk 2 [121] 0 []
def exA : Tm := .mk 4 [] 0 [exX, exY]
def exF (t : Tm) : Tm := .mk 3 [120] 0 [t]
def exD : Dc := ⟨[121], [76, 111], 0⟩
def exP : Pg := ⟨[exD], [], [⟨[102], exF exX⟩], exF exA⟩
def exP2 : Pg := ⟨[exD, exD], [], [⟨[102], exF exX⟩], exF exA⟩
def exP3 : Pg := ⟨[], [], [], exX⟩
def none1 : Bs → Option Bs := fun _ => none
theorem ex1 : (exF exA).ren none1 3 = (.mk 3 [51] 0 [.mk 4 [] 0 [.mk 2 [51] 0 [], .mk 2 [121] 0 []]], 4) := by
  simp [none1, exF, exA, exX, exY, Tm.ren, renL, renN, bnd, Lib.itoa, Lib.decDigits, nx, updS, IntKind.wrap, IntKind.bits, IntKind.signed]
theorem ex2 : (exF (exF exX)).ren none1 (-1) = (.mk 3 [45, 49] 0 [.mk 3 [48] 0 [.mk 2 [48] 0 []]], 1) := by
  simp [none1, exF, exX, Tm.ren, renL, renN, bnd, Lib.itoa, Lib.decDigits, nx, updS, IntKind.wrap, IntKind.bits, IntKind.signed]
theorem exR1 : exP.go 1 = some ([⟨[102], .mk 3 [49] 0 [.mk 2 [49] 0 []]⟩], 2) := by
  simp [exP, Pg.go, exF, exX, Tm.ren, renL, renN, bnd, Lib.itoa, Lib.decDigits, nx, updS, IntKind.wrap, IntKind.bits, IntKind.signed, Tm.strange, Tm.names, namesL, Tm.fr, frL, none0, inc1]
theorem exR2 : (exF exA).ren (fun _ => none) 2 = (.mk 3 [50] 0 [.mk 4 [] 0 [.mk 2 [50] 0 [], .mk 2 [121] 0 []]], 3) := by
  simp [exF, exA, exX, exY, Tm.ren, renL, renN, bnd, Lib.itoa, Lib.decDigits, nx, updS, IntKind.wrap, IntKind.bits, IntKind.signed]
theorem ex3 : exP.resolve = (⟨[exD], [], [⟨[102], .mk 3 [49] 0 [.mk 2 [49] 0 []]⟩], .mk 3 [50] 0 [.mk 4 [] 0 [.mk 2 [50] 0 [], .mk 2 [121] 0 []]]⟩, 0) := by
  unfold Pg.resolve
  rw [if_neg (show ¬ ((!exP.right) = true) by decide), if_neg (show ¬ (exP.twice = true) by decide)]
  rw [show exP.go exP.defs.length = some ([⟨[102], .mk 3 [49] 0 [.mk 2 [49] 0 []]⟩], 2) from exR1]
  refine (if_neg (show ¬ (Tm.strange (exP.known exP.defs.length) exP.body = true) by decide)).trans ?_
  rw [show exP.body.ren (fun x => none) 2 = (.mk 3 [50] 0 [.mk 4 [] 0 [.mk 2 [50] 0 [], .mk 2 [121] 0 []]], 3) from exR2]; rfl
theorem ex4 : exP2.resolve.2 = 6 := by rfl
theorem ex5 : exP3.resolve.2 = 5 := by rfl
theorem ex6 : Pg.zero.resolve.2 = 11 := by rfl
theorem rt_leaf {H : GH} (k : Int) (s : Bs) (n : Int) : RT H [.int .i64 k, str s, .int .i64 n, .slice none 0 0] (.mk k s n []) := by
  rw [rt_mk]; exact ⟨_, rfl, RS.nil _ _ _⟩
theorem rt_of_ks {H : GH} {k : Int} {s : Bs} {n : Int} {A : Option Addr} {c : Nat} {ks : List Tm} (h : KS H A c ks) : RT H [.int .i64 k, str s, .int .i64 n, .slice A ks.length c] (.mk k s n ks) := by
  rw [rt_mk]; exact ⟨_, rfl, h⟩
end Go.Proofs.YtindlieilabgfaaGreatDoor
/- The arguments, opened: what a reading tells of the memory. -/
set_option linter.unusedVariables false
set_option linter.unusedSectionVars false
set_option linter.unusedSimpArgs false
set_option autoImplicit false
set_option relaxedAutoImplicit false
namespace Go.Proofs.YtindlieilabgfaaGreatDoor
open Go X
/-- All of a world's memory. -/
def HW (w : World) : GH := fun b => w.heap[b]?
theorem hc_of {w : World} {g off : Nat} {v : Value} (h : w.cell? ⟨g, off, none⟩ = some v) : Hc (HW w) g off v := by
  unfold World.cell? at h
  split at h
  · rename_i c e z hg; exact ⟨c, e, z, hg, by simpa using h⟩
  · cases h
theorem st_world (w : World) : St w (HW w) [] w where
  os := rfl
  tape := rfl
  output := rfl
  fro := fun _ _ h => h
  holds := fun _ h => absurd h List.not_mem_nil
  off := fun _ h => absurd h List.not_mem_nil
  apart := List.Pairwise.nil
theorem mapM_get {α β : Type} {f : α → Option β} : ∀ {l : List α} {ys : List β}, l.mapM f = some ys → ys.length = l.length ∧ ∀ (i : Nat) (a : α), l[i]? = some a → f a = ys[i]?
  | [], ys, h => by simp at h; subst h; simp
  | a :: l, ys, h => by
    simp only [List.mapM_cons, Option.bind_eq_bind, Option.bind_eq_some_iff, Option.pure_def, Option.some.injEq] at h
    obtain ⟨y, hy, zs, hz, rfl⟩ := h
    have ih := mapM_get hz
    refine ⟨by simp [ih.1], fun i b hb => ?_⟩
    cases i with
    | zero => simp at hb; subst hb; simpa using hy
    | succ i => simp at hb; simpa using ih.2 i b hb
theorem cells_get {w : World} {base : Nat} {a : Addr} {n : Nat} {cs : List Value} (h : w.cells? base a n = some cs) : cs.length = n ∧ ∀ i u, cs[i]? = some u → w.cell? (a.add i) = some u := by
  unfold World.cells? at h
  split at h
  · obtain ⟨h1, h2⟩ := mapM_get h
    have hl : cs.length = n := by simpa using h1
    refine ⟨hl, fun i u hu => ?_⟩
    have hi : i < n := by have := (List.getElem?_eq_some_iff.1 hu).1; omega
    have := h2 i i (by simp [hi])
    rw [this, hu]
  · cases h
section
variable {H : Type} {enc : TypeId × Value → H} {P : Program} {w : World} {base : Nat} {spare : Nat → Bool} {held : Bool}
theorem bulk_sum (l : List (DataW H)) : Rows.uptoBulkAll l = (l.map Rows.uptoBulk).sum := by
  induction l with
  | nil => rfl
  | cons d l ih => simp only [Rows.uptoBulkAll, List.map_cons, List.sum_cons, ih]
/-- A slice, its elements opened. -/
theorem open_sl {α : Type} {R : GH → List Value → α → Prop} {B : α → Nat} {t e sz fuel : Nat} {cs : List Value} {x : DataW H × List MemPlace} (ht : P.underlying t = some (.slice e)) (hc : P.cellsOf e = sz) (hsz : 0 < sz) (h : DataW.trod enc P w base spare held fuel t cs = some x)
    (hel : ∀ n cs' y, n < fuel → DataW.trod enc P w base spare held n e cs' = some y → ∃ a : α, R (HW w) cs' a ∧ B a ≤ Rows.uptoBulk y.1) :
    ∃ (A : Option Addr) (c : Nat) (ys : List α), cs = [.slice A ys.length c] ∧ RS R sz (HW w) (.slice A ys.length c) ys ∧ (ys.map B).sum + 1 ≤ Rows.uptoBulk x.1 := by
  rcases DataW.trod_slice ht h with ⟨rfl, rfl⟩ | ⟨a, len, cap, elems, rest, n, hn, rfl, rfl, hb, hl, hm, hlen, hget, _, _⟩
  · exact ⟨none, 0, [], rfl, RS.nil _ _ _, by simp [Rows.uptoBulk]⟩
  · have key : ∀ q, q ≤ len → ∃ ys : List α, ys.length = q ∧ (ys.map B).sum ≤ (((elems.take q).map (·.1)).map Rows.uptoBulk).sum ∧ ∀ j y, ys[j]? = some y → ∃ g off cs', a = ⟨g, off, none⟩ ∧ cs'.length = sz ∧ R (HW w) cs' y ∧ ∀ i u, cs'[i]? = some u → Hc (HW w) g (off + j * sz + i) u := by
      intro q
      induction q with
      | zero => intro _; exact ⟨[], rfl, by simp, fun j y hy => by simp at hy⟩
      | succ q ih =>
        intro hq
        obtain ⟨ys, h1, h2, h3⟩ := ih (by omega)
        have hge := hget q (by omega)
        have hel0 : elems[q]? = some elems[q] := List.getElem?_eq_getElem (by omega)
        rw [hel0] at hge
        obtain ⟨cs', hcs, htr⟩ := Option.bind_eq_some_iff.1 hge
        obtain ⟨y, hR, hB⟩ := hel n cs' _ (by omega) htr
        obtain ⟨hl', hcell⟩ := cells_get hcs
        rw [hc] at hl'
        have hspot : a.spot = none := by
          have h0 := hcell 0 (cs'[0]'(by omega)) (List.getElem?_eq_getElem _)
          cases hsp : a.spot with
          | none => rfl
          | some s =>
            exfalso
            by_cases hq0 : q * P.cellsOf e = 0
            · rw [hq0] at h0
              have : (a.add 0).add 0 = a := by simp [Addr.add]
              rw [this] at h0
              unfold World.cell? at h0
              split at h0
              · rw [hsp] at h0; simp at h0
              · cases h0
            · have hq1 : 0 < q := by
                rcases Nat.eq_zero_or_pos q with rfl | h; exact absurd (Nat.zero_mul _) hq0; exact h
              obtain ⟨g, off, _, he, _⟩ := h3 0 (ys[0]'(by omega)) (List.getElem?_eq_getElem _)
              rw [he] at hsp; cases hsp
        refine ⟨ys ++ [y], by simp [h1], ?_, fun j z hz => ?_⟩
        · rw [List.take_succ_eq_append_getElem (by omega)]
          simp only [List.map_append, List.sum_append, List.map_cons, List.map_nil, List.sum_cons, List.sum_nil]
          omega
        · by_cases hj : j < ys.length
          · rw [List.getElem?_append_left hj] at hz; exact h3 j z hz
          · have hj2 : j = ys.length := by
              have := (List.getElem?_eq_some_iff.1 hz).1
              simp at this; omega
            subst hj2
            simp at hz; subst hz
            obtain ⟨ab, ao, asp⟩ := a
            simp only at hspot; subst hspot
            refine ⟨ab, ao, cs', rfl, hl', hR, fun i u hu => ?_⟩
            have := hcell i u hu
            rw [hc, Addr.add_mid, Addr.add_mid, ← h1] at this
            exact hc_of this
    obtain ⟨ys, h1, h2, h3⟩ := key len (Nat.le_refl _)
    refine ⟨some a, cap, ys, by rw [h1], ⟨some a, cap, rfl, by omega, fun j y hy => ?_⟩, ?_⟩
    · obtain ⟨g, off, cs', he, hr⟩ := h3 j y hy
      exact ⟨g, off, cs', by rw [he], hr⟩
    · rw [List.take_of_length_le (by omega)] at h2
      simp only [Rows.uptoBulk, bulk_sum]
      omega
end
end Go.Proofs.YtindlieilabgfaaGreatDoor
/- Terms and programs, opened. -/
set_option linter.unusedVariables false
set_option linter.unusedSectionVars false
set_option linter.unusedSimpArgs false
set_option autoImplicit false
set_option relaxedAutoImplicit false
set_option maxRecDepth 100000
namespace Go.Proofs.YtindlieilabgfaaGreatDoor
open Go X
section
variable {H : Type} {enc : TypeId × Value → H} {w : World} {base : Nat} {spare : Nat → Bool} {held : Bool}
theorem c24 : Tryz.prog.cellsOf 24 = 4 := by kernel_rfl
theorem c28 : Tryz.prog.cellsOf 28 = 7 := by kernel_rfl
theorem c1_3 : Tryz.prog.cellsOf 3 = 1 := by kernel_rfl
theorem c1_9 : Tryz.prog.cellsOf 9 = 1 := by kernel_rfl
theorem str_ba (s : ByteArray) : Value.string s = str s.data.toList := by
  simp [str]
/-- A piece of a list that is known. -/
theorem piece {cs : List Value} {o n : Nat} {l : List Value} (h : (cs.drop o).take n = l) (hl : l.length = n) : ∀ i, i < n → cs[o + i]? = l[i]? := by
  intro i hi
  rw [← h, List.getElem?_take, if_pos hi, List.getElem?_drop]
end
end Go.Proofs.YtindlieilabgfaaGreatDoor
/- Closed facts on the types and functions of this translation. -/
set_option linter.unusedVariables false
set_option linter.unusedSectionVars false
namespace Go.Proofs.YtindlieilabgfaaGreatDoor
open Go X
theorem bod10 : bodT Tryz.prog 10 = true := by kernel_rfl
theorem bod111 : bodT Tryz.prog 111 = true := by kernel_rfl
theorem bod112 : bodT Tryz.prog 112 = true := by kernel_rfl
theorem bod113 : bodT Tryz.prog 113 = true := by kernel_rfl
theorem bod114 : bodT Tryz.prog 114 = true := by kernel_rfl
theorem bod115 : bodT Tryz.prog 115 = true := by kernel_rfl
theorem bod116 : bodT Tryz.prog 116 = true := by kernel_rfl
theorem bod121 : bodT Tryz.prog 121 = true := by kernel_rfl
theorem bod122 : bodT Tryz.prog 122 = true := by kernel_rfl
theorem bod123 : bodT Tryz.prog 123 = true := by kernel_rfl
theorem bod14 : bodT Tryz.prog 14 = true := by kernel_rfl
theorem bod140 : bodT Tryz.prog 140 = true := by kernel_rfl
theorem bod141 : bodT Tryz.prog 141 = true := by kernel_rfl
theorem bod142 : bodT Tryz.prog 142 = true := by kernel_rfl
theorem bod150 : bodT Tryz.prog 150 = true := by kernel_rfl
theorem bod154 : bodT Tryz.prog 154 = true := by kernel_rfl
theorem bod17 : bodT Tryz.prog 17 = true := by kernel_rfl
theorem bod21 : bodT Tryz.prog 21 = true := by kernel_rfl
theorem bod22 : bodT Tryz.prog 22 = true := by kernel_rfl
theorem bod23 : bodT Tryz.prog 23 = true := by kernel_rfl
theorem bod24 : bodT Tryz.prog 24 = true := by kernel_rfl
theorem bod25 : bodT Tryz.prog 25 = true := by kernel_rfl
theorem bod28 : bodT Tryz.prog 28 = true := by kernel_rfl
theorem bod30 : bodT Tryz.prog 30 = true := by kernel_rfl
theorem bod31 : bodT Tryz.prog 31 = true := by kernel_rfl
theorem bod36 : bodT Tryz.prog 36 = true := by kernel_rfl
theorem bod38 : bodT Tryz.prog 38 = true := by kernel_rfl
theorem bod40 : bodT Tryz.prog 40 = true := by kernel_rfl
theorem bod41 : bodT Tryz.prog 41 = true := by kernel_rfl
theorem bod42 : bodT Tryz.prog 42 = true := by kernel_rfl
theorem bod43 : bodT Tryz.prog 43 = true := by kernel_rfl
theorem bod44 : bodT Tryz.prog 44 = true := by kernel_rfl
theorem bod45 : bodT Tryz.prog 45 = true := by kernel_rfl
theorem bod46 : bodT Tryz.prog 46 = true := by kernel_rfl
theorem bod47 : bodT Tryz.prog 47 = true := by kernel_rfl
theorem bod53 : bodT Tryz.prog 53 = true := by kernel_rfl
theorem bod54 : bodT Tryz.prog 54 = true := by kernel_rfl
theorem bod55 : bodT Tryz.prog 55 = true := by kernel_rfl
theorem bod57 : bodT Tryz.prog 57 = true := by kernel_rfl
theorem bod61 : bodT Tryz.prog 61 = true := by kernel_rfl
theorem bod62 : bodT Tryz.prog 62 = true := by kernel_rfl
theorem bod63 : bodT Tryz.prog 63 = true := by kernel_rfl
theorem bod65 : bodT Tryz.prog 65 = true := by kernel_rfl
theorem bod66 : bodT Tryz.prog 66 = true := by kernel_rfl
theorem bod67 : bodT Tryz.prog 67 = true := by kernel_rfl
theorem bod73 : bodT Tryz.prog 73 = true := by kernel_rfl
theorem bod74 : bodT Tryz.prog 74 = true := by kernel_rfl
theorem bod75 : bodT Tryz.prog 75 = true := by kernel_rfl
theorem bod77 : bodT Tryz.prog 77 = true := by kernel_rfl
theorem bod86 : bodT Tryz.prog 86 = true := by kernel_rfl
theorem bod87 : bodT Tryz.prog 87 = true := by kernel_rfl
theorem bod88 : bodT Tryz.prog 88 = true := by kernel_rfl
theorem bod89 : bodT Tryz.prog 89 = true := by kernel_rfl
theorem bod9 : bodT Tryz.prog 9 = true := by kernel_rfl
theorem bod90 : bodT Tryz.prog 90 = true := by kernel_rfl
theorem bod91 : bodT Tryz.prog 91 = true := by kernel_rfl
theorem bod93 : bodT Tryz.prog 93 = true := by kernel_rfl
theorem bod94 : bodT Tryz.prog 94 = true := by kernel_rfl
theorem bs119 : bsT Tryz.prog 119 = some (3, 1, #[.int .i64 0]) := by kernel_rfl
theorem bs120 : bsT Tryz.prog 120 = some (25, 1, #[.slice none 0 0]) := by kernel_rfl
theorem bs141 : bsT Tryz.prog 141 = some (167, 3, #[.int .i64 0, .string ⟨#[]⟩, .int .i64 0]) := by kernel_rfl
theorem bs204 : bsT Tryz.prog 204 = some (206, 1, #[.nilIface]) := by kernel_rfl
theorem bs22 : bsT Tryz.prog 22 = some (24, 4, #[.int .i64 0, .string ⟨#[]⟩, .int .i64 0, .slice none 0 0]) := by kernel_rfl
theorem bs25 : bsT Tryz.prog 25 = some (72, 3, #[.string ⟨#[]⟩, .string ⟨#[]⟩, .int .i64 0]) := by kernel_rfl
theorem bs26 : bsT Tryz.prog 26 = some (68, 5, #[.string ⟨#[]⟩, .int .i64 0, .string ⟨#[]⟩, .int .i64 0, .slice none 0 0]) := by kernel_rfl
theorem bs58 : bsT Tryz.prog 58 = some (9, 1, #[.string ⟨#[]⟩]) := by kernel_rfl
theorem cnc170 : cncT Tryz.prog 170 = true := by kernel_rfl
theorem cnc172 : cncT Tryz.prog 172 = true := by kernel_rfl
theorem cnc174 : cncT Tryz.prog 174 = true := by kernel_rfl
theorem cnc175 : cncT Tryz.prog 175 = true := by kernel_rfl
theorem fl167_1 : fldT Tryz.prog 167 1 = some 1 := by kernel_rfl
theorem fl170_0 : fldT Tryz.prog 170 0 = some 0 := by kernel_rfl
theorem fl24_0 : fldT Tryz.prog 24 0 = some 0 := by kernel_rfl
theorem fl24_1 : fldT Tryz.prog 24 1 = some 1 := by kernel_rfl
theorem fl24_2 : fldT Tryz.prog 24 2 = some 2 := by kernel_rfl
theorem fl24_3 : fldT Tryz.prog 24 3 = some 3 := by kernel_rfl
theorem fl28_0 : fldT Tryz.prog 28 0 = some 0 := by kernel_rfl
theorem fl28_1 : fldT Tryz.prog 28 1 = some 1 := by kernel_rfl
theorem fl28_2 : fldT Tryz.prog 28 2 = some 2 := by kernel_rfl
theorem fl28_3 : fldT Tryz.prog 28 3 = some 3 := by kernel_rfl
theorem fl68_0 : fldT Tryz.prog 68 0 = some 0 := by kernel_rfl
theorem fl68_1 : fldT Tryz.prog 68 1 = some 1 := by kernel_rfl
theorem fl72_0 : fldT Tryz.prog 72 0 = some 0 := by kernel_rfl
theorem fl72_1 : fldT Tryz.prog 72 1 = some 1 := by kernel_rfl
theorem fl72_2 : fldT Tryz.prog 72 2 = some 2 := by kernel_rfl
theorem fl78_0 : fldT Tryz.prog 78 0 = some 0 := by kernel_rfl
theorem fl78_1 : fldT Tryz.prog 78 1 = some 1 := by kernel_rfl
theorem fl85_0 : fldT Tryz.prog 85 0 = some 0 := by kernel_rfl
theorem fl85_1 : fldT Tryz.prog 85 1 = some 1 := by kernel_rfl
theorem lay167 : layT Tryz.prog 167 = some #[(0, 1), (1, 1), (2, 1)] := by kernel_rfl
theorem lay170 : layT Tryz.prog 170 = some #[(0, 4)] := by kernel_rfl
theorem lay24 : layT Tryz.prog 24 = some #[(0, 1), (1, 1), (2, 1), (3, 1)] := by kernel_rfl
theorem lay28 : layT Tryz.prog 28 = some #[(0, 1), (1, 1), (2, 1), (3, 4)] := by kernel_rfl
theorem lay68 : layT Tryz.prog 68 = some #[(0, 1), (1, 4)] := by kernel_rfl
theorem lay72 : layT Tryz.prog 72 = some #[(0, 1), (1, 1), (2, 1)] := by kernel_rfl
theorem lay78 : layT Tryz.prog 78 = some #[(0, 1), (1, 1)] := by kernel_rfl
theorem lay85 : layT Tryz.prog 85 = some #[(0, 1), (1, 1)] := by kernel_rfl
theorem mix : Tryz.prog.follows .mixedOrders = true := by kernel_rfl
theorem row141 : rowT Tryz.prog 141 167 3 32 = true := by kernel_rfl
theorem row22 : rowT Tryz.prog 22 24 4 56 = true := by kernel_rfl
theorem row25 : rowT Tryz.prog 25 72 3 40 = true := by kernel_rfl
theorem row26 : rowT Tryz.prog 26 68 5 72 = true := by kernel_rfl
theorem row58 : rowT Tryz.prog 58 9 1 16 = true := by kernel_rfl
theorem sli119 : sliT Tryz.prog 119 = some 3 := by kernel_rfl
theorem sli120 : sliT Tryz.prog 120 = some 25 := by kernel_rfl
theorem sli141 : sliT Tryz.prog 141 = some 167 := by kernel_rfl
theorem sli204 : sliT Tryz.prog 204 = some 206 := by kernel_rfl
theorem sli22 : sliT Tryz.prog 22 = some 24 := by kernel_rfl
theorem sli25 : sliT Tryz.prog 25 = some 72 := by kernel_rfl
theorem sli26 : sliT Tryz.prog 26 = some 68 := by kernel_rfl
theorem sli29 : sliT Tryz.prog 29 = some 5 := by kernel_rfl
theorem sli58 : sliT Tryz.prog 58 = some 9 := by kernel_rfl
theorem str9 : strT Tryz.prog 9 = true := by kernel_rfl
theorem sz167 : szT Tryz.prog 167 3 = true := by kernel_rfl
theorem sz206 : szT Tryz.prog 206 1 = true := by kernel_rfl
theorem sz24 : szT Tryz.prog 24 4 = true := by kernel_rfl
theorem sz25 : szT Tryz.prog 25 1 = true := by kernel_rfl
theorem sz3 : szT Tryz.prog 3 1 = true := by kernel_rfl
theorem sz5 : szT Tryz.prog 5 1 = true := by kernel_rfl
theorem sz68 : szT Tryz.prog 68 5 = true := by kernel_rfl
theorem sz72 : szT Tryz.prog 72 3 = true := by kernel_rfl
theorem sz9 : szT Tryz.prog 9 1 = true := by kernel_rfl
theorem t1_100 : ty1 Tryz.prog 100 = true := by kernel_rfl
theorem t1_2 : ty1 Tryz.prog 2 = true := by kernel_rfl
theorem t1_206 : ty1 Tryz.prog 206 = true := by kernel_rfl
theorem t1_22 : ty1 Tryz.prog 22 = true := by kernel_rfl
theorem t1_25 : ty1 Tryz.prog 25 = true := by kernel_rfl
theorem t1_26 : ty1 Tryz.prog 26 = true := by kernel_rfl
theorem t1_29 : ty1 Tryz.prog 29 = true := by kernel_rfl
theorem t1_3 : ty1 Tryz.prog 3 = true := by kernel_rfl
theorem t1_4 : ty1 Tryz.prog 4 = true := by kernel_rfl
theorem t1_5 : ty1 Tryz.prog 5 = true := by kernel_rfl
theorem t1_58 : ty1 Tryz.prog 58 = true := by kernel_rfl
theorem t1_75 : ty1 Tryz.prog 75 = true := by kernel_rfl
theorem t1_76 : ty1 Tryz.prog 76 = true := by kernel_rfl
theorem t1_81 : ty1 Tryz.prog 81 = true := by kernel_rfl
theorem t1_9 : ty1 Tryz.prog 9 = true := by kernel_rfl
theorem t1_99 : ty1 Tryz.prog 99 = true := by kernel_rfl
theorem tN167 : tyN Tryz.prog 167 3 = true := by kernel_rfl
theorem tN170 : tyN Tryz.prog 170 4 = true := by kernel_rfl
theorem tN24 : tyN Tryz.prog 24 4 = true := by kernel_rfl
theorem tN28 : tyN Tryz.prog 28 7 = true := by kernel_rfl
theorem tN68 : tyN Tryz.prog 68 5 = true := by kernel_rfl
theorem tN72 : tyN Tryz.prog 72 3 = true := by kernel_rfl
theorem zr100 : zrT Tryz.prog 100 = some (.nilFunc) := by kernel_rfl
theorem zr167 : zrT Tryz.prog 167 = some (.agg #[.int .i64 0, .string ⟨#[]⟩, .int .i64 0]) := by kernel_rfl
theorem zr170 : zrT Tryz.prog 170 = some (.agg #[.int .i64 0, .string ⟨#[]⟩, .int .i64 0, .slice none 0 0]) := by kernel_rfl
theorem zr172 : zrT Tryz.prog 172 = some (.string ⟨#[]⟩) := by kernel_rfl
theorem zr174 : zrT Tryz.prog 174 = some (.string ⟨#[]⟩) := by kernel_rfl
theorem zr175 : zrT Tryz.prog 175 = some (.string ⟨#[]⟩) := by kernel_rfl
theorem zr24 : zrT Tryz.prog 24 = some (.agg #[.int .i64 0, .string ⟨#[]⟩, .int .i64 0, .slice none 0 0]) := by kernel_rfl
theorem zr28 : zrT Tryz.prog 28 = some (.agg #[.slice none 0 0, .slice none 0 0, .slice none 0 0, .int .i64 0, .string ⟨#[]⟩, .int .i64 0, .slice none 0 0]) := by kernel_rfl
theorem zr3 : zrT Tryz.prog 3 = some (.int .i64 0) := by kernel_rfl
theorem zr4 : zrT Tryz.prog 4 = some (.bool false) := by kernel_rfl
theorem zr58 : zrT Tryz.prog 58 = some (.slice none 0 0) := by kernel_rfl
theorem zr68 : zrT Tryz.prog 68 = some (.agg #[.string ⟨#[]⟩, .int .i64 0, .string ⟨#[]⟩, .int .i64 0, .slice none 0 0]) := by kernel_rfl
theorem zr72 : zrT Tryz.prog 72 = some (.agg #[.string ⟨#[]⟩, .string ⟨#[]⟩, .int .i64 0]) := by kernel_rfl
theorem zr78 : zrT Tryz.prog 78 = some (.agg #[.map none, .int .i64 0]) := by kernel_rfl
theorem zr81 : zrT Tryz.prog 81 = some (.nilFunc) := by kernel_rfl
theorem zr85 : zrT Tryz.prog 85 = some (.agg #[.slice none 0 0, .int .i64 0]) := by kernel_rfl
theorem zr9 : zrT Tryz.prog 9 = some (.string ⟨#[]⟩) := by kernel_rfl
theorem zr99 : zrT Tryz.prog 99 = some (.map none) := by kernel_rfl
end Go.Proofs.YtindlieilabgfaaGreatDoor
/- Walks: package term: Binder, Size, Depth; Count of package scope. -/
set_option linter.unusedVariables false
set_option linter.unusedSimpArgs false
set_option linter.unusedSectionVars false
set_option autoImplicit false
set_option relaxedAutoImplicit false
set_option maxRecDepth 10000
namespace Go.Proofs.YtindlieilabgfaaGreatDoor
open Go X
theorem Binder_ok (k n : Int) (s : Bs) (v : Value) (E : World) (H : GH) (L : List It) : Ok Tryz.prog 38 #[.agg #[.int .i64 k, str s, .int .i64 n, v]] E H L fun r H' L' => r = .bool (bnd k) ∧ H = H' ∧ L = L' := by
  refine enter (N := 16) [(0, _)] Tryz.func38 rfl rfl rfl rfl fun a w h => ?_
  refine sqr ?_
  refine bxA h fun g1 a w h => ?_
  refine as_ h fun a w h => ?_
  refine nsr ?_
  refine fa fl24_0 (r := 0) h fun a w h => ?_
  refine ld 0 t1_3 h fun a w h => ?_
  refine eqi h fun a w h => ?_
  refine h.spl (fun c5 h => ?_) (fun c5 h => ?_)
  ·refine mv h fun a w h => ?_
   refine sk h (k := fun a w h => ?_)
   refine sk h (k := fun a w h => ?_)
   refine sk h (k := fun a w h => ?_)
   refine pkT h fun a w h => ?_
   refine mv h fun a w h => ?_
   refine sk h (k := fun a w h => ?_)
   refine sk h (k := fun a w h => ?_)
   refine sk h (k := fun a w h => ?_)
   refine pkT h fun a w h => ?_
   refine as_ h fun a w h => ?_
   refine nlt ?_
   refine ret_ ?_
   refine fin1 2 1 h LE.rfl ?_
   exact ⟨by first | (simp only [bnd, *]; done) | (simp only [bnd, *]; rfl), rfl, rfl⟩
  ·refine mv h fun a w h => ?_
   refine fa fl24_0 (r := 0) h fun a w h => ?_
   refine ld 0 t1_3 h fun a w h => ?_
   refine eqi h fun a w h => ?_
   refine pkF h fun a w h => ?_
   refine h.spl (fun c10 h => ?_) (fun c10 h => ?_)
   ·refine mv h fun a w h => ?_
    refine sk h (k := fun a w h => ?_)
    refine sk h (k := fun a w h => ?_)
    refine sk h (k := fun a w h => ?_)
    refine pkT h fun a w h => ?_
    refine as_ h fun a w h => ?_
    refine nlt ?_
    refine ret_ ?_
    refine fin1 2 1 h LE.rfl ?_
    exact ⟨by first | (simp only [bnd, *]; done) | (simp only [bnd, *]; rfl), rfl, rfl⟩
   ·refine mv h fun a w h => ?_
    refine fa fl24_0 (r := 0) h fun a w h => ?_
    refine ld 0 t1_3 h fun a w h => ?_
    refine eqi h fun a w h => ?_
    refine pkF h fun a w h => ?_
    refine as_ h fun a w h => ?_
    refine nlt ?_
    refine ret_ ?_
    refine fin1 2 1 h LE.rfl ?_
    exact ⟨by first | (simp only [bnd, *]; done) | (simp only [bnd, *]; rfl), rfl, rfl⟩
theorem Size_ok : ∀ (t : Tm) (v : Value) (E : World) (H : GH) (L : List It), VT H v t → t.size < 1000000000000 →
    Ok Tryz.prog 24 #[v] E H L fun r H' L' => r = .int .i64 t.size ∧ H = H' ∧ L = L' := by
  intro t
  induction t using Tm.ind with
  | h kd nm nn ks ih =>
  intro v E H L hv hb
  obtain ⟨A, c, rfl, hks⟩ := hv
  simp only [Tm.size] at hb
  have hks : KS H A c ks := hks
  have hlen := length_le_sizeL ks
  refine enter (N := 19) [(0, _)] Tryz.func24 rfl rfl rfl rfl fun a w h => ?_
  refine sqr ?_
  refine bxA h fun g1 a w h => ?_
  refine as_ h fun a w h => ?_
  refine nsr ?_
  refine as_ h fun a w h => ?_
  refine nlt ?_
  refine sq ?_
  refine sqr ?_
  refine fa fl24_3 (r := 3) h fun a w h => ?_
  refine ld 0 t1_22 h fun a w h => ?_
  refine ln sli22 h fun a w h => ?_
  refine mv h fun a w h => ?_
  refine nlt ?_
  refine blk ?_
  refine lp (β := Nat) (fun k a w => (k ≤ ks.length) ∧ S E H 19 [] [(9, .int .i64 (k : Int)), (3, .int .i64 ((1 + sizeL (ks.take k) : Nat) : Int)), (7, .slice A ks.length c), (8, .int .i64 (ks.length : Int))] (L) a w)
   (fun k => ks.length - k) 0 ⟨Nat.zero_le _, h.to 1 _⟩ ?_
  rintro k a w ⟨pre, h⟩
  refine sqr ?_
  refine lt h fun a w h => ?_
  refine nlt ?_
  refine sq ?_
  refine cdB h (fun c10 => ?_) (fun c10 => ?_)
  ·have c10 : k < ks.length := by simpa using c10
   obtain ⟨g, off, A2, c2, rfl, hvt, hcell⟩ := KS.get hks c10
   have hsz := size_get_le c10
   have hts := take_size c10
   have hlt := size_take_le ks (k + 1)
   refine skt ?_
   refine sq ?_
   refine blk ?_
   refine sqr ?_
   refine ia sli22 sz24 rfl c10 h fun a w h => ?_
   refine ldHN tN24 rfl hcell h fun a w h => ?_
   refine al zr24 h fun g5 a w h => ?_
   refine sw0 tN24 h fun a w h => ?_
   refine nlt ?_
   refine rg0 ?_
   refine mv h fun a w h => ?_
   refine ldW 0 tN24 h fun a w h => ?_
   refine cl bod24 (ih _ (List.getElem_mem c10) _ E H _ hvt (by omega)) h fun r15 H15 L15 a w le15 R h => ?_
   obtain ⟨rfl, rfl, rfl⟩ := R
   refine adr (((1 + sizeL (ks.take (k + 1)) : Nat) : Int)) ?_ h fun a w h => ?_
   ·rw [w64 (by omega) (by omega)]; exact hts
   refine as_ h fun a w h => ?_
   refine nl0 ?_
   refine ibN ?_
   refine thN ?_
   refine rg0 ?_
   refine inc ?_ h fun a w h => ?_
   ·omega
   refine mv h fun a w h => ?_
   refine nlt ?_
   exact ⟨(k + 1), ⟨by omega, h.to 1 _⟩, by show _ - (k + 1) < _ - k; omega⟩
  ·have hk : k = ks.length := by simp at c10; omega
   refine exit_ ?_
   refine thE ?_
   refine thE ?_
   refine ibH ?_
   refine thN ?_
   refine sqr ?_
   refine mv h fun a w h => ?_
   refine as_ h fun a w h => ?_
   refine nlt ?_
   refine ret_ ?_
   refine fin1 2 0 h LE.rfl ?_
   refine ⟨?_, rfl, rfl⟩
   rw [hk, List.take_length]; rfl
theorem Depth_ok : ∀ (t : Tm) (v : Value) (E : World) (H : GH) (L : List It), VT H v t → t.size < 1000000000000 →
    Ok Tryz.prog 25 #[v] E H L fun r H' L' => r = .int .i64 t.depth ∧ H = H' ∧ L = L' := by
  intro t
  induction t using Tm.ind with
  | h kd nm nn ks ih =>
  intro v E H L hv hb
  obtain ⟨A, c, rfl, hks⟩ := hv
  simp only [Tm.size] at hb
  have hks : KS H A c ks := hks
  have hlen := length_le_sizeL ks
  refine enter (N := 20) [(0, _)] Tryz.func25 rfl rfl rfl rfl fun a w h => ?_
  refine sqr ?_
  refine bxA h fun g1 a w h => ?_
  refine as_ h fun a w h => ?_
  refine nsr ?_
  refine as_ h fun a w h => ?_
  refine nlt ?_
  refine sq ?_
  refine sqr ?_
  refine fa fl24_3 (r := 3) h fun a w h => ?_
  refine ld 0 t1_22 h fun a w h => ?_
  refine ln sli22 h fun a w h => ?_
  refine mv h fun a w h => ?_
  refine nlt ?_
  refine blk ?_
  refine lp (β := Nat) (fun k a w => (k ≤ ks.length) ∧ S E H 20 [] [(9, .int .i64 (k : Int)), (3, .int .i64 ((depthL (ks.take k) : Nat) : Int)), (7, .slice A ks.length c), (8, .int .i64 (ks.length : Int))] (L) a w)
   (fun k => ks.length - k) 0 ⟨Nat.zero_le _, h.to 1 _⟩ ?_
  rintro k a w ⟨pre, h⟩
  refine sqr ?_
  refine lt h fun a w h => ?_
  refine nlt ?_
  refine sq ?_
  refine cdB h (fun c10 => ?_) (fun c10 => ?_)
  ·have c10 : k < ks.length := by simpa using c10
   obtain ⟨g, off, A2, c2, rfl, hvt, hcell⟩ := KS.get hks c10
   have hsz := size_get_le c10
   have htd := take_depth c10
   have hmx : (if ((depthL (ks.take k) : Nat) : Int) < (ks[k].depth : Int) then (ks[k].depth : Int) else ((depthL (ks.take k) : Nat) : Int)) = ((depthL (ks.take (k + 1)) : Nat) : Int) := by rw [htd]; split <;> omega
   refine skt ?_
   refine sq ?_
   refine blk ?_
   refine sqr ?_
   refine ia sli22 sz24 rfl c10 h fun a w h => ?_
   refine ldHN tN24 rfl hcell h fun a w h => ?_
   refine al zr24 h fun g5 a w h => ?_
   refine sw0 tN24 h fun a w h => ?_
   refine nlt ?_
   refine rg0 ?_
   refine mv h fun a w h => ?_
   refine ldW 0 tN24 h fun a w h => ?_
   refine cl bod25 (ih _ (List.getElem_mem c10) _ E H _ hvt (by omega)) h fun r15 H15 L15 a w le15 R h => ?_
   obtain ⟨rfl, rfl, rfl⟩ := R
   refine mx h fun a w h => ?_
   rw [hmx] at h
   refine as_ h fun a w h => ?_
   refine nl0 ?_
   refine ibN ?_
   refine thN ?_
   refine rg0 ?_
   refine inc ?_ h fun a w h => ?_
   ·omega
   refine mv h fun a w h => ?_
   refine nlt ?_
   exact ⟨(k + 1), ⟨by omega, h.to 1 _⟩, by show _ - (k + 1) < _ - k; omega⟩
  ·have hk : k = ks.length := by simp at c10; omega
   refine exit_ ?_
   refine thE ?_
   refine thE ?_
   refine ibH ?_
   refine thN ?_
   refine sqr ?_
   refine mv h fun a w h => ?_
   refine adr (((depthL ks + 1 : Nat) : Int)) ?_ h fun a w h => ?_
   ·have := depthL_le ks; rw [hk, List.take_length, w64 (by omega) (by omega)]; omega
   refine as_ h fun a w h => ?_
   refine nlt ?_
   refine ret_ ?_
   refine fin1 2 0 h LE.rfl ?_
   exact ⟨rfl, rfl, rfl⟩
theorem Count_ok : ∀ (t : Tm) (v : Value) (E : World) (H : GH) (L : List It), VT H v t → t.size < 1000000000000 →
    Ok Tryz.prog 14 #[v] E H L fun r H' L' => r = .int .i64 t.count ∧ H = H' ∧ L = L' := by
  intro t
  induction t using Tm.ind with
  | h kd nm nn ks ih =>
  intro v E H L hv hb
  obtain ⟨A, c, rfl, hks⟩ := hv
  simp only [Tm.size] at hb
  have hks : KS H A c ks := hks
  have hlen := length_le_sizeL ks
  refine enter (N := 23) [(0, _)] Tryz.func14 rfl rfl rfl rfl fun a w h => ?_
  refine sqr ?_
  refine bxA h fun g1 a w h => ?_
  refine as_ h fun a w h => ?_
  refine nsr ?_
  refine as_ h fun a w h => ?_
  refine nlt ?_
  refine sq ?_
  refine sqr ?_
  refine ldW 0 tN24 h fun a w h => ?_
  refine cl bod38 (Binder_ok _ _ _ _ _ _ _) h fun r7 H7 L7 a w le7 R h => ?_
  obtain ⟨rfl, rfl, rfl⟩ := R
  refine nlt ?_
  refine cdB h (fun c7 => ?_) (fun c7 => ?_)
  ·have c7 : bnd kd = true := c7
   refine rg0 ?_
   refine mv h fun a w h => ?_
   refine adr (((if bnd kd then 1 else 0 : Nat) : Int)) ?_ h fun a w h => ?_
   ·rw [c7]; rfl
   refine as_ h fun a w h => ?_
   refine nlt ?_
   refine sq ?_
   refine sqr ?_
   refine fa fl24_3 (r := 3) h fun a w h => ?_
   refine ld 0 t1_22 h fun a w h => ?_
   refine ln sli22 h fun a w h => ?_
   refine mv h fun a w h => ?_
   refine nlt ?_
   refine blk ?_
   refine lp (β := Nat) (fun k a w => (k ≤ ks.length) ∧ S E H 23 [] [(13, .int .i64 (k : Int)), (3, .int .i64 (((if bnd kd then 1 else 0) + countL (ks.take k) : Nat) : Int)), (11, .slice A ks.length c), (12, .int .i64 (ks.length : Int))] (L) a w)
    (fun k => ks.length - k) 0 ⟨Nat.zero_le _, h.to 1 _⟩ ?_
   rintro k a w ⟨pre, h⟩
   refine sqr ?_
   refine lt h fun a w h => ?_
   refine nlt ?_
   refine sq ?_
   refine cdB h (fun c14 => ?_) (fun c14 => ?_)
   ·have c14 : k < ks.length := by simpa using c14
    obtain ⟨g, off, A2, c2, rfl, hvt, hcell⟩ := KS.get hks c14
    have hsz := size_get_le c14
    have hts := take_count c14
    refine skt ?_
    refine sq ?_
    refine blk ?_
    refine sqr ?_
    refine ia sli22 sz24 rfl c14 h fun a w h => ?_
    refine ldHN tN24 rfl hcell h fun a w h => ?_
    refine al zr24 h fun g5 a w h => ?_
    refine sw0 tN24 h fun a w h => ?_
    refine nlt ?_
    refine rg0 ?_
    refine mv h fun a w h => ?_
    refine ldW 0 tN24 h fun a w h => ?_
    refine cl bod14 (ih _ (List.getElem_mem c14) _ E H _ hvt (by omega)) h fun r19 H19 L19 a w le19 R h => ?_
    obtain ⟨rfl, rfl, rfl⟩ := R
    refine adr ((((if bnd kd then 1 else 0) + countL (ks.take (k + 1)) : Nat) : Int)) ?_ h fun a w h => ?_
    ·have : countL (ks.take (k + 1)) ≤ sizeL ks := Nat.le_trans (countL_le _) (size_take_le ks _); rw [hts] at this ⊢; rw [w64 (by split <;> omega) (by split <;> omega)]; omega
    refine as_ h fun a w h => ?_
    refine nl0 ?_
    refine ibN ?_
    refine thN ?_
    refine rg0 ?_
    refine inc ?_ h fun a w h => ?_
    ·omega
    refine mv h fun a w h => ?_
    refine nlt ?_
    exact ⟨(k + 1), ⟨by omega, h.to 1 _⟩, by show _ - (k + 1) < _ - k; omega⟩
   ·have hk : k = ks.length := by simp at c14; omega
    refine exit_ ?_
    refine thE ?_
    refine thE ?_
    refine ibH ?_
    refine thN ?_
    refine sqr ?_
    refine mv h fun a w h => ?_
    refine as_ h fun a w h => ?_
    refine nlt ?_
    refine ret_ ?_
    refine fin1 2 0 h LE.rfl ?_
    refine ⟨?_, rfl, rfl⟩
    rw [hk, List.take_length]; rfl
  ·have c7 : bnd kd = false := c7
   have e0 : (0 : Int) = ((if bnd kd then 1 else 0 : Nat) : Int) := by rw [c7]; rfl
   rw [e0] at h
   refine skt ?_
   refine sq ?_
   refine sqr ?_
   refine fa fl24_3 (r := 3) h fun a w h => ?_
   refine ld 0 t1_22 h fun a w h => ?_
   refine ln sli22 h fun a w h => ?_
   refine mv h fun a w h => ?_
   refine nlt ?_
   refine blk ?_
   refine lp (β := Nat) (fun k a w => (k ≤ ks.length) ∧ S E H 23 [] [(13, .int .i64 (k : Int)), (3, .int .i64 (((if bnd kd then 1 else 0) + countL (ks.take k) : Nat) : Int)), (11, .slice A ks.length c), (12, .int .i64 (ks.length : Int))] (L) a w)
    (fun k => ks.length - k) 0 ⟨Nat.zero_le _, h.to 1 _⟩ ?_
   rintro k a w ⟨pre, h⟩
   refine sqr ?_
   refine lt h fun a w h => ?_
   refine nlt ?_
   refine sq ?_
   refine cdB h (fun c14 => ?_) (fun c14 => ?_)
   ·have c14 : k < ks.length := by simpa using c14
    obtain ⟨g, off, A2, c2, rfl, hvt, hcell⟩ := KS.get hks c14
    have hsz := size_get_le c14
    have hts := take_count c14
    refine skt ?_
    refine sq ?_
    refine blk ?_
    refine sqr ?_
    refine ia sli22 sz24 rfl c14 h fun a w h => ?_
    refine ldHN tN24 rfl hcell h fun a w h => ?_
    refine al zr24 h fun g5 a w h => ?_
    refine sw0 tN24 h fun a w h => ?_
    refine nlt ?_
    refine rg0 ?_
    refine mv h fun a w h => ?_
    refine ldW 0 tN24 h fun a w h => ?_
    refine cl bod14 (ih _ (List.getElem_mem c14) _ E H _ hvt (by omega)) h fun r19 H19 L19 a w le19 R h => ?_
    obtain ⟨rfl, rfl, rfl⟩ := R
    refine adr ((((if bnd kd then 1 else 0) + countL (ks.take (k + 1)) : Nat) : Int)) ?_ h fun a w h => ?_
    ·have : countL (ks.take (k + 1)) ≤ sizeL ks := Nat.le_trans (countL_le _) (size_take_le ks _); rw [hts] at this ⊢; rw [w64 (by split <;> omega) (by split <;> omega)]; omega
    refine as_ h fun a w h => ?_
    refine nl0 ?_
    refine ibN ?_
    refine thN ?_
    refine rg0 ?_
    refine inc ?_ h fun a w h => ?_
    ·omega
    refine mv h fun a w h => ?_
    refine nlt ?_
    exact ⟨(k + 1), ⟨by omega, h.to 1 _⟩, by show _ - (k + 1) < _ - k; omega⟩
   ·have hk : k = ks.length := by simp at c14; omega
    refine exit_ ?_
    refine thE ?_
    refine thE ?_
    refine ibH ?_
    refine thN ?_
    refine sqr ?_
    refine mv h fun a w h => ?_
    refine as_ h fun a w h => ?_
    refine nlt ?_
    refine ret_ ?_
    refine fin1 2 0 h LE.rfl ?_
    refine ⟨?_, rfl, rfl⟩
    rw [hk, List.take_length]; rfl
end Go.Proofs.YtindlieilabgfaaGreatDoor
/- Walks: names, keywords; slices.Index and Contains at texts. -/
set_option linter.unusedVariables false
set_option linter.unusedSimpArgs false
set_option linter.unusedSectionVars false
set_option autoImplicit false
set_option relaxedAutoImplicit false
set_option maxRecDepth 10000
namespace Go.Proofs.YtindlieilabgfaaGreatDoor
open Go X
/-- What the package-level tables hold. -/
structure Laid (H : GH) : Prop where
  keys : SS H (some ⟨3, 0, none⟩) 14 keysL
  ops : SS H (some ⟨1, 0, none⟩) 5 opsL
  kids : ∀ (j : Nat) (k : Int), kidsL[j]? = some k → Hc H 0 j (.int .i64 k)
  pow : ∀ w, Sees H [] w → Lib.TabIs Tryz.prog w "internal/strconv.uint64pow10" .u64 Lib.pow10Tab
theorem Laid.up {H H' : GH} (h : Laid H) (hl : LE H H') : Laid H' := ⟨h.keys.up hl, h.ops.up hl, fun j k e => (h.kids j k e).mono hl, fun w hw => h.pow w ⟨fun b o e => hw.fro b o (hl b o e), fun i hi => by cases hi⟩⟩
theorem arrK : arrT Tryz.prog 211 = some (14, 9) := by kernel_rfl
theorem arrO : arrT Tryz.prog 188 = some (5, 9) := by kernel_rfl
theorem arrN : arrT Tryz.prog 187 = some (14, 3) := by kernel_rfl
theorem letter_ok (c : UInt8) (E : World) (H : GH) (L : List It) : Ok Tryz.prog 154 #[.int .u8 (c.toNat : Int)] E H L fun r H' L' => r = .bool (letterB c) ∧ H = H' ∧ L = L' := by
  refine enter (N := 11) [(0, _)] Tryz.func154 rfl rfl rfl rfl fun a w h => ?_
  refine sqr ?_
  refine as_ h fun a w h => ?_
  refine nsr ?_
  refine mv h fun a w h => ?_
  refine orb (c := c) (c' := 32) h fun a w h => ?_
  refine ge h fun a w h => ?_
  refine h.spl (fun c5 h => ?_) (fun c5 h => ?_)
  ·refine mv h fun a w h => ?_
   refine mv h fun a w h => ?_
   refine orb (c := c) (c' := 32) h fun a w h => ?_
   refine le h fun a w h => ?_
   refine pkT h fun a w h => ?_
   refine as_ h fun a w h => ?_
   refine nlt ?_
   refine ret_ ?_
   refine fin1 2 0 h LE.rfl ?_
   exact ⟨by unfold letterB; rw [c5]; first | done | rfl, rfl, rfl⟩
  ·refine mv h fun a w h => ?_
   refine sk h (k := fun a w h => ?_)
   refine sk h (k := fun a w h => ?_)
   refine sk h (k := fun a w h => ?_)
   refine pkF h fun a w h => ?_
   refine as_ h fun a w h => ?_
   refine nlt ?_
   refine ret_ ?_
   refine fin1 2 0 h LE.rfl ?_
   exact ⟨by unfold letterB; rw [c5]; first | done | rfl, rfl, rfl⟩
theorem Name_ok (s : Bs) (E : World) (H : GH) (L : List It) (hb : s.length < 1000000000000) : Ok Tryz.prog 140 #[str s] E H L fun r H' L' => r = .bool (nameB s) ∧ H = H' ∧ L = L' := by
  refine enter (N := 42) [(0, _)] Tryz.func140 rfl rfl rfl rfl fun a w h => ?_
  refine sqr ?_
  refine as_ h fun a w h => ?_
  refine nlt ?_
  refine sq ?_
  refine sqr ?_
  refine mv h fun a w h => ?_
  refine lnb str9 h fun a w h => ?_
  refine mv h fun a w h => ?_
  refine nlt ?_
  refine blk ?_
  refine lp (β := Nat) (fun k a w => (k ≤ s.length ∧ ∀ j, j < k → okAt s j = true) ∧ S E H 42 [] [(7, .int .i64 (k : Int)), (6, .int .i64 (s.length : Int)), (0, str s)] (L) a w)
   (fun k => s.length - k) 0 ⟨⟨Nat.zero_le _, fun j hj => absurd hj (by omega)⟩, h.to 0 _⟩ ?_
  rintro k a w ⟨pre, h⟩
  refine sqr ?_
  refine lt h fun a w h => ?_
  refine nlt ?_
  refine sq ?_
  refine cdB h (fun c8 => ?_) (fun c8 => ?_)
  ·have c8 : k < s.length := by simpa using c8
   obtain ⟨c, hc⟩ : ∃ c, s[k]? = some c := ⟨s[k], List.getElem?_eq_getElem c8⟩
   have hgd : s.getD k 0 = c := by simp [List.getD, hc]
   have hoc : okAt s k = (letterB c || (k != 0 && digitB c)) := by unfold okAt; rw [hgd]
   refine skt ?_
   refine sq ?_
   refine blk ?_
   refine sqr ?_
   refine mv h fun a w h => ?_
   refine as_ h fun a w h => ?_
   refine nsr ?_
   refine mv h fun a w h => ?_
   refine mv h fun a w h => ?_
   refine ix str9 rfl hc h fun a w h => ?_
   refine ge h fun a w h => ?_
   refine h.spl (fun c13 h => ?_) (fun c13 h => ?_)
   ·refine mv h fun a w h => ?_
    refine mv h fun a w h => ?_
    refine mv h fun a w h => ?_
    refine ix str9 rfl hc h fun a w h => ?_
    refine le h fun a w h => ?_
    refine pkT h fun a w h => ?_
    refine as_ h fun a w h => ?_
    refine nsr ?_
    refine mv h fun a w h => ?_
    refine mv h fun a w h => ?_
    refine ix str9 rfl hc h fun a w h => ?_
    refine cl bod154 (letter_ok c E H _) h fun r23 H23 L23 a w le23 R h => ?_
    obtain ⟨rfl, rfl, rfl⟩ := R
    refine nt h fun a w h => ?_
    refine h.spl (fun c24 h => ?_) (fun c24 h => ?_)
    ·refine mv h fun a w h => ?_
     refine mv h fun a w h => ?_
     refine eqi h fun a w h => ?_
     refine h.spl (fun c27 h => ?_) (fun c27 h => ?_)
     ·refine mv h fun a w h => ?_
      refine sk h (k := fun a w h => ?_)
      refine sk h (k := fun a w h => ?_)
      refine pkT h fun a w h => ?_
      refine pkT h fun a w h => ?_
      refine nlt ?_
      have hno : okAt s k = false := by rw [hoc]; (try simp at c8 c13 c24 c27); (try simp [digitB, c8, c13, c24, c27]); (try omega)
      refine cdT h ?_
      refine sqr ?_
      refine as_ h fun a w h => ?_
      refine nlt ?_
      refine ret_ ?_
      refine ibR ?_
      refine thR ?_
      refine thR ?_
      refine ibR ?_
      refine thR ?_
      refine fin1 2 0 h LE.rfl ?_
      exact ⟨by rw [nameB_no c8 hno], rfl, rfl⟩
     ·refine mv h fun a w h => ?_
      refine mv h fun a w h => ?_
      refine nt h fun a w h => ?_
      refine pkF h fun a w h => ?_
      refine pkT h fun a w h => ?_
      refine nlt ?_
      refine cdB h (fun c32 => ?_) (fun c32 => ?_)
      ·have hno : okAt s k = false := by rw [hoc]; (try simp at c8 c13 c24 c27 c32); (try simp [digitB, c8, c13, c24, c27, c32]); (try omega)
       refine sqr ?_
       refine as_ h fun a w h => ?_
       refine nlt ?_
       refine ret_ ?_
       refine ibR ?_
       refine thR ?_
       refine thR ?_
       refine ibR ?_
       refine thR ?_
       refine fin1 2 0 h LE.rfl ?_
       exact ⟨by rw [nameB_no c8 hno], rfl, rfl⟩
      ·have hok : okAt s k = true := by rw [hoc]; (try simp at c8 c13 c24 c27 c32); (try simp [digitB, c8, c13, c24, c27, c32]); (try omega)
       refine sk_ ?_
       refine ibN ?_
       refine thN ?_
       refine rg0 ?_
       refine inc ?_ h fun a w h => ?_
       ·omega
       refine mv h fun a w h => ?_
       refine nlt ?_
       exact ⟨(k + 1), ⟨⟨by omega, fun j hj => by rcases Nat.lt_succ_iff_lt_or_eq.1 hj with hj | rfl <;> first | exact hok | exact pre.2 _ hj⟩, h.to 0 _⟩, by show _ - (k + 1) < _ - k; omega⟩
    ·refine mv h fun a w h => ?_
     refine sk h (k := fun a w h => ?_)
     refine sk h (k := fun a w h => ?_)
     refine sk h (k := fun a w h => ?_)
     refine sk h (k := fun a w h => ?_)
     refine sk h (k := fun a w h => ?_)
     refine sk h (k := fun a w h => ?_)
     refine pkF h fun a w h => ?_
     refine nlt ?_
     have hok : okAt s k = true := by rw [hoc]; (try simp at c8 c13 c24); (try simp [digitB, c8, c13, c24]); (try omega)
     refine cdF h ?_
     refine sk_ ?_
     refine ibN ?_
     refine thN ?_
     refine rg0 ?_
     refine inc ?_ h fun a w h => ?_
     ·omega
     refine mv h fun a w h => ?_
     refine nlt ?_
     exact ⟨(k + 1), ⟨⟨by omega, fun j hj => by rcases Nat.lt_succ_iff_lt_or_eq.1 hj with hj | rfl <;> first | exact hok | exact pre.2 _ hj⟩, h.to 0 _⟩, by show _ - (k + 1) < _ - k; omega⟩
   ·refine mv h fun a w h => ?_
    refine sk h (k := fun a w h => ?_)
    refine sk h (k := fun a w h => ?_)
    refine sk h (k := fun a w h => ?_)
    refine sk h (k := fun a w h => ?_)
    refine pkF h fun a w h => ?_
    refine as_ h fun a w h => ?_
    refine nsr ?_
    refine mv h fun a w h => ?_
    refine mv h fun a w h => ?_
    refine ix str9 rfl hc h fun a w h => ?_
    refine cl bod154 (letter_ok c E H _) h fun r23 H23 L23 a w le23 R h => ?_
    obtain ⟨rfl, rfl, rfl⟩ := R
    refine nt h fun a w h => ?_
    refine h.spl (fun c24 h => ?_) (fun c24 h => ?_)
    ·refine mv h fun a w h => ?_
     refine mv h fun a w h => ?_
     refine eqi h fun a w h => ?_
     refine h.spl (fun c27 h => ?_) (fun c27 h => ?_)
     ·refine mv h fun a w h => ?_
      refine sk h (k := fun a w h => ?_)
      refine sk h (k := fun a w h => ?_)
      refine pkT h fun a w h => ?_
      refine pkT h fun a w h => ?_
      refine nlt ?_
      have hno : okAt s k = false := by rw [hoc]; (try simp at c8 c13 c24 c27); (try simp [digitB, c8, c13, c24, c27]); (try omega)
      refine cdT h ?_
      refine sqr ?_
      refine as_ h fun a w h => ?_
      refine nlt ?_
      refine ret_ ?_
      refine ibR ?_
      refine thR ?_
      refine thR ?_
      refine ibR ?_
      refine thR ?_
      refine fin1 2 0 h LE.rfl ?_
      exact ⟨by rw [nameB_no c8 hno], rfl, rfl⟩
     ·refine mv h fun a w h => ?_
      refine mv h fun a w h => ?_
      refine nt h fun a w h => ?_
      refine pkF h fun a w h => ?_
      refine pkT h fun a w h => ?_
      refine nlt ?_
      refine cdB h (fun c32 => ?_) (fun c32 => ?_)
      ·have hno : okAt s k = false := by rw [hoc]; (try simp at c8 c13 c24 c27 c32); (try simp [digitB, c8, c13, c24, c27, c32]); (try omega)
       refine sqr ?_
       refine as_ h fun a w h => ?_
       refine nlt ?_
       refine ret_ ?_
       refine ibR ?_
       refine thR ?_
       refine thR ?_
       refine ibR ?_
       refine thR ?_
       refine fin1 2 0 h LE.rfl ?_
       exact ⟨by rw [nameB_no c8 hno], rfl, rfl⟩
      ·have hok : okAt s k = true := by rw [hoc]; (try simp at c8 c13 c24 c27 c32); (try simp [digitB, c8, c13, c24, c27, c32]); (try omega)
       refine sk_ ?_
       refine ibN ?_
       refine thN ?_
       refine rg0 ?_
       refine inc ?_ h fun a w h => ?_
       ·omega
       refine mv h fun a w h => ?_
       refine nlt ?_
       exact ⟨(k + 1), ⟨⟨by omega, fun j hj => by rcases Nat.lt_succ_iff_lt_or_eq.1 hj with hj | rfl <;> first | exact hok | exact pre.2 _ hj⟩, h.to 0 _⟩, by show _ - (k + 1) < _ - k; omega⟩
    ·refine mv h fun a w h => ?_
     refine sk h (k := fun a w h => ?_)
     refine sk h (k := fun a w h => ?_)
     refine sk h (k := fun a w h => ?_)
     refine sk h (k := fun a w h => ?_)
     refine sk h (k := fun a w h => ?_)
     refine sk h (k := fun a w h => ?_)
     refine pkF h fun a w h => ?_
     refine nlt ?_
     have hok : okAt s k = true := by rw [hoc]; (try simp at c8 c13 c24); (try simp [digitB, c8, c13, c24]); (try omega)
     refine cdF h ?_
     refine sk_ ?_
     refine ibN ?_
     refine thN ?_
     refine rg0 ?_
     refine inc ?_ h fun a w h => ?_
     ·omega
     refine mv h fun a w h => ?_
     refine nlt ?_
     exact ⟨(k + 1), ⟨⟨by omega, fun j hj => by rcases Nat.lt_succ_iff_lt_or_eq.1 hj with hj | rfl <;> first | exact hok | exact pre.2 _ hj⟩, h.to 0 _⟩, by show _ - (k + 1) < _ - k; omega⟩
  ·have hk : k = s.length := by simp at c8; omega
   have hall : ∀ j, j < s.length → okAt s j = true := by rw [← hk]; exact pre.2
   refine exit_ ?_
   refine thE ?_
   refine thE ?_
   refine ibH ?_
   refine thN ?_
   refine sqr ?_
   refine mv h fun a w h => ?_
   refine lnb str9 h fun a w h => ?_
   refine gt h fun a w h => ?_
   refine h.spl (fun c36 h => ?_) (fun c36 h => ?_)
   ·refine mv h fun a w h => ?_
    refine mv h fun a w h => ?_
    refine lnb str9 h fun a w h => ?_
    refine le h fun a w h => ?_
    refine pkT h fun a w h => ?_
    refine as_ h fun a w h => ?_
    refine nlt ?_
    refine ret_ ?_
    refine fin1 2 0 h LE.rfl ?_
    exact ⟨by rw [nameB_yes hall, c36]; first | done | rfl, rfl, rfl⟩
   ·refine mv h fun a w h => ?_
    refine sk h (k := fun a w h => ?_)
    refine sk h (k := fun a w h => ?_)
    refine sk h (k := fun a w h => ?_)
    refine pkF h fun a w h => ?_
    refine as_ h fun a w h => ?_
    refine nlt ?_
    refine ret_ ?_
    refine fin1 2 0 h LE.rfl ?_
    exact ⟨by rw [nameB_yes hall, c36]; first | done | rfl, rfl, rfl⟩
theorem Index_ok (ss : List Bs) (s : Bs) (A : Option Addr) (c : Nat) (E : World) (H : GH) (L : List It) (hss : SS H A c ss) (hb : ss.length < 1000000000000) :
    Ok Tryz.prog 43 #[.slice A ss.length c, str s] E H L fun r H' L' => r = .int .i64 (indexL ss s) ∧ H = H' ∧ L = L' := by
  refine enter (N := 19) [(0, _), (1, _)] Tryz.func43 rfl rfl rfl rfl fun a w h => ?_
  refine sqr ?_
  refine as_ h fun a w h => ?_
  refine nlt ?_
  refine sq ?_
  refine sqr ?_
  refine mv h fun a w h => ?_
  refine ln sli58 h fun a w h => ?_
  refine mv h fun a w h => ?_
  refine nlt ?_
  refine blk ?_
  refine lp (β := Nat) (fun k a w => (k ≤ ss.length ∧ ∀ j (hj : j < ss.length), j < k → ss[j] ≠ s) ∧ S E H 19 [] [(8, .int .i64 (k : Int)), (6, .slice A ss.length c), (7, .int .i64 (ss.length : Int)), (0, .slice A ss.length c), (1, str s)] (L) a w)
   (fun k => ss.length - k) 0 ⟨⟨Nat.zero_le _, fun j hj h0 => absurd h0 (by omega)⟩, h.to 0 _⟩ ?_
  rintro k a w ⟨pre, h⟩
  refine sqr ?_
  refine lt h fun a w h => ?_
  refine nlt ?_
  refine sq ?_
  refine cdB h (fun c9 => ?_) (fun c9 => ?_)
  ·have c9 : k < ss.length := by simpa using c9
   obtain ⟨g, off, rfl, hcell⟩ := hss.get c9
   refine skt ?_
   refine sq ?_
   refine blk ?_
   refine sqr ?_
   refine mv h fun a w h => ?_
   refine as_ h fun a w h => ?_
   refine nsr ?_
   refine mv h fun a w h => ?_
   refine mv h fun a w h => ?_
   refine mv h fun a w h => ?_
   refine ia sli58 sz9 rfl c9 h fun a w h => ?_
   refine ldH t1_9 hcell h fun a w h => ?_
   refine eqb h fun a w h => ?_
   refine nlt ?_
   refine cdB h (fun c16 => ?_) (fun c16 => ?_)
   ·have hfact : indexL ss s = (k : Int) := indexL_at c9 (fun j hj hjk => pre.2 j hj hjk) (of_decide_eq_true c16).symm
    refine sqr ?_
    refine mv h fun a w h => ?_
    refine as_ h fun a w h => ?_
    refine nlt ?_
    refine ret_ ?_
    refine ibR ?_
    refine thR ?_
    refine thR ?_
    refine ibR ?_
    refine thR ?_
    refine fin1 4 0 h LE.rfl ?_
    exact ⟨by rw [hfact], rfl, rfl⟩
   ·have hne : ss[k] ≠ s := fun e => of_decide_eq_false c16 e.symm
    refine sk_ ?_
    refine ibN ?_
    refine thN ?_
    refine rg0 ?_
    refine inc ?_ h fun a w h => ?_
    ·omega
    refine mv h fun a w h => ?_
    refine nlt ?_
    exact ⟨(k + 1), ⟨⟨by omega, fun j hj hjk => by rcases Nat.lt_succ_iff_lt_or_eq.1 hjk with h0 | rfl <;> first | exact hne | exact pre.2 j hj h0⟩, h.to 0 _⟩, by show _ - (k + 1) < _ - k; omega⟩
  ·have hk : k = ss.length := by simp at c9; omega
   have hfact : indexL ss s = -1 := indexL_no fun j hj => pre.2 j hj (by omega)
   refine exit_ ?_
   refine thE ?_
   refine thE ?_
   refine ibH ?_
   refine thN ?_
   refine sqr ?_
   refine as_ h fun a w h => ?_
   refine nlt ?_
   refine ret_ ?_
   refine fin1 4 0 h LE.rfl ?_
   exact ⟨by rw [hfact], rfl, rfl⟩
theorem Contains_ok (ss : List Bs) (s : Bs) (A : Option Addr) (c : Nat) (E : World) (H : GH) (L : List It) (hss : SS H A c ss) (hb : ss.length < 1000000000000) :
    Ok Tryz.prog 47 #[.slice A ss.length c, str s] E H L fun r H' L' => r = .bool (ss.contains s) ∧ H = H' ∧ L = L' := by
  refine enter (N := 9) [(0, _), (1, _)] Tryz.func47 rfl rfl rfl rfl fun a w h => ?_
  refine sqr ?_
  refine as_ h fun a w h => ?_
  refine nsr ?_
  refine mv h fun a w h => ?_
  refine mv h fun a w h => ?_
  refine cl bod43 (Index_ok ss s A c E H _ hss hb) h fun r7 H7 L7 a w le7 R h => ?_
  obtain ⟨rfl, rfl, rfl⟩ := R
  refine ge h fun a w h => ?_
  refine as_ h fun a w h => ?_
  refine nlt ?_
  refine ret_ ?_
  refine fin1 4 0 h LE.rfl ?_
  exact ⟨by rw [← indexL_ge], rfl, rfl⟩
theorem Keyword_ok (s : Bs) (E : World) (H : GH) (L : List It) (hL : Laid H) :
    Ok Tryz.prog 141 #[str s] E H L fun r H' L' => r = .bool (keywordB s) ∧ H = H' ∧ L = L' := by
  refine enter (N := 6) [(0, _)] Tryz.func141 rfl rfl rfl rfl fun a w h => ?_
  refine sqr ?_
  refine as_ h fun a w h => ?_
  refine nsr ?_
  refine sla arrK sz9 h fun a w h => ?_
  refine mv h fun a w h => ?_
  refine cl bod47 (Contains_ok keysL s _ 14 E H _ hL.keys (by decide)) h fun r5 H5 L5 a w le5 R h => ?_
  obtain ⟨rfl, rfl, rfl⟩ := R
  refine as_ h fun a w h => ?_
  refine nlt ?_
  refine ret_ ?_
  refine fin1 2 0 h LE.rfl ?_
  exact ⟨rfl, rfl, rfl⟩
end Go.Proofs.YtindlieilabgfaaGreatDoor
/- What the package-level tables hold when the call begins. -/
set_option linter.unusedVariables false
set_option linter.unusedSectionVars false
set_option linter.unusedSimpArgs false
set_option autoImplicit false
set_option relaxedAutoImplicit false
set_option maxRecDepth 100000
namespace Go.Proofs.YtindlieilabgfaaGreatDoor
open Go X
theorem lv_get {P : Program} {w : World} {n : String} {d : DataW Unit} : ∀ {l : List (String × DataW Unit)} {ps : List MemPlace}, DataW.LaidVars P w l ps → (n, d) ∈ l →
    ∃ g t cs fuel p, P.globalNamed n = some g ∧ (P.globals[g]?).map (·.type) = some t ∧ w.var? P n = some cs ∧ DataW.trod (fun _ => ()) P w 0 (fun _ => true) false fuel t cs.toList = some (d, p)
  | [], _, _, hm => by cases hm
  | (n', d') :: l, ps, h, hm => by
    obtain ⟨g, t, cs, fuel, p, q, h1, h2, h3, h4, h5, h6⟩ := h
    cases hm with
    | head => exact ⟨g, t, cs, fuel, p, h1, h2, h3, h4⟩
    | tail _ hm => exact lv_get h5 hm
theorem str_cells {P : Program} {w : World} {fuel t e n : Nat} {cs : List Value} {ss : List Bs} {p : List MemPlace} (ht : P.underlying t = some (.array n e)) (he : P.underlying e = some .string) (hc : P.cellsOf e = 1)
    (h : DataW.trod (fun _ => ()) P w 0 (fun _ => true) false fuel t cs = some (.agg (ss.map fun s => .lit (.string s)), p)) : ∀ (i : Nat) (s : Bs), ss[i]? = some s → cs[i]? = some (str s) := by
  obtain ⟨xs, m, rfl, hx, hl, hlen, hf⟩ := DataW.trod_array ht h
  intro i s hs
  have hmap : ss.map (fun s => DataW.lit (H := Unit) (.string s)) = xs.map (·.1) := by
    have := congrArg Prod.fst hx
    simpa using this
  have hxi : (xs.map (·.1))[i]? = some (.lit (.string s)) := by rw [← hmap]; simp [hs]
  rw [List.getElem?_map, Option.map_eq_some_iff] at hxi
  obtain ⟨y, hy, hys⟩ := hxi
  have hi : i < n := by have := (List.getElem?_eq_some_iff.1 hy).1; omega
  have hg := hf i hi
  rw [hy, hc] at hg
  obtain ⟨b, e0, hyb, _⟩ := DataW.trod_string he hg
  have := piece e0 rfl 0 (by omega)
  rw [Nat.add_zero, Nat.mul_one] at this
  rw [this]
  have hb : b.data.toList = s := by rw [hyb] at hys; simpa using hys
  rw [← hb, ← str_ba]; rfl
theorem ss_of {w : World} {g n : Nat} {cs : Array Value} {ss : List Bs} (hg : ∀ i : Nat, w.cell? ⟨g, i, none⟩ = cs[i]?) (h : ∀ (i : Nat) (s : Bs), ss[i]? = some s → cs.toList[i]? = some (str s)) (hn : n = ss.length) : SS (HW w) (some ⟨g, 0, none⟩) n ss := by
  subst hn
  refine ⟨_, _, rfl, Nat.le_refl _, fun j s hs => ⟨g, 0, [str s], rfl, rfl, rfl, fun i u hu => ?_⟩⟩
  cases i with
  | zero =>
    simp at hu; subst hu
    refine hc_of ?_
    rw [hg]
    have := h j s hs
    simpa using this
  | succ i => simp at hu
theorem laid_of {l : List (String × DataW Unit)} {ps : List MemPlace} {W : World} (h : DataW.LaidVars Tryz.prog W l ps) (h1 : ("internal/strconv.uint64pow10", Rows.laid_internal_strconv_uint64pow10) ∈ l) (h2 : ("chancel/lex.keys", Rows.laid_chancel_lex_keys) ∈ l)
    (h3 : ("chancel/term.kids", Rows.laid_chancel_term_kids) ∈ l) (h4 : ("chancel/term.ops", Rows.laid_chancel_term_ops) ∈ l) : Laid (HW W) := by
  refine ⟨?_, ?_, ?_, ?_⟩
  · obtain ⟨g, t, cs, fuel, p, hg, hty, hvar, htr⟩ := lv_get h h2
    obtain rfl : g = 3 := Option.some.inj (hg.symm.trans (show Tryz.prog.globalNamed "chancel/lex.keys" = some 3 by kernel_rfl))
    obtain rfl : t = 211 := Option.some.inj (hty.symm.trans (show (Tryz.prog.globals[3]?).map (·.type) = some 211 by kernel_rfl))
    exact ss_of (World.var?_cell hg hvar) (str_cells (ss := keysL) Tryz.underlying211 Tryz.underlying9 c1_9 htr) rfl
  · obtain ⟨g, t, cs, fuel, p, hg, hty, hvar, htr⟩ := lv_get h h4
    obtain rfl : g = 1 := Option.some.inj (hg.symm.trans (show Tryz.prog.globalNamed "chancel/term.ops" = some 1 by kernel_rfl))
    obtain rfl : t = 188 := Option.some.inj (hty.symm.trans (show (Tryz.prog.globals[1]?).map (·.type) = some 188 by kernel_rfl))
    exact ss_of (World.var?_cell hg hvar) (str_cells (ss := opsL) Tryz.underlying188 Tryz.underlying9 c1_9 htr) rfl
  · obtain ⟨g, t, cs, fuel, p, hg, hty, hvar, htr⟩ := lv_get h h3
    obtain rfl : g = 0 := Option.some.inj (hg.symm.trans (show Tryz.prog.globalNamed "chancel/term.kids" = some 0 by kernel_rfl))
    obtain rfl : t = 187 := Option.some.inj (hty.symm.trans (show (Tryz.prog.globals[0]?).map (·.type) = some 187 by kernel_rfl))
    have hcs := Lib.cells_of_tab (zs := kidsL) (k := .i64) Tryz.underlying187 Tryz.underlying3 c1_3 (by kernel_rfl) htr
    intro j k hk
    refine hc_of ?_
    rw [World.var?_cell hg hvar, ← Array.getElem?_toList, hcs]
    simp [hk]
  · obtain ⟨g, t, cs, fuel, p, hg, hty, hvar, htr⟩ := lv_get h h1
    obtain rfl : t = 192 := by
      have hg2 : g = 2 := Option.some.inj (hg.symm.trans (show Tryz.prog.globalNamed "internal/strconv.uint64pow10" = some 2 by kernel_rfl))
      subst hg2
      exact Option.some.inj (hty.symm.trans (show (Tryz.prog.globals[2]?).map (·.type) = some 192 by kernel_rfl))
    have hcs := Lib.cells_of_tab (zs := Lib.pow10Tab) (k := .u64) Tryz.underlying192 Tryz.underlying128 (by kernel_rfl) (by kernel_rfl) htr
    intro w hw
    unfold Lib.TabIs
    unfold World.var? at hvar ⊢
    rw [hg] at hvar ⊢
    simp only [Option.bind_some] at hvar ⊢
    split at hvar
    · rename_i c e z hc
      cases hvar
      have := hw.fro g _ hc
      rw [this]
      simp only
      rw [← hcs]
    · cases hvar
end Go.Proofs.YtindlieilabgfaaGreatDoor
/- What a walk gives, as the row says it: true, and the arguments read as before. -/
set_option linter.unusedVariables false
set_option linter.unusedSectionVars false
set_option linter.unusedSimpArgs false
set_option autoImplicit false
set_option relaxedAutoImplicit false
namespace Go.Proofs.YtindlieilabgfaaGreatDoor
open Go X Go.ChangeShapes Go.WideShapes Go.ChangeAt
theorem below_of {W W' : World} {H' : GH} {L' : List It} (hl : LE (HW W) H') (h : St W H' L' W') : RowKit.Below W.heap.size W W' where
  os := h.os
  tape := h.tape
  output := h.output
  size := by
    rcases Nat.eq_zero_or_pos W.heap.size with h0 | h0
    · omega
    · have := h.size_le (b := W.heap.size - 1) (o := W.heap[W.heap.size - 1]'(by omega)) (hl _ _ (by unfold HW; exact Array.getElem?_eq_getElem _))
      omega
  block := fun k hk => by
    have h1 : HW W k = some (W.heap[k]'hk) := Array.getElem?_eq_getElem _
    rw [h.fro k _ (hl _ _ h1)]; exact h1.symm
theorem kept_of {W W' : World} {may : MemPlace → Prop} (h : RowKit.Below W.heap.size W W') : W.keptBut W' may := by
  refine ⟨h.os, h.output, fun i hi => ?_⟩
  rw [h.block i hi]
  cases hx : W.heap[i]? with
  | none => rfl
  | some o => cases o <;> first | exact ⟨rfl, rfl, rfl, fun _ _ => rfl⟩ | exact .inr ⟨rfl, rfl⟩ | rfl
theorem post_true {H : Type} {enc : TypeId × Value → H} {P : Program} {f : Func} {s : ChangeSpec} {apart fresh handsOn again : Bool} {W W' : World} {args : Array Value} {ds gs : List (DataW H)} {before : List MemPlace}
    (hW : DataW.Whole enc P f.params.toList s.vars apart W args.toList ds gs before) (hv : s.vars = []) (hfn : (s.fn H (ds ++ gs)).results = [.lit (.bool true)]) (hfa : (s.fn H (ds ++ gs)).args = ds) (hfv : (s.fn H (ds ++ gs)).vars = [])
    (hb : RowKit.Below W.heap.size W W') (hlo : laidOutB P = true) (hrd : ∀ t ∈ f.params.toList, P.readableRec t = true ∧ t < P.types.size) (hrt : f.resultTypes = #[4]) (hu4 : P.underlying 4 = some .bool) : s.post enc P f apart fresh handsOn again W args (.bool true) W' := by
  have hW' := hW
  obtain ⟨p, q, hA, hV, rfl, hz, hn⟩ := hW
  have hq : q = [] := by
    rw [hv] at hV
    cases gs with
    | nil => exact hV
    | cons g gs => exact hV.elim
  subst hq
  have hlt : ∀ x ∈ p, x.block < W.heap.size := fun x hx => hW'.lt x (by simpa using hx)
  have hargs : ∀ sp : Nat → Bool, (∀ x ∈ p, sp x.block = true) → DataW.TrodAll enc P W' 0 sp true f.params.toList args.toList ds p := by
    intro sp hsp
    clear hW' hz hn hfa hfn hfv
    generalize f.params.toList = ts at hA hrd
    generalize args.toList = vs at hA
    induction ts generalizing vs ds p with
    | nil => cases vs <;> cases ds <;> first | exact hA | exact hA.elim
    | cons t ts ih =>
      cases vs with
      | nil => exact hA.elim
      | cons v vs =>
        cases ds with
        | nil => exact hA.elim
        | cons d ds =>
          obtain ⟨p1, p2, h1, h2, rfl⟩ := hA
          refine ⟨p1, p2, WideElems.Trod_stays hlo (hrd t (List.mem_cons_self ..)).1 (hrd t (List.mem_cons_self ..)).2 h1 (fun x hx => hb.same (hlt x (by simp [hx]))) (fun x hx => hsp x (by simp [hx])), ?_, rfl⟩
          exact ih p2 (fun x hx => hlt x (by simp [hx])) (fun x hx => hsp x (by simp [hx])) (fun t ht => hrd t (List.mem_cons_of_mem _ ht)) vs h2
  have hres : ∀ (b : Nat) (sp : Nat → Bool) (hd : Bool), DataW.TrodAll enc P W' b sp hd f.resultTypes.toList ((Value.bool true).resultList f.resultTypes.size) [.lit (.bool true)] [] := by
    intro b sp hd
    rw [hrt]
    exact ⟨[], [], ⟨1, by simp [DataW.trod, hu4, Value.cells]⟩, rfl, rfl⟩
  refine ⟨ds, gs, p ++ [], [], p, [], hW', ?_, ?_, ?_, World.keptBut_mono (fun x hx => ⟨hx, .inr (.inl (by simpa using hx))⟩) (kept_of (may := (· ∈ p ++ [])) hb), fun _ => ?_⟩
  · rw [hfn]; exact hres _ _ _
  · rw [hfa]; exact hargs _ (fun x hx => by simpa using hlt x hx)
  · rw [hv, hfv]; exact rfl
  · refine ⟨fun j t r h1 h2 => ?_, [.lit (.bool true)] ++ ds, [], [] ++ p, ⟨[] ++ p, [], trodAll_append (hargs _ (fun _ _ => rfl)) (hres _ _ _), by rw [hv]; exact rfl, by simp, fun b off hx => ?_, fun ha => by have := hn ha; simpa using this⟩, fun x hx _ => by simpa using hx⟩
    · rw [hrt] at h1 h2
      cases j with
      | zero =>
        simp at h1 h2
        subst h1
        have h3 : r = .bool true := by
          have : ((Value.bool true).resultList 1)[0]? = some r := h2
          simp [Value.resultList] at this; exact this.symm
        subst h3
        simp [Value.okWide, hu4, Cell.okWide, Cell.ok]
      | succ j => simp at h1
    · have hx' : MemPlace.cell b off ∈ p := by simpa using hx
      have h4 := hz b off (by simpa using hx')
      have h5 : b < W.heap.size := hlt _ hx'
      unfold World.frozen? at h4 ⊢
      simp only at h4 ⊢
      rw [hb.block b h5]; exact h4
end Go.Proofs.YtindlieilabgfaaGreatDoor
/- More words of the walk: elements' addresses by an equation; pieces of known cells; whole numbers and truths as elements. -/
set_option linter.unusedVariables false
set_option linter.unusedSectionVars false
set_option linter.unusedSimpArgs false
set_option autoImplicit false
set_option relaxedAutoImplicit false
namespace Go.Proofs.YtindlieilabgfaaGreatDoor.X
open Go
section
variable {P : Program} {ops : Array Oper} {Q : Exit → Act → World → Prop} {γ : Gd P ops Q} {rest : List Oper} {o : Oper} {E w : World} {H : GH} {N : Nat} {D : List Deferred} {F : List (Nat × Value)} {L : List It} {a : Act}
variable {t u : TypeId} {x y : Operand} {d : Nat} {g off : Nat}
/-- The address of an element; where the slice lies is told by an equation. -/
theorem iaE {e sz n c j : Nat} {i : Int} {kd : IntKind} {A : Option Addr} (hs : sliT P t = some e) (hz : szT P e sz = true) (hi : i = j) (hj : j < n) (hA : A = some ⟨g, off, none⟩) (h : S E H N D F L a w)
    (k : ∀ a w, S E H N D ((d, .pointer (some ⟨g, off + j * sz, none⟩)) :: F) L a w → γ.G rest a w)
    (ho : o.op = .indexAddr t x y := by rfl) (hx : ev F x = some (.slice A n c) := by rfl) (hy : ev F y = some (.int kd i) := by rfl)
    (hw : wn ops F o = some true := by rfl) (hd : o.dst = some d := by rfl) (hN : Nat.blt d N = true := by rfl) : γ.G (o :: rest) a w := by
  subst hA
  exact ia hs hz hi hj h k ho hx hy hw hd hN
end
def RInt (_H : GH) (cs : List Value) (n : Int) : Prop := cs = [.int .i64 n]
abbrev IS (H : GH) (A : Option Addr) (c : Nat) (ns : List Int) : Prop := RS RInt 1 H (.slice A ns.length c) ns
theorem IS.up {H H' : GH} {A : Option Addr} {c : Nat} {ns : List Int} (h : IS H A c ns) (hl : LE H H') : IS H' A c ns := RS.mono h hl fun _ _ _ h => h
theorem IS.get {H : GH} {A : Option Addr} {c : Nat} {ns : List Int} (h : IS H A c ns) {j : Nat} (hj : j < ns.length) : ∃ g off, A = some ⟨g, off, none⟩ ∧ Hc H g (off + j * 1) (.int .i64 ns[j]) := by
  obtain ⟨g, off, cs, hA, hl, hr, hc⟩ := RS.at_ h (List.getElem?_eq_getElem hj)
  unfold RInt at hr; subst hr
  exact ⟨g, off, hA, by simpa using hc 0 _ rfl⟩
def RU8 (_H : GH) (cs : List Value) (n : UInt8) : Prop := cs = [.int .u8 (n.toNat : Int)]
abbrev US (H : GH) (A : Option Addr) (c : Nat) (ns : List UInt8) : Prop := RS RU8 1 H (.slice A ns.length c) ns
theorem US.up {H H' : GH} {A : Option Addr} {c : Nat} {ns : List UInt8} (h : US H A c ns) (hl : LE H H') : US H' A c ns := RS.mono h hl fun _ _ _ h => h
theorem US.get {H : GH} {A : Option Addr} {c : Nat} {ns : List UInt8} (h : US H A c ns) {j : Nat} (hj : j < ns.length) : ∃ g off, A = some ⟨g, off, none⟩ ∧ Hc H g (off + j * 1) (.int .u8 (ns[j].toNat : Int)) := by
  obtain ⟨g, off, cs, hA, hl, hr, hc⟩ := RS.at_ h (List.getElem?_eq_getElem hj)
  unfold RU8 at hr; subst hr
  exact ⟨g, off, hA, by simpa using hc 0 _ rfl⟩
theorem rstr_row {H : GH} : ∀ ss : List (List UInt8), RowR RStr 1 H (ss.map fun s => .string ⟨s.toArray⟩) ss
  | [] => RowR.nil
  | s :: ss => by
    have := (RowR.one (R := RStr) (sz := 1) (H := H) (cs := [.string ⟨s.toArray⟩]) (y := s) rfl rfl).app (rstr_row ss)
    simpa using this
end Go.Proofs.YtindlieilabgfaaGreatDoor.X
/- Structs of texts, numbers and truths, compared. -/
set_option linter.unusedVariables false
set_option linter.unusedSectionVars false
set_option linter.unusedSimpArgs false
set_option autoImplicit false
set_option relaxedAutoImplicit false
namespace Go.Proofs.YtindlieilabgfaaGreatDoor.X
open Go
section
variable {P : Program}
variable {ops : Array Oper} {Q : Exit → Act → World → Prop} {γ : Gd P ops Q} {rest : List Oper} {o : Oper} {E w : World} {H : GH} {N : Nat} {D : List Deferred} {F : List (Nat × Value)} {L : List It} {a : Act}
variable {t u : TypeId} {x y : Operand} {d : Nat} {xs ys : Array Value} {ks : List Nat} {b : Bool}
end
end Go.Proofs.YtindlieilabgfaaGreatDoor.X
/- append, with what the new length comes to. -/
set_option linter.unusedVariables false
set_option linter.unusedSectionVars false
set_option linter.unusedSimpArgs false
set_option autoImplicit false
set_option relaxedAutoImplicit false
namespace Go.Proofs.YtindlieilabgfaaGreatDoor.X
open Go
section
variable {P : Program} {ops : Array Oper} {Q : Exit → Act → World → Prop} {γ : Gd P ops Q} {rest : List Oper} {o : Oper} {E w : World} {H : GH} {N : Nat} {D : List Deferred} {F : List (Nat × Value)} {L : List It} {a : Act}
variable {t u : TypeId} {x y : Operand} {d : Nat} {g off : Nat} {v : Value}
theorem apn (kr kb : Nat) {e sz by_ n m : Nat} {xs : List Value} {ty' : TypeId} {z : Nat × Nat} {L' : It → List It} (news : List Value) (n' : Nat) (hn' : n + m = n') (ht : rowT P t e sz by_ = true) (h : S E H N D F L a w)
    (hb : n' * by_ ≤ 140737488355328) (h63 : n' ≤ 4611686018427387904)
    (k : ∀ v' a w, v'.oneCell' = true → S E H N D ((d, v') :: F) (L' (.row v' e sz n' (xs ++ news))) a w → γ.G rest a w)
    (hL : ∀ i, L.set kr i = L' i := by intro _; rfl) (hkr : L[kr]? = some (.row v e sz n xs) := by rfl) (hkb : L[kb]? = some (.obj g (.cells news.toArray ty' z)) := by rfl)
    (hl : news.length = m * sz := by rfl) (h1 : news.all (·.oneCell') = true := by rfl)
    (ho : o.op = .call { callee := .builtin .append, args := #[x, y], argTypes := #[t, t] } := by rfl) (hx : ev F x = some v := by rfl) (hy : ev F y = some (.slice (some ⟨g, 0, none⟩) m m) := by rfl)
    (hw : wn ops F o = some true := by rfl) (hd : o.dst = some d := by rfl) (hN : Nat.blt d N = true := by rfl) (hE : γ.isE rest.length = true := by rfl) (hS : γ.isN rest.length = true → ∀ v' w, St E H (L' (.row v' e sz n' (xs ++ news))) w → γ.S w := by first | exact fun e => Bool.noConfusion (show false = true from e) | exact fun _ _ _ hw => hw.sees' LE.rfl (by simp) | exact fun _ _ _ hw => hw.sees' (by assumption) (by simp)) : γ.G (o :: rest) a w := by
  subst hn'
  exact apb kr kb news ht h hb h63 k hL hkr hkb hl h1 ho hx hy hw hd hN hE hS
theorem apsn {α : Type} {R : GH → List Value → α → Prop} (kr : Nat) {e sz by_ n : Nat} {xs : List Value} {ys : List α} {vy : Value} {L' : It → List It} (n' : Nat) (hn' : n + ys.length = n') (ht : rowT P t e sz by_ = true) (hs : RS R sz H vy ys) (hone : ∀ cs y, y ∈ ys → R H cs y → ∀ u ∈ cs, u.oneCell' = true)
    (h : S E H N D F L a w) (hb : n' * by_ ≤ 140737488355328) (h63 : n' ≤ 4611686018427387904)
    (k : ∀ v' news a w, v'.oneCell' = true → RowR R sz H news ys → S E H N D ((d, v') :: F) (L' (.row v' e sz n' (xs ++ news))) a w → γ.G rest a w)
    (hL : ∀ i, L.set kr i = L' i := by intro _; rfl) (hkr : L[kr]? = some (.row v e sz n xs) := by rfl)
    (ho : o.op = .call { callee := .builtin .append, args := #[x, y], argTypes := #[t, t] } := by rfl) (hx : ev F x = some v := by rfl) (hy : ev F y = some vy := by rfl)
    (hw : wn ops F o = some true := by rfl) (hd : o.dst = some d := by rfl) (hN : Nat.blt d N = true := by rfl)
    (hE : γ.isE rest.length = true := by rfl) (hS : γ.isN rest.length = true → ∀ v' news w, St E H (L' (.row v' e sz n' (xs ++ news))) w → γ.S w := by first | exact fun e => Bool.noConfusion (show false = true from e) | exact fun _ _ _ _ hw => hw.sees' LE.rfl (by simp) | exact fun _ _ _ _ hw => hw.sees' (by assumption) (by simp)) : γ.G (o :: rest) a w := by
  subst hn'
  exact aps kr ht hs hone h hb h63 k hL hkr ho hx hy hw hd hN hE hS
end
end Go.Proofs.YtindlieilabgfaaGreatDoor.X
/- More operations: remainders, products, conversions of whole numbers, min, a slice's front. -/
set_option linter.unusedVariables false
set_option linter.unusedSectionVars false
set_option linter.unusedSimpArgs false
set_option autoImplicit false
set_option relaxedAutoImplicit false
namespace Go.Proofs.YtindlieilabgfaaGreatDoor.X
open Go
def intT (P : Program) (t : TypeId) : Option IntKind := match P.underlying t with
  | some (.int k) => some k
  | _ => none
theorem und_int {P : Program} {t : TypeId} {k : IntKind} (h : intT P t = some k) : P.underlying t = some (.int k) := by
  unfold intT at h; split at h
  · cases h; assumption
  · cases h
section
variable {P : Program} {ops : Array Oper} {Q : Exit → Act → World → Prop} {γ : Gd P ops Q} {rest : List Oper} {o : Oper} {E w : World} {H : GH} {N : Nat} {D : List Deferred} {F : List (Nat × Value)} {L : List It} {a : Act}
variable {t u : TypeId} {x y : Operand} {d : Nat} {kd : IntKind}
/-- A remainder of two numbers that are not negative. -/
theorem rm (m n : Nat) (hn : 0 < n) (h : S E H N D F L a w) (k : ∀ a w, S E H N D ((d, .int kd ((m % n : Nat) : Int)) :: F) L a w → γ.G rest a w)
    (ho : o.op = .binOp .rem t x y u := by rfl) (hx : ev F x = some (.int kd (m : Int)) := by rfl) (hy : ev F y = some (.int kd (n : Int)) := by rfl)
    (hw : wn ops F o = some true := by rfl) (hd : o.dst = some d := by rfl) (hN : Nat.blt d N = true := by rfl) : γ.G (o :: rest) a w :=
  bo (run_int _ _ (fun w => by
    have h0 : ¬ ((n : Int) = 0) := by omega
    have h1 : (m : Int).tmod (n : Int) = ((m % n : Nat) : Int) := rfl
    simp only [binOp, Op.intDiv, if_neg h0, h1]; simp)) h k ho hx hy hw hd hN
theorem ml {m n : Int} (r : Int) (hr : kd.wrap (m * n) = r) (h : S E H N D F L a w) (k : ∀ a w, S E H N D ((d, .int kd r) :: F) L a w → γ.G rest a w)
    (ho : o.op = .binOp .mul t x y u := by rfl) (hx : ev F x = some (.int kd m) := by rfl) (hy : ev F y = some (.int kd n) := by rfl)
    (hw : wn ops F o = some true := by rfl) (hd : o.dst = some d := by rfl) (hN : Nat.blt d N = true := by rfl) : γ.G (o :: rest) a w :=
  bo (run_int _ _ (fun w => by subst hr; simp [binOp, Op.intArith])) h k ho hx hy hw hd hN
/-- A whole number of another kind. -/
theorem cv {k2 k3 : IntKind} {n : Int} (r : Int) (hr : k2.wrap n = r) (hs : intT P t = some k3) (ht : intT P u = some k2) (h : S E H N D F L a w) (k : ∀ a w, S E H N D ((d, .int k2 r) :: F) L a w → γ.G rest a w)
    (ho : o.op = .convert t u x := by rfl) (hx : ev F x = some (.int kd n) := by rfl)
    (hw : wn ops F o = some true := by rfl) (hd : o.dst = some d := by rfl) (hN : Nat.blt d N = true := by rfl) : γ.G (o :: rest) a w :=
  pv h (fun w => by
    subst hr
    simp [execOp, ho, h.ag.ev hx, convert, run_underlying (und_int hs), run_underlying (und_int ht), Conv.intToInt]) k hw hd hN
/-- min of two ints. -/
theorem mn {t2 : Array TypeId} {m n : Int} (r : Int) (hr : (if n < m then n else m) = r) (h : S E H N D F L a w) (k : ∀ a w, S E H N D ((d, .int .i64 r) :: F) L a w → γ.G rest a w)
    (ho : o.op = .call { callee := .builtin .min, args := #[x, y], argTypes := t2 } := by rfl) (hx : ev F x = some (.int .i64 m) := by rfl) (hy : ev F y = some (.int .i64 n) := by rfl)
    (hw : wn ops F o = some true := by rfl) (hd : o.dst = some d := by rfl) (hN : Nat.blt d N = true := by rfl) : γ.G (o :: rest) a w :=
  pv h (fun w => by
    subst hr
    simp [execOp, ho, resolve, invoke, builtin, h.ag.ev hx, h.ag.ev hy, Builtin.min_, Builtin.min2]) k hw hd hN
/-- A slice's front. -/
theorem slh {e sz n c hi : Nat} {A : Option Addr} (hs : sliT P t = some e) (hz : szT P e sz = true) (hh : hi ≤ c) (h : S E H N D F L a w)
    (k : ∀ a w, S E H N D ((d, .slice A hi c) :: F) L a w → γ.G rest a w)
    (ho : o.op = .slice t x none (some y) none := by rfl) (hx : ev F x = some (.slice A n c) := by rfl) (hy : ev F y = some (.int kd (hi : Int)) := by rfl)
    (hw : wn ops F o = some true := by rfl) (hd : o.dst = some d := by rfl) (hN : Nat.blt d N = true := by rfl) : γ.G (o :: rest) a w := by
  have e1 : (if c = 0 then A else A.map (·.add (0 * sz))) = A := by
    split
    · rfl
    · cases A <;> simp [Addr.add]
  refine sl (l := 0) (h' := hi) (m := c) hs hz (fun w => ?_) h (fun a w h => ?_) ho hx hw hd hN
  · simp [Instr.sliceBounds, h.ag.ev hy, asIntOf, Instr.sliceBound, hh]
  · rw [e1, Nat.sub_zero, Nat.sub_zero] at h; exact k a w h
theorem slhN {e sz n c : Nat} {A : Option Addr} (hi n' : Nat) (hn : hi = n') (hs : sliT P t = some e) (hz : szT P e sz = true) (hh : hi ≤ c) (h : S E H N D F L a w)
    (k : ∀ a w, S E H N D ((d, .slice A n' c) :: F) L a w → γ.G rest a w)
    (ho : o.op = .slice t x none (some y) none := by rfl) (hx : ev F x = some (.slice A n c) := by rfl) (hy : ev F y = some (.int kd (hi : Int)) := by rfl)
    (hw : wn ops F o = some true := by rfl) (hd : o.dst = some d := by rfl) (hN : Nat.blt d N = true := by rfl) : γ.G (o :: rest) a w := by
  subst hn
  exact slh hs hz hh h k ho hx hy hw hd hN
end
/-- A cut ahead of what stands behind. -/
theorem thc {P : Program} {Q : Exit → Act → World → Prop} {a : Act} {w : World} {c : Code} {K : Act → World → Prop} (I : Act → World → Prop) (h : c.wp P (Exit.then I Q) a w) (k : ∀ a w, I a w → K a w) : c.wp P (Exit.then K Q) a w :=
  Code.wp_mono (fun e a w h => by cases e <;> first | exact k a w h | exact h) h
theorem RS.capl {α : Type} {R : GH → List Value → α → Prop} {sz n c : Nat} {H : GH} {A : Option Addr} {xs : List α} (h : RS R sz H (.slice A n c) xs) : xs.length ≤ c := by
  obtain ⟨A', c', e, h1, h2⟩ := h
  cases e; exact h1
theorem RS.front {α : Type} {R : GH → List Value → α → Prop} {sz n c hi : Nat} {H : GH} {A : Option Addr} {xs : List α} (h : RS R sz H (.slice A n c) xs) (hh : hi ≤ xs.length) : RS R sz H (.slice A (xs.take hi).length c) (xs.take hi) := by
  obtain ⟨A', c', e, h1, h2⟩ := h
  cases e
  refine ⟨A, c, rfl, by rw [List.length_take]; omega, fun j x hx => h2 j x ?_⟩
  rw [List.getElem?_take] at hx
  split at hx
  · exact hx
  · cases hx
theorem rint_row {H : GH} : ∀ ns : List Int, RowR RInt 1 H (ns.map fun n => .int .i64 n) ns
  | [] => RowR.nil
  | n :: ns => by
    have := (RowR.one (R := RInt) (sz := 1) (H := H) (cs := [.int .i64 n]) (y := n) rfl rfl).app (rint_row ns)
    simpa using this
end Go.Proofs.YtindlieilabgfaaGreatDoor.X
/- More arguments, opened: bytes, numbers. -/
set_option linter.unusedVariables false
set_option linter.unusedSectionVars false
set_option linter.unusedSimpArgs false
set_option autoImplicit false
set_option relaxedAutoImplicit false
set_option maxRecDepth 100000
namespace Go.Proofs.YtindlieilabgfaaGreatDoor
open Go X
section
variable {P : Program} {w : World} {r : Reach} {base : Nat} {t : TypeId} {v : Value}
theorem cells_int {k : IntKind} (hu : P.underlying t = some (.int k)) (h : Value.okWide P w r base t v) : v.cells.toList = [v] := by
  unfold Value.okWide at h
  rw [hu] at h
  cases v <;> simp_all [Cell.okWide, Cell.ok, Value.cells]
theorem cells_slice {e : TypeId} (hu : P.underlying t = some (.slice e)) (h : Value.okWide P w r base t v) : v.cells.toList = [v] := by
  unfold Value.okWide at h
  rw [hu] at h
  cases v <;> simp_all [Cell.okWide, Cell.ok, Value.cells]
end
section
variable {H : Type} {enc : TypeId × Value → H} {P : Program} {w : World} {base : Nat} {spare : Nat → Bool} {held : Bool}
theorem lit_in {k : IntKind} {n : Int} (h : (Lit.int k n).wf = true) : k.min ≤ n ∧ n ≤ k.max := by
  simp only [Lit.wf, Bool.and_eq_true, decide_eq_true_eq] at h; exact h
theorem open_int {k : IntKind} {t fuel : TypeId} {v : Value} {x : DataW H × List MemPlace} (hu : P.underlying t = some (.int k)) (hv : v.cells.toList = [v]) (h : DataW.trod enc P w base spare held fuel t v.cells.toList = some x) : ∃ n, v = .int k n ∧ k.min ≤ n ∧ n ≤ k.max := by
  obtain ⟨n, e, _, hw⟩ := DataW.trod_int hu h
  rw [hv] at e
  exact ⟨n, by simpa using e, lit_in hw⟩
theorem open_u8s {t e fuel : Nat} {v : Value} {x : DataW H × List MemPlace} (ht : P.underlying t = some (.slice e)) (he : P.underlying e = some (.int .u8)) (hc : P.cellsOf e = 1) (hv : v.cells.toList = [v]) (h : DataW.trod enc P w base spare held fuel t v.cells.toList = some x) (hx : Rows.uptoBulk x.1 ≤ 1048576) :
    ∃ (A : Option Addr) (c : Nat) (l : List UInt8), v = .slice A l.length c ∧ US (HW w) A c l ∧ l.length < 1000000000000 := by
  obtain ⟨A, c, ys, e1, hs, hB⟩ := open_sl (R := RU8) (B := fun _ => 1) (sz := 1) ht hc (by omega) h (fun n cs' y _ hy => by
    obtain ⟨n, rfl, e2, hw⟩ := DataW.trod_int he hy
    have hr := lit_in hw
    simp [IntKind.min, IntKind.max, IntKind.signed, IntKind.bits] at hr
    refine ⟨UInt8.ofNat n.toNat, ?_, ?_⟩
    · unfold RU8
      have : (UInt8.ofNat n.toNat).toNat = n.toNat := by simp [UInt8.toNat_ofNat']; omega
      rw [this]; congr 2; omega
    · rw [e2]; simp [Rows.uptoBulk])
  rw [hv] at e1
  refine ⟨A, c, ys, by simpa using e1, hs, ?_⟩
  have : (ys.map fun _ => 1).sum = ys.length := by clear hs e1 hB; induction ys with
    | nil => rfl
    | cons y l ih => simp only [List.map_cons, List.sum_cons, List.length_cons, ih]; omega
  omega
end
end Go.Proofs.YtindlieilabgfaaGreatDoor
/- Closed facts: structs that may be compared. -/
set_option linter.unusedVariables false
set_option linter.unusedSimpArgs false
set_option linter.unusedSectionVars false
set_option autoImplicit false
set_option relaxedAutoImplicit false
set_option maxRecDepth 10000
namespace Go.Proofs.YtindlieilabgfaaGreatDoor
open Go X
theorem it3 : intT Tryz.prog 3 = some .i64 := by kernel_rfl
theorem it5 : intT Tryz.prog 5 = some .u8 := by kernel_rfl
theorem it56 : intT Tryz.prog 56 = some .u16 := by kernel_rfl
end Go.Proofs.YtindlieilabgfaaGreatDoor
/- Walks: what a node may be. -/
set_option linter.unusedVariables false
set_option linter.unusedSimpArgs false
set_option linter.unusedSectionVars false
set_option autoImplicit false
set_option relaxedAutoImplicit false
set_option maxRecDepth 10000
namespace Go.Proofs.YtindlieilabgfaaGreatDoor
open Go X
theorem kids_at {j : Nat} (h : j < 14) : kidsL[j]? = some (kidsL.getD j (-1)) := by
  have : j < kidsL.length := h
  simp [List.getD, List.getElem?_eq_getElem this]
theorem node_ok (t : Tm) (v : Value) (E : World) (H : GH) (L : List It) (hv : VT H v t) (hL : Laid H) (hb : t.name.length < 1000000000000) : Ok Tryz.prog 115 #[v] E H L fun r H' L' => r = .bool t.node ∧ H = H' ∧ L = L' := by
  obtain ⟨A, c, rfl, hks⟩ := hv
  refine enter (N := 69) [(0, _)] Tryz.func115 rfl rfl rfl rfl fun a w h => ?_
  refine sqr ?_
  refine bxA h fun g1 a w h => ?_
  refine as_ h fun a w h => ?_
  refine nlt ?_
  refine sq ?_
  refine sq ?_
  refine rgd [0] [_] [] [1, 5, 10, 13, 15, 20, 25, 30, 34] 0 mix (by kernel_rfl) h (fun a w h => ?_)
  refine fa fl24_0 (r := 0) h fun a w h => ?_
  refine ldD 0 t1_3 h fun a w h => ?_
  refine lt h fun a w h => ?_
  refine h.spl (fun c5 h => ?_) (fun c5 h => ?_)
  ·refine mv h fun a w h => ?_
   refine sk h (k := fun a w h => ?_)
   refine sk h (k := fun a w h => ?_)
   refine sk h (k := fun a w h => ?_)
   refine pkT h fun a w h => ?_
   refine mv h fun a w h => ?_
   refine sk h (k := fun a w h => ?_)
   refine sk h (k := fun a w h => ?_)
   refine sk h (k := fun a w h => ?_)
   refine sk h (k := fun a w h => ?_)
   refine sk h (k := fun a w h => ?_)
   refine sk h (k := fun a w h => ?_)
   refine sk h (k := fun a w h => ?_)
   refine sk h (k := fun a w h => ?_)
   refine pkT h fun a w h => ?_
   refine mv h fun a w h => ?_
   refine sk h (k := fun a w h => ?_)
   refine sk h (k := fun a w h => ?_)
   refine sk h (k := fun a w h => ?_)
   refine pkT h fun a w h => ?_
   refine mv h fun a w h => ?_
   refine sk h (k := fun a w h => ?_)
   refine sk h (k := fun a w h => ?_)
   refine sk h (k := fun a w h => ?_)
   refine pkT h fun a w h => ?_
   refine mv h fun a w h => ?_
   refine sk h (k := fun a w h => ?_)
   refine sk h (k := fun a w h => ?_)
   refine sk h (k := fun a w h => ?_)
   refine sk h (k := fun a w h => ?_)
   refine sk h (k := fun a w h => ?_)
   refine sk h (k := fun a w h => ?_)
   refine sk h (k := fun a w h => ?_)
   refine sk h (k := fun a w h => ?_)
   refine pkT h fun a w h => ?_
   refine nlt ?_
   refine cdT h ?_
   refine sqr ?_
   refine as_ h fun a w h => ?_
   refine nlt ?_
   refine ret_ ?_
   refine thR ?_
   refine fin1 2 1 h LE.rfl ?_
   exact ⟨by first | (simp only [Tm.node, nodeB, c5]; done) | (simp only [Tm.node, nodeB, c5]; rfl), rfl, rfl⟩
  ·refine mv h fun a w h => ?_
   refine fa fl24_0 (r := 0) h fun a w h => ?_
   refine ldD 0 t1_3 h fun a w h => ?_
   refine ge h fun a w h => ?_
   refine pkF h fun a w h => ?_
   refine h.spl (fun c10 h => ?_) (fun c10 h => ?_)
   ·refine mv h fun a w h => ?_
    refine sk h (k := fun a w h => ?_)
    refine sk h (k := fun a w h => ?_)
    refine sk h (k := fun a w h => ?_)
    refine sk h (k := fun a w h => ?_)
    refine sk h (k := fun a w h => ?_)
    refine sk h (k := fun a w h => ?_)
    refine sk h (k := fun a w h => ?_)
    refine sk h (k := fun a w h => ?_)
    refine pkT h fun a w h => ?_
    refine mv h fun a w h => ?_
    refine sk h (k := fun a w h => ?_)
    refine sk h (k := fun a w h => ?_)
    refine sk h (k := fun a w h => ?_)
    refine pkT h fun a w h => ?_
    refine mv h fun a w h => ?_
    refine sk h (k := fun a w h => ?_)
    refine sk h (k := fun a w h => ?_)
    refine sk h (k := fun a w h => ?_)
    refine pkT h fun a w h => ?_
    refine mv h fun a w h => ?_
    refine sk h (k := fun a w h => ?_)
    refine sk h (k := fun a w h => ?_)
    refine sk h (k := fun a w h => ?_)
    refine sk h (k := fun a w h => ?_)
    refine sk h (k := fun a w h => ?_)
    refine sk h (k := fun a w h => ?_)
    refine sk h (k := fun a w h => ?_)
    refine sk h (k := fun a w h => ?_)
    refine pkT h fun a w h => ?_
    refine nlt ?_
    refine cdT h ?_
    refine sqr ?_
    refine as_ h fun a w h => ?_
    refine nlt ?_
    refine ret_ ?_
    refine thR ?_
    refine fin1 2 1 h LE.rfl ?_
    exact ⟨by first | (simp only [Tm.node, nodeB, c5, c10]; done) | (simp only [Tm.node, nodeB, c5, c10]; rfl), rfl, rfl⟩
   ·have hk0 : 1 ≤ t.kind := by have := of_decide_eq_false c5; omega
    have hk1 : t.kind < 14 := by have := of_decide_eq_false c10; omega
    have hkt : t.kind = (t.kind.toNat : Int) := by omega
    have hkl : t.kind.toNat < 14 := by omega
    have hkc : Hc H 0 (0 + t.kind.toNat * 1) (.int .i64 (kidsL.getD t.kind.toNat (-1))) := by rw [Nat.zero_add, Nat.mul_one]; exact hL.kids _ _ (kids_at hkl)
    refine mv h fun a w h => ?_
    refine fa fl24_3 (r := 3) h fun a w h => ?_
    refine ldD 0 t1_22 h fun a w h => ?_
    refine ln sli22 h fun a w h => ?_
    refine fa fl24_0 (r := 0) h fun a w h => ?_
    refine ldD 0 t1_3 h fun a w h => ?_
    refine iaA arrN sz3 hkt hkl h fun a w h => ?_
    refine ldHD t1_3 hkc h fun a w h => ?_
    refine nei h fun a w h => ?_
    refine pkF h fun a w h => ?_
    refine h.spl (fun c20 h => ?_) (fun c20 h => ?_)
    ·refine mv h fun a w h => ?_
     refine sk h (k := fun a w h => ?_)
     refine sk h (k := fun a w h => ?_)
     refine sk h (k := fun a w h => ?_)
     refine pkT h fun a w h => ?_
     refine mv h fun a w h => ?_
     refine sk h (k := fun a w h => ?_)
     refine sk h (k := fun a w h => ?_)
     refine sk h (k := fun a w h => ?_)
     refine pkT h fun a w h => ?_
     refine mv h fun a w h => ?_
     refine sk h (k := fun a w h => ?_)
     refine sk h (k := fun a w h => ?_)
     refine sk h (k := fun a w h => ?_)
     refine sk h (k := fun a w h => ?_)
     refine sk h (k := fun a w h => ?_)
     refine sk h (k := fun a w h => ?_)
     refine sk h (k := fun a w h => ?_)
     refine sk h (k := fun a w h => ?_)
     refine pkT h fun a w h => ?_
     refine nlt ?_
     refine cdT h ?_
     refine sqr ?_
     refine as_ h fun a w h => ?_
     refine nlt ?_
     refine ret_ ?_
     refine thR ?_
     refine fin1 2 1 h LE.rfl ?_
     exact ⟨by first | (simp only [Tm.node, nodeB, c5, c10, c20]; done) | (simp only [Tm.node, nodeB, c5, c10, c20]; rfl), rfl, rfl⟩
    ·refine mv h fun a w h => ?_
     refine fa fl24_2 (r := 2) h fun a w h => ?_
     refine ldD 0 t1_2 h fun a w h => ?_
     refine lt h fun a w h => ?_
     refine pkF h fun a w h => ?_
     refine h.spl (fun c25 h => ?_) (fun c25 h => ?_)
     ·refine mv h fun a w h => ?_
      refine sk h (k := fun a w h => ?_)
      refine sk h (k := fun a w h => ?_)
      refine sk h (k := fun a w h => ?_)
      refine pkT h fun a w h => ?_
      refine mv h fun a w h => ?_
      refine sk h (k := fun a w h => ?_)
      refine sk h (k := fun a w h => ?_)
      refine sk h (k := fun a w h => ?_)
      refine sk h (k := fun a w h => ?_)
      refine sk h (k := fun a w h => ?_)
      refine sk h (k := fun a w h => ?_)
      refine sk h (k := fun a w h => ?_)
      refine sk h (k := fun a w h => ?_)
      refine pkT h fun a w h => ?_
      refine nlt ?_
      refine cdT h ?_
      refine sqr ?_
      refine as_ h fun a w h => ?_
      refine nlt ?_
      refine ret_ ?_
      refine thR ?_
      refine fin1 2 1 h LE.rfl ?_
      exact ⟨by first | (simp only [Tm.node, nodeB, c5, c10, c20, c25]; done) | (simp only [Tm.node, nodeB, c5, c10, c20, c25]; rfl), rfl, rfl⟩
     ·refine mv h fun a w h => ?_
      refine fa fl24_2 (r := 2) h fun a w h => ?_
      refine ldD 0 t1_2 h fun a w h => ?_
      refine ge h fun a w h => ?_
      refine pkF h fun a w h => ?_
      refine h.spl (fun c30 h => ?_) (fun c30 h => ?_)
      ·refine mv h fun a w h => ?_
       refine sk h (k := fun a w h => ?_)
       refine sk h (k := fun a w h => ?_)
       refine sk h (k := fun a w h => ?_)
       refine sk h (k := fun a w h => ?_)
       refine sk h (k := fun a w h => ?_)
       refine sk h (k := fun a w h => ?_)
       refine sk h (k := fun a w h => ?_)
       refine sk h (k := fun a w h => ?_)
       refine pkT h fun a w h => ?_
       refine nlt ?_
       refine cdT h ?_
       refine sqr ?_
       refine as_ h fun a w h => ?_
       refine nlt ?_
       refine ret_ ?_
       refine thR ?_
       refine fin1 2 1 h LE.rfl ?_
       exact ⟨by first | (simp only [Tm.node, nodeB, c5, c10, c20, c25, c30]; done) | (simp only [Tm.node, nodeB, c5, c10, c20, c25, c30]; rfl), rfl, rfl⟩
      ·refine mv h fun a w h => ?_
       refine fa fl24_0 (r := 0) h fun a w h => ?_
       refine ldD 0 t1_3 h fun a w h => ?_
       refine nei h fun a w h => ?_
       refine h.spl (fun c34 h => ?_) (fun c34 h => ?_)
       ·refine mv h fun a w h => ?_
        refine fa fl24_2 (r := 2) h fun a w h => ?_
        refine ldD 0 t1_2 h fun a w h => ?_
        refine nei h fun a w h => ?_
        refine pkT h fun a w h => ?_
        refine pkF h fun a w h => ?_
        refine nlt ?_
        refine cdB h (fun c40 => ?_) (fun c40 => ?_)
        ·refine sqr ?_
         refine as_ h fun a w h => ?_
         refine nlt ?_
         refine ret_ ?_
         refine thR ?_
         refine fin1 2 1 h LE.rfl ?_
         exact ⟨by first | (simp only [Tm.node, nodeB, c5, c10, c20, c25, c30, c34, c40]; done) | (simp only [Tm.node, nodeB, c5, c10, c20, c25, c30, c34, c40]; rfl), rfl, rfl⟩
        ·refine skt ?_
         refine sq ?_
         refine blk ?_
         refine sqr ?_
         refine ldW 0 tN24 h fun a w h => ?_
         refine cl bod38 (Binder_ok _ _ _ _ _ _ _) h fun r43 H43 L43 a w le43 R h => ?_
         obtain ⟨rfl, rfl, rfl⟩ := R
         refine h.spl (fun c43 h => ?_) (fun c43 h => ?_)
         ·refine mv h fun a w h => ?_
          refine sk h (k := fun a w h => ?_)
          refine sk h (k := fun a w h => ?_)
          refine sk h (k := fun a w h => ?_)
          refine pkT h fun a w h => ?_
          refine as_ h fun a w h => ?_
          refine nlt ?_
          refine cdT h ?_
          refine sqr ?_
          refine fa fl24_1 (r := 1) h fun a w h => ?_
          refine ld 0 t1_9 h fun a w h => ?_
          refine cl bod140 (Name_ok _ E H _ (by omega)) h fun r51 H51 L51 a w le51 R h => ?_
          obtain ⟨rfl, rfl, rfl⟩ := R
          refine h.spl (fun c51 h => ?_) (fun c51 h => ?_)
          ·refine mv h fun a w h => ?_
           refine fa fl24_1 (r := 1) h fun a w h => ?_
           refine ld 0 t1_9 h fun a w h => ?_
           refine cl bod141 (Keyword_ok _ E H _ hL) h fun r55 H55 L55 a w le55 R h => ?_
           obtain ⟨rfl, rfl, rfl⟩ := R
           refine nt h fun a w h => ?_
           refine pkT h fun a w h => ?_
           refine as_ h fun a w h => ?_
           refine nlt ?_
           refine ret_ ?_
           refine ibR ?_
           refine thR ?_
           refine fin1 2 1 h LE.rfl ?_
           exact ⟨by first | (simp only [Tm.node, nodeB, c5, c10, c20, c25, c30, c34, c40, c43, c51]; done) | (simp only [Tm.node, nodeB, c5, c10, c20, c25, c30, c34, c40, c43, c51]; rfl), rfl, rfl⟩
          ·refine mv h fun a w h => ?_
           refine sk h (k := fun a w h => ?_)
           refine sk h (k := fun a w h => ?_)
           refine sk h (k := fun a w h => ?_)
           refine sk h (k := fun a w h => ?_)
           refine pkF h fun a w h => ?_
           refine as_ h fun a w h => ?_
           refine nlt ?_
           refine ret_ ?_
           refine ibR ?_
           refine thR ?_
           refine fin1 2 1 h LE.rfl ?_
           exact ⟨by first | (simp only [Tm.node, nodeB, c5, c10, c20, c25, c30, c34, c40, c43, c51]; done) | (simp only [Tm.node, nodeB, c5, c10, c20, c25, c30, c34, c40, c43, c51]; rfl), rfl, rfl⟩
         ·refine mv h fun a w h => ?_
          refine fa fl24_0 (r := 0) h fun a w h => ?_
          refine ld 0 t1_3 h fun a w h => ?_
          refine eqi h fun a w h => ?_
          refine pkF h fun a w h => ?_
          refine as_ h fun a w h => ?_
          refine nlt ?_
          refine cdB h (fun c41 => ?_) (fun c41 => ?_)
          ·refine sqr ?_
           refine fa fl24_1 (r := 1) h fun a w h => ?_
           refine ld 0 t1_9 h fun a w h => ?_
           refine cl bod140 (Name_ok _ E H _ (by omega)) h fun r51 H51 L51 a w le51 R h => ?_
           obtain ⟨rfl, rfl, rfl⟩ := R
           refine h.spl (fun c51 h => ?_) (fun c51 h => ?_)
           ·refine mv h fun a w h => ?_
            refine fa fl24_1 (r := 1) h fun a w h => ?_
            refine ld 0 t1_9 h fun a w h => ?_
            refine cl bod141 (Keyword_ok _ E H _ hL) h fun r55 H55 L55 a w le55 R h => ?_
            obtain ⟨rfl, rfl, rfl⟩ := R
            refine nt h fun a w h => ?_
            refine pkT h fun a w h => ?_
            refine as_ h fun a w h => ?_
            refine nlt ?_
            refine ret_ ?_
            refine ibR ?_
            refine thR ?_
            refine fin1 2 1 h LE.rfl ?_
            exact ⟨by first | (simp only [Tm.node, nodeB, c5, c10, c20, c25, c30, c34, c40, c43, c41, c51]; done) | (simp only [Tm.node, nodeB, c5, c10, c20, c25, c30, c34, c40, c43, c41, c51]; rfl), rfl, rfl⟩
           ·refine mv h fun a w h => ?_
            refine sk h (k := fun a w h => ?_)
            refine sk h (k := fun a w h => ?_)
            refine sk h (k := fun a w h => ?_)
            refine sk h (k := fun a w h => ?_)
            refine pkF h fun a w h => ?_
            refine as_ h fun a w h => ?_
            refine nlt ?_
            refine ret_ ?_
            refine ibR ?_
            refine thR ?_
            refine fin1 2 1 h LE.rfl ?_
            exact ⟨by first | (simp only [Tm.node, nodeB, c5, c10, c20, c25, c30, c34, c40, c43, c41, c51]; done) | (simp only [Tm.node, nodeB, c5, c10, c20, c25, c30, c34, c40, c43, c41, c51]; rfl), rfl, rfl⟩
          ·refine sqr ?_
           refine fa fl24_0 (r := 0) h fun a w h => ?_
           refine ld 0 t1_3 h fun a w h => ?_
           refine eqi h fun a w h => ?_
           refine as_ h fun a w h => ?_
           refine nlt ?_
           refine cdB h (fun c58 => ?_) (fun c58 => ?_)
           ·refine sq ?_
            refine rgd [0] [_] [1] [2] 3 mix (by kernel_rfl) h (fun a w h => ?_)
            refine sla arrO sz9 h fun a w h => ?_
            refine fa fl24_1 (r := 1) h fun a w h => ?_
            refine ldD 0 t1_9 h fun a w h => ?_
            refine cl bod47 (Contains_ok opsL _ _ 5 E H _ hL.ops (by decide)) h fun r65 H65 L65 a w le65 R h => ?_
            obtain ⟨rfl, rfl, rfl⟩ := R
            refine as_ h fun a w h => ?_
            refine nlt ?_
            refine ret_ ?_
            refine ibR ?_
            refine thR ?_
            refine fin1 2 1 h LE.rfl ?_
            exact ⟨by first | (simp only [Tm.node, nodeB, c5, c10, c20, c25, c30, c34, c40, c43, c41, c58]; done) | (simp only [Tm.node, nodeB, c5, c10, c20, c25, c30, c34, c40, c43, c41, c58]; rfl), rfl, rfl⟩
           ·refine sk_ ?_
            refine ibN ?_
            refine thN ?_
            refine sqr ?_
            refine fa fl24_1 (r := 1) h fun a w h => ?_
            refine ld 0 t1_9 h fun a w h => ?_
            refine eqb h fun a w h => ?_
            refine as_ h fun a w h => ?_
            refine nlt ?_
            refine ret_ ?_
            refine fin1 2 1 h LE.rfl ?_
            exact ⟨by first | (simp only [Tm.node, nodeB, c5, c10, c20, c25, c30, c34, c40, c43, c41, c58]; done) | (simp only [Tm.node, nodeB, c5, c10, c20, c25, c30, c34, c40, c43, c41, c58]; rfl), rfl, rfl⟩
       ·refine mv h fun a w h => ?_
        refine sk h (k := fun a w h => ?_)
        refine sk h (k := fun a w h => ?_)
        refine sk h (k := fun a w h => ?_)
        refine pkF h fun a w h => ?_
        refine pkF h fun a w h => ?_
        refine nlt ?_
        refine cdF h ?_
        refine skt ?_
        refine sq ?_
        refine blk ?_
        refine sqr ?_
        refine ldW 0 tN24 h fun a w h => ?_
        refine cl bod38 (Binder_ok _ _ _ _ _ _ _) h fun r43 H43 L43 a w le43 R h => ?_
        obtain ⟨rfl, rfl, rfl⟩ := R
        refine h.spl (fun c43 h => ?_) (fun c43 h => ?_)
        ·refine mv h fun a w h => ?_
         refine sk h (k := fun a w h => ?_)
         refine sk h (k := fun a w h => ?_)
         refine sk h (k := fun a w h => ?_)
         refine pkT h fun a w h => ?_
         refine as_ h fun a w h => ?_
         refine nlt ?_
         refine cdT h ?_
         refine sqr ?_
         refine fa fl24_1 (r := 1) h fun a w h => ?_
         refine ld 0 t1_9 h fun a w h => ?_
         refine cl bod140 (Name_ok _ E H _ (by omega)) h fun r51 H51 L51 a w le51 R h => ?_
         obtain ⟨rfl, rfl, rfl⟩ := R
         refine h.spl (fun c51 h => ?_) (fun c51 h => ?_)
         ·refine mv h fun a w h => ?_
          refine fa fl24_1 (r := 1) h fun a w h => ?_
          refine ld 0 t1_9 h fun a w h => ?_
          refine cl bod141 (Keyword_ok _ E H _ hL) h fun r55 H55 L55 a w le55 R h => ?_
          obtain ⟨rfl, rfl, rfl⟩ := R
          refine nt h fun a w h => ?_
          refine pkT h fun a w h => ?_
          refine as_ h fun a w h => ?_
          refine nlt ?_
          refine ret_ ?_
          refine ibR ?_
          refine thR ?_
          refine fin1 2 1 h LE.rfl ?_
          exact ⟨by first | (simp only [Tm.node, nodeB, c5, c10, c20, c25, c30, c34, c43, c51]; done) | (simp only [Tm.node, nodeB, c5, c10, c20, c25, c30, c34, c43, c51]; rfl), rfl, rfl⟩
         ·refine mv h fun a w h => ?_
          refine sk h (k := fun a w h => ?_)
          refine sk h (k := fun a w h => ?_)
          refine sk h (k := fun a w h => ?_)
          refine sk h (k := fun a w h => ?_)
          refine pkF h fun a w h => ?_
          refine as_ h fun a w h => ?_
          refine nlt ?_
          refine ret_ ?_
          refine ibR ?_
          refine thR ?_
          refine fin1 2 1 h LE.rfl ?_
          exact ⟨by first | (simp only [Tm.node, nodeB, c5, c10, c20, c25, c30, c34, c43, c51]; done) | (simp only [Tm.node, nodeB, c5, c10, c20, c25, c30, c34, c43, c51]; rfl), rfl, rfl⟩
        ·refine mv h fun a w h => ?_
         refine fa fl24_0 (r := 0) h fun a w h => ?_
         refine ld 0 t1_3 h fun a w h => ?_
         refine eqi h fun a w h => ?_
         refine pkF h fun a w h => ?_
         refine as_ h fun a w h => ?_
         refine nlt ?_
         refine cdB h (fun c41 => ?_) (fun c41 => ?_)
         ·refine sqr ?_
          refine fa fl24_1 (r := 1) h fun a w h => ?_
          refine ld 0 t1_9 h fun a w h => ?_
          refine cl bod140 (Name_ok _ E H _ (by omega)) h fun r51 H51 L51 a w le51 R h => ?_
          obtain ⟨rfl, rfl, rfl⟩ := R
          refine h.spl (fun c51 h => ?_) (fun c51 h => ?_)
          ·refine mv h fun a w h => ?_
           refine fa fl24_1 (r := 1) h fun a w h => ?_
           refine ld 0 t1_9 h fun a w h => ?_
           refine cl bod141 (Keyword_ok _ E H _ hL) h fun r55 H55 L55 a w le55 R h => ?_
           obtain ⟨rfl, rfl, rfl⟩ := R
           refine nt h fun a w h => ?_
           refine pkT h fun a w h => ?_
           refine as_ h fun a w h => ?_
           refine nlt ?_
           refine ret_ ?_
           refine ibR ?_
           refine thR ?_
           refine fin1 2 1 h LE.rfl ?_
           exact ⟨by first | (simp only [Tm.node, nodeB, c5, c10, c20, c25, c30, c34, c43, c41, c51]; done) | (simp only [Tm.node, nodeB, c5, c10, c20, c25, c30, c34, c43, c41, c51]; rfl), rfl, rfl⟩
          ·refine mv h fun a w h => ?_
           refine sk h (k := fun a w h => ?_)
           refine sk h (k := fun a w h => ?_)
           refine sk h (k := fun a w h => ?_)
           refine sk h (k := fun a w h => ?_)
           refine pkF h fun a w h => ?_
           refine as_ h fun a w h => ?_
           refine nlt ?_
           refine ret_ ?_
           refine ibR ?_
           refine thR ?_
           refine fin1 2 1 h LE.rfl ?_
           exact ⟨by first | (simp only [Tm.node, nodeB, c5, c10, c20, c25, c30, c34, c43, c41, c51]; done) | (simp only [Tm.node, nodeB, c5, c10, c20, c25, c30, c34, c43, c41, c51]; rfl), rfl, rfl⟩
         ·refine sqr ?_
          refine fa fl24_0 (r := 0) h fun a w h => ?_
          refine ld 0 t1_3 h fun a w h => ?_
          refine eqi h fun a w h => ?_
          refine as_ h fun a w h => ?_
          refine nlt ?_
          refine cdB h (fun c58 => ?_) (fun c58 => ?_)
          ·refine sq ?_
           refine rgd [0] [_] [1] [2] 3 mix (by kernel_rfl) h (fun a w h => ?_)
           refine sla arrO sz9 h fun a w h => ?_
           refine fa fl24_1 (r := 1) h fun a w h => ?_
           refine ldD 0 t1_9 h fun a w h => ?_
           refine cl bod47 (Contains_ok opsL _ _ 5 E H _ hL.ops (by decide)) h fun r65 H65 L65 a w le65 R h => ?_
           obtain ⟨rfl, rfl, rfl⟩ := R
           refine as_ h fun a w h => ?_
           refine nlt ?_
           refine ret_ ?_
           refine ibR ?_
           refine thR ?_
           refine fin1 2 1 h LE.rfl ?_
           exact ⟨by first | (simp only [Tm.node, nodeB, c5, c10, c20, c25, c30, c34, c43, c41, c58]; done) | (simp only [Tm.node, nodeB, c5, c10, c20, c25, c30, c34, c43, c41, c58]; rfl), rfl, rfl⟩
          ·refine sk_ ?_
           refine ibN ?_
           refine thN ?_
           refine sqr ?_
           refine fa fl24_1 (r := 1) h fun a w h => ?_
           refine ld 0 t1_9 h fun a w h => ?_
           refine eqb h fun a w h => ?_
           refine as_ h fun a w h => ?_
           refine nlt ?_
           refine ret_ ?_
           refine fin1 2 1 h LE.rfl ?_
           exact ⟨by first | (simp only [Tm.node, nodeB, c5, c10, c20, c25, c30, c34, c43, c41, c58]; done) | (simp only [Tm.node, nodeB, c5, c10, c20, c25, c30, c34, c43, c41, c58]; rfl), rfl, rfl⟩
end Go.Proofs.YtindlieilabgfaaGreatDoor
/- Walks: words, lists asked by a function, what is wrong with a term. -/
set_option linter.unusedVariables false
set_option linter.unusedSimpArgs false
set_option linter.unusedSectionVars false
set_option autoImplicit false
set_option relaxedAutoImplicit false
set_option maxRecDepth 10000
namespace Go.Proofs.YtindlieilabgfaaGreatDoor
open Go X
theorem word_ok (s : Bs) (E : World) (H : GH) (L : List It) (hL : Laid H) (hb : s.length < 1000000000000) : Ok Tryz.prog 112 #[str s] E H L fun r H' L' => r = .bool (wordB s) ∧ H = H' ∧ L = L' := by
  refine enter (N := 10) [(0, _)] Tryz.func112 rfl rfl rfl rfl fun a w h => ?_
  refine sqr ?_
  refine as_ h fun a w h => ?_
  refine nsr ?_
  refine mv h fun a w h => ?_
  refine cl bod140 (Name_ok s E H _ (by omega)) h fun r4 H4 L4 a w le4 R h => ?_
  obtain ⟨rfl, rfl, rfl⟩ := R
  refine h.spl (fun c4 h => ?_) (fun c4 h => ?_)
  ·refine mv h fun a w h => ?_
   refine mv h fun a w h => ?_
   refine cl bod141 (Keyword_ok s E H _ hL) h fun r7 H7 L7 a w le7 R h => ?_
   obtain ⟨rfl, rfl, rfl⟩ := R
   refine nt h fun a w h => ?_
   refine pkT h fun a w h => ?_
   refine as_ h fun a w h => ?_
   refine nlt ?_
   refine ret_ ?_
   refine fin1 2 0 h LE.rfl ?_
   exact ⟨by first | (simp only [wordB, c4]; done) | (simp only [wordB, c4]; rfl), rfl, rfl⟩
  ·refine mv h fun a w h => ?_
   refine sk h (k := fun a w h => ?_)
   refine sk h (k := fun a w h => ?_)
   refine sk h (k := fun a w h => ?_)
   refine pkF h fun a w h => ?_
   refine as_ h fun a w h => ?_
   refine nlt ?_
   refine ret_ ?_
   refine fin1 2 0 h LE.rfl ?_
   exact ⟨by first | (simp only [wordB, c4]; done) | (simp only [wordB, c4]; rfl), rfl, rfl⟩
theorem IndexFunc_Tm_ok (xs : List Tm) (A : Option Addr) (c : Nat) (q : Tm → Bool) (f : FuncId) (caps : Array Value) (E : World) (H : GH) (L : List It) (hxs : KS H A c xs) (hb : xs.length < 1000000000000) (hf : bodT Tryz.prog f = true)
    (hq : ∀ j (hj : j < xs.length) (v : Value), VT H v xs[j] → Ok Tryz.prog f (#[] ++ [v].toArray ++ caps) E H L fun r H' L' => r = .bool (q xs[j]) ∧ H = H' ∧ L = L') :
    Ok Tryz.prog 142 #[.slice A xs.length c, .func (.func f) #[] caps] E H L fun r H' L' => r = .int .i64 (indexF q xs) ∧ H = H' ∧ L = L' := by
  refine enter (N := 19) [(0, _), (1, _)] Tryz.func142 rfl rfl rfl rfl fun a w h => ?_
  refine sqr ?_
  refine as_ h fun a w h => ?_
  refine nlt ?_
  refine sq ?_
  refine sqr ?_
  refine mv h fun a w h => ?_
  refine ln sli22 h fun a w h => ?_
  refine mv h fun a w h => ?_
  refine nlt ?_
  refine blk ?_
  refine lp (β := Nat) (fun k a w => (k ≤ xs.length ∧ ∀ j (hj : j < xs.length), j < k → q xs[j] = false) ∧ S E H 19 [] [(8, .int .i64 (k : Int)), (7, .int .i64 (xs.length : Int)), (0, .slice A xs.length c), (1, .func (.func f) #[] caps)] (L) a w)
   (fun k => xs.length - k) 0 ⟨⟨Nat.zero_le _, fun j hj h0 => absurd h0 (by omega)⟩, h.to 0 _⟩ ?_
  rintro k a w ⟨pre, h⟩
  refine sqr ?_
  refine lt h fun a w h => ?_
  refine nlt ?_
  refine sq ?_
  refine cdB h (fun c9 => ?_) (fun c9 => ?_)
  ·have c9 : k < xs.length := by simpa using c9
   obtain ⟨g, off, A2, c2, rfl, hvt, hcell⟩ := KS.get hxs c9
   refine skt ?_
   refine sq ?_
   refine blk ?_
   refine sqr ?_
   refine mv h fun a w h => ?_
   refine as_ h fun a w h => ?_
   refine nsr ?_
   refine mv h fun a w h => ?_
   refine mv h fun a w h => ?_
   refine mv h fun a w h => ?_
   refine ia sli22 sz24 rfl c9 h fun a w h => ?_
   refine ldHN tN24 rfl hcell h fun a w h => ?_
   refine cl hf (hq k c9 _ hvt) h fun r16 H16 L16 a w le16 R h => ?_
   obtain ⟨rfl, rfl, rfl⟩ := R
   refine nlt ?_
   refine cdB h (fun c16 => ?_) (fun c16 => ?_)
   ·have hfact : indexF q xs = (k : Int) := indexF_at c9 (fun j hj hjk => pre.2 j hj hjk) c16
    refine sqr ?_
    refine mv h fun a w h => ?_
    refine as_ h fun a w h => ?_
    refine nlt ?_
    refine ret_ ?_
    refine ibR ?_
    refine thR ?_
    refine thR ?_
    refine ibR ?_
    refine thR ?_
    refine fin1 4 0 h LE.rfl ?_
    exact ⟨by rw [hfact], rfl, rfl⟩
   ·have hne : q xs[k] = false := c16
    refine sk_ ?_
    refine ibN ?_
    refine thN ?_
    refine rg0 ?_
    refine inc ?_ h fun a w h => ?_
    ·omega
    refine mv h fun a w h => ?_
    refine nlt ?_
    exact ⟨(k + 1), ⟨⟨by omega, fun j hj hjk => by rcases Nat.lt_succ_iff_lt_or_eq.1 hjk with h0 | rfl <;> first | exact hne | exact pre.2 j hj h0⟩, h.to 0 _⟩, by show _ - (k + 1) < _ - k; omega⟩
  ·have hk : k = xs.length := by simp at c9; omega
   have hfact : indexF q xs = -1 := indexF_no fun j hj => pre.2 j hj (by omega)
   refine exit_ ?_
   refine thE ?_
   refine thE ?_
   refine ibH ?_
   refine thN ?_
   refine sqr ?_
   refine as_ h fun a w h => ?_
   refine nlt ?_
   refine ret_ ?_
   refine fin1 4 0 h LE.rfl ?_
   exact ⟨by rw [hfact], rfl, rfl⟩
theorem ContainsFunc_Tm_ok (xs : List Tm) (A : Option Addr) (c : Nat) (q : Tm → Bool) (f : FuncId) (caps : Array Value) (E : World) (H : GH) (L : List It) (hxs : KS H A c xs) (hb : xs.length < 1000000000000) (hf : bodT Tryz.prog f = true)
    (hq : ∀ j (hj : j < xs.length) (v : Value), VT H v xs[j] → Ok Tryz.prog f (#[] ++ [v].toArray ++ caps) E H L fun r H' L' => r = .bool (q xs[j]) ∧ H = H' ∧ L = L') :
    Ok Tryz.prog 116 #[.slice A xs.length c, .func (.func f) #[] caps] E H L fun r H' L' => r = .bool (xs.any q) ∧ H = H' ∧ L = L' := by
  refine enter (N := 9) [(0, _), (1, _)] Tryz.func116 rfl rfl rfl rfl fun a w h => ?_
  refine sqr ?_
  refine as_ h fun a w h => ?_
  refine nsr ?_
  refine mv h fun a w h => ?_
  refine mv h fun a w h => ?_
  refine cl bod142 (IndexFunc_Tm_ok xs A c q f caps E H _ hxs hb hf hq) h fun r7 H7 L7 a w le7 R h => ?_
  obtain ⟨rfl, rfl, rfl⟩ := R
  refine ge h fun a w h => ?_
  refine as_ h fun a w h => ?_
  refine nlt ?_
  refine ret_ ?_
  refine fin1 4 0 h LE.rfl ?_
  exact ⟨by rw [← indexF_ge], rfl, rfl⟩
theorem IndexFunc_Dc_ok (xs : List Dc) (A : Option Addr) (c : Nat) (q : Dc → Bool) (f : FuncId) (caps : Array Value) (E : World) (H : GH) (L : List It) (hxs : CS H A c xs) (hb : xs.length < 1000000000000) (hf : bodT Tryz.prog f = true)
    (hq : ∀ j (hj : j < xs.length) (v : Value), VDc H v xs[j] → Ok Tryz.prog f (#[] ++ [v].toArray ++ caps) E H L fun r H' L' => r = .bool (q xs[j]) ∧ H = H' ∧ L = L') :
    Ok Tryz.prog 111 #[.slice A xs.length c, .func (.func f) #[] caps] E H L fun r H' L' => r = .int .i64 (indexF q xs) ∧ H = H' ∧ L = L' := by
  refine enter (N := 19) [(0, _), (1, _)] Tryz.func111 rfl rfl rfl rfl fun a w h => ?_
  refine sqr ?_
  refine as_ h fun a w h => ?_
  refine nlt ?_
  refine sq ?_
  refine sqr ?_
  refine mv h fun a w h => ?_
  refine ln sli25 h fun a w h => ?_
  refine mv h fun a w h => ?_
  refine nlt ?_
  refine blk ?_
  refine lp (β := Nat) (fun k a w => (k ≤ xs.length ∧ ∀ j (hj : j < xs.length), j < k → q xs[j] = false) ∧ S E H 19 [] [(8, .int .i64 (k : Int)), (7, .int .i64 (xs.length : Int)), (0, .slice A xs.length c), (1, .func (.func f) #[] caps)] (L) a w)
   (fun k => xs.length - k) 0 ⟨⟨Nat.zero_le _, fun j hj h0 => absurd h0 (by omega)⟩, h.to 0 _⟩ ?_
  rintro k a w ⟨pre, h⟩
  refine sqr ?_
  refine lt h fun a w h => ?_
  refine nlt ?_
  refine sq ?_
  refine cdB h (fun c9 => ?_) (fun c9 => ?_)
  ·have c9 : k < xs.length := by simpa using c9
   obtain ⟨g, off, rfl, hvt, hcell⟩ := CS.get hxs c9
   refine skt ?_
   refine sq ?_
   refine blk ?_
   refine sqr ?_
   refine mv h fun a w h => ?_
   refine as_ h fun a w h => ?_
   refine nsr ?_
   refine mv h fun a w h => ?_
   refine mv h fun a w h => ?_
   refine mv h fun a w h => ?_
   refine ia sli25 sz72 rfl c9 h fun a w h => ?_
   refine ldHN tN72 rfl hcell h fun a w h => ?_
   refine cl hf (hq k c9 _ hvt) h fun r16 H16 L16 a w le16 R h => ?_
   obtain ⟨rfl, rfl, rfl⟩ := R
   refine nlt ?_
   refine cdB h (fun c16 => ?_) (fun c16 => ?_)
   ·have hfact : indexF q xs = (k : Int) := indexF_at c9 (fun j hj hjk => pre.2 j hj hjk) c16
    refine sqr ?_
    refine mv h fun a w h => ?_
    refine as_ h fun a w h => ?_
    refine nlt ?_
    refine ret_ ?_
    refine ibR ?_
    refine thR ?_
    refine thR ?_
    refine ibR ?_
    refine thR ?_
    refine fin1 4 0 h LE.rfl ?_
    exact ⟨by rw [hfact], rfl, rfl⟩
   ·have hne : q xs[k] = false := c16
    refine sk_ ?_
    refine ibN ?_
    refine thN ?_
    refine rg0 ?_
    refine inc ?_ h fun a w h => ?_
    ·omega
    refine mv h fun a w h => ?_
    refine nlt ?_
    exact ⟨(k + 1), ⟨⟨by omega, fun j hj hjk => by rcases Nat.lt_succ_iff_lt_or_eq.1 hjk with h0 | rfl <;> first | exact hne | exact pre.2 j hj h0⟩, h.to 0 _⟩, by show _ - (k + 1) < _ - k; omega⟩
  ·have hk : k = xs.length := by simp at c9; omega
   have hfact : indexF q xs = -1 := indexF_no fun j hj => pre.2 j hj (by omega)
   refine exit_ ?_
   refine thE ?_
   refine thE ?_
   refine ibH ?_
   refine thN ?_
   refine sqr ?_
   refine as_ h fun a w h => ?_
   refine nlt ?_
   refine ret_ ?_
   refine fin1 4 0 h LE.rfl ?_
   exact ⟨by rw [hfact], rfl, rfl⟩
theorem ContainsFunc_Dc_ok (xs : List Dc) (A : Option Addr) (c : Nat) (q : Dc → Bool) (f : FuncId) (caps : Array Value) (E : World) (H : GH) (L : List It) (hxs : CS H A c xs) (hb : xs.length < 1000000000000) (hf : bodT Tryz.prog f = true)
    (hq : ∀ j (hj : j < xs.length) (v : Value), VDc H v xs[j] → Ok Tryz.prog f (#[] ++ [v].toArray ++ caps) E H L fun r H' L' => r = .bool (q xs[j]) ∧ H = H' ∧ L = L') :
    Ok Tryz.prog 87 #[.slice A xs.length c, .func (.func f) #[] caps] E H L fun r H' L' => r = .bool (xs.any q) ∧ H = H' ∧ L = L' := by
  refine enter (N := 9) [(0, _), (1, _)] Tryz.func87 rfl rfl rfl rfl fun a w h => ?_
  refine sqr ?_
  refine as_ h fun a w h => ?_
  refine nsr ?_
  refine mv h fun a w h => ?_
  refine mv h fun a w h => ?_
  refine cl bod111 (IndexFunc_Dc_ok xs A c q f caps E H _ hxs hb hf hq) h fun r7 H7 L7 a w le7 R h => ?_
  obtain ⟨rfl, rfl, rfl⟩ := R
  refine ge h fun a w h => ?_
  refine as_ h fun a w h => ?_
  refine nlt ?_
  refine ret_ ?_
  refine fin1 4 0 h LE.rfl ?_
  exact ⟨by rw [← indexF_ge], rfl, rfl⟩
theorem IndexFunc_Df_ok (xs : List Df) (A : Option Addr) (c : Nat) (q : Df → Bool) (f : FuncId) (caps : Array Value) (E : World) (H : GH) (L : List It) (hxs : FS H A c xs) (hb : xs.length < 1000000000000) (hf : bodT Tryz.prog f = true)
    (hq : ∀ j (hj : j < xs.length) (v : Value), VDf H v xs[j] → Ok Tryz.prog f (#[] ++ [v].toArray ++ caps) E H L fun r H' L' => r = .bool (q xs[j]) ∧ H = H' ∧ L = L') :
    Ok Tryz.prog 113 #[.slice A xs.length c, .func (.func f) #[] caps] E H L fun r H' L' => r = .int .i64 (indexF q xs) ∧ H = H' ∧ L = L' := by
  refine enter (N := 19) [(0, _), (1, _)] Tryz.func113 rfl rfl rfl rfl fun a w h => ?_
  refine sqr ?_
  refine as_ h fun a w h => ?_
  refine nlt ?_
  refine sq ?_
  refine sqr ?_
  refine mv h fun a w h => ?_
  refine ln sli26 h fun a w h => ?_
  refine mv h fun a w h => ?_
  refine nlt ?_
  refine blk ?_
  refine lp (β := Nat) (fun k a w => (k ≤ xs.length ∧ ∀ j (hj : j < xs.length), j < k → q xs[j] = false) ∧ S E H 19 [] [(8, .int .i64 (k : Int)), (7, .int .i64 (xs.length : Int)), (0, .slice A xs.length c), (1, .func (.func f) #[] caps)] (L) a w)
   (fun k => xs.length - k) 0 ⟨⟨Nat.zero_le _, fun j hj h0 => absurd h0 (by omega)⟩, h.to 0 _⟩ ?_
  rintro k a w ⟨pre, h⟩
  refine sqr ?_
  refine lt h fun a w h => ?_
  refine nlt ?_
  refine sq ?_
  refine cdB h (fun c9 => ?_) (fun c9 => ?_)
  ·have c9 : k < xs.length := by simpa using c9
   obtain ⟨g, off, A2, c2, rfl, hvt, hcell⟩ := FS.get hxs c9
   refine skt ?_
   refine sq ?_
   refine blk ?_
   refine sqr ?_
   refine mv h fun a w h => ?_
   refine as_ h fun a w h => ?_
   refine nsr ?_
   refine mv h fun a w h => ?_
   refine mv h fun a w h => ?_
   refine mv h fun a w h => ?_
   refine ia sli26 sz68 rfl c9 h fun a w h => ?_
   refine ldHN tN68 rfl hcell h fun a w h => ?_
   refine cl hf (hq k c9 _ hvt) h fun r16 H16 L16 a w le16 R h => ?_
   obtain ⟨rfl, rfl, rfl⟩ := R
   refine nlt ?_
   refine cdB h (fun c16 => ?_) (fun c16 => ?_)
   ·have hfact : indexF q xs = (k : Int) := indexF_at c9 (fun j hj hjk => pre.2 j hj hjk) c16
    refine sqr ?_
    refine mv h fun a w h => ?_
    refine as_ h fun a w h => ?_
    refine nlt ?_
    refine ret_ ?_
    refine ibR ?_
    refine thR ?_
    refine thR ?_
    refine ibR ?_
    refine thR ?_
    refine fin1 4 0 h LE.rfl ?_
    exact ⟨by rw [hfact], rfl, rfl⟩
   ·have hne : q xs[k] = false := c16
    refine sk_ ?_
    refine ibN ?_
    refine thN ?_
    refine rg0 ?_
    refine inc ?_ h fun a w h => ?_
    ·omega
    refine mv h fun a w h => ?_
    refine nlt ?_
    exact ⟨(k + 1), ⟨⟨by omega, fun j hj hjk => by rcases Nat.lt_succ_iff_lt_or_eq.1 hjk with h0 | rfl <;> first | exact hne | exact pre.2 j hj h0⟩, h.to 0 _⟩, by show _ - (k + 1) < _ - k; omega⟩
  ·have hk : k = xs.length := by simp at c9; omega
   have hfact : indexF q xs = -1 := indexF_no fun j hj => pre.2 j hj (by omega)
   refine exit_ ?_
   refine thE ?_
   refine thE ?_
   refine ibH ?_
   refine thN ?_
   refine sqr ?_
   refine as_ h fun a w h => ?_
   refine nlt ?_
   refine ret_ ?_
   refine fin1 4 0 h LE.rfl ?_
   exact ⟨by rw [hfact], rfl, rfl⟩
theorem ContainsFunc_Df_ok (xs : List Df) (A : Option Addr) (c : Nat) (q : Df → Bool) (f : FuncId) (caps : Array Value) (E : World) (H : GH) (L : List It) (hxs : FS H A c xs) (hb : xs.length < 1000000000000) (hf : bodT Tryz.prog f = true)
    (hq : ∀ j (hj : j < xs.length) (v : Value), VDf H v xs[j] → Ok Tryz.prog f (#[] ++ [v].toArray ++ caps) E H L fun r H' L' => r = .bool (q xs[j]) ∧ H = H' ∧ L = L') :
    Ok Tryz.prog 89 #[.slice A xs.length c, .func (.func f) #[] caps] E H L fun r H' L' => r = .bool (xs.any q) ∧ H = H' ∧ L = L' := by
  refine enter (N := 9) [(0, _), (1, _)] Tryz.func89 rfl rfl rfl rfl fun a w h => ?_
  refine sqr ?_
  refine as_ h fun a w h => ?_
  refine nsr ?_
  refine mv h fun a w h => ?_
  refine mv h fun a w h => ?_
  refine cl bod113 (IndexFunc_Df_ok xs A c q f caps E H _ hxs hb hf hq) h fun r7 H7 L7 a w le7 R h => ?_
  obtain ⟨rfl, rfl, rfl⟩ := R
  refine ge h fun a w h => ?_
  refine as_ h fun a w h => ?_
  refine nlt ?_
  refine ret_ ?_
  refine fin1 4 0 h LE.rfl ?_
  exact ⟨by rw [← indexF_ge], rfl, rfl⟩
theorem IndexFunc_Bs_ok (xs : List Bs) (A : Option Addr) (c : Nat) (q : Bs → Bool) (f : FuncId) (caps : Array Value) (E : World) (H : GH) (L : List It) (hxs : SS H A c xs) (hb : xs.length < 1000000000000) (hf : bodT Tryz.prog f = true)
    (hq : ∀ j (hj : j < xs.length) (v : Value), v = str xs[j] → Ok Tryz.prog f (#[] ++ [v].toArray ++ caps) E H L fun r H' L' => r = .bool (q xs[j]) ∧ H = H' ∧ L = L') :
    Ok Tryz.prog 67 #[.slice A xs.length c, .func (.func f) #[] caps] E H L fun r H' L' => r = .int .i64 (indexF q xs) ∧ H = H' ∧ L = L' := by
  refine enter (N := 19) [(0, _), (1, _)] Tryz.func67 rfl rfl rfl rfl fun a w h => ?_
  refine sqr ?_
  refine as_ h fun a w h => ?_
  refine nlt ?_
  refine sq ?_
  refine sqr ?_
  refine mv h fun a w h => ?_
  refine ln sli58 h fun a w h => ?_
  refine mv h fun a w h => ?_
  refine nlt ?_
  refine blk ?_
  refine lp (β := Nat) (fun k a w => (k ≤ xs.length ∧ ∀ j (hj : j < xs.length), j < k → q xs[j] = false) ∧ S E H 19 [] [(8, .int .i64 (k : Int)), (7, .int .i64 (xs.length : Int)), (0, .slice A xs.length c), (1, .func (.func f) #[] caps)] (L) a w)
   (fun k => xs.length - k) 0 ⟨⟨Nat.zero_le _, fun j hj h0 => absurd h0 (by omega)⟩, h.to 0 _⟩ ?_
  rintro k a w ⟨pre, h⟩
  refine sqr ?_
  refine lt h fun a w h => ?_
  refine nlt ?_
  refine sq ?_
  refine cdB h (fun c9 => ?_) (fun c9 => ?_)
  ·have c9 : k < xs.length := by simpa using c9
   obtain ⟨g, off, rfl, hcell⟩ := hxs.get c9
   refine skt ?_
   refine sq ?_
   refine blk ?_
   refine sqr ?_
   refine mv h fun a w h => ?_
   refine as_ h fun a w h => ?_
   refine nsr ?_
   refine mv h fun a w h => ?_
   refine mv h fun a w h => ?_
   refine mv h fun a w h => ?_
   refine ia sli58 sz9 rfl c9 h fun a w h => ?_
   refine ldH t1_9 hcell h fun a w h => ?_
   refine cl hf (hq k c9 _ rfl) h fun r16 H16 L16 a w le16 R h => ?_
   obtain ⟨rfl, rfl, rfl⟩ := R
   refine nlt ?_
   refine cdB h (fun c16 => ?_) (fun c16 => ?_)
   ·have hfact : indexF q xs = (k : Int) := indexF_at c9 (fun j hj hjk => pre.2 j hj hjk) c16
    refine sqr ?_
    refine mv h fun a w h => ?_
    refine as_ h fun a w h => ?_
    refine nlt ?_
    refine ret_ ?_
    refine ibR ?_
    refine thR ?_
    refine thR ?_
    refine ibR ?_
    refine thR ?_
    refine fin1 4 0 h LE.rfl ?_
    exact ⟨by rw [hfact], rfl, rfl⟩
   ·have hne : q xs[k] = false := c16
    refine sk_ ?_
    refine ibN ?_
    refine thN ?_
    refine rg0 ?_
    refine inc ?_ h fun a w h => ?_
    ·omega
    refine mv h fun a w h => ?_
    refine nlt ?_
    exact ⟨(k + 1), ⟨⟨by omega, fun j hj hjk => by rcases Nat.lt_succ_iff_lt_or_eq.1 hjk with h0 | rfl <;> first | exact hne | exact pre.2 j hj h0⟩, h.to 0 _⟩, by show _ - (k + 1) < _ - k; omega⟩
  ·have hk : k = xs.length := by simp at c9; omega
   have hfact : indexF q xs = -1 := indexF_no fun j hj => pre.2 j hj (by omega)
   refine exit_ ?_
   refine thE ?_
   refine thE ?_
   refine ibH ?_
   refine thN ?_
   refine sqr ?_
   refine as_ h fun a w h => ?_
   refine nlt ?_
   refine ret_ ?_
   refine fin1 4 0 h LE.rfl ?_
   exact ⟨by rw [hfact], rfl, rfl⟩
theorem ContainsFunc_Bs_ok (xs : List Bs) (A : Option Addr) (c : Nat) (q : Bs → Bool) (f : FuncId) (caps : Array Value) (E : World) (H : GH) (L : List It) (hxs : SS H A c xs) (hb : xs.length < 1000000000000) (hf : bodT Tryz.prog f = true)
    (hq : ∀ j (hj : j < xs.length) (v : Value), v = str xs[j] → Ok Tryz.prog f (#[] ++ [v].toArray ++ caps) E H L fun r H' L' => r = .bool (q xs[j]) ∧ H = H' ∧ L = L') :
    Ok Tryz.prog 45 #[.slice A xs.length c, .func (.func f) #[] caps] E H L fun r H' L' => r = .bool (xs.any q) ∧ H = H' ∧ L = L' := by
  refine enter (N := 9) [(0, _), (1, _)] Tryz.func45 rfl rfl rfl rfl fun a w h => ?_
  refine sqr ?_
  refine as_ h fun a w h => ?_
  refine nsr ?_
  refine mv h fun a w h => ?_
  refine mv h fun a w h => ?_
  refine cl bod67 (IndexFunc_Bs_ok xs A c q f caps E H _ hxs hb hf hq) h fun r7 H7 L7 a w le7 R h => ?_
  obtain ⟨rfl, rfl, rfl⟩ := R
  refine ge h fun a w h => ?_
  refine as_ h fun a w h => ?_
  refine nlt ?_
  refine ret_ ?_
  refine fin1 4 0 h LE.rfl ?_
  exact ⟨by rw [← indexF_ge], rfl, rfl⟩
theorem wrong_ok : ∀ (t : Tm) (v : Value) (E : World) (H : GH) (L : List It) (gc : Nat), VT H v t → Laid H → Hc H gc 0 (.func (.func 114) #[] #[.pointer (some ⟨gc, 0, none⟩)]) → t.long < 1000000000000 → t.size < 1000000000000 →
    Ok Tryz.prog 114 #[v, .pointer (some ⟨gc, 0, none⟩)] E H L fun r H' L' => r = .bool t.wrong ∧ H = H' ∧ L = L' := by
  intro t
  induction t using Tm.ind with
  | h kd nm nn ks ih =>
  intro v E H L gc hv hL hcl hlg hsz
  have hv0 := hv
  obtain ⟨A, c, rfl, hks⟩ := hv
  simp only [Tm.size] at hsz
  simp only [Tm.long] at hlg
  have hks : KS H A c ks := hks
  have hlen := length_le_sizeL ks
  have hv := hv0
  have hln : (Tm.mk kd nm nn ks).name.length < 1000000000000 := by show nm.length < _; omega
  have hnw : (Tm.mk kd nm nn ks).wrong = (!(Tm.mk kd nm nn ks).node || ks.any Tm.wrong) := by simp only [Tm.wrong, wrongL_any]; rfl
  refine enter (N := 13) [(0, _), (1, _)] Tryz.func114 rfl rfl rfl rfl fun a w h => ?_
  refine sqr ?_
  refine bxA h fun g2 a w h => ?_
  refine as_ h fun a w h => ?_
  refine nsr ?_
  refine ldW 0 tN24 h fun a w h => ?_
  refine cl bod115 (node_ok _ _ E H _ hv hL hln) h fun r5 H5 L5 a w le5 R h => ?_
  obtain ⟨rfl, rfl, rfl⟩ := R
  refine nt h fun a w h => ?_
  refine h.spl (fun c6 h => ?_) (fun c6 h => ?_)
  ·refine mv h fun a w h => ?_
   refine sk h (k := fun a w h => ?_)
   refine sk h (k := fun a w h => ?_)
   refine sk h (k := fun a w h => ?_)
   refine sk h (k := fun a w h => ?_)
   refine pkT h fun a w h => ?_
   refine as_ h fun a w h => ?_
   refine nlt ?_
   refine ret_ ?_
   refine fin1 3 1 h LE.rfl ?_
   exact ⟨by rw [hnw, c6]; rfl, rfl, rfl⟩
  ·refine mv h fun a w h => ?_
   refine fa fl24_3 (r := 3) h fun a w h => ?_
   refine ld 0 t1_22 h fun a w h => ?_
   refine ldH t1_81 hcl h fun a w h => ?_
   refine cl bod116 (ContainsFunc_Tm_ok ks A c Tm.wrong 114 #[.pointer (some ⟨gc, 0, none⟩)] E H _ hks (by omega) bod114 (fun j hj v hv => ih _ (List.getElem_mem hj) v E H _ gc hv hL hcl (by have := long_get hj; omega) (by have := size_get_le hj; omega))) h fun r11 H11 L11 a w le11 R h => ?_
   obtain ⟨rfl, rfl, rfl⟩ := R
   refine pkF h fun a w h => ?_
   refine as_ h fun a w h => ?_
   refine nlt ?_
   refine ret_ ?_
   refine fin1 3 1 h LE.rfl ?_
   exact ⟨by rw [hnw, c6]; rfl, rfl, rfl⟩
theorem Right_ok (t : Tm) (v : Value) (E : World) (H : GH) (L : List It) (hv : VT H v t) (hL : Laid H) (hlg : t.long < 1000000000000) (hsz : t.size < 1000000000000) : Ok Tryz.prog 91 #[v] E H L fun r H' L' => r = .bool t.right ∧ H = H' ∧ L = L' := by
  have hv0 := hv
  obtain ⟨A, c, rfl, hks⟩ := hv
  have hv := hv0
  refine enter (N := 19) [(0, _)] Tryz.func91 rfl rfl rfl rfl fun a w h => ?_
  refine sqr ?_
  refine bxA h fun g1 a w h => ?_
  refine as_ h fun a w h => ?_
  refine nsr ?_
  refine al zr81 h fun g3 a w h => ?_
  refine nsr ?_
  refine mf h fun a w h => ?_
  refine st0 (l := [_]) t1_81 h fun a w h => ?_
  refine nsr ?_
  obtain ⟨H1, le1, h, hfz⟩ := h.frz 0
  have hcl : Hc H1 g3 0 (.func (.func 114) #[] #[.pointer (some ⟨g3, 0, none⟩)]) := Hc.of hfz rfl
  have hv := hv.mono le1
  have hL := hL.up le1
  have hle := H1
  refine ldW 0 tN24 h fun a w h => ?_
  refine cl bod25 (Depth_ok t _ E H1 _ hv hsz) h fun r6 H6 L6 a w le6 R h => ?_
  obtain ⟨rfl, rfl, rfl⟩ := R
  refine le h fun a w h => ?_
  refine h.spl (fun c7 h => ?_) (fun c7 h => ?_)
  ·refine mv h fun a w h => ?_
   refine ldW 0 tN24 h fun a w h => ?_
   refine cl bod24 (Size_ok t _ E H1 _ hv hsz) h fun r10 H10 L10 a w le10 R h => ?_
   obtain ⟨rfl, rfl, rfl⟩ := R
   refine le h fun a w h => ?_
   refine pkT h fun a w h => ?_
   refine h.spl (fun c12 h => ?_) (fun c12 h => ?_)
   ·refine mv h fun a w h => ?_
    refine ldH t1_81 hcl h fun a w h => ?_
    refine ldW 0 tN24 h fun a w h => ?_
    refine cl bod114 (wrong_ok t _ E H1 _ g3 hv hL hcl hlg hsz) h fun r16 H16 L16 a w le16 R h => ?_
    obtain ⟨rfl, rfl, rfl⟩ := R
    refine nt h fun a w h => ?_
    refine pkT h fun a w h => ?_
    refine as_ h fun a w h => ?_
    refine nlt ?_
    refine ret_ ?_
    refine fin1 2 1 (h.less le1) LE.rfl ?_
    exact ⟨by first | (simp only [Tm.right, c7, c12]; done) | (simp only [Tm.right, c7, c12]; rfl), rfl, rfl⟩
   ·refine mv h fun a w h => ?_
    refine sk h (k := fun a w h => ?_)
    refine sk h (k := fun a w h => ?_)
    refine sk h (k := fun a w h => ?_)
    refine sk h (k := fun a w h => ?_)
    refine pkF h fun a w h => ?_
    refine as_ h fun a w h => ?_
    refine nlt ?_
    refine ret_ ?_
    refine fin1 2 1 (h.less le1) LE.rfl ?_
    exact ⟨by first | (simp only [Tm.right, c7, c12]; done) | (simp only [Tm.right, c7, c12]; rfl), rfl, rfl⟩
  ·refine mv h fun a w h => ?_
   refine sk h (k := fun a w h => ?_)
   refine sk h (k := fun a w h => ?_)
   refine sk h (k := fun a w h => ?_)
   refine pkF h fun a w h => ?_
   refine mv h fun a w h => ?_
   refine sk h (k := fun a w h => ?_)
   refine sk h (k := fun a w h => ?_)
   refine sk h (k := fun a w h => ?_)
   refine sk h (k := fun a w h => ?_)
   refine pkF h fun a w h => ?_
   refine as_ h fun a w h => ?_
   refine nlt ?_
   refine ret_ ?_
   refine fin1 2 1 (h.less le1) LE.rfl ?_
   exact ⟨by first | (simp only [Tm.right, c7]; done) | (simp only [Tm.right, c7]; rfl), rfl, rfl⟩
theorem Dwrong_ok (d : Dc) (v : Value) (E : World) (H : GH) (L : List It) (hv : VDc H v d) (hL : Laid H) (h1 : d.name.length < 1000000000000) (h2 : d.label.length < 1000000000000) : Ok Tryz.prog 88 #[v] E H L fun r H' L' => r = .bool d.wrong ∧ H = H' ∧ L = L' := by
  unfold VDc at hv; subst hv
  refine enter (N := 23) [(0, _)] Tryz.func88 rfl rfl rfl rfl fun a w h => ?_
  refine sqr ?_
  refine bxA h fun g1 a w h => ?_
  refine as_ h fun a w h => ?_
  refine nsr ?_
  refine fa fl72_0 (r := 0) h fun a w h => ?_
  refine ld 0 t1_9 h fun a w h => ?_
  refine cl bod112 (word_ok d.name E H _ hL (by omega)) h fun r5 H5 L5 a w le5 R h => ?_
  obtain ⟨rfl, rfl, rfl⟩ := R
  refine nt h fun a w h => ?_
  refine h.spl (fun c6 h => ?_) (fun c6 h => ?_)
  ·refine mv h fun a w h => ?_
   refine sk h (k := fun a w h => ?_)
   refine sk h (k := fun a w h => ?_)
   refine sk h (k := fun a w h => ?_)
   refine sk h (k := fun a w h => ?_)
   refine pkT h fun a w h => ?_
   refine mv h fun a w h => ?_
   refine sk h (k := fun a w h => ?_)
   refine sk h (k := fun a w h => ?_)
   refine sk h (k := fun a w h => ?_)
   refine pkT h fun a w h => ?_
   refine mv h fun a w h => ?_
   refine sk h (k := fun a w h => ?_)
   refine sk h (k := fun a w h => ?_)
   refine sk h (k := fun a w h => ?_)
   refine pkT h fun a w h => ?_
   refine as_ h fun a w h => ?_
   refine nlt ?_
   refine ret_ ?_
   refine fin1 2 1 h LE.rfl ?_
   exact ⟨by first | (simp only [Dc.wrong, c6]; done) | (simp only [Dc.wrong, c6]; rfl), rfl, rfl⟩
  ·refine mv h fun a w h => ?_
   refine fa fl72_1 (r := 1) h fun a w h => ?_
   refine ld 0 t1_9 h fun a w h => ?_
   refine cl bod112 (word_ok d.label E H _ hL (by omega)) h fun r10 H10 L10 a w le10 R h => ?_
   obtain ⟨rfl, rfl, rfl⟩ := R
   refine nt h fun a w h => ?_
   refine pkF h fun a w h => ?_
   refine h.spl (fun c12 h => ?_) (fun c12 h => ?_)
   ·refine mv h fun a w h => ?_
    refine sk h (k := fun a w h => ?_)
    refine sk h (k := fun a w h => ?_)
    refine sk h (k := fun a w h => ?_)
    refine pkT h fun a w h => ?_
    refine mv h fun a w h => ?_
    refine sk h (k := fun a w h => ?_)
    refine sk h (k := fun a w h => ?_)
    refine sk h (k := fun a w h => ?_)
    refine pkT h fun a w h => ?_
    refine as_ h fun a w h => ?_
    refine nlt ?_
    refine ret_ ?_
    refine fin1 2 1 h LE.rfl ?_
    exact ⟨by first | (simp only [Dc.wrong, c6, c12]; done) | (simp only [Dc.wrong, c6, c12]; rfl), rfl, rfl⟩
   ·refine mv h fun a w h => ?_
    refine fa fl72_2 (r := 2) h fun a w h => ?_
    refine ld 0 t1_2 h fun a w h => ?_
    refine lt h fun a w h => ?_
    refine pkF h fun a w h => ?_
    refine h.spl (fun c17 h => ?_) (fun c17 h => ?_)
    ·refine mv h fun a w h => ?_
     refine sk h (k := fun a w h => ?_)
     refine sk h (k := fun a w h => ?_)
     refine sk h (k := fun a w h => ?_)
     refine pkT h fun a w h => ?_
     refine as_ h fun a w h => ?_
     refine nlt ?_
     refine ret_ ?_
     refine fin1 2 1 h LE.rfl ?_
     exact ⟨by first | (simp only [Dc.wrong, c6, c12, c17]; done) | (simp only [Dc.wrong, c6, c12, c17]; rfl), rfl, rfl⟩
    ·refine mv h fun a w h => ?_
     refine fa fl72_2 (r := 2) h fun a w h => ?_
     refine ld 0 t1_2 h fun a w h => ?_
     refine ge h fun a w h => ?_
     refine pkF h fun a w h => ?_
     refine as_ h fun a w h => ?_
     refine nlt ?_
     refine ret_ ?_
     refine fin1 2 1 h LE.rfl ?_
     exact ⟨by first | (simp only [Dc.wrong, c6, c12, c17]; done) | (simp only [Dc.wrong, c6, c12, c17]; rfl), rfl, rfl⟩
theorem set_ok (d : Dc) (v : Value) (E : World) (H : GH) (L : List It) (hv : VDc H v d) : Ok Tryz.prog 86 #[v] E H L fun r H' L' => r = .bool (d.n != 0) ∧ H = H' ∧ L = L' := by
  unfold VDc at hv; subst hv
  refine enter (N := 6) [(0, _)] Tryz.func86 rfl rfl rfl rfl fun a w h => ?_
  refine sqr ?_
  refine bxA h fun g1 a w h => ?_
  refine as_ h fun a w h => ?_
  refine nsr ?_
  refine fa fl72_2 (r := 2) h fun a w h => ?_
  refine ld 0 t1_2 h fun a w h => ?_
  refine nei h fun a w h => ?_
  refine as_ h fun a w h => ?_
  refine nlt ?_
  refine ret_ ?_
  refine fin1 2 1 h LE.rfl ?_
  exact ⟨rfl, rfl, rfl⟩
theorem Fwrong_ok (d : Df) (v : Value) (E : World) (H : GH) (L : List It) (hv : VDf H v d) (hL : Laid H) (h1 : d.name.length < 1000000000000) (h2 : d.t.long < 1000000000000) (h3 : d.t.size < 1000000000000) : Ok Tryz.prog 90 #[v] E H L fun r H' L' => r = .bool d.wrong ∧ H = H' ∧ L = L' := by
  obtain ⟨A, c, rfl, hks⟩ := hv
  refine enter (N := 19) [(0, _)] Tryz.func90 rfl rfl rfl rfl fun a w h => ?_
  refine sqr ?_
  refine bxA h fun g1 a w h => ?_
  refine as_ h fun a w h => ?_
  refine nsr ?_
  refine fa fl68_0 (r := 0) h fun a w h => ?_
  refine ld 0 t1_9 h fun a w h => ?_
  refine cl bod112 (word_ok d.name E H _ hL (by omega)) h fun r5 H5 L5 a w le5 R h => ?_
  obtain ⟨rfl, rfl, rfl⟩ := R
  refine nt h fun a w h => ?_
  refine h.spl (fun c6 h => ?_) (fun c6 h => ?_)
  ·refine mv h fun a w h => ?_
   refine sk h (k := fun a w h => ?_)
   refine sk h (k := fun a w h => ?_)
   refine sk h (k := fun a w h => ?_)
   refine sk h (k := fun a w h => ?_)
   refine pkT h fun a w h => ?_
   refine mv h fun a w h => ?_
   refine sk h (k := fun a w h => ?_)
   refine sk h (k := fun a w h => ?_)
   refine sk h (k := fun a w h => ?_)
   refine sk h (k := fun a w h => ?_)
   refine pkT h fun a w h => ?_
   refine as_ h fun a w h => ?_
   refine nlt ?_
   refine ret_ ?_
   refine fin1 2 1 h LE.rfl ?_
   exact ⟨by first | (simp only [Df.wrong, c6]; done) | (simp only [Df.wrong, c6]; rfl), rfl, rfl⟩
  ·refine mv h fun a w h => ?_
   refine fa fl68_1 (r := 1) h fun a w h => ?_
   refine ldN 0 tN24 h fun a w h => ?_
   refine cl bod91 (Right_ok d.t _ E H _ (VDf.t hks) hL (by omega) (by omega)) h fun r10 H10 L10 a w le10 R h => ?_
   obtain ⟨rfl, rfl, rfl⟩ := R
   refine nt h fun a w h => ?_
   refine pkF h fun a w h => ?_
   refine h.spl (fun c12 h => ?_) (fun c12 h => ?_)
   ·refine mv h fun a w h => ?_
    refine sk h (k := fun a w h => ?_)
    refine sk h (k := fun a w h => ?_)
    refine sk h (k := fun a w h => ?_)
    refine sk h (k := fun a w h => ?_)
    refine pkT h fun a w h => ?_
    refine as_ h fun a w h => ?_
    refine nlt ?_
    refine ret_ ?_
    refine fin1 2 1 h LE.rfl ?_
    exact ⟨by first | (simp only [Df.wrong, c6, c12]; done) | (simp only [Df.wrong, c6, c12]; rfl), rfl, rfl⟩
   ·refine mv h fun a w h => ?_
    refine fa fl68_1 (r := 1) h fun a w h => ?_
    refine fa fl24_0 (r := 1) h fun a w h => ?_
    refine ld 0 t1_3 h fun a w h => ?_
    refine nei h fun a w h => ?_
    refine pkF h fun a w h => ?_
    refine as_ h fun a w h => ?_
    refine nlt ?_
    refine ret_ ?_
    refine fin1 2 1 h LE.rfl ?_
    exact ⟨by first | (simp only [Df.wrong, c6, c12]; done) | (simp only [Df.wrong, c6, c12]; rfl), rfl, rfl⟩
theorem fits_ok (p : Pg) (v : Value) (E : World) (H : GH) (L : List It) (hv : VP H v p) (hL : Laid H) (hb : Mild p) : Ok Tryz.prog 73 #[v] E H L fun r H' L' => r = .bool p.fits ∧ H = H' ∧ L = L' := by
  obtain ⟨A1, c1, A2, c2, A3, c3, A4, c4, rfl, hi, hc, hd, hk⟩ := hv
  have b1 := hb.li
  have b2 := hb.lc
  have b3 := hb.lf
  refine enter (N := 39) [(0, _)] Tryz.func73 rfl rfl rfl rfl fun a w h => ?_
  refine sqr ?_
  refine bxA h fun g1 a w h => ?_
  refine as_ h fun a w h => ?_
  refine nsr ?_
  refine as_ h fun a w h => ?_
  refine nlt ?_
  refine sq ?_
  refine sqr ?_
  refine fa fl28_0 (r := 0) h fun a w h => ?_
  refine ld 0 t1_25 h fun a w h => ?_
  refine cl bod87 (ContainsFunc_Dc_ok p.inputs A1 c1 (Dc.wrong) 88 #[] E H _ hi (by omega) bod88 (fun j hj v hv => Dwrong_ok _ v E H _ hv hL (hb.i _ (List.getElem_mem hj)).1 (hb.i _ (List.getElem_mem hj)).2)) h fun r6 H6 L6 a w le6 R h => ?_
  obtain ⟨rfl, rfl, rfl⟩ := R
  refine h.spl (fun c6 h => ?_) (fun c6 h => ?_)
  ·refine mv h fun a w h => ?_
   refine sk h (k := fun a w h => ?_)
   refine sk h (k := fun a w h => ?_)
   refine sk h (k := fun a w h => ?_)
   refine sk h (k := fun a w h => ?_)
   refine pkT h fun a w h => ?_
   refine mv h fun a w h => ?_
   refine sk h (k := fun a w h => ?_)
   refine sk h (k := fun a w h => ?_)
   refine sk h (k := fun a w h => ?_)
   refine pkT h fun a w h => ?_
   refine mv h fun a w h => ?_
   refine sk h (k := fun a w h => ?_)
   refine sk h (k := fun a w h => ?_)
   refine sk h (k := fun a w h => ?_)
   refine pkT h fun a w h => ?_
   refine nlt ?_
   refine cdT h ?_
   refine sqr ?_
   refine as_ h fun a w h => ?_
   refine nlt ?_
   refine ret_ ?_
   refine thR ?_
   refine fin1 2 1 h LE.rfl ?_
   exact ⟨by first | (simp only [Pg.fits, Pg.bad, c6]; done) | (simp only [Pg.fits, Pg.bad, c6]; rfl), rfl, rfl⟩
  ·refine mv h fun a w h => ?_
   refine fa fl28_0 (r := 0) h fun a w h => ?_
   refine ld 0 t1_25 h fun a w h => ?_
   refine mv h fun a w h => ?_
   refine cl bod87 (ContainsFunc_Dc_ok p.inputs A1 c1 (fun d => d.n != 0) 86 #[] E H _ hi (by omega) bod86 (fun j hj v hv => set_ok _ v E H _ hv)) h fun r11 H11 L11 a w le11 R h => ?_
   obtain ⟨rfl, rfl, rfl⟩ := R
   refine pkF h fun a w h => ?_
   refine h.spl (fun c12 h => ?_) (fun c12 h => ?_)
   ·refine mv h fun a w h => ?_
    refine sk h (k := fun a w h => ?_)
    refine sk h (k := fun a w h => ?_)
    refine sk h (k := fun a w h => ?_)
    refine pkT h fun a w h => ?_
    refine mv h fun a w h => ?_
    refine sk h (k := fun a w h => ?_)
    refine sk h (k := fun a w h => ?_)
    refine sk h (k := fun a w h => ?_)
    refine pkT h fun a w h => ?_
    refine nlt ?_
    refine cdT h ?_
    refine sqr ?_
    refine as_ h fun a w h => ?_
    refine nlt ?_
    refine ret_ ?_
    refine thR ?_
    refine fin1 2 1 h LE.rfl ?_
    exact ⟨by first | (simp only [Pg.fits, Pg.bad, c6, c12]; done) | (simp only [Pg.fits, Pg.bad, c6, c12]; rfl), rfl, rfl⟩
   ·refine mv h fun a w h => ?_
    refine fa fl28_1 (r := 1) h fun a w h => ?_
    refine ld 0 t1_25 h fun a w h => ?_
    refine cl bod87 (ContainsFunc_Dc_ok p.cells A2 c2 (Dc.wrong) 88 #[] E H _ hc (by omega) bod88 (fun j hj v hv => Dwrong_ok _ v E H _ hv hL (hb.c _ (List.getElem_mem hj)).1 (hb.c _ (List.getElem_mem hj)).2)) h fun r16 H16 L16 a w le16 R h => ?_
    obtain ⟨rfl, rfl, rfl⟩ := R
    refine pkF h fun a w h => ?_
    refine h.spl (fun c17 h => ?_) (fun c17 h => ?_)
    ·refine mv h fun a w h => ?_
     refine sk h (k := fun a w h => ?_)
     refine sk h (k := fun a w h => ?_)
     refine sk h (k := fun a w h => ?_)
     refine pkT h fun a w h => ?_
     refine nlt ?_
     refine cdT h ?_
     refine sqr ?_
     refine as_ h fun a w h => ?_
     refine nlt ?_
     refine ret_ ?_
     refine thR ?_
     refine fin1 2 1 h LE.rfl ?_
     exact ⟨by first | (simp only [Pg.fits, Pg.bad, c6, c12, c17]; done) | (simp only [Pg.fits, Pg.bad, c6, c12, c17]; rfl), rfl, rfl⟩
    ·refine mv h fun a w h => ?_
     refine fa fl28_2 (r := 2) h fun a w h => ?_
     refine ld 0 t1_26 h fun a w h => ?_
     refine cl bod89 (ContainsFunc_Df_ok p.defs A3 c3 (Df.wrong) 90 #[] E H _ hd (by omega) bod90 (fun j hj v hv => Fwrong_ok _ v E H _ hv hL (hb.f _ (List.getElem_mem hj)).1 (hb.f _ (List.getElem_mem hj)).2.1 (hb.f _ (List.getElem_mem hj)).2.2)) h fun r21 H21 L21 a w le21 R h => ?_
     obtain ⟨rfl, rfl, rfl⟩ := R
     refine pkF h fun a w h => ?_
     refine nlt ?_
     refine cdB h (fun c22 => ?_) (fun c22 => ?_)
     ·refine sqr ?_
      refine as_ h fun a w h => ?_
      refine nlt ?_
      refine ret_ ?_
      refine thR ?_
      refine fin1 2 1 h LE.rfl ?_
      exact ⟨by first | (simp only [Pg.fits, Pg.bad, c6, c12, c17, c22]; done) | (simp only [Pg.fits, Pg.bad, c6, c12, c17, c22]; rfl), rfl, rfl⟩
     ·refine skt ?_
      refine sqr ?_
      refine fa fl28_0 (r := 0) h fun a w h => ?_
      refine ld 0 t1_25 h fun a w h => ?_
      refine ln sli25 h fun a w h => ?_
      refine fa fl28_1 (r := 1) h fun a w h => ?_
      refine ld 0 t1_25 h fun a w h => ?_
      refine ln sli25 h fun a w h => ?_
      refine fa fl28_2 (r := 2) h fun a w h => ?_
      refine ld 0 t1_26 h fun a w h => ?_
      refine ln sli26 h fun a w h => ?_
      refine mxl h fun a w h => ?_
      refine le h fun a w h => ?_
      refine h.spl (fun c33 h => ?_) (fun c33 h => ?_)
      ·refine mv h fun a w h => ?_
       refine fa fl28_3 (r := 3) h fun a w h => ?_
       refine ldN 0 tN24 h fun a w h => ?_
       refine cl bod91 (Right_ok p.body _ E H _ ⟨A4, c4, rfl, hk⟩ hL (hb.b1) (hb.b2)) h fun r37 H37 L37 a w le37 R h => ?_
       obtain ⟨rfl, rfl, rfl⟩ := R
       refine pkT h fun a w h => ?_
       refine as_ h fun a w h => ?_
       refine nlt ?_
       refine ret_ ?_
       refine fin1 2 1 h LE.rfl ?_
       exact ⟨by first | (simp only [Pg.fits, Pg.bad, c6, c12, c17, c22, c33]; done) | (simp only [Pg.fits, Pg.bad, c6, c12, c17, c22, c33]; rfl), rfl, rfl⟩
      ·refine mv h fun a w h => ?_
       refine sk h (k := fun a w h => ?_)
       refine sk h (k := fun a w h => ?_)
       refine sk h (k := fun a w h => ?_)
       refine pkF h fun a w h => ?_
       refine as_ h fun a w h => ?_
       refine nlt ?_
       refine ret_ ?_
       refine fin1 2 1 h LE.rfl ?_
       exact ⟨by first | (simp only [Pg.fits, Pg.bad, c6, c12, c17, c22, c33]; done) | (simp only [Pg.fits, Pg.bad, c6, c12, c17, c22, c33]; rfl), rfl, rfl⟩
end Go.Proofs.YtindlieilabgfaaGreatDoor
/-
  DERIVED: THE SHELF's CONTRACTS AT THIS DUMP, IN PLAIN WORDS (tools/lay-plain.mjs out of 'TryzShelf.lean', which tools/lay-shelf.mjs wrote): THE SAME DECLARATIONS UNDER THE SAME NAMES: 'import', 'namespace', 'open', 'def', 'theorem' AND NOTHING ELSE: no command of the shelf's: FOR A HAND-IN. Each laying: the table of numbers ('.._ren') and one theorem, a field a fact of the dump's own or the kernel's comparison; each contract: ONE APPLICATION.
-/
namespace Go.Proofs
open Go.Shelf
open Go.RowKit in
open Go.RowKit in
open Go.RowKit in
open Go.RowKit in
open Go.RowKit in
def Tryz.lays156_ren : Go.Shelf.Ren := ⟨fun | 156 => 121 | 165 => 147 | 166 => 148 | 169 => 149 | 240 => 157 | 241 => 158 | 276 => 160 | 277 => 161 | n => n, fun | 31 => 58 | 9 => 9 | 3 => 3 | 4 => 4 | 0 => 0 | 20 => 20 | 72 => 197 | 76 => 201 | 70 => 195 | 37 => 29 | 75 => 200 | 127 => 212 | 164 => 215 | 5 => 5 | 80 => 203 | n => n, fun | n => n⟩
theorem Tryz.lays156 : Go.Proofs.Lays.n156 Tryz.prog Tryz.lays156_ren := {
  mixed := by kernel_rfl
  f156 := Tryz.func121.trans (congrArg some (by kernel_rfl))
  f165 := Tryz.func147.trans (congrArg some (by kernel_rfl))
  f166 := Tryz.func148.trans (congrArg some (by kernel_rfl))
  f169 := Tryz.func149.trans (congrArg some (by kernel_rfl))
  f240 := Tryz.func157.trans (congrArg some (by kernel_rfl))
  f241 := Tryz.func158.trans (congrArg some (by kernel_rfl))
  f276 := Tryz.func160.trans (congrArg some (by kernel_rfl))
  f277 := Tryz.func161.trans (congrArg some (by kernel_rfl))
  t0 := Tryz.underlying0
  a0 := Tryz.isAgg0
  z0 := Tryz.sizeOf0
  v0 := Tryz.zeroValue0
  t3 := Tryz.underlying3
  a3 := Tryz.isAgg3
  z3 := Tryz.sizeOf3
  v3 := Tryz.zeroValue3
  t4 := Tryz.underlying4
  a4 := Tryz.isAgg4
  z4 := Tryz.sizeOf4
  v4 := Tryz.zeroValue4
  t9 := Tryz.underlying9
  a9 := Tryz.isAgg9
  z9 := Tryz.sizeOf9
  v9 := Tryz.zeroValue9
  t20 := Tryz.underlying20
  a20 := Tryz.isAgg20
  z20 := Tryz.sizeOf20
  v20 := Tryz.zeroValue20
  t31 := Tryz.underlying58
  a31 := Tryz.isAgg58
  z31 := Tryz.sizeOf58
  v31 := Tryz.zeroValue58
  t37 := Tryz.underlying29
  a37 := Tryz.isAgg29
  z37 := Tryz.sizeOf29
  v37 := Tryz.zeroValue29
  t70 := Tryz.underlying195
  a70 := Tryz.isAgg195
  z70 := Tryz.sizeOf195
  v70 := Tryz.zeroValue195
  t72 := Tryz.underlying197
  a72 := Tryz.isAgg197
  z72 := Tryz.sizeOf197
  v72 := Tryz.zeroValue197
  t75 := Tryz.underlying200
  a75 := Tryz.isAgg200
  z75 := Tryz.sizeOf200
  v75 := Tryz.zeroValue200
  t76 := Tryz.underlying201
  a76 := Tryz.isAgg201
  z76 := Tryz.sizeOf201
  v76 := Tryz.zeroValue201
  t127 := Tryz.underlying212
  a127 := Tryz.isAgg212
  z127 := Tryz.sizeOf212
  v127 := Tryz.zeroValue212
  t164 := Tryz.underlying215
  a164 := Tryz.isAgg215
  z164 := Tryz.sizeOf215
  v164 := Tryz.zeroValue215 }
theorem Tryz.Builder_Extra_156 : Builder.Extra Tryz.prog Tryz.lays156_ren := {
  sizeBuilder := by kernel_rfl
  liesBuilder := by kernel_rfl
  t5 := Tryz.underlying5
  a5 := Tryz.isAgg5
  z5 := Tryz.sizeOf5
  v5 := Tryz.zeroValue5
  infoByte := by kernel_rfl
  cellsByte := by kernel_rfl
  sizeByte := by kernel_rfl
  neB5 := by decide }
open Go.RowKit in
/-- No element: the empty string; the world is as it was. (Whatever the slice's address and capacity: a nil slice too.) (LAID: no walk: one application.) -/
theorem Tryz.strings_Join_none (a : Option Addr) (c : Nat) (sep : ByteArray) (w : World) :
    Calls Tryz.prog 121 #[.slice a 0 c, .string sep] w fun e w' => e = .returned (.string ⟨#[]⟩) ∧ w' = w := Any.strings_Join_none Tryz.lays156 Tryz.Builder_Extra_156 a c sep w
open Go.RowKit in
/-- strings.Join: "Join concatenates the elements of its first argument to create a single string. The separator string sep is placed between elements in the resulting string.": HOWEVER MANY ELEMENTS. Below the heap's end the world is as it was. (LAID: no walk: one application.) -/
theorem Tryz.strings_Join (bk o c : Nat) (xs : List ByteArray) (sep : ByteArray) (w : World) (hcells : ∀ (j : Nat) x, xs[j]? = some x → w.cell? ⟨bk, o + j, none⟩ = some (.string x)) (hbk : bk < w.heap.size) (hN : xs.length ≤ 140737488355328) (hcap : xs.length ≤ c) (hlen : (Lib.join (xs.map (·.data.toList)) sep.data.toList).length ≤ 140737488355328) :
    Calls Tryz.prog 121 #[.slice (some ⟨bk, o, none⟩) xs.length c, .string sep] w fun e w' => e = .returned (.string ⟨(Lib.join (xs.map (·.data.toList)) sep.data.toList).toArray⟩) ∧ Below w.heap.size w w' := Any.strings_Join Tryz.lays156 Tryz.Builder_Extra_156 bk o c xs sep w hcells hbk hN hcap hlen
open Go.RowKit in
open Go.RowKit in
open Go.RowKit in
open Go.RowKit in
open Go.RowKit in
open Go.RowKit in
open Go.RowKit in
open Go.RowKit in
open Go.Lib in
open Go.Lib in
open Go.Lib in
open Go.Lib in
open Go.RowKit Go.Sort Go.Lib in
open Go.RowKit Go.Sort Go.Lib in
open Go.RowKit Go.Sort Go.Lib in
open Go.RowKit Go.Sort Go.Lib in
open Go.RowKit Go.Sort Go.Lib in
def Tryz.laysM171_ren : Go.Shelf.Ren := ⟨fun | 171 => 61 | 243 => 76 | 246 => 92 | 283 => 117 | 284 => 118 | 285 => 119 | 286 => 120 | 129 => 110 | 317 => 143 | 318 => 144 | 319 => 145 | 320 => 146 | 337 => 155 | 338 => 156 | n => n, fun | 3 => 3 | 9 => 9 | 2 => 2 | 4 => 4 | 171 => 162 | 0 => 0 | 53 => 128 | 37 => 29 | 5 => 5 | 173 => 164 | 212 => 192 | 51 => 157 | 20 => 20 | 213 => 193 | 46 => 136 | 232 => 213 | 233 => 214 | n => n, fun | 17 => 2 | 18 => 4 | 19 => 5 | n => n⟩
theorem Tryz.laysM171 : Go.Proofs.LaysM.n171 Tryz.prog Tryz.laysM171_ren := {
  mixed := by kernel_rfl
  f129 := Tryz.func110.trans (congrArg some (by kernel_rfl))
  f171 := Tryz.func61.trans (congrArg some (by kernel_rfl))
  f243 := Tryz.func76.trans (congrArg some (by kernel_rfl))
  f246 := Tryz.func92.trans (congrArg some (by kernel_rfl))
  f283 := Tryz.func117.trans (congrArg some (by kernel_rfl))
  f284 := Tryz.func118.trans (congrArg some (by kernel_rfl))
  f285 := Tryz.func119.trans (congrArg some (by kernel_rfl))
  f286 := Tryz.func120.trans (congrArg some (by kernel_rfl))
  f317 := Tryz.func143.trans (congrArg some (by kernel_rfl))
  f318 := Tryz.func144.trans (congrArg some (by kernel_rfl))
  f319 := Tryz.func145.trans (congrArg some (by kernel_rfl))
  f320 := Tryz.func146.trans (congrArg some (by kernel_rfl))
  f337 := Tryz.func155.trans (congrArg some (by kernel_rfl))
  f338 := Tryz.func156.trans (congrArg some (by kernel_rfl))
  t0 := Tryz.underlying0
  a0 := Tryz.isAgg0
  z0 := Tryz.sizeOf0
  v0 := Tryz.zeroValue0
  t2 := Tryz.underlying2
  a2 := Tryz.isAgg2
  z2 := Tryz.sizeOf2
  v2 := Tryz.zeroValue2
  t3 := Tryz.underlying3
  a3 := Tryz.isAgg3
  z3 := Tryz.sizeOf3
  v3 := Tryz.zeroValue3
  t4 := Tryz.underlying4
  a4 := Tryz.isAgg4
  z4 := Tryz.sizeOf4
  v4 := Tryz.zeroValue4
  t5 := Tryz.underlying5
  a5 := Tryz.isAgg5
  z5 := Tryz.sizeOf5
  v5 := Tryz.zeroValue5
  t9 := Tryz.underlying9
  a9 := Tryz.isAgg9
  z9 := Tryz.sizeOf9
  v9 := Tryz.zeroValue9
  t20 := Tryz.underlying20
  a20 := Tryz.isAgg20
  z20 := Tryz.sizeOf20
  v20 := Tryz.zeroValue20
  t37 := Tryz.underlying29
  a37 := Tryz.isAgg29
  z37 := Tryz.sizeOf29
  v37 := Tryz.zeroValue29
  t46 := Tryz.underlying136
  a46 := Tryz.isAgg136
  z46 := Tryz.sizeOf136
  v46 := Tryz.zeroValue136
  t51 := Tryz.underlying157
  a51 := Tryz.isAgg157
  z51 := Tryz.sizeOf157
  v51 := Tryz.zeroValue157
  t53 := Tryz.underlying128
  a53 := Tryz.isAgg128
  z53 := Tryz.sizeOf128
  v53 := Tryz.zeroValue128
  t171 := Tryz.underlying162
  a171 := Tryz.isAgg162
  z171 := Tryz.sizeOf162
  v171 := Tryz.zeroValue162
  t173 := Tryz.underlying164
  a173 := Tryz.isAgg164
  z173 := Tryz.sizeOf164
  v173 := Tryz.zeroValue164
  t212 := Tryz.underlying192
  a212 := Tryz.isAgg192
  z212 := Tryz.sizeOf192
  v212 := Tryz.zeroValue192
  t213 := Tryz.underlying193
  a213 := Tryz.isAgg193
  z213 := Tryz.sizeOf193
  t232 := Tryz.underlying213
  a232 := Tryz.isAgg213
  z232 := Tryz.sizeOf213
  v232 := Tryz.zeroValue213
  t233 := Tryz.underlying214
  a233 := Tryz.isAgg214
  z233 := Tryz.sizeOf214
  v233 := Tryz.zeroValue214
  g17 := by kernel_rfl
  g18 := by kernel_rfl
  g19 := by kernel_rfl
  i0 := by kernel_rfl
  i2 := by kernel_rfl
  i3 := by kernel_rfl
  i4 := by kernel_rfl
  i5 := by kernel_rfl
  i9 := by kernel_rfl
  i20 := by kernel_rfl
  i37 := by kernel_rfl
  i46 := by kernel_rfl
  i51 := by kernel_rfl
  i53 := by kernel_rfl
  i171 := by kernel_rfl
  i173 := by kernel_rfl
  i212 := by kernel_rfl
  i232 := by kernel_rfl
  i233 := by kernel_rfl
  m17 := by kernel_rfl
  m18 := by kernel_rfl
  m19 := by kernel_rfl }
open Go.RowKit Go.Sort Go.Lib in
/-- strconv.Itoa: "Itoa is equivalent to FormatInt(int64(i), 10).": i's DECIMAL NUMERAL ('Lib.itoa': a '-' where i is negative, then the digits), FOR EVERY int. The world behind the call: the world before it, new blocks behind the heap (the library's 'var a [24]byte'), draws. (LAID: no walk: one application.) -/
theorem Tryz.strconv_Itoa (n : Int) (h0 : -9223372036854775808 ≤ n) (h1 : n ≤ 9223372036854775807) (w : World) (htab : Lib.TabIs Tryz.prog w "internal/strconv.uint64pow10" .u64 Lib.pow10Tab) :
    Calls Tryz.prog 61 #[.int .i64 n] w fun e w' => e = .returned (.string ⟨(Lib.itoa n).toArray⟩) ∧ ∃ k os, w' = grow (w.drewN k) os := Any.strconv_Itoa Tryz.laysM171 n h0 h1 w htab
open Go.RowKit Go.Sort Go.Lib in
def Tryz.laysM173_ren : Go.Shelf.Ren := ⟨fun | 173 => 74 | 246 => 92 | 283 => 117 | 284 => 118 | 285 => 119 | 286 => 120 | 129 => 110 | 317 => 143 | 318 => 144 | 319 => 145 | 320 => 146 | 337 => 155 | 338 => 156 | n => n, fun | 2 => 2 | 3 => 3 | 9 => 9 | 4 => 4 | 171 => 162 | 0 => 0 | 53 => 128 | 37 => 29 | 5 => 5 | 173 => 164 | 212 => 192 | 51 => 157 | 20 => 20 | 213 => 193 | 46 => 136 | 232 => 213 | 233 => 214 | n => n, fun | 17 => 2 | 18 => 4 | 19 => 5 | n => n⟩
theorem Tryz.laysM173 : Go.Proofs.LaysM.n173 Tryz.prog Tryz.laysM173_ren := {
  mixed := by kernel_rfl
  f129 := Tryz.func110.trans (congrArg some (by kernel_rfl))
  f173 := Tryz.func74.trans (congrArg some (by kernel_rfl))
  f246 := Tryz.func92.trans (congrArg some (by kernel_rfl))
  f283 := Tryz.func117.trans (congrArg some (by kernel_rfl))
  f284 := Tryz.func118.trans (congrArg some (by kernel_rfl))
  f285 := Tryz.func119.trans (congrArg some (by kernel_rfl))
  f286 := Tryz.func120.trans (congrArg some (by kernel_rfl))
  f317 := Tryz.func143.trans (congrArg some (by kernel_rfl))
  f318 := Tryz.func144.trans (congrArg some (by kernel_rfl))
  f319 := Tryz.func145.trans (congrArg some (by kernel_rfl))
  f320 := Tryz.func146.trans (congrArg some (by kernel_rfl))
  f337 := Tryz.func155.trans (congrArg some (by kernel_rfl))
  f338 := Tryz.func156.trans (congrArg some (by kernel_rfl))
  t0 := Tryz.underlying0
  a0 := Tryz.isAgg0
  z0 := Tryz.sizeOf0
  v0 := Tryz.zeroValue0
  t2 := Tryz.underlying2
  a2 := Tryz.isAgg2
  z2 := Tryz.sizeOf2
  v2 := Tryz.zeroValue2
  t3 := Tryz.underlying3
  a3 := Tryz.isAgg3
  z3 := Tryz.sizeOf3
  v3 := Tryz.zeroValue3
  t4 := Tryz.underlying4
  a4 := Tryz.isAgg4
  z4 := Tryz.sizeOf4
  v4 := Tryz.zeroValue4
  t5 := Tryz.underlying5
  a5 := Tryz.isAgg5
  z5 := Tryz.sizeOf5
  v5 := Tryz.zeroValue5
  t9 := Tryz.underlying9
  a9 := Tryz.isAgg9
  z9 := Tryz.sizeOf9
  v9 := Tryz.zeroValue9
  t20 := Tryz.underlying20
  a20 := Tryz.isAgg20
  z20 := Tryz.sizeOf20
  v20 := Tryz.zeroValue20
  t37 := Tryz.underlying29
  a37 := Tryz.isAgg29
  z37 := Tryz.sizeOf29
  v37 := Tryz.zeroValue29
  t46 := Tryz.underlying136
  a46 := Tryz.isAgg136
  z46 := Tryz.sizeOf136
  v46 := Tryz.zeroValue136
  t51 := Tryz.underlying157
  a51 := Tryz.isAgg157
  z51 := Tryz.sizeOf157
  v51 := Tryz.zeroValue157
  t53 := Tryz.underlying128
  a53 := Tryz.isAgg128
  z53 := Tryz.sizeOf128
  v53 := Tryz.zeroValue128
  t171 := Tryz.underlying162
  a171 := Tryz.isAgg162
  z171 := Tryz.sizeOf162
  v171 := Tryz.zeroValue162
  t173 := Tryz.underlying164
  a173 := Tryz.isAgg164
  z173 := Tryz.sizeOf164
  v173 := Tryz.zeroValue164
  t212 := Tryz.underlying192
  a212 := Tryz.isAgg192
  z212 := Tryz.sizeOf192
  v212 := Tryz.zeroValue192
  t213 := Tryz.underlying193
  a213 := Tryz.isAgg193
  z213 := Tryz.sizeOf193
  t232 := Tryz.underlying213
  a232 := Tryz.isAgg213
  z232 := Tryz.sizeOf213
  v232 := Tryz.zeroValue213
  t233 := Tryz.underlying214
  a233 := Tryz.isAgg214
  z233 := Tryz.sizeOf214
  v233 := Tryz.zeroValue214
  g17 := by kernel_rfl
  g18 := by kernel_rfl
  g19 := by kernel_rfl
  i0 := by kernel_rfl
  i2 := by kernel_rfl
  i3 := by kernel_rfl
  i4 := by kernel_rfl
  i5 := by kernel_rfl
  i9 := by kernel_rfl
  i20 := by kernel_rfl
  i37 := by kernel_rfl
  i46 := by kernel_rfl
  i51 := by kernel_rfl
  i53 := by kernel_rfl
  i171 := by kernel_rfl
  i173 := by kernel_rfl
  i212 := by kernel_rfl
  i232 := by kernel_rfl
  i233 := by kernel_rfl
  m17 := by kernel_rfl
  m18 := by kernel_rfl
  m19 := by kernel_rfl }
open Go.RowKit Go.Sort Go.Lib in
/-- strconv.FormatInt: "FormatInt returns the string representation of i in the given base": AT BASE 10: i's decimal numeral, for every int64. (LAID: no walk: one application.) -/
theorem Tryz.strconv_FormatInt_10 (n : Int) (h0 : -9223372036854775808 ≤ n) (h1 : n ≤ 9223372036854775807) (w : World) (htab : Lib.TabIs Tryz.prog w "internal/strconv.uint64pow10" .u64 Lib.pow10Tab) :
    Calls Tryz.prog 74 #[.int .i64 n, .int .i64 10] w fun e w' => e = .returned (.string ⟨(Lib.itoa n).toArray⟩) ∧ ∃ k os, w' = grow (w.drewN k) os := Any.strconv_FormatInt_10 Tryz.laysM173 n h0 h1 w htab
open Go.RowKit Go.Sort Go.Lib in
def Tryz.lays190_ren : Go.Shelf.Ren := ⟨fun | 190 => 71 | 125 => 85 | 258 => 84 | 128 => 109 | 129 => 110 | 302 => 100 | 303 => 101 | 304 => 102 | 305 => 103 | 306 => 104 | 307 => 105 | 308 => 106 | 309 => 107 | 310 => 108 | 333 => 134 | 329 => 135 | 330 => 136 | 334 => 137 | 335 => 138 | 336 => 139 | 344 => 153 | n => n, fun | 31 => 58 | 9 => 9 | 3 => 3 | 46 => 136 | 0 => 0 | 51 => 157 | 53 => 128 | 4 => 4 | 183 => 149 | 182 => 148 | 131 => 154 | 5 => 5 | 218 => 181 | 222 => 185 | 228 => 207 | 229 => 208 | n => n, fun | n => n⟩
theorem Tryz.lays190 : Go.Proofs.Lays.n190 Tryz.prog Tryz.lays190_ren := {
  mixed := by kernel_rfl
  f125 := Tryz.func85.trans (congrArg some (by kernel_rfl))
  f128 := Tryz.func109.trans (congrArg some (by kernel_rfl))
  f129 := Tryz.func110.trans (congrArg some (by kernel_rfl))
  f190 := Tryz.func71.trans (congrArg some (by kernel_rfl))
  f258 := Tryz.func84.trans (congrArg some (by kernel_rfl))
  f302 := Tryz.func100.trans (congrArg some (by kernel_rfl))
  f303 := Tryz.func101.trans (congrArg some (by kernel_rfl))
  f304 := Tryz.func102.trans (congrArg some (by kernel_rfl))
  f305 := Tryz.func103.trans (congrArg some (by kernel_rfl))
  f306 := Tryz.func104.trans (congrArg some (by kernel_rfl))
  f307 := Tryz.func105.trans (congrArg some (by kernel_rfl))
  f308 := Tryz.func106.trans (congrArg some (by kernel_rfl))
  f309 := Tryz.func107.trans (congrArg some (by kernel_rfl))
  f310 := Tryz.func108.trans (congrArg some (by kernel_rfl))
  f329 := Tryz.func135.trans (congrArg some (by kernel_rfl))
  f330 := Tryz.func136.trans (congrArg some (by kernel_rfl))
  f333 := Tryz.func134.trans (congrArg some (by kernel_rfl))
  f334 := Tryz.func137.trans (congrArg some (by kernel_rfl))
  f335 := Tryz.func138.trans (congrArg some (by kernel_rfl))
  f336 := Tryz.func139.trans (congrArg some (by kernel_rfl))
  f344 := Tryz.func153.trans (congrArg some (by kernel_rfl))
  t0 := Tryz.underlying0
  a0 := Tryz.isAgg0
  z0 := Tryz.sizeOf0
  v0 := Tryz.zeroValue0
  t3 := Tryz.underlying3
  a3 := Tryz.isAgg3
  z3 := Tryz.sizeOf3
  v3 := Tryz.zeroValue3
  t4 := Tryz.underlying4
  a4 := Tryz.isAgg4
  z4 := Tryz.sizeOf4
  v4 := Tryz.zeroValue4
  t5 := Tryz.underlying5
  a5 := Tryz.isAgg5
  z5 := Tryz.sizeOf5
  v5 := Tryz.zeroValue5
  t9 := Tryz.underlying9
  a9 := Tryz.isAgg9
  z9 := Tryz.sizeOf9
  v9 := Tryz.zeroValue9
  t31 := Tryz.underlying58
  a31 := Tryz.isAgg58
  z31 := Tryz.sizeOf58
  v31 := Tryz.zeroValue58
  t46 := Tryz.underlying136
  a46 := Tryz.isAgg136
  z46 := Tryz.sizeOf136
  v46 := Tryz.zeroValue136
  t51 := Tryz.underlying157
  a51 := Tryz.isAgg157
  z51 := Tryz.sizeOf157
  v51 := Tryz.zeroValue157
  t53 := Tryz.underlying128
  a53 := Tryz.isAgg128
  z53 := Tryz.sizeOf128
  v53 := Tryz.zeroValue128
  t131 := Tryz.underlying154
  a131 := Tryz.isAgg154
  z131 := Tryz.sizeOf154
  v131 := Tryz.zeroValue154
  t182 := Tryz.underlying148
  a182 := Tryz.isAgg148
  z182 := Tryz.sizeOf148
  v182 := Tryz.zeroValue148
  t183 := Tryz.underlying149
  a183 := Tryz.isAgg149
  z183 := Tryz.sizeOf149
  v183 := Tryz.zeroValue149
  t218 := Tryz.underlying181
  a218 := Tryz.isAgg181
  z218 := Tryz.sizeOf181
  v218 := Tryz.zeroValue181
  t222 := Tryz.underlying185
  a222 := Tryz.isAgg185
  z222 := Tryz.sizeOf185
  v222 := Tryz.zeroValue185
  t228 := Tryz.underlying207
  a228 := Tryz.isAgg207
  z228 := Tryz.sizeOf207
  v228 := Tryz.zeroValue207
  t229 := Tryz.underlying208
  a229 := Tryz.isAgg208
  z229 := Tryz.sizeOf208
  v229 := Tryz.zeroValue208 }
open Go.Sort Go.RowKit in
theorem Tryz.slices_Sort_string (blk off cap : Nat) (ss : List (List UInt8)) (w : World) (hH : Holds encStr w blk off ss.toArray) (hblk : blk < w.heap.size) (hsz : ss.length < 4611686018427387904) :
    Calls Tryz.prog 71 #[.slice (some ⟨blk, off, none⟩) ss.length cap] w fun e w' =>
      e = .returned (.tuple #[]) ∧ ∃ n os, w' = grow (putRow encStr (Sort.ahead w n) blk off (ss.mergeSort fun x y => decide (x ≤ y)).toArray) os := Any.slices_Sort_string Tryz.lays190 blk off cap ss w hH hblk hsz
open Go.Lib in
open Go.Lib in
open Go.Lib in
open Go.Lib in
open Go.RowKit Go.Sort in
/-- .. and plain. (LAID: no walk: one application.) -/
theorem Tryz.slices_Sort_string_none (p : Option Addr) (cap : Nat) (w : World) :
    Calls Tryz.prog 71 #[.slice p 0 cap] w fun e w' => e = .returned (.tuple #[]) ∧ w' = w := Any.slices_Sort_string_none Tryz.lays190 p cap w
end Go.Proofs
/- What the shelf says of texts of numbers, of texts put together. -/
set_option linter.unusedVariables false
set_option linter.unusedSimpArgs false
set_option linter.unusedSectionVars false
set_option autoImplicit false
set_option relaxedAutoImplicit false
set_option maxRecDepth 10000
namespace Go.Proofs.YtindlieilabgfaaGreatDoor
open Go X
theorem Itoa_ok (n : Int) (E : World) (H : GH) (L : List It) (hL : Laid H) (h0 : -9223372036854775808 ≤ n) (h1 : n ≤ 9223372036854775807) : Ok Tryz.prog 61 #[.int .i64 n] E H L fun r H' L' => r = str (Lib.itoa n) ∧ H = H' ∧ L = L' :=
  Ok.of_below fun w hw => (Tryz.strconv_Itoa n h0 h1 w (hL.pow w ⟨hw.fro, fun i hi => by cases hi⟩)).mono fun e w' ⟨h, k, os, hw'⟩ => ⟨h, by subst hw'; exact belowG _ _ _⟩
theorem FormatInt_ok (n : Int) (E : World) (H : GH) (L : List It) (hL : Laid H) (h0 : -9223372036854775808 ≤ n) (h1 : n ≤ 9223372036854775807) : Ok Tryz.prog 74 #[.int .i64 n, .int .i64 10] E H L fun r H' L' => r = str (Lib.itoa n) ∧ H = H' ∧ L = L' :=
  Ok.of_below fun w hw => (Tryz.strconv_FormatInt_10 n h0 h1 w (hL.pow w ⟨hw.fro, fun i hi => by cases hi⟩)).mono fun e w' ⟨h, k, os, hw'⟩ => ⟨h, by subst hw'; exact belowG _ _ _⟩
theorem Join_ok (ss : List Bs) (sep : Bs) (A : Option Addr) (c : Nat) (v : Value) (E : World) (H : GH) (L : List It) (hss : RS RStr 1 H v ss) (hb : ss.length < 1000000000000) (hlen : (Lib.join ss sep).length ≤ 140737488355328) : Ok Tryz.prog 121 #[v, str sep] E H L fun r H' L' => r = str (Lib.join ss sep) ∧ H = H' ∧ L = L' := by
  obtain ⟨A, c, rfl, hc, hat⟩ := hss
  cases ss with
  | nil => exact Ok.of_below fun w hw => (Tryz.strings_Join_none A c _ w).mono fun e w' ⟨h, hw'⟩ => ⟨h, by subst hw'; exact .refl _ _⟩
  | cons s0 ss =>
    obtain ⟨g, off, cs, rfl, hl, hr, hcell⟩ := hat 0 s0 rfl
    have hcells : ∀ w, St E H L w → ∀ (j : Nat) x, ((s0 :: ss).map fun s => (⟨s.toArray⟩ : ByteArray))[j]? = some x → w.cell? ⟨g, off + j, none⟩ = some (.string x) := by
      intro w hw j x hx
      rw [List.getElem?_map, Option.map_eq_some_iff] at hx
      obtain ⟨s, hs, rfl⟩ := hx
      obtain ⟨g', off', cs', e, hl', hr', hcell'⟩ := hat j s hs
      cases e
      unfold RStr at hr'; subst hr'
      have := (hcell' 0 _ rfl).cell hw.sees
      simpa using this
    have hmap : ((s0 :: ss).map fun s => (⟨s.toArray⟩ : ByteArray)).map (·.data.toList) = s0 :: ss := by rw [List.map_map]; exact List.map_id _
    have hgl : ∀ w, St E H L w → g < w.heap.size := fun w hw => by
      obtain ⟨c1, e1, z1, h1, _⟩ := hcell 0 (cs[0]'(by rw [hl]; exact Nat.one_pos)) (List.getElem?_eq_getElem _)
      exact hw.size_le h1
    refine Ok.of_below fun w hw => ?_
    have := Tryz.strings_Join g off c ((s0 :: ss).map fun s => (⟨s.toArray⟩ : ByteArray)) ⟨sep.toArray⟩ w (hcells w hw) (hgl w hw) (by rw [List.length_map]; omega) (by rw [List.length_map]; exact hc) (by rw [hmap]; exact hlen)
    rw [hmap, List.length_map] at this
    exact this
end Go.Proofs.YtindlieilabgfaaGreatDoor
/- Walks: lex.Print. -/
set_option linter.unusedVariables false
set_option linter.unusedSimpArgs false
set_option linter.unusedSectionVars false
set_option autoImplicit false
set_option relaxedAutoImplicit false
set_option maxRecDepth 10000
namespace Go.Proofs.YtindlieilabgfaaGreatDoor
open Go X
abbrev TS (H : GH) (A : Option Addr) (c : Nat) (ks : List Tk) : Prop := RS RTk 3 H (.slice A ks.length c) ks
theorem TS.get {H : GH} {A : Option Addr} {c : Nat} {ks : List Tk} (h : TS H A c ks) {j : Nat} (hj : j < ks.length) :
    ∃ g off, A = some ⟨g, off, none⟩ ∧ ∀ i u, [Value.int .i64 ks[j].kind, str ks[j].text, .int .i64 ks[j].n][i]? = some u → Hc H g (off + j * 3 + i) u := by
  obtain ⟨g, off, cs, hA, hl, hr, hc⟩ := RS.at_ h (List.getElem?_eq_getElem hj)
  unfold RTk at hr; subst hr
  exact ⟨g, off, hA, hc⟩
theorem Print_ok (ks : List Tk) (v : Value) (E : World) (H : GH) (L : List It) (hks : RS RTk 3 H v ks) (hb : ks.length < 1000000000000) (hlen : (Lib.join (ks.map (·.text)) [32]).length ≤ 140737488355328) : Ok Tryz.prog 93 #[v] E H L fun r H' L' => r = str (showL ks) ∧ H = H' ∧ L = L' := by
  obtain ⟨A, c, rfl, hc⟩ := id hks
  refine enter (N := 20) [(0, _)] Tryz.func93 rfl rfl rfl rfl fun a w h => ?_
  refine sqr ?_
  refine as_ h fun a w h => ?_
  refine nsr ?_
  refine as_ h fun a w h => ?_
  refine nlt ?_
  refine sq ?_
  refine sqr ?_
  have h := h.row (e := 9) (sz := 1)
  refine mv h fun a w h => ?_
  refine ln sli141 h fun a w h => ?_
  refine mv h fun a w h => ?_
  refine nlt ?_
  refine blk ?_
  refine lp (β := Nat × Value × List Value) (fun x a w => match x with | (k, v, xs) => (k ≤ ks.length ∧ RowR RStr 1 H xs ((ks.take k).map (·.text))) ∧ S E H 20 [] [(8, .int .i64 (k : Int)), (7, .int .i64 (ks.length : Int)), (6, .slice A ks.length c), (3, v)] (.row v 9 1 k xs :: L) a w)
   (fun x => match x with | (k, v, xs) => ks.length - k) (0, .slice none 0 0, []) ⟨⟨Nat.zero_le _, RowR.nil⟩, h.to 0 _⟩ ?_
  rintro ⟨k, v, xs⟩ a w ⟨pre, h⟩
  refine sqr ?_
  refine lt h fun a w h => ?_
  refine nlt ?_
  refine sq ?_
  refine cdB h (fun c9 => ?_) (fun c9 => ?_)
  ·have c9 : k < ks.length := by simpa using c9
   obtain ⟨g, off, rfl, hcell⟩ := TS.get hks c9
   refine skt ?_
   refine sq ?_
   refine blk ?_
   refine sqr ?_
   refine ia sli141 sz167 rfl c9 h fun a w h => ?_
   refine ldHN tN167 rfl hcell h fun a w h => ?_
   refine al zr167 h fun g5 a w h => ?_
   refine sw0 tN167 h fun a w h => ?_
   refine nlt ?_
   refine rg0 ?_
   refine mv h fun a w h => ?_
   refine fa fl167_1 (r := 1) h fun a w h => ?_
   refine ld 0 t1_9 h fun a w h => ?_
   refine bsl bs58 h fun g15 a w h => ?_
   refine apb 2 0 (L' := fun i => _ :: _ :: i :: _) [str ks[k].text] row58 h ?_ ?_ fun v16 a w hone16 h => ?_
   ·have := pre.1; omega
   ·have := pre.1; omega
   have h := h.del 1
   have h := h.del 0
   refine as_ h fun a w h => ?_
   refine nl0 ?_
   refine ibN ?_
   refine thN ?_
   refine rg0 ?_
   refine inc ?_ h fun a w h => ?_
   ·omega
   refine mv h fun a w h => ?_
   refine nlt ?_
   exact ⟨(k + 1, v16, xs ++ [str ks[k].text]), ⟨⟨by omega, by rw [List.take_succ_eq_append_getElem c9, List.map_append]; exact pre.2.app (.one rfl rfl)⟩, h.to 0 _⟩, by show _ - (k + 1) < _ - k; omega⟩
  ·have hk : k = ks.length := by simp at c9; omega
   refine exit_ ?_
   refine thE ?_
   refine thE ?_
   refine ibH ?_
   refine thN ?_
   refine sqr ?_
   refine mv h fun a w h => ?_
   obtain ⟨H2, le2, h, hrs⟩ := h.frw 0 (n := k) (ys := ks.map (·.text)) (by rw [hk, List.take_length] at pre; exact pre.2) (by rw [List.length_map]; exact hk) (fun _ _ _ _ _ h => h)
   have l_H_H2 : LE H H2 := le2
   refine cl bod121 (Join_ok (ks.map (·.text)) [32] none 0 _ E H2 _ hrs (by rw [List.length_map]; omega) hlen) h fun r19 H19 L19 a w le19 R h => ?_
   obtain ⟨rfl, rfl, rfl⟩ := R
   refine as_ h fun a w h => ?_
   refine nlt ?_
   refine ret_ ?_
   refine fin1 2 0 (h.less l_H_H2) LE.rfl ?_
   exact ⟨rfl, rfl, rfl⟩
end Go.Proofs.YtindlieilabgfaaGreatDoor
/- Walks: show.laid and what is within. -/
set_option linter.unusedVariables false
set_option linter.unusedSimpArgs false
set_option linter.unusedSectionVars false
set_option autoImplicit false
set_option relaxedAutoImplicit false
set_option maxRecDepth 10000
namespace Go.Proofs.YtindlieilabgfaaGreatDoor
open Go X
/-- How parts lie. -/
def RPt (H : GH) (cs : List Value) : Pt → Prop
  | .word s => cs = [.iface 174 (str s)]
  | .mark s => cs = [.iface 175 (str s)]
  | .name s => cs = [.iface 172 (str s)]
  | .kid t => ∃ A c, cs = [.iface 170 (.agg #[.int .i64 t.kind, str t.name, .int .i64 t.n, .slice A t.kids.length c])] ∧ KS H A c t.kids
theorem rpt_up {H H' : GH} (hl : LE H H') {cs : List Value} {p : Pt} (h : RPt H cs p) : RPt H' cs p := by
  cases p with
  | kid t => obtain ⟨A, c, h1, h2⟩ := h; exact ⟨A, c, h1, h2.up hl⟩
  | _ => exact h
/-- The answer is a row of tokens of the call's own. -/
def RowTk (ks : List Tk) (L : List It) : Value → GH → List It → Prop := fun r H' L' => ∃ A c xs, r = .slice A ks.length c ∧ L' = .row (.slice A ks.length c) 167 3 ks.length xs :: L ∧ RowR RTk 3 H' xs ks
def WithinOk (t : Tm) : Prop := ∀ (v : Value) (E : World) (H : GH) (L : List It), VT H v t → Laid H → Ok Tryz.prog 150 #[v] E H L (RowTk t.within L)
def ToksOk (t : Tm) : Prop := ∀ (v : Value) (E : World) (H : GH) (L : List It), VT H v t → Laid H → Ok Tryz.prog 94 #[v] E H L (RowTk t.toks L)
theorem rtkR {H : GH} {xs : List Value} {ks : List Tk} {H' : GH} (h : RowR RTk 3 H xs ks) : RowR RTk 3 H' xs ks := h.mono fun _ _ _ h => h
theorem kid_ok (ks : List Tm) (i : Nat) (hi : i < ks.length) (A : Option Addr) (c g : Nat) (E : World) (H : GH) (L : List It) (hks : KS H A c ks) (hcap : Hc H g 3 (.slice A ks.length c)) :
    Ok Tryz.prog 122 #[.int .i64 (i : Int), .pointer (some ⟨g, 0, none⟩)] E H L fun r H' L' => ∃ A' c', r = .agg #[.int .i64 ks[i].kind, str ks[i].name, .int .i64 ks[i].n, .slice A' ks[i].kids.length c'] ∧ KS H A' c' ks[i].kids ∧ H = H' ∧ L = L' := by
  obtain ⟨g2, off, A2, c2, rfl, hvt, hcell⟩ := KS.get hks hi
  have hvt : KS H A2 c2 ks[i].kids := by obtain ⟨A3, c3, e, h3⟩ := hvt; cases e; exact h3
  refine enter (N := 10) [(0, _), (1, _)] Tryz.func122 rfl rfl rfl rfl fun a w h => ?_
  refine sqr ?_
  refine al zr170 h fun g3 a w h => ?_
  refine nsr ?_
  refine fa fl24_3 (r := 3) h fun a w h => ?_
  refine ldH t1_22 hcap h fun a w h => ?_
  refine mv h fun a w h => ?_
  refine ia sli22 sz24 rfl hi h fun a w h => ?_
  refine ldHN tN24 rfl hcell h fun a w h => ?_
  refine bdl lay170 zr170 h fun a w h => ?_
  refine sw0 tN170 h fun a w h => ?_
  refine nlt ?_
  refine ret_ ?_
  exact fin (rs := [.cell 3 170]) (vs := [.agg #[.int .i64 ks[i].kind, str ks[i].name, .int .i64 ks[i].n, .slice A2 ks[i].kids.length c2]]) h rfl (.agg (k0 := 0) tN170 rfl rfl rfl .nil) rfl LE.rfl ⟨LE.rfl, h.st.drop 1⟩ ⟨A2, c2, rfl, hvt, rfl, rfl⟩
theorem laid_ok (ps : List Pt) (v : Value) (E : World) (H : GH) (L : List It) (hps : RS RPt 1 H v ps) (hL : Laid H) (hw : ∀ t, Pt.kid t ∈ ps → WithinOk t) (hb : ps.length < 1000000000000) (hbb : (laidL ps).length < 1000000000000) : Ok Tryz.prog 123 #[v] E H L (RowTk (laidL ps) L) := by
  obtain ⟨A, c, rfl, hpc⟩ := id hps
  have hL0 := hL
  have hps0 := hps
  refine enter (N := 51) [(0, _)] Tryz.func123 rfl rfl rfl rfl fun a w h => ?_
  refine sqr ?_
  refine as_ h fun a w h => ?_
  refine nsr ?_
  refine as_ h fun a w h => ?_
  refine nlt ?_
  refine sq ?_
  refine sqr ?_
  have h := h.row (e := 167) (sz := 3)
  refine mv h fun a w h => ?_
  refine ln sli204 h fun a w h => ?_
  refine mv h fun a w h => ?_
  refine nlt ?_
  refine blk ?_
  refine lp (β := Nat × GH × Option Addr × Nat × Nat × List Value) (fun x a w => match x with | (k, H1, B, n, cp, xs) => (k ≤ ps.length ∧ LE H H1 ∧ n = (laidL (ps.take k)).length ∧ RowR RTk 3 H1 xs (laidL (ps.take k))) ∧ S E H1 51 [] [(12, .int .i64 (k : Int)), (11, .int .i64 (ps.length : Int)), (10, .slice A ps.length c), (3, .slice B n cp)] (.row (.slice B n cp) 167 3 n xs :: L) a w)
   (fun x => match x with | (k, H1, B, n, cp, xs) => ps.length - k) (0, H, none, 0, 0, []) ⟨⟨Nat.zero_le _, LE.rfl, rfl, RowR.nil⟩, h.to 0 _⟩ ?_
  rintro ⟨k, H1, B, n, cp, xs⟩ a w ⟨pre, h⟩
  obtain ⟨hk, l_H_H1, hn, hrow⟩ := pre
  have hL := hL0.up l_H_H1
  have hps := RS.mono hps0 l_H_H1 (fun cs x _ hr => rpt_up l_H_H1 hr)
  refine sqr ?_
  refine lt h fun a w h => ?_
  refine nlt ?_
  refine sq ?_
  refine cdB h (fun c13 => ?_) (fun c13 => ?_)
  ·have c13 : k < ps.length := by simpa using c13
   obtain ⟨g, off, cs, rfl, hl, hR, hcell⟩ := RS.at_ hps (List.getElem?_eq_getElem c13)
   refine skt ?_
   refine sq ?_
   refine blk ?_
   refine sqr ?_
   refine ia sli204 sz206 rfl c13 h fun a w h => ?_
   have hltk := laid_take c13
   have hlen := laid_len_take ps (k + 1)
   have hkw : ∀ t, ps[k] = .kid t → WithinOk t := fun t e => hw t (e ▸ List.getElem_mem c13)
   generalize ps[k] = p at hR hltk hkw
   rw [hltk, List.length_append] at hlen
   cases p with
   | word s =>
    have hR : cs = [.iface 174 (str s)] := hR
    subst hR
    refine ldH t1_206 (hcell 0 _ rfl) h fun a w h => ?_
    refine as_ h fun a w h => ?_
    refine nsr ?_
    refine mv h fun a w h => ?_
    refine nlt ?_
    refine blk ?_
    refine sqr ?_
    refine taT cnc174 h fun a w h => ?_
    refine ex h fun a w h => ?_
    refine ex h fun a w h => ?_
    refine nlt ?_
    refine cdT h ?_
    refine sqr ?_
    refine as_ h fun a w h => ?_
    refine nlt ?_
    refine rg0 ?_
    refine mv h fun a w h => ?_
    refine mv h fun a w h => ?_
    refine bdl lay167 zr167 h fun a w h => ?_
    refine bsl bs141 h fun g23 a w h => ?_
    refine apb 1 0 (L' := fun i => _ :: i :: _) [.int .i64 3, str s, .int .i64 0] row141 h ?_ ?_ fun v24 a w hone h => ?_
    ·have e := hlen; simp only [Pt.toks, List.length_cons, List.length_nil] at e; omega
    ·have e := hlen; simp only [Pt.toks, List.length_cons, List.length_nil] at e; omega
    have h := h.del 0
    obtain ⟨B2, cp2, rfl⟩ := h.rowv 0
    have hn2 : n + 1 = (laidL (ps.take (k + 1))).length := by rw [hltk, List.length_append, ← hn]; rfl
    have hr2 : RowR RTk 3 H1 (xs ++ [.int .i64 3, str s, .int .i64 0]) (laidL (ps.take (k + 1))) := by rw [hltk]; exact hrow.app (.one rfl rfl)
    refine as_ h fun a w h => ?_
    refine nl0 ?_
    refine ibN ?_
    refine ibN ?_
    refine thN ?_
    refine rg0 ?_
    refine inc ?_ h fun a w h => ?_
    ·omega
    refine mv h fun a w h => ?_
    refine nlt ?_
    exact ⟨(k + 1, H1, B2, _, cp2, _), ⟨⟨by omega, l_H_H1, hn2, hr2⟩, h.to 0 _⟩, by show _ - (k + 1) < _ - k; omega⟩
   | mark s =>
    have hR : cs = [.iface 175 (str s)] := hR
    subst hR
    refine ldH t1_206 (hcell 0 _ rfl) h fun a w h => ?_
    refine as_ h fun a w h => ?_
    refine nsr ?_
    refine mv h fun a w h => ?_
    refine nlt ?_
    refine blk ?_
    refine sqr ?_
    refine taF cnc174 zr174 h fun a w h => ?_
    refine ex h fun a w h => ?_
    refine ex h fun a w h => ?_
    refine nlt ?_
    refine cdF h ?_
    refine sqr ?_
    refine taT cnc175 h fun a w h => ?_
    refine ex h fun a w h => ?_
    refine ex h fun a w h => ?_
    refine nlt ?_
    refine cdT h ?_
    refine sqr ?_
    refine as_ h fun a w h => ?_
    refine nlt ?_
    refine rg0 ?_
    refine mv h fun a w h => ?_
    refine mv h fun a w h => ?_
    refine bdl lay167 zr167 h fun a w h => ?_
    refine bsl bs141 h fun g31 a w h => ?_
    refine apb 1 0 (L' := fun i => _ :: i :: _) [.int .i64 4, str s, .int .i64 0] row141 h ?_ ?_ fun v32 a w hone h => ?_
    ·have e := hlen; simp only [Pt.toks, List.length_cons, List.length_nil] at e; omega
    ·have e := hlen; simp only [Pt.toks, List.length_cons, List.length_nil] at e; omega
    have h := h.del 0
    obtain ⟨B2, cp2, rfl⟩ := h.rowv 0
    have hn2 : n + 1 = (laidL (ps.take (k + 1))).length := by rw [hltk, List.length_append, ← hn]; rfl
    have hr2 : RowR RTk 3 H1 (xs ++ [.int .i64 4, str s, .int .i64 0]) (laidL (ps.take (k + 1))) := by rw [hltk]; exact hrow.app (.one rfl rfl)
    refine as_ h fun a w h => ?_
    refine nl0 ?_
    refine ibN ?_
    refine ibN ?_
    refine thN ?_
    refine rg0 ?_
    refine inc ?_ h fun a w h => ?_
    ·omega
    refine mv h fun a w h => ?_
    refine nlt ?_
    exact ⟨(k + 1, H1, B2, _, cp2, _), ⟨⟨by omega, l_H_H1, hn2, hr2⟩, h.to 0 _⟩, by show _ - (k + 1) < _ - k; omega⟩
   | name s =>
    have hR : cs = [.iface 172 (str s)] := hR
    subst hR
    refine ldH t1_206 (hcell 0 _ rfl) h fun a w h => ?_
    refine as_ h fun a w h => ?_
    refine nsr ?_
    refine mv h fun a w h => ?_
    refine nlt ?_
    refine blk ?_
    refine sqr ?_
    refine taF cnc174 zr174 h fun a w h => ?_
    refine ex h fun a w h => ?_
    refine ex h fun a w h => ?_
    refine nlt ?_
    refine cdF h ?_
    refine sqr ?_
    refine taF cnc175 zr175 h fun a w h => ?_
    refine ex h fun a w h => ?_
    refine ex h fun a w h => ?_
    refine nlt ?_
    refine cdF h ?_
    refine sqr ?_
    refine taT cnc172 h fun a w h => ?_
    refine ex h fun a w h => ?_
    refine ex h fun a w h => ?_
    refine nlt ?_
    refine cdT h ?_
    refine sqr ?_
    refine as_ h fun a w h => ?_
    refine nlt ?_
    refine rg0 ?_
    refine mv h fun a w h => ?_
    refine mv h fun a w h => ?_
    refine bdl lay167 zr167 h fun a w h => ?_
    refine bsl bs141 h fun g39 a w h => ?_
    refine apb 1 0 (L' := fun i => _ :: i :: _) [.int .i64 1, str s, .int .i64 0] row141 h ?_ ?_ fun v40 a w hone h => ?_
    ·have e := hlen; simp only [Pt.toks, List.length_cons, List.length_nil] at e; omega
    ·have e := hlen; simp only [Pt.toks, List.length_cons, List.length_nil] at e; omega
    have h := h.del 0
    obtain ⟨B2, cp2, rfl⟩ := h.rowv 0
    have hn2 : n + 1 = (laidL (ps.take (k + 1))).length := by rw [hltk, List.length_append, ← hn]; rfl
    have hr2 : RowR RTk 3 H1 (xs ++ [.int .i64 1, str s, .int .i64 0]) (laidL (ps.take (k + 1))) := by rw [hltk]; exact hrow.app (.one rfl rfl)
    refine as_ h fun a w h => ?_
    refine nl0 ?_
    refine ibN ?_
    refine ibN ?_
    refine thN ?_
    refine rg0 ?_
    refine inc ?_ h fun a w h => ?_
    ·omega
    refine mv h fun a w h => ?_
    refine nlt ?_
    exact ⟨(k + 1, H1, B2, _, cp2, _), ⟨⟨by omega, l_H_H1, hn2, hr2⟩, h.to 0 _⟩, by show _ - (k + 1) < _ - k; omega⟩
   | kid t =>
    obtain ⟨A2, c2, rfl, hkt⟩ := hR
    refine ldH t1_206 (hcell 0 _ rfl) h fun a w h => ?_
    refine as_ h fun a w h => ?_
    refine nsr ?_
    refine mv h fun a w h => ?_
    refine nlt ?_
    refine blk ?_
    refine sqr ?_
    refine taF cnc174 zr174 h fun a w h => ?_
    refine ex h fun a w h => ?_
    refine ex h fun a w h => ?_
    refine nlt ?_
    refine cdF h ?_
    refine sqr ?_
    refine taF cnc175 zr175 h fun a w h => ?_
    refine ex h fun a w h => ?_
    refine ex h fun a w h => ?_
    refine nlt ?_
    refine cdF h ?_
    refine sqr ?_
    refine taF cnc172 zr172 h fun a w h => ?_
    refine ex h fun a w h => ?_
    refine ex h fun a w h => ?_
    refine nlt ?_
    refine cdF h ?_
    refine sqr ?_
    refine taT cnc170 h fun a w h => ?_
    refine ex h fun a w h => ?_
    refine ex h fun a w h => ?_
    refine nlt ?_
    refine cdT h ?_
    refine sqr ?_
    refine al zr170 h fun g9 a w h => ?_
    refine sw0 tN170 h fun a w h => ?_
    refine nlt ?_
    refine rg0 ?_
    refine mv h fun a w h => ?_
    refine fa fl170_0 (r := 0) h fun a w h => ?_
    refine ldW 0 tN24 h fun a w h => ?_
    refine cl bod150 (hkw t rfl _ E H1 _ ⟨A2, c2, rfl, hkt⟩ hL) h fun r47 H47 L47 a w le47 R h => ?_
    obtain ⟨A47, c47, xs47, rfl, rfl, hr47⟩ := R
    have l_H_H47 : LE H H47 := l_H_H1.trans le47
    have l_H1_H47 : LE H1 H47 := le47
    obtain ⟨H5, le5, h, hs5⟩ := h.frw 0 (n := t.within.length) hr47 rfl (fun _ _ _ _ _ h => h)
    have l_H_H5 : LE H H5 := l_H_H47.trans le5
    have l_H1_H5 : LE H1 H5 := l_H1_H47.trans le5
    have l_H47_H5 : LE H47 H5 := le5
    refine aps 1 (L' := fun i => _ :: i :: _) row141 hs5 rtk_one h ?_ ?_ fun v48 news a w hone hnews h => ?_
    ·have e := hlen; simp only [Pt.toks] at e; omega
    ·have e := hlen; simp only [Pt.toks] at e; omega
    have h := h.del 0
    obtain ⟨B2, cp2, rfl⟩ := h.rowv 0
    have hn2 : n + t.within.length = (laidL (ps.take (k + 1))).length := by rw [hltk, List.length_append, ← hn]; rfl
    have hr2 : RowR RTk 3 H5 (xs ++ news) (laidL (ps.take (k + 1))) := by rw [hltk]; exact (rtkR hrow).app (rtkR hnews)
    refine as_ h fun a w h => ?_
    refine nl0 ?_
    refine ibN ?_
    refine ibN ?_
    refine thN ?_
    refine rg0 ?_
    refine inc ?_ h fun a w h => ?_
    ·omega
    refine mv h fun a w h => ?_
    refine nlt ?_
    exact ⟨(k + 1, H5, B2, _, cp2, _), ⟨⟨by omega, l_H_H5, hn2, hr2⟩, h.to 0 _⟩, by show _ - (k + 1) < _ - k; omega⟩
  ·have hkk : k = ps.length := by simp at c13; omega
   refine exit_ ?_
   refine thE ?_
   refine thE ?_
   refine ibH ?_
   refine thN ?_
   refine sqr ?_
   refine mv h fun a w h => ?_
   refine as_ h fun a w h => ?_
   refine nlt ?_
   refine ret_ ?_
   have hk : k = ps.length := hkk
   rw [hk, List.take_length] at hn hrow
   subst hn
   refine fin1 2 0 h l_H_H1 ?_
   exact ⟨B, cp, xs, rfl, rfl, hrow⟩
end Go.Proofs.YtindlieilabgfaaGreatDoor
