/- What names are free in a term; renaming. -/
import Derived.Test.YtindlieilabgfaaGreatDoorT4
set_option linter.unusedVariables false
set_option linter.unusedSectionVars false
set_option linter.unusedSimpArgs false
set_option autoImplicit false
set_option relaxedAutoImplicit false
namespace Go.Proofs.YtindlieilabgfaaGreatDoor
open Go X

/-- One more, one less. -/
def inc1 (b : Bs → Nat) (s : Bs) : Bs → Nat := fun x => if x = s then b x + 1 else b x
mutual
/-- Is x free in a term where b tells how often a name is bound around it? -/
def Tm.fr : Tm → (Bs → Nat) → Bs → Bool
  | .mk k s n ks, b, x => ((k == 2 && decide (b s = 0)) && decide (x = s)) || frL (bnd k) s ks b x
def frL (bd : Bool) (s : Bs) : List Tm → (Bs → Nat) → Bs → Bool
  | [], _, _ => false
  | t :: l, b, x => t.fr (if bd && l.isEmpty then inc1 b s else b) x || frL bd s l b x
end
theorem frL_snoc (bd : Bool) (s : Bs) (b : Bs → Nat) (x : Bs) (t : Tm) : ∀ l : List Tm, frL bd s (l ++ [t]) b x = ((l.any fun u => u.fr b x) || t.fr (if bd then inc1 b s else b) x)
  | [] => by simp [frL]
  | u :: l => by
    simp only [List.cons_append, frL, frL_snoc bd s b x t l, List.any_cons, Bool.or_assoc]
    have : (l ++ [t]).isEmpty = false := by cases l <;> rfl
    rw [this, Bool.and_false]; rfl
theorem frL_no (s : Bs) (b : Bs → Nat) (x : Bs) : ∀ l : List Tm, frL false s l b x = l.any fun u => u.fr b x
  | [] => rfl
  | u :: l => by simp only [frL, Bool.false_and, frL_no s b x l, List.any_cons]; rfl
/-- The part of a list's free names that the first k kids have. -/
def frT (bd : Bool) (s : Bs) (ks : List Tm) (k : Nat) (b : Bs → Nat) (x : Bs) : Bool :=
  (List.range k).any fun j => match ks[j]? with
    | some t => t.fr (if bd && j + 1 == ks.length then inc1 b s else b) x
    | none => false
theorem frT_zero (bd : Bool) (s : Bs) (ks : List Tm) (b : Bs → Nat) (x : Bs) : frT bd s ks 0 b x = false := rfl
theorem frT_succ (bd : Bool) (s : Bs) (ks : List Tm) (b : Bs → Nat) (x : Bs) {k : Nat} (h : k < ks.length) : frT bd s ks (k + 1) b x = (frT bd s ks k b x || ks[k].fr (if bd && k + 1 == ks.length then inc1 b s else b) x) := by
  unfold frT
  rw [List.range_succ, List.any_append]
  simp [List.getElem?_eq_getElem h]
theorem frT_all (bd : Bool) (s : Bs) (b : Bs → Nat) (x : Bs) (ks : List Tm) : frT bd s ks ks.length b x = frL bd s ks b x := by
  have key : ∀ (l : List Tm) (p : List Tm), ks = p ++ l → (frT bd s ks p.length b x || frL bd s l b x) = frT bd s ks ks.length b x := by
    intro l
    induction l with
    | nil => intro p e; simp [e, frL]
    | cons t l ih =>
      intro p e
      have h := ih (p ++ [t]) (by simp [e])
      rw [← h]
      have hlt : p.length < ks.length := by simp [e]
      have hk : ks[p.length] = t := by simp [e]
      rw [show (p ++ [t]).length = p.length + 1 by simp, frT_succ _ _ _ _ _ hlt, hk, Bool.or_assoc]
      congr 1
      simp only [frL]
      have : (p.length + 1 == ks.length) = l.isEmpty := by
        rw [e]; cases l <;> simp
      rw [this]
  have := key ks [] rfl
  rw [List.length_nil, frT_zero, Bool.false_or] at this
  exact this.symm
/-- A sorted list without doubles has what p tells. -/
def IsSet (ss : List Bs) (p : Bs → Bool) : Prop := ss.Nodup ∧ (∀ x, x ∈ ss ↔ p x = true) ∧ ss.Pairwise (fun x y => x ≤ y)
theorem bs_antisymm {x y : Bs} (h : x ≤ y) (k : y ≤ x) : x = y := List.le_antisymm h k
theorem isSet_uniq {ss ts : List Bs} {p : Bs → Bool} (h : IsSet ss p) (k : IsSet ts p) : ss = ts := by
  have hp : ss.Perm ts := (List.perm_ext_iff_of_nodup h.1 k.1).2 fun x => (h.2.1 x).trans (k.2.1 x).symm
  exact hp.eq_of_pairwise (fun a b _ _ h k => bs_antisymm h k) h.2.2 k.2.2
mutual
/-- All names of a term. -/
def Tm.names : Tm → List Bs
  | .mk _ s _ ks => s :: namesL ks
def namesL : List Tm → List Bs
  | [] => []
  | t :: l => t.names ++ namesL l
end
mutual
theorem names_len : ∀ t : Tm, t.names.length = t.size
  | .mk _ s _ ks => by simp only [Tm.names, Tm.size, List.length_cons, namesL_len ks]; omega
theorem namesL_len : ∀ l : List Tm, (namesL l).length = sizeL l
  | [] => rfl
  | t :: l => by simp only [namesL, sizeL, List.length_append, names_len t, namesL_len l]
end
mutual
theorem fr_names : ∀ (t : Tm) (b : Bs → Nat) (x : Bs), t.fr b x = true → x ∈ t.names
  | .mk k s n ks, b, x, h => by
    simp only [Tm.fr, Bool.or_eq_true, Bool.and_eq_true, decide_eq_true_eq] at h
    simp only [Tm.names, List.mem_cons]
    rcases h with h | h
    · exact .inl h.2
    · exact .inr (frL_names (bnd k) s ks b x h)
theorem frL_names (bd : Bool) (s : Bs) : ∀ (l : List Tm) (b : Bs → Nat) (x : Bs), frL bd s l b x = true → x ∈ namesL l
  | [], b, x, h => by simp [frL] at h
  | t :: l, b, x, h => by
    simp only [frL, Bool.or_eq_true] at h
    simp only [namesL, List.mem_append]
    rcases h with h | h
    · exact .inl (fr_names t _ x h)
    · exact .inr (frL_names bd s l b x h)
end
mutual
theorem names_long : ∀ (t : Tm) (x : Bs), x ∈ t.names → x.length ≤ t.long
  | .mk k s n ks, x, h => by
    simp only [Tm.names, List.mem_cons] at h
    simp only [Tm.long]
    rcases h with rfl | h
    · omega
    · have := namesL_long ks x h; omega
theorem namesL_long : ∀ (l : List Tm) (x : Bs), x ∈ namesL l → x.length ≤ longL l
  | [], x, h => by simp [namesL] at h
  | t :: l, x, h => by
    simp only [namesL, List.mem_append] at h
    simp only [longL]
    rcases h with h | h
    · have := names_long t x h; omega
    · have := namesL_long l x h; omega
end
/-- No name is bound. -/
def none0 : Bs → Nat := fun _ => 0
end Go.Proofs.YtindlieilabgfaaGreatDoor
