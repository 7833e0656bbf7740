/- Renaming, plainly. -/
import Derived.Test.YtindlieilabgfaaGreatDoorT5
set_option linter.unusedVariables false
set_option linter.unusedSectionVars false
set_option linter.unusedSimpArgs false
set_option autoImplicit false
set_option relaxedAutoImplicit false
namespace Go.Proofs.YtindlieilabgfaaGreatDoor
open Go X

/-- No panic. -/
def X.NP (Q : Exit → Act → World → Prop) : Exit → Act → World → Prop
  | .panic _, _, _ => False
  | e, a, w => Q e a w
theorem X.npN {Q : Exit → Act → World → Prop} {a : Act} {w : World} (h : Q .normal a w) : NP Q .normal a w := h
theorem X.np_mono {Q : Exit → Act → World → Prop} : ∀ e a w, NP Q e a w → Q e a w := by
  intro e a w h
  cases e <;> first | exact h | exact h.elim
section
variable {P : Program} {Q : Exit → Act → World → Prop} {E w : World} {H : GH} {N : Nat} {D : List Deferred} {F : List (Nat × Value)} {L : List It} {a : Act}
theorem X.rgxF {id : Nat} {l : List Oper} (ks : List Nat) (L1 : List It) (rd : List Nat) (n : Nat) (hm : P.follows .mixedOrders = true) (h : S E H N D F L a w)
    (k : ∀ a w, S E H N D F L a w → wpR P l.toArray (NP Q) (Sees H L1) rd n (Array.replicate n false) a w) (hn : l.length = n := by rfl) (hk : ks.map (fun k => L[k]?) = L1.map some := by rfl) : (Code.region id l.toArray true).wp P Q a w :=
  Code.wp_mono np_mono (rgx ks L1 rd n hm h k hn hk)
theorem X.rgdF {id : Nat} {l : List Oper} (ks : List Nat) (L1 : List It) (eff rd : List Nat) (nS : Nat) (hm : P.follows .mixedOrders = true) (hD : drawOk l.toArray eff rd nS = true) (h : S E H N D F L a w)
    (k : ∀ a w, S E H N D F L a w → (gd P l.toArray (NP Q) (Sees H L1) eff rd nS).G l a w) (hk : ks.map (fun k => L[k]?) = L1.map some := by rfl) : (Code.region id l.toArray true).wp P Q a w :=
  Code.wp_mono np_mono (rgd ks L1 eff rd nS hm hD h k hk (fun _ _ _ _ _ h => False.elim h))
end
/-- The number behind one, as Go's ints go. -/
def nx (n : Int) : Int := IntKind.i64.wrap (n + 1)
/-- Is it one of Go's ints? -/
def In64 (n : Int) : Prop := -9223372036854775808 ≤ n ∧ n ≤ 9223372036854775807
theorem nx_in (n : Int) : In64 (nx n) := by
  unfold In64 nx
  simp [IntKind.wrap, IntKind.bits, IntKind.signed]
  omega
def updS (σ : Bs → Option Bs) (s s' : Bs) : Bs → Option Bs := fun x => if x = s then some s' else σ x
/-- A renamed term's name. -/
def renN (k : Int) (s : Bs) (σ : Bs → Option Bs) (n : Int) : Bs := if bnd k then Lib.itoa n else if k == 2 then (σ s).getD s else s
mutual
def Tm.ren : Tm → (Bs → Option Bs) → Int → Tm × Int
  | .mk k s m ks, σ, n => (.mk k (renN k s σ n) m (renL (bnd k) s (renN k s σ n) ks σ (if bnd k then nx n else n)).1, (renL (bnd k) s (renN k s σ n) ks σ (if bnd k then nx n else n)).2)
def renL (bd : Bool) (s s' : Bs) : List Tm → (Bs → Option Bs) → Int → List Tm × Int
  | [], _, n => ([], n)
  | t :: l, σ, n => ((t.ren (if bd && l.isEmpty then updS σ s s' else σ) n).1 :: (renL bd s s' l σ (t.ren (if bd && l.isEmpty then updS σ s s' else σ) n).2).1, (renL bd s s' l σ (t.ren (if bd && l.isEmpty then updS σ s s' else σ) n).2).2)
end
/-- The first k kids, renamed. -/
def renT (bd : Bool) (s s' : Bs) (ks : List Tm) (σ : Bs → Option Bs) (n : Int) : Nat → List Tm × Int
  | 0 => ([], n)
  | k + 1 => match ks[k]? with
    | some t => ((renT bd s s' ks σ n k).1 ++ [(t.ren (if bd && k + 1 == ks.length then updS σ s s' else σ) (renT bd s s' ks σ n k).2).1], (t.ren (if bd && k + 1 == ks.length then updS σ s s' else σ) (renT bd s s' ks σ n k).2).2)
    | none => renT bd s s' ks σ n k
theorem renT_succ {bd : Bool} {s s' : Bs} {ks : List Tm} {σ : Bs → Option Bs} {n : Int} {k : Nat} (h : k < ks.length) :
    renT bd s s' ks σ n (k + 1) = ((renT bd s s' ks σ n k).1 ++ [(ks[k].ren (if bd && k + 1 == ks.length then updS σ s s' else σ) (renT bd s s' ks σ n k).2).1], (ks[k].ren (if bd && k + 1 == ks.length then updS σ s s' else σ) (renT bd s s' ks σ n k).2).2) := by
  simp only [renT, List.getElem?_eq_getElem h]
theorem renT_all (bd : Bool) (s s' : Bs) (ks : List Tm) (σ : Bs → Option Bs) (n : Int) : renT bd s s' ks σ n ks.length = renL bd s s' ks σ n := by
  have key : ∀ (l p : List Tm), ks = p ++ l → renT bd s s' ks σ n ks.length = ((renT bd s s' ks σ n p.length).1 ++ (renL bd s s' l σ (renT bd s s' ks σ n p.length).2).1, (renL bd s s' l σ (renT bd s s' ks σ n p.length).2).2) := by
    intro l
    induction l with
    | nil => intro p e; simp [e, renL]
    | cons t l ih =>
      intro p e
      have hlt : p.length < ks.length := by simp [e]
      have hk : ks[p.length] = t := by simp [e]
      have hl : (p.length + 1 == ks.length) = l.isEmpty := by rw [e]; cases l <;> simp
      rw [ih (p ++ [t]) (by simp [e]), show (p ++ [t]).length = p.length + 1 by simp, renT_succ hlt, hk, hl]
      simp [renL]
  have := key ks [] rfl
  rw [this]; simp [renT]
theorem rt_of_vt {H : GH} {cs : List Value} {t : Tm} (h : VT H (.agg cs.toArray) t) : RT H cs t := by
  obtain ⟨k, s, n, ks⟩ := t
  obtain ⟨A, c, e, h⟩ := h
  rw [rt_mk]
  refine ⟨.slice A ks.length c, ?_, h⟩
  have := congrArg (fun v => match v with | .agg a => a.toList | _ => []) e
  have t2 : cs = [Value.int .i64 k, str s, .int .i64 n, .slice A ks.length c] := by
    have t3 := this
    simp at t3
    exact t3
  exact t2
mutual
theorem ren_size : ∀ (t : Tm) (σ : Bs → Option Bs) (n : Int), (t.ren σ n).1.size = t.size
  | .mk k s m ks, σ, n => by simp only [Tm.ren, Tm.size, renL_size]
theorem renL_size (bd : Bool) (s s' : Bs) : ∀ (l : List Tm) (σ : Bs → Option Bs) (n : Int), sizeL (renL bd s s' l σ n).1 = sizeL l
  | [], _, _ => rfl
  | t :: l, σ, n => by simp only [renL, sizeL, ren_size t, renL_size bd s s' l]
end
theorem renL_length (bd : Bool) (s s' : Bs) : ∀ (l : List Tm) (σ : Bs → Option Bs) (n : Int), (renL bd s s' l σ n).1.length = l.length
  | [], _, _ => rfl
  | t :: l, σ, n => by simp only [renL, List.length_cons, renL_length bd s s' l]
theorem renT_length {bd : Bool} {s s' : Bs} {ks : List Tm} {σ : Bs → Option Bs} {n : Int} : ∀ {k : Nat}, k ≤ ks.length → (renT bd s s' ks σ n k).1.length = k
  | 0, _ => rfl
  | k + 1, h => by
    have ih := renT_length (bd := bd) (s := s) (s' := s') (ks := ks) (σ := σ) (n := n) (k := k) (by omega)
    rw [renT_succ (show k < ks.length by omega), List.length_append, ih]; rfl
mutual
theorem ren_in : ∀ (t : Tm) (σ : Bs → Option Bs) (n : Int), In64 n → In64 (t.ren σ n).2
  | .mk k s m ks, σ, n, h => by
    simp only [Tm.ren]
    exact renL_in _ _ _ ks σ _ (by split <;> first | exact nx_in n | exact h)
theorem renL_in (bd : Bool) (s s' : Bs) : ∀ (l : List Tm) (σ : Bs → Option Bs) (n : Int), In64 n → In64 (renL bd s s' l σ n).2
  | [], _, n, h => h
  | t :: l, σ, n, h => by simp only [renL]; exact renL_in bd s s' l σ _ (ren_in t _ n h)
end
theorem renT_in {bd : Bool} {s s' : Bs} {ks : List Tm} {σ : Bs → Option Bs} {n : Int} (h : In64 n) : ∀ k, In64 (renT bd s s' ks σ n k).2
  | 0 => h
  | k + 1 => by
    simp only [renT]
    split
    · exact ren_in _ _ _ (renT_in h k)
    · exact renT_in h k
end Go.Proofs.YtindlieilabgfaaGreatDoor
