/- Terms as plain data, and how they lie in frozen memory. -/
import Derived.Test.YtindlieilabgfaaGreatDoorX4
set_option linter.unusedVariables false
set_option linter.unusedSectionVars false
set_option linter.unusedSimpArgs false
set_option autoImplicit false
set_option relaxedAutoImplicit false
namespace Go.Proofs.YtindlieilabgfaaGreatDoor
open Go X

/-- Bytes. -/
abbrev Bs := List UInt8
/-- A text as a value. -/
abbrev str (s : Bs) : Value := .string ⟨s.toArray⟩
theorem str_of (s : ByteArray) : Value.string s = str s.data.toList := by simp [str]
inductive Tm where
  | mk (kind : Int) (name : Bs) (n : Int) (kids : List Tm)
namespace Tm
def kind : Tm → Int | .mk k _ _ _ => k
def name : Tm → Bs | .mk _ s _ _ => s
def n : Tm → Int | .mk _ _ n _ => n
def kids : Tm → List Tm | .mk _ _ _ l => l
theorem eta (t : Tm) : Tm.mk t.kind t.name t.n t.kids = t := by cases t; rfl
theorem ind {p : Tm → Prop} (h : ∀ k s n ks, (∀ x ∈ ks, p x) → p (.mk k s n ks)) : ∀ t, p t
  | .mk k s n ks => h k s n ks fun x hx => ind h x
end Tm
mutual
def Tm.size : Tm → Nat
  | .mk _ _ _ ks => 1 + sizeL ks
def sizeL : List Tm → Nat
  | [] => 0
  | t :: l => t.size + sizeL l
end
/-- Does a kind bind a name? -/
def bnd (k : Int) : Bool := k == 3 || (k == 5 || k == 9)
mutual
def Tm.depth : Tm → Nat
  | .mk _ _ _ ks => depthL ks + 1
def depthL : List Tm → Nat
  | [] => 0
  | t :: l => max t.depth (depthL l)
end
mutual
def Tm.count : Tm → Nat
  | .mk k _ _ ks => (if bnd k then 1 else 0) + countL ks
def countL : List Tm → Nat
  | [] => 0
  | t :: l => t.count + countL l
end
mutual
def Tm.same : Tm → Tm → Bool
  | .mk k s n ks, .mk k' s' n' ks' => (k == k') && ((decide (s = s')) && ((n == n') && sameL ks ks'))
def sameL : List Tm → List Tm → Bool
  | [], [] => true
  | t :: l, u :: m => t.same u && sameL l m
  | _, _ => false
end
theorem same_mk (k : Int) (s : Bs) (n : Int) (ks : List Tm) (k' : Int) (s' : Bs) (n' : Int) (ks' : List Tm) : (Tm.mk k s n ks).same (.mk k' s' n' ks') = ((k == k') && (decide (s = s') && ((n == n') && sameL ks ks'))) := by simp only [Tm.same]
mutual
theorem depth_le_size : ∀ t : Tm, t.depth ≤ t.size
  | .mk _ _ _ ks => by simp only [Tm.depth, Tm.size]; have := depthL_le ks; omega
theorem depthL_le : ∀ l : List Tm, depthL l ≤ sizeL l
  | [] => by simp [depthL]
  | t :: l => by simp only [depthL, sizeL]; have := depth_le_size t; have := depthL_le l; omega
end
mutual
theorem count_le_size : ∀ t : Tm, t.count ≤ t.size
  | .mk _ _ _ ks => by simp only [Tm.count, Tm.size]; have := countL_le ks; split <;> omega
theorem countL_le : ∀ l : List Tm, countL l ≤ sizeL l
  | [] => by simp [countL]
  | t :: l => by simp only [countL, sizeL]; have := count_le_size t; have := countL_le l; omega
end
theorem depthL_append (l m : List Tm) : depthL (l ++ m) = max (depthL l) (depthL m) := by
  induction l with
  | nil => simp [depthL]
  | cons t l ih => simp only [List.cons_append, depthL, ih]; omega
theorem countL_append (l m : List Tm) : countL (l ++ m) = countL l + countL m := by
  induction l with
  | nil => simp [countL]
  | cons t l ih => simp only [List.cons_append, countL, ih]; omega
mutual
theorem same_iff : ∀ t u : Tm, t.same u = true ↔ t = u
  | .mk k s n ks, .mk k' s' n' ks' => by simp [Tm.same, sameL_iff ks ks']
theorem sameL_iff : ∀ l m : List Tm, sameL l m = true ↔ l = m
  | [], [] => by simp [sameL]
  | [], _ :: _ => by simp [sameL]
  | _ :: _, [] => by simp [sameL]
  | t :: l, u :: m => by simp [sameL, same_iff t u, sameL_iff l m]
end
theorem sizeL_append (l m : List Tm) : sizeL (l ++ m) = sizeL l + sizeL m := by
  induction l with
  | nil => simp [sizeL]
  | cons t l ih => simp [sizeL, ih]; omega
theorem size_le_sizeL {t : Tm} {l : List Tm} (h : t ∈ l) : t.size ≤ sizeL l := by
  induction l with
  | nil => cases h
  | cons u l ih =>
    simp only [sizeL]
    cases h with
    | head => omega
    | tail _ h => have := ih h; omega
theorem size_pos (t : Tm) : 0 < t.size := by cases t; simp [Tm.size]; omega
theorem length_le_sizeL (l : List Tm) : l.length ≤ sizeL l := by
  induction l with
  | nil => simp
  | cons t l ih => simp only [sizeL, List.length_cons]; have := size_pos t; omega

mutual
def RT (H : GH) (cs : List Value) : Tm → Prop
  | .mk k s n ks => ∃ A c, cs = [.int .i64 k, str s, .int .i64 n, .slice A ks.length c] ∧ ks.length ≤ c ∧ RTL H A 0 ks
def RTL (H : GH) (A : Option Addr) (j : Nat) : List Tm → Prop
  | [] => True
  | t :: l => (∃ g off cs, A = some ⟨g, off, none⟩ ∧ cs.length = 4 ∧ RT H cs t ∧ ∀ i u, cs[i]? = some u → Hc H g (off + j * 4 + i) u) ∧ RTL H A (j + 1) l
end
theorem rtl_iff (H : GH) (A : Option Addr) : ∀ (l : List Tm) (b : Nat), RTL H A b l ↔ ∀ j x, l[j]? = some x → ∃ g off cs, A = some ⟨g, off, none⟩ ∧ cs.length = 4 ∧ RT H cs x ∧ ∀ i u, cs[i]? = some u → Hc H g (off + (b + j) * 4 + i) u
  | [], b => by simp [RTL]
  | t :: l, b => by
    simp only [RTL, rtl_iff H A l (b + 1)]
    constructor
    · rintro ⟨h0, h1⟩ j x hx
      cases j with
      | zero => simp at hx; subst hx; simpa using h0
      | succ j => simp at hx; have := h1 j x hx; simpa [Nat.add_assoc, Nat.add_comm 1 j] using this
    · intro h
      refine ⟨by simpa using h 0 t rfl, fun j x hx => ?_⟩
      have := h (j + 1) x (by simpa using hx)
      simpa [Nat.add_assoc, Nat.add_comm 1 j] using this
theorem rt_mk {H : GH} {cs : List Value} {k : Int} {s : Bs} {n : Int} {ks : List Tm} :
    RT H cs (.mk k s n ks) ↔ ∃ v, cs = [.int .i64 k, str s, .int .i64 n, v] ∧ RS RT 4 H v ks := by
  simp only [RT, rtl_iff, Nat.zero_add]
  constructor
  · rintro ⟨A, c, rfl, h1, h2⟩; exact ⟨_, rfl, A, c, rfl, h1, h2⟩
  · rintro ⟨v, rfl, A, c, rfl, h1, h2⟩; exact ⟨A, c, rfl, h1, h2⟩
theorem RT.mono {H H' : GH} (hl : LE H H') : ∀ (t : Tm) {cs : List Value}, RT H cs t → RT H' cs t := by
  intro t
  induction t using Tm.ind with
  | h k s n ks ih =>
    intro cs h
    rw [rt_mk] at h ⊢
    obtain ⟨v, rfl, h⟩ := h
    exact ⟨v, rfl, h.mono hl fun cs x hx hr => ih x hx hr⟩
theorem RT.len {H : GH} {cs : List Value} {t : Tm} (h : RT H cs t) : cs.length = 4 := by
  obtain ⟨k, s, n, ks⟩ := t
  rw [rt_mk] at h
  obtain ⟨v, rfl, _⟩ := h
  rfl
/-- A term as a value. -/
def VT (H : GH) (v : Value) (t : Tm) : Prop := ∃ A c, v = .agg #[.int .i64 t.kind, str t.name, .int .i64 t.n, .slice A t.kids.length c] ∧ RS RT 4 H (.slice A t.kids.length c) t.kids
theorem vt_of_rt {H : GH} {cs : List Value} {t : Tm} (h : RT H cs t) : VT H (.agg cs.toArray) t := by
  obtain ⟨k, s, n, ks⟩ := t
  rw [rt_mk] at h
  obtain ⟨v, rfl, h⟩ := h
  obtain ⟨A, c, rfl, h1, h2⟩ := h
  exact ⟨A, c, rfl, A, c, rfl, h1, h2⟩
theorem VT.mono {H H' : GH} {v : Value} {t : Tm} (h : VT H v t) (hl : LE H H') : VT H' v t := by
  obtain ⟨A, c, rfl, h⟩ := h
  exact ⟨A, c, rfl, h.mono hl fun cs x _ hr => RT.mono hl x hr⟩
/-- A slice of terms. -/
abbrev KS (H : GH) (A : Option Addr) (c : Nat) (ks : List Tm) : Prop := RS RT 4 H (.slice A ks.length c) ks
theorem VT.mk {H : GH} {v : Value} {k : Int} {s : Bs} {n : Int} {ks : List Tm} (h : VT H v (.mk k s n ks)) : ∃ A c, v = .agg #[.int .i64 k, str s, .int .i64 n, .slice A ks.length c] ∧ KS H A c ks := h
theorem KS.up {H H' : GH} {A : Option Addr} {c : Nat} {ks : List Tm} (h : KS H A c ks) (hl : LE H H') : KS H' A c ks := RS.mono h hl fun cs x _ hr => RT.mono hl x hr
theorem KS.get {H : GH} {A : Option Addr} {c : Nat} {ks : List Tm} (h : KS H A c ks) {j : Nat} (hj : j < ks.length) :
    ∃ g off A' c', A = some ⟨g, off, none⟩ ∧ VT H (.agg #[.int .i64 ks[j].kind, str ks[j].name, .int .i64 ks[j].n, .slice A' ks[j].kids.length c']) ks[j] ∧
      ∀ i u, [Value.int .i64 ks[j].kind, str ks[j].name, .int .i64 ks[j].n, .slice A' ks[j].kids.length c'][i]? = some u → Hc H g (off + j * 4 + i) u := by
  obtain ⟨g, off, cs, hA, hl, hr, hc⟩ := RS.at_ h (List.getElem?_eq_getElem hj)
  generalize ks[j] = x at hr hc ⊢
  obtain ⟨k, s, n, l⟩ := x
  rw [rt_mk] at hr
  obtain ⟨v, rfl, hr⟩ := hr
  obtain ⟨A', c', rfl, h1, h2⟩ := hr
  exact ⟨g, off, A', c', hA, ⟨A', c', rfl, A', c', rfl, h1, h2⟩, hc⟩
theorem take_depth {ks : List Tm} {k : Nat} (h : k < ks.length) : depthL (ks.take (k + 1)) = max (depthL (ks.take k)) ks[k].depth := by
  rw [List.take_succ_eq_append_getElem h, depthL_append]; simp [depthL]
theorem take_count {ks : List Tm} {k : Nat} (h : k < ks.length) : countL (ks.take (k + 1)) = countL (ks.take k) + ks[k].count := by
  rw [List.take_succ_eq_append_getElem h, countL_append]; simp [countL]
theorem size_get_le {ks : List Tm} {k : Nat} (h : k < ks.length) : ks[k].size ≤ sizeL ks := size_le_sizeL (List.getElem_mem h)
theorem take_size {ks : List Tm} {k : Nat} (h : k < ks.length) : ((1 + sizeL (ks.take k) : Nat) : Int) + (ks[k].size : Int) = ((1 + sizeL (ks.take (k + 1)) : Nat) : Int) := by
  rw [List.take_succ_eq_append_getElem h, sizeL_append]; simp [sizeL]; omega
theorem size_take_le (ks : List Tm) (k : Nat) : sizeL (ks.take k) ≤ sizeL ks := by
  have := sizeL_append (ks.take k) (ks.drop k)
  rw [List.take_append_drop] at this; omega
end Go.Proofs.YtindlieilabgfaaGreatDoor
