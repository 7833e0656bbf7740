/- ScopeKeeps: for all arguments of bulk at most 1048576 the law answers true, and they read as before. -/
import Derived.Test.YtindlieilabgfaaGreatDoorZk5
import Derived.Lib.ItoaLen
import Derived.Test.YtindlieilabgfaaGreatDoorCards
import Derived.Test.YtindlieilabgfaaGreatDoorTie
import Derived.WalkKit
import Derived.ProofKit
import Derived.OpenShut
import Derived.Deep.DeepHandedRow
/- Laws of renaming, plainly. -/
set_option linter.unusedVariables false
set_option linter.unusedSectionVars false
set_option linter.unusedSimpArgs false
set_option autoImplicit false
set_option relaxedAutoImplicit false
namespace Go.Proofs.YtindlieilabgfaaGreatDoor
open Go X

/-- Does a text begin with a digit? -/
def numB : Bs → Bool
  | [] => false
  | c :: _ => decide (48 ≤ c.toNat) && decide (c.toNat ≤ 57)
theorem numB_dec (u : Nat) : ∃ c l, Lib.decDigits u = c :: l ∧ numB (Lib.decDigits u) = true := by
  induction u using Nat.strongRecOn with
  | _ u ih =>
    rw [Lib.decDigits]
    split
    · rename_i h
      refine ⟨_, _, rfl, ?_⟩
      have : (UInt8.ofNat (48 + u)).toNat = 48 + u := by simp [UInt8.toNat_ofNat']; omega
      simp [numB, this]; omega
    · rename_i h
      obtain ⟨c, l, e, hn⟩ := ih (u / 10) (by omega)
      rw [e] at hn ⊢
      exact ⟨c, _, rfl, hn⟩
theorem numB_itoa {n : Int} (h : 0 ≤ n) : numB (Lib.itoa n) = true := by
  unfold Lib.itoa
  rw [if_neg (by omega)]
  obtain ⟨_, _, _, hn⟩ := numB_dec n.toNat
  exact hn
/-- The numbers' bound. -/
def Fit (n : Int) (c : Nat) : Prop := 0 ≤ n ∧ n + c ≤ 4611686018427387904
theorem nx_fit {n : Int} {c : Nat} (h : Fit n (c + 1)) : nx n = n + 1 := by
  obtain ⟨h1, h2⟩ := h
  unfold nx
  exact w64 (by omega) (by omega)
theorem bnd2 {k : Int} (h : bnd k = true) : (k == 2) = false := by
  unfold bnd at h
  rcases Bool.or_eq_true _ _ ▸ h with h | h
  · rw [eq_of_beq h]; rfl
  · rcases Bool.or_eq_true _ _ ▸ h with h | h <;> rw [eq_of_beq h] <;> rfl
mutual
theorem ren_depth : ∀ (t : Tm) (σ : Bs → Option Bs) (n : Int), (t.ren σ n).1.depth = t.depth
  | .mk k s m ks, σ, n => by simp only [Tm.ren, Tm.depth, renL_depth]
theorem renL_depth (bd : Bool) (s s' : Bs) : ∀ (l : List Tm) (σ : Bs → Option Bs) (n : Int), depthL (renL bd s s' l σ n).1 = depthL l
  | [], _, _ => rfl
  | t :: l, σ, n => by simp only [renL, depthL, ren_depth t, renL_depth bd s s' l]
end
mutual
theorem ren_cnt : ∀ (t : Tm) (σ : Bs → Option Bs) (n : Int), (t.ren σ n).1.count = t.count
  | .mk k s m ks, σ, n => by simp only [Tm.ren, Tm.count, renL_cnt]
theorem renL_cnt (bd : Bool) (s s' : Bs) : ∀ (l : List Tm) (σ : Bs → Option Bs) (n : Int), countL (renL bd s s' l σ n).1 = countL l
  | [], _, _ => rfl
  | t :: l, σ, n => by simp only [renL, countL, ren_cnt t, renL_cnt bd s s' l]
end
mutual
theorem ren_num : ∀ (t : Tm) (σ : Bs → Option Bs) (n : Int), Fit n t.count → (t.ren σ n).2 = n + t.count
  | .mk k s m ks, σ, n, h => by
    simp only [Tm.ren]
    simp only [Tm.count] at h
    by_cases hb : bnd k = true
    · rw [if_pos hb] at h ⊢
      have e := nx_fit (n := n) (c := countL ks) (by unfold Fit at *; omega)
      rw [e]
      rw [renL_num _ _ _ ks σ (n + 1) (by unfold Fit at *; omega)]
      simp only [Tm.count, if_pos hb]; omega
    · rw [if_neg hb] at h ⊢
      rw [renL_num _ _ _ ks σ n (by unfold Fit at *; omega)]
      simp only [Tm.count, if_neg hb]; omega
theorem renL_num (bd : Bool) (s s' : Bs) : ∀ (l : List Tm) (σ : Bs → Option Bs) (n : Int), Fit n (countL l) → (renL bd s s' l σ n).2 = n + countL l
  | [], _, n, _ => by simp [renL, countL]
  | t :: l, σ, n, h => by
    simp only [countL] at h
    simp only [renL]
    have e := ren_num t (if (bd && l.isEmpty) = true then updS σ s s' else σ) n (by unfold Fit at *; omega)
    rw [e, renL_num bd s s' l σ (n + t.count) (by unfold Fit at *; omega)]
    simp only [countL]; omega
end
theorem renL_empty (bd : Bool) (s s' : Bs) (l : List Tm) (σ : Bs → Option Bs) (n : Int) : (renL bd s s' l σ n).1.isEmpty = l.isEmpty := by
  cases l <;> simp [renL]
/-- How a renaming and what is bound, here and there, go together. -/
def Rel (σ : Bs → Option Bs) (b b' : Bs → Nat) : Prop := ∀ s, numB s = false → (σ s = none → b s = 0 ∧ b' s = 0) ∧ (∀ s', σ s = some s' → 0 < b s ∧ 0 < b' s')
theorem Rel.bind {σ : Bs → Option Bs} {b b' : Bs → Nat} (h : Rel σ b b') {s s' : Bs} (hs' : numB s' = true) : Rel (updS σ s s') (inc1 b s) (inc1 b' s') := by
  intro r hr
  obtain ⟨h1, h2⟩ := h r hr
  unfold updS inc1
  by_cases e : r = s
  · subst e
    refine ⟨fun h0 => by simp at h0, fun q hq => ?_⟩
    simp at hq; subst hq; simp
  · rw [if_neg e]
    refine ⟨fun h0 => ?_, fun q hq => ?_⟩
    · have hne : r ≠ s' := fun q => by rw [q, hs'] at hr; cases hr
      rw [if_neg e, if_neg hne]; exact h1 h0
    · rw [if_neg e]; have := h2 q hq; split <;> omega
mutual
theorem fr_ren : ∀ (t : Tm) (σ : Bs → Option Bs) (n : Int) (b b' : Bs → Nat) (x : Bs), Fit n t.count → (∀ s ∈ t.names, numB s = false) → Rel σ b b' → (∀ s s', σ s = some s' → numB s' = true) → (t.ren σ n).1.fr b' x = t.fr b x
  | .mk k s m ks, σ, n, b, b', x, hf, hn, hr, hσ => by
    have hs : numB s = false := hn s (by simp [Tm.names])
    have hks : ∀ r ∈ namesL ks, numB r = false := fun r h => hn r (by simp [Tm.names, h])
    simp only [Tm.ren, Tm.fr]
    simp only [Tm.count] at hf
    congr 1
    · by_cases h2 : (k == 2) = true
      · have hb : bnd k = false := by
          cases hb : bnd k with
          | false => rfl
          | true => rw [bnd2 hb] at h2; cases h2
        rw [h2, renN, hb, h2]
        simp only [Bool.false_eq_true, if_false, if_true, Bool.true_and]
        obtain ⟨h3, h4⟩ := hr s hs
        cases he : σ s with
        | none =>
          obtain ⟨e1, e2⟩ := h3 he
          simp [e1, e2]
        | some s' =>
          obtain ⟨e1, e2⟩ := h4 s' he
          simp only [Option.getD_some]
          rw [show decide (b' s' = 0) = false by simp; omega, show decide (b s = 0) = false by simp; omega]; rfl
      · have h2 : (k == 2) = false := by simpa using h2
        rw [h2]; rfl
    · by_cases hb : bnd k = true
      · rw [if_pos hb] at hf ⊢
        have hs' : numB (renN k s σ n) = true := by rw [renN, if_pos hb]; exact numB_itoa hf.1
        have e := nx_fit (n := n) (c := countL ks) (by unfold Fit at *; omega)
        rw [e]
        exact frL_ren (bnd k) s (renN k s σ n) ks σ (n + 1) b b' x (by unfold Fit at *; omega) hks hr hσ (fun _ => hs')
      · rw [if_neg hb] at hf ⊢
        exact frL_ren (bnd k) s (renN k s σ n) ks σ n b b' x (by unfold Fit at *; omega) hks hr hσ (fun h => absurd h hb)
theorem frL_ren (bd : Bool) (s s' : Bs) : ∀ (l : List Tm) (σ : Bs → Option Bs) (n : Int) (b b' : Bs → Nat) (x : Bs), Fit n (countL l) → (∀ r ∈ namesL l, numB r = false) → Rel σ b b' → (∀ s s', σ s = some s' → numB s' = true) → (bd = true → numB s' = true) → frL bd s' (renL bd s s' l σ n).1 b' x = frL bd s l b x
  | [], _, _, _, _, _, _, _, _, _, _ => rfl
  | t :: l, σ, n, b, b', x, hf, hn, hr, hσ, hbd => by
    simp only [countL] at hf
    simp only [renL, frL, renL_empty]
    have hnt : ∀ r ∈ t.names, numB r = false := fun r h => hn r (by simp [namesL, h])
    have hnl : ∀ r ∈ namesL l, numB r = false := fun r h => hn r (by simp [namesL, h])
    have ft : Fit n t.count := by unfold Fit at *; omega
    have e := ren_num t (if (bd && l.isEmpty) = true then updS σ s s' else σ) n ft
    rw [e]
    congr 1
    · by_cases hc : (bd && l.isEmpty) = true
      · rw [if_pos hc, if_pos hc, if_pos hc]
        have hs' := hbd (by simp at hc; exact hc.1)
        refine fr_ren t _ n _ _ x ft hnt (hr.bind hs') fun r r' h => ?_
        unfold updS at h
        split at h
        · cases h; exact hs'
        · exact hσ r r' h
      · rw [if_neg hc, if_neg hc, if_neg hc]
        exact fr_ren t σ n b b' x ft hnt hr hσ
    · exact frL_ren bd s s' l σ (n + t.count) b b' x (by unfold Fit at *; omega) hnl hr hσ hbd
end
theorem rel0 : Rel (fun _ => none) none0 none0 := fun s _ => ⟨fun _ => ⟨rfl, rfl⟩, fun s' h => by cases h⟩
/-- What is renamed has the free names that it had. -/
theorem free_ren {t : Tm} {n : Int} (hf : Fit n t.count) (hn : ∀ s ∈ t.names, numB s = false) {ss ts : List Bs} (hs : IsSet ss ((t.ren (fun _ => none) n).1.fr none0)) (ht : IsSet ts (t.fr none0)) : ss = ts := by
  have e : (t.ren (fun _ => none) n).1.fr none0 = t.fr none0 := funext fun x => fr_ren t _ n none0 none0 x hf hn rel0 (fun _ _ h => by cases h)
  rw [e] at hs
  exact isSet_uniq hs ht
/-- How two renamings one behind the other go together. -/
def Rel2 (σ τ : Bs → Option Bs) : Prop := ∀ s, numB s = false → (σ s = none → τ s = none) ∧ (∀ s', σ s = some s' → τ s' = some s')
theorem Rel2.bind {σ τ : Bs → Option Bs} (h : Rel2 σ τ) {s s' : Bs} (hs' : numB s' = true) (hσ : ∀ r r', σ r = some r' → numB r' = true) : Rel2 (updS σ s s') (updS τ s' s') := by
  intro r hr
  obtain ⟨h1, h2⟩ := h r hr
  unfold updS
  by_cases e : r = s
  · subst e
    refine ⟨fun h0 => by simp at h0, fun q hq => ?_⟩
    simp at hq; subst hq; simp
  · rw [if_neg e]
    refine ⟨fun h0 => ?_, fun q hq => ?_⟩
    · have hne : r ≠ s' := fun q => by rw [q, hs'] at hr; cases hr
      rw [if_neg hne]; exact h1 h0
    · by_cases e2 : q = s'
      · rw [if_pos e2, e2]
      · rw [if_neg e2]; exact h2 q hq
theorem updS_num {σ : Bs → Option Bs} {s s' : Bs} (hs' : numB s' = true) (hσ : ∀ r r', σ r = some r' → numB r' = true) : ∀ r r', updS σ s s' r = some r' → numB r' = true := fun r r' h => by
  unfold updS at h
  split at h
  · cases h; exact hs'
  · exact hσ r r' h
mutual
theorem ren_ren : ∀ (t : Tm) (σ τ : Bs → Option Bs) (n : Int), Fit n t.count → (∀ s ∈ t.names, numB s = false) → Rel2 σ τ → (∀ s s', σ s = some s' → numB s' = true) → (t.ren σ n).1.ren τ n = t.ren σ n
  | .mk k s m ks, σ, τ, n, hf, hn, hr, hσ => by
    have hs : numB s = false := hn s (by simp [Tm.names])
    have hks : ∀ r ∈ namesL ks, numB r = false := fun r h => hn r (by simp [Tm.names, h])
    simp only [Tm.ren]
    simp only [Tm.count] at hf
    have hN : renN k (renN k s σ n) τ n = renN k s σ n := by
      unfold renN
      by_cases hb : bnd k = true
      · rw [if_pos hb, if_pos hb]
      · rw [if_neg hb, if_neg hb]
        by_cases h2 : (k == 2) = true
        · rw [if_pos h2, if_pos h2]
          obtain ⟨h3, h4⟩ := hr s hs
          cases he : σ s with
          | none => simp [h3 he]
          | some s' => simp [h4 s' he]
        · rw [if_neg h2, if_neg h2]
    have key : ∀ n1, Fit n1 (countL ks) → renL (bnd k) (renN k s σ n) (renN k (renN k s σ n) τ n) (renL (bnd k) s (renN k s σ n) ks σ n1).1 τ n1 = renL (bnd k) s (renN k s σ n) ks σ n1 := fun n1 hf1 => by
      rw [hN]
      exact renL_ren (bnd k) s (renN k s σ n) ks σ τ n1 hf1 hks hr hσ (fun hb => by rw [renN, if_pos hb]; exact numB_itoa hf.1)
    by_cases hb : bnd k = true
    · rw [if_pos hb] at hf ⊢
      have e := nx_fit (n := n) (c := countL ks) (by unfold Fit at *; omega)
      rw [key (nx n) (by rw [e]; unfold Fit at *; omega), hN]
    · rw [if_neg hb] at hf ⊢
      rw [key n (by unfold Fit at *; omega), hN]
theorem renL_ren (bd : Bool) (s s' : Bs) : ∀ (l : List Tm) (σ τ : Bs → Option Bs) (n : Int), Fit n (countL l) → (∀ r ∈ namesL l, numB r = false) → Rel2 σ τ → (∀ s s', σ s = some s' → numB s' = true) → (bd = true → numB s' = true) → renL bd s' s' (renL bd s s' l σ n).1 τ n = renL bd s s' l σ n
  | [], _, _, _, _, _, _, _, _ => rfl
  | t :: l, σ, τ, n, hf, hn, hr, hσ, hbd => by
    simp only [countL] at hf
    have hnt : ∀ r ∈ t.names, numB r = false := fun r h => hn r (by simp [namesL, h])
    have hnl : ∀ r ∈ namesL l, numB r = false := fun r h => hn r (by simp [namesL, h])
    have ft : Fit n t.count := by unfold Fit at *; omega
    have e := ren_num t (if (bd && l.isEmpty) = true then updS σ s s' else σ) n ft
    have h1 : (t.ren (if (bd && l.isEmpty) = true then updS σ s s' else σ) n).1.ren (if (bd && l.isEmpty) = true then updS τ s' s' else τ) n = t.ren (if (bd && l.isEmpty) = true then updS σ s s' else σ) n := by
      by_cases hc : (bd && l.isEmpty) = true
      · rw [if_pos hc, if_pos hc]
        have hs' := hbd (by simp at hc; exact hc.1)
        exact ren_ren t _ _ n ft hnt (hr.bind hs' hσ) (updS_num hs' hσ)
      · rw [if_neg hc, if_neg hc]
        exact ren_ren t σ τ n ft hnt hr hσ
    have h2 := renL_ren bd s s' l σ τ (n + t.count) (by unfold Fit at *; omega) hnl hr hσ hbd
    simp only [renL, renL_empty]
    rw [h1, e, h2]
end
theorem rel20 : Rel2 (fun _ => none) (fun _ => none) := fun s _ => ⟨fun _ => rfl, fun s' h => by cases h⟩
/-- Renamed again from the same number it is the same. -/
theorem ren_again {t : Tm} {n : Int} (hf : Fit n t.count) (hn : ∀ s ∈ t.names, numB s = false) : (t.ren (fun _ => none) n).1.ren (fun _ => none) n = t.ren (fun _ => none) n :=
  ren_ren t _ _ n hf hn rel20 (fun _ _ h => by cases h)
mutual
theorem ren_long : ∀ (t : Tm) (σ : Bs → Option Bs) (n : Int) (B : Nat), In64 n → 21 ≤ B → t.long ≤ B → (∀ s s', σ s = some s' → s'.length ≤ B) → (t.ren σ n).1.long ≤ B
  | .mk k s m ks, σ, n, B, h0, hB, ht, hσ => by
    simp only [Tm.long] at ht
    simp only [Tm.ren, Tm.long]
    have h1 : (renN k s σ n).length ≤ B := by
      unfold renN
      split
      · have := Lib.itoa_length_le n h0.1 h0.2; omega
      · split
        · cases he : σ s with
          | none => simp; omega
          | some s' => simpa using hσ s s' he
        · omega
    have h2 := renL_long (bnd k) s (renN k s σ n) ks σ (if bnd k = true then nx n else n) B (by split; exact nx_in n; exact h0) hB (by omega) hσ h1
    omega
theorem renL_long (bd : Bool) (s s' : Bs) : ∀ (l : List Tm) (σ : Bs → Option Bs) (n : Int) (B : Nat), In64 n → 21 ≤ B → longL l ≤ B → (∀ s s', σ s = some s' → s'.length ≤ B) → s'.length ≤ B → longL (renL bd s s' l σ n).1 ≤ B
  | [], _, _, _, _, _, _, _, _ => by simp [renL, longL]
  | t :: l, σ, n, B, h0, hB, hl, hσ, hs' => by
    simp only [longL] at hl
    simp only [renL, longL]
    have h1 : ∀ r r', (if (bd && l.isEmpty) = true then updS σ s s' else σ) r = some r' → r'.length ≤ B := by
      intro r r' h
      split at h
      · unfold updS at h
        split at h
        · cases h; exact hs'
        · exact hσ r r' h
      · exact hσ r r' h
    have h2 := ren_long t _ n B h0 hB (by omega) h1
    have h3 := renL_long bd s s' l σ _ B (ren_in t (if (bd && l.isEmpty) = true then updS σ s s' else σ) n h0) hB (by omega) hσ hs'
    omega
end
end Go.Proofs.YtindlieilabgfaaGreatDoor
/- Walks: term.Same, slices.EqualFunc. -/
set_option linter.unusedVariables false
set_option linter.unusedSimpArgs false
set_option linter.unusedSectionVars false
set_option autoImplicit false
set_option relaxedAutoImplicit false
set_option maxRecDepth 10000
namespace Go.Proofs.YtindlieilabgfaaGreatDoor
open Go X
theorem take_eq_succ {ks ms : List Tm} {k : Nat} (h : k < ks.length) (h' : k < ms.length) (e : ks.take k = ms.take k) (s : ks[k].same ms[k] = true) : ks.take (k + 1) = ms.take (k + 1) := by
  rw [List.take_succ_eq_append_getElem h, List.take_succ_eq_append_getElem h', e, (same_iff _ _).1 s]
theorem take_eq_all {ks ms : List Tm} {k : Nat} (hl : ks.length = ms.length) (hk : k = ks.length) (e : ks.take k = ms.take k) : sameL ks ms = true := by
  rw [sameL_iff]; subst hk; rw [List.take_length, hl, List.take_length] at e; exact e
theorem sameL_len {ks ms : List Tm} (h : ks.length ≠ ms.length) : sameL ks ms = false := by
  rw [Bool.eq_false_iff, ne_eq, sameL_iff]; rintro rfl; exact h rfl
theorem sameL_at {ks ms : List Tm} {k : Nat} (h : k < ks.length) (h' : k < ms.length) (s : ks[k].same ms[k] = false ∨ ks[k].same ms[k] = false) : sameL ks ms = false := by
  rw [Bool.eq_false_iff, ne_eq, sameL_iff]; rintro rfl
  have := (same_iff ks[k] ks[k]).2 rfl
  rcases s with s | s <;> rw [this] at s <;> cases s
theorem EqualFunc_ok (ks ms : List Tm) (A A' : Option Addr) (c c' : Nat) (E : World) (H : GH) (L : List It) (hks : KS H A c ks) (hms : KS H A' c' ms) (hb : ks.length < 1000000000000)
    (hf : ∀ x ∈ ks, ∀ y ∈ ms, ∀ vx vy, VT H vx x → VT H vy y → ∀ L, Ok Tryz.prog 27 #[vx, vy] E H L fun r H' L' => r = .bool (x.same y) ∧ H = H' ∧ L = L') :
    Ok Tryz.prog 56 #[.slice A ks.length c, .slice A' ms.length c', .func (.func 27) #[] #[]] E H L fun r H' L' => r = .bool (sameL ks ms) ∧ H = H' ∧ L = L' := by
  refine enter (N := 32) [(0, _), (1, _), (2, _)] Tryz.func56 rfl rfl rfl rfl fun a w h => ?_
  refine sq ?_
  refine rg0 ?_
  refine as_ h fun a w h => ?_
  refine nl0 ?_
  refine thN ?_
  refine sq ?_
  refine sq ?_
  refine rg0 ?_
  refine mv h fun a w h => ?_
  refine ln sli22 h fun a w h => ?_
  refine mv h fun a w h => ?_
  refine ln sli22 h fun a w h => ?_
  refine nei h fun a w h => ?_
  refine nl0 ?_
  refine thN ?_
  refine cdB h (fun c14 => ?_) (fun c14 => ?_)
  · have hfact : sameL ks ms = false := sameL_len (by simp at c14; omega)
    refine sq ?_
    refine rg0 ?_
    refine as_ h fun a w h => ?_
    refine nl0 ?_
    refine thN ?_
    refine ret_ ?_
    refine thR ?_
    refine fin1 6 0 h LE.rfl ?_
    exact ⟨by rw [hfact], rfl, rfl⟩
  · have hlen : ks.length = ms.length := by simp at c14; omega
    refine sk_ ?_
    refine thN ?_
    refine sq ?_
    refine sq ?_
    refine rg0 ?_
    refine mv h fun a w h => ?_
    refine ln sli22 h fun a w h => ?_
    refine mv h fun a w h => ?_
    refine nl0 ?_
    refine thN ?_
    refine blk ?_
    refine lp (β := Nat) (fun k a w => (k ≤ ks.length ∧ ks.take k = ms.take k) ∧ S E H 32 [] [(17, .int .i64 (k : Int)), (15, .slice A ks.length c), (16, .int .i64 (ks.length : Int)), (1, .slice A' ms.length c'), (2, .func (.func 27) #[] #[])] (L) a w)
      (fun k => ks.length - k) 0 ⟨⟨Nat.zero_le _, rfl⟩, h.to 0 _⟩ ?_
    rintro k a w ⟨pre, h⟩
    refine sq ?_
    refine rg0 ?_
    refine lt h fun a w h => ?_
    refine nl0 ?_
    refine thN ?_
    refine sq ?_
    refine cdB h (fun c18 => ?_) (fun c18 => ?_)
    · have c18 : k < ks.length := by simpa using c18
      have c18m : k < ms.length := by omega
      obtain ⟨g, off, A2, c2, rfl, hx, hcx⟩ := KS.get hks c18
      obtain ⟨g', off', A3, c3, rfl, hy, hcy⟩ := KS.get hms c18m
      refine sk_ ?_
      refine thN ?_
      refine sq ?_
      refine blk ?_
      refine sq ?_
      refine rg0 ?_
      refine mv h fun a w h => ?_
      refine ia sli22 sz24 rfl c18 h fun a w h => ?_
      refine ldHN tN24 rfl hcx h fun a w h => ?_
      refine al zr24 h fun g8 a w h => ?_
      refine as_ h fun a w h => ?_
      refine sw0 tN24 h fun a w h => ?_
      refine nl0 ?_
      refine thN ?_
      refine sq ?_
      refine rg0 ?_
      refine mv h fun a w h => ?_
      refine mv h fun a w h => ?_
      refine ia sli22 sz24 rfl c18m h fun a w h => ?_
      refine ldHN tN24 rfl hcy h fun a w h => ?_
      refine al zr24 h fun g9 a w h => ?_
      refine sw0 tN24 h fun a w h => ?_
      refine nl0 ?_
      refine thN ?_
      refine sq ?_
      refine rg0 ?_
      refine mv h fun a w h => ?_
      refine ldW 1 tN24 h fun a w h => ?_
      refine ldW 0 tN24 h fun a w h => ?_
      refine cl bod27 (hf _ (List.getElem_mem c18) _ (List.getElem_mem c18m) _ _ hx hy _) h fun r H1 L1 a w le R h => ?_
      obtain ⟨rfl, rfl, rfl⟩ := R
      refine nt h fun a w h => ?_
      refine nl0 ?_
      refine thN ?_
      refine cdB h (fun c30 => ?_) (fun c30 => ?_)
      · have hfact : sameL ks ms = false := sameL_at c18 c18m (by simpa using c30)
        refine sq ?_
        refine rg0 ?_
        refine as_ h fun a w h => ?_
        refine nl0 ?_
        refine thN ?_
        refine ret_ ?_
        refine ibR ?_
        refine thR ?_
        refine thR ?_
        refine ibR ?_
        refine thR ?_
        refine fin1 6 2 h LE.rfl ?_
        exact ⟨by rw [hfact], rfl, rfl⟩
      · have c30 : ks[k].same ms[k] = true := by simpa using c30
        refine sk_ ?_
        refine ibN ?_
        refine thN ?_
        refine rg0 ?_
        refine inc ?_ h fun a w h => ?_
        · omega
        refine mv h fun a w h => ?_
        refine nl0 ?_
        refine thN ?_
        exact ⟨(k + 1), ⟨⟨by omega, take_eq_succ c18 c18m pre.2 c30⟩, h.to 2 _⟩, by show _ - (k + 1) < _ - k; omega⟩
    · have hk : k = ks.length := by simp at c18; omega
      have hfact : sameL ks ms = true := take_eq_all hlen hk pre.2
      refine exit_ ?_
      refine thE ?_
      refine thE ?_
      refine ibH ?_
      refine thN ?_
      refine sq ?_
      refine rg0 ?_
      refine as_ h fun a w h => ?_
      refine nl0 ?_
      refine thN ?_
      refine ret_ ?_
      refine fin1 6 0 h LE.rfl ?_
      exact ⟨by rw [hfact], rfl, rfl⟩

theorem Same_ok : ∀ (t u : Tm) (v v' : Value) (E : World) (H : GH) (L : List It), VT H v t → VT H v' u → t.size < 1000000000000 →
    Ok Tryz.prog 27 #[v, v'] E H L fun r H' L' => r = .bool (t.same u) ∧ H = H' ∧ L = L' := by
  intro t
  induction t using Tm.ind with
  | h kd nm nn ks ih =>
  intro u v v' E H L hv hv' hb
  obtain ⟨kd', nm', nn', ms⟩ := u
  obtain ⟨A, c, rfl, hks⟩ := hv.mk
  obtain ⟨A', c', rfl, hms⟩ := hv'.mk
  simp only [Tm.size] at hb
  have hlen := length_le_sizeL ks
  refine enter (N := 31) [(0, _), (1, _)] Tryz.func27 rfl rfl rfl rfl fun a w h => ?_
  refine sq ?_
  refine rg0 ?_
  refine bxA h fun g2 a w h => ?_
  refine bxA h fun g3 a w h => ?_
  refine as_ h fun a w h => ?_
  refine nl0 ?_
  refine thN ?_
  refine sq ?_
  refine rg0 ?_
  refine fa fl24_0 (r := 0) h fun a w h => ?_
  refine ld 1 t1_3 h fun a w h => ?_
  refine fa fl24_0 (r := 0) h fun a w h => ?_
  refine ld 0 t1_3 h fun a w h => ?_
  refine eqi h fun a w h => ?_
  refine h.spl (fun c9 h => ?_) (fun c9 h => ?_)
  · refine mv h fun a w h => ?_
    refine fa fl24_1 (r := 1) h fun a w h => ?_
    refine ld 1 t1_9 h fun a w h => ?_
    refine fa fl24_1 (r := 1) h fun a w h => ?_
    refine ld 0 t1_9 h fun a w h => ?_
    refine eqb h fun a w h => ?_
    refine pkT h fun a w h => ?_
    refine h.spl (fun c16 h => ?_) (fun c16 h => ?_)
    · refine mv h fun a w h => ?_
      refine fa fl24_2 (r := 2) h fun a w h => ?_
      refine ld 1 t1_2 h fun a w h => ?_
      refine fa fl24_2 (r := 2) h fun a w h => ?_
      refine ld 0 t1_2 h fun a w h => ?_
      refine eqi h fun a w h => ?_
      refine pkT h fun a w h => ?_
      refine h.spl (fun c23 h => ?_) (fun c23 h => ?_)
      · refine mv h fun a w h => ?_
        refine fa fl24_3 (r := 3) h fun a w h => ?_
        refine ld 1 t1_22 h fun a w h => ?_
        refine fa fl24_3 (r := 3) h fun a w h => ?_
        refine ld 0 t1_22 h fun a w h => ?_
        refine cl bod56 (EqualFunc_ok ks ms A A' c c' E H _ hks hms (by omega) (fun x hx y _ vx vy hvx hvy L => ih x hx y vx vy E H L hvx hvy (by have := size_le_sizeL hx; omega))) h fun r H1 L1 a w le R h => ?_
        obtain ⟨rfl, rfl, rfl⟩ := R
        refine pkT h fun a w h => ?_
        refine as_ h fun a w h => ?_
        refine nl0 ?_
        refine thN ?_
        refine ret_ ?_
        refine fin1 4 2 h LE.rfl ?_
        exact ⟨by rw [same_mk, c9, c16, c23]; first | done | rfl, rfl, rfl⟩
      · refine mv h fun a w h => ?_
        refine sk h (k := fun a w h => ?_)
        refine sk h (k := fun a w h => ?_)
        refine sk h (k := fun a w h => ?_)
        refine sk h (k := fun a w h => ?_)
        refine sk h (k := fun a w h => ?_)
        refine pkF h fun a w h => ?_
        refine as_ h fun a w h => ?_
        refine nl0 ?_
        refine thN ?_
        refine ret_ ?_
        refine fin1 4 2 h LE.rfl ?_
        exact ⟨by rw [same_mk, c9, c16, c23]; first | done | rfl, rfl, rfl⟩
    · refine mv h fun a w h => ?_
      refine sk h (k := fun a w h => ?_)
      refine sk h (k := fun a w h => ?_)
      refine sk h (k := fun a w h => ?_)
      refine sk h (k := fun a w h => ?_)
      refine sk h (k := fun a w h => ?_)
      refine pkF h fun a w h => ?_
      refine mv h fun a w h => ?_
      refine sk h (k := fun a w h => ?_)
      refine sk h (k := fun a w h => ?_)
      refine sk h (k := fun a w h => ?_)
      refine sk h (k := fun a w h => ?_)
      refine sk h (k := fun a w h => ?_)
      refine pkF h fun a w h => ?_
      refine as_ h fun a w h => ?_
      refine nl0 ?_
      refine thN ?_
      refine ret_ ?_
      refine fin1 4 2 h LE.rfl ?_
      exact ⟨by rw [same_mk, c9, c16]; first | done | rfl, rfl, rfl⟩
  · refine mv h fun a w h => ?_
    refine sk h (k := fun a w h => ?_)
    refine sk h (k := fun a w h => ?_)
    refine sk h (k := fun a w h => ?_)
    refine sk h (k := fun a w h => ?_)
    refine sk h (k := fun a w h => ?_)
    refine pkF h fun a w h => ?_
    refine mv h fun a w h => ?_
    refine sk h (k := fun a w h => ?_)
    refine sk h (k := fun a w h => ?_)
    refine sk h (k := fun a w h => ?_)
    refine sk h (k := fun a w h => ?_)
    refine sk h (k := fun a w h => ?_)
    refine pkF h fun a w h => ?_
    refine mv h fun a w h => ?_
    refine sk h (k := fun a w h => ?_)
    refine sk h (k := fun a w h => ?_)
    refine sk h (k := fun a w h => ?_)
    refine sk h (k := fun a w h => ?_)
    refine sk h (k := fun a w h => ?_)
    refine pkF h fun a w h => ?_
    refine as_ h fun a w h => ?_
    refine nl0 ?_
    refine thN ?_
    refine ret_ ?_
    refine fin1 4 2 h LE.rfl ?_
    exact ⟨by rw [same_mk, c9]; first | done | rfl, rfl, rfl⟩
end Go.Proofs.YtindlieilabgfaaGreatDoor
/- Walk: the law ScopeKeeps. -/
set_option linter.unusedVariables false
set_option linter.unusedSimpArgs false
set_option linter.unusedSectionVars false
set_option autoImplicit false
set_option relaxedAutoImplicit false
set_option maxRecDepth 10000
set_option maxHeartbeats 2000000
namespace Go.Proofs.YtindlieilabgfaaGreatDoor
open Go X
theorem mk_size {t : Tm} (h : Mk 6 t) : t.size ≤ 16384 := h.1
theorem mk_num {t : Tm} {d : Nat} (h : Mk d t) : ∀ s ∈ t.names, numB s = false := fun s hs => (by decide : ∀ s ∈ mkN, numB s = false) s (h.2 s hs)
mutual
theorem long_of {B : Nat} : ∀ t : Tm, (∀ s ∈ t.names, s.length ≤ B) → t.long ≤ B
  | .mk k s n ks, h => by
    have h1 := h s (by simp [Tm.names])
    have h2 := longL_of (B := B) ks (fun r hr => h r (by simp [Tm.names, hr]))
    simp only [Tm.long]; omega
theorem longL_of {B : Nat} : ∀ l : List Tm, (∀ s ∈ namesL l, s.length ≤ B) → longL l ≤ B
  | [], _ => by simp [longL]
  | t :: l, h => by
    have h1 := long_of (B := B) t (fun r hr => h r (by simp [namesL, hr]))
    have h2 := longL_of (B := B) l (fun r hr => h r (by simp [namesL, hr]))
    simp only [longL]; omega
end
theorem mk_long {t : Tm} {d : Nat} (h : Mk d t) : t.long ≤ 2 := long_of t fun s hs => (by decide : ∀ s ∈ mkN, s.length ≤ 2) s (h.2 s hs)
theorem u16_lt (b : UInt16) : b.toNat < 65536 := b.toNat_lt

theorem keeps_ok (l : List UInt8) (next : Int) (A : Option Addr) (c : Nat) (E : World) (H : GH) (L : List It) (hl : US H A c l) (hb : l.length < 1000000000000) (h0 : 0 ≤ next) (h1 : next < 65536) (hL : Laid H) :
    Ok Tryz.prog 5 #[.slice A l.length c, .int .u16 next] E H L fun r H' L' => r = .bool true ∧ L = L' := by
  have hn : In64 next := by unfold In64; omega
  refine enter (N := 78) [(0, _), (1, _)] Tryz.func5 rfl rfl rfl rfl fun a w h => ?_
  refine sq ?_
  refine rg0 ?_
  refine as_ h fun a w h => ?_
  refine nl0 ?_
  refine thN ?_
  refine sq ?_
  refine rg0 ?_
  refine cl bod9 (examples_ok E H _ (hL.up LE.rfl)) h (fun r11 H11 L11 a w le11 R h => ?_)
  obtain ⟨rfl, hl11⟩ := R
  subst L11
  refine as_ h fun a w h => ?_
  refine nl0 ?_
  refine thN ?_
  refine sq ?_
  refine sq ?_
  refine rg0 ?_
  refine mv h fun a w h => ?_
  refine nt h fun a w h => ?_
  refine nl0 ?_
  refine thN ?_
  refine cdF h ?_
  refine sk_ ?_
  refine thN ?_
  refine sq ?_
  refine rg0 ?_
  refine mv h fun a w h => ?_
  refine cl bod21 (made_ok l _ _ E H11 _ (US.up hl le11) hb) h (fun r15 H15 L15 a w le15 R h => ?_)
  obtain ⟨t15, hmk15, ⟨A15, c15, rfl, hk15⟩, rfl⟩ := R
  have hsz15 := mk_size hmk15
  have hnum15 := mk_num hmk15
  have hlg15 := mk_long hmk15
  have hct15 := count_le_size t15
  refine al zr24 h fun g6 a w h => ?_
  refine sw0 tN24 h fun a w h => ?_
  refine nl0 ?_
  refine thN ?_
  refine sq ?_
  refine rg0 ?_
  refine ldW 0 tN24 h fun a w h => ?_
  refine mv h fun a w h => ?_
  refine cv (next) (w64 (by omega) (by omega)) it56 it3 h fun a w h => ?_
  have l_H_H15 : LE H H15 := le11.trans le15
  refine cl bod10 (Rename_ok t15 _ next E H15 _ ⟨A15, c15, rfl, hk15⟩ (hL.up l_H_H15) (by first | assumption | omega) (by first | assumption | omega)) h (fun r20 H20 L20 a w le20 R h => ?_)
  obtain ⟨_, rfl, ⟨A20_0_0, c20_0_0, rfl, hk20_0_0⟩, hl20⟩ := R
  subst L20
  refine mv h fun a w h => ?_
  refine ex h fun a w h => ?_
  refine ex h fun a w h => ?_
  refine al zr24 h fun g7 a w h => ?_
  refine sw0 tN24 h fun a w h => ?_
  refine as_ h fun a w h => ?_
  refine nl0 ?_
  refine thN ?_
  refine sq ?_
  have hus : (t15.ren noS next).1.size ≤ 16384 := by rw [ren_size]; exact hsz15
  have hul : (t15.ren noS next).1.long ≤ 21 := ren_long t15 noS next 21 hn (by omega) (by omega) (fun _ _ h => by cases h)
  have hfit : Fit next t15.count := by unfold Fit; omega
  have hag := ren_again hfit hnum15
  replace hag : (t15.ren noS next).1.ren noS next = t15.ren noS next := hag
  have hnm := ren_num t15 noS next hfit
  have hcu := count_le_size (t15.ren noS next).1
  refine rg0 ?_
  refine ldW 0 tN24 h fun a w h => ?_
  refine mv h fun a w h => ?_
  refine cv (next) (w64 (by omega) (by omega)) it56 it3 h fun a w h => ?_
  have l_H_H20 : LE H H20 := (le11.trans le15).trans le20
  refine cl bod10 (Rename_ok ((t15.ren noS next).1) _ next E H20 _ ⟨A20_0_0, c20_0_0, rfl, hk20_0_0⟩ (hL.up l_H_H20) (by first | assumption | omega) (by first | assumption | omega)) h (fun r27 H27 L27 a w le27 R h => ?_)
  obtain ⟨_, rfl, ⟨A27_0_0, c27_0_0, rfl, hk27_0_0⟩, hl27⟩ := R
  subst L27
  refine mv h fun a w h => ?_
  refine ex h fun a w h => ?_
  refine ex h fun a w h => ?_
  refine al zr24 h fun g9 a w h => ?_
  refine sw0 tN24 h fun a w h => ?_
  refine as_ h fun a w h => ?_
  refine nl0 ?_
  refine thN ?_
  refine sqc (fun a w => S E H27 78 [] [(4, .bool (((t15.ren noS next).1).same ((((t15.ren noS next).1).ren noS next).1)))] (.obj g9 (.cells #[.int .i64 (((((t15.ren noS next).1).ren noS next).1).kind), str (((((t15.ren noS next).1).ren noS next).1).name), .int .i64 (((((t15.ren noS next).1).ren noS next).1).n), .slice A27_0_0 (((((t15.ren noS next).1).ren noS next).1).kids).length c27_0_0] 24 (0, 0)) :: .obj g7 (.cells #[.int .i64 (((t15.ren noS next).1).kind), str (((t15.ren noS next).1).name), .int .i64 (((t15.ren noS next).1).n), .slice A20_0_0 (((t15.ren noS next).1).kids).length c20_0_0] 24 (0, 0)) :: .obj g6 (.cells #[.int .i64 t15.kind, str t15.name, .int .i64 t15.n, .slice A15 t15.kids.length c15] 24 (0, 0)) :: L) a w) ?_ ?_
  · refine rgx [1, 2, 0] [_, _, _] [2, 4, 9, 11, 16, 18, 23, 25, 33, 44, 45] 49 mix h (fun a w h => ?_)
    refine tkl 0 false (by kernel_rfl) ?_
    refine mv h fun a w h => ?_
    refine tk0 ?_
    refine tkl 1 false (by kernel_rfl) ?_
    refine mv h fun a w h => ?_
    refine tk0 ?_
    refine tkl 2 true (by kernel_rfl) ?_
    refine ldWT 0 tN24 h fun a w h => ?_
    refine tk0 ?_
    refine tkl 4 true (by kernel_rfl) ?_
    refine ldWT 1 tN24 h fun a w h => ?_
    refine tk0 ?_
    refine brl1 3 true (by kernel_rfl) (by kernel_rfl) (fun _ => h.st.sees' LE.rfl (by simp)) ?_
    refine cl bod24 (Size_ok ((t15.ren noS next).1) _ E H27 _ ⟨A20_0_0, c20_0_0, rfl, (KS.up hk20_0_0 le27)⟩ (by first | assumption | omega)) h (fun r33 H33 L33 a w le33 R h => ?_)
    obtain ⟨rfl, rfl, rfl⟩ := R
    refine br0 ?_
    refine brl1 5 true (by kernel_rfl) (by kernel_rfl) (fun _ => h.st.sees' LE.rfl (by simp)) ?_
    have l_H15_H27 : LE H15 H27 := le20.trans le27
    refine cl bod24 (Size_ok t15 _ E H27 _ ⟨A15, c15, rfl, (KS.up hk15 l_H15_H27)⟩ (by first | assumption | omega)) h (fun r35 H35 L35 a w le35 R h => ?_)
    obtain ⟨rfl, rfl, rfl⟩ := R
    refine br0 ?_
    refine tkl 6 false (by kernel_rfl) ?_
    refine eqi h fun a w h => ?_
    refine h.spl (fun c36 h => ?_) (fun c36 h => ?_)
    · have d36 : ((t15.ren noS next).1).size = t15.size := by first | (simpa using c36) | (simp at c36; omega)
      refine tk0 ?_
      refine tkl 7 false (by kernel_rfl) ?_
      refine pkT h fun a w h => ?_
      refine tk0 ?_
      refine tkl 8 false (by kernel_rfl) ?_
      refine mv h fun a w h => ?_
      refine tk0 ?_
      refine tkl 9 true (by kernel_rfl) ?_
      refine ldWT 0 tN24 h fun a w h => ?_
      refine tk0 ?_
      refine tkl 11 true (by kernel_rfl) ?_
      refine ldWT 1 tN24 h fun a w h => ?_
      refine tk0 ?_
      refine brl1 10 true (by kernel_rfl) (by kernel_rfl) (fun _ => h.st.sees' LE.rfl (by simp)) ?_
      refine cl bod25 (Depth_ok ((t15.ren noS next).1) _ E H27 _ ⟨A20_0_0, c20_0_0, rfl, (KS.up hk20_0_0 le27)⟩ (by first | assumption | omega)) h (fun r40 H40 L40 a w le40 R h => ?_)
      obtain ⟨rfl, rfl, rfl⟩ := R
      refine br0 ?_
      refine brl1 12 true (by kernel_rfl) (by kernel_rfl) (fun _ => h.st.sees' LE.rfl (by simp)) ?_
      refine cl bod25 (Depth_ok t15 _ E H27 _ ⟨A15, c15, rfl, (KS.up hk15 l_H15_H27)⟩ (by first | assumption | omega)) h (fun r42 H42 L42 a w le42 R h => ?_)
      obtain ⟨rfl, rfl, rfl⟩ := R
      refine br0 ?_
      refine tkl 13 false (by kernel_rfl) ?_
      refine eqi h fun a w h => ?_
      refine h.spl (fun c43 h => ?_) (fun c43 h => ?_)
      · have d43 : ((t15.ren noS next).1).depth = t15.depth := by first | (simpa using c43) | (simp at c43; omega)
        refine tk0 ?_
        refine tkl 14 false (by kernel_rfl) ?_
        refine pkT h fun a w h => ?_
        refine tk0 ?_
        refine tkl 15 false (by kernel_rfl) ?_
        refine mv h fun a w h => ?_
        refine tk0 ?_
        refine tkl 16 true (by kernel_rfl) ?_
        refine ldWT 0 tN24 h fun a w h => ?_
        refine tk0 ?_
        refine tkl 18 true (by kernel_rfl) ?_
        refine ldWT 1 tN24 h fun a w h => ?_
        refine tk0 ?_
        refine brl1 17 true (by kernel_rfl) (by kernel_rfl) (fun _ => h.st.sees' LE.rfl (by simp)) ?_
        refine cl bod23 (Free_ok ((t15.ren noS next).1) _ E H27 _ ⟨A20_0_0, c20_0_0, rfl, (KS.up hk20_0_0 le27)⟩ (by first | assumption | omega) (by first | assumption | omega)) h (fun r47 H47 L47 a w le47 R h => ?_) (hS := fun _ _ _ _ _ le R hw => by obtain ⟨_, _, _, _, rfl, rfl, _⟩ := R; exact hw.sees' (by first | exact LE.rfl | assumption) (by simp))
        obtain ⟨A47, c47, ss47, rfl, rfl, rfl, hs47⟩ := R
        obtain ⟨Hf47, leHf47, h, hks47⟩ := h.frw 0 (rstr_row ss47) rfl (fun _ _ _ _ _ hr => hr)
        have hks47 : SS Hf47 A47 c47 ss47 := hks47
        have hfl47 := free_len hs47
        refine br0 ?_
        refine brl1 19 true (by kernel_rfl) (by kernel_rfl) (fun _ => h.st.sees' leHf47 (by simp)) ?_
        have l_H15_Hf47 : LE H15 Hf47 := (le20.trans le27).trans leHf47
        refine cl bod23 (Free_ok t15 _ E Hf47 _ ⟨A15, c15, rfl, (KS.up hk15 l_H15_Hf47)⟩ (by first | assumption | omega) (by first | assumption | omega)) h (fun r49 H49 L49 a w le49 R h => ?_) (hS := fun _ _ _ _ _ le R hw => by obtain ⟨_, _, _, _, rfl, rfl, _⟩ := R; exact hw.sees' (by first | exact LE.rfl | assumption) (by simp))
        obtain ⟨A49, c49, ss49, rfl, rfl, rfl, hs49⟩ := R
        obtain ⟨Hf49, leHf49, h, hks49⟩ := h.frw 0 (rstr_row ss49) rfl (fun _ _ _ _ _ hr => hr)
        have hks49 : SS Hf49 A49 c49 ss49 := hks49
        have hfl49 := free_len hs49
        refine br0 ?_
        have l_H27_Hf49 : LE H27 Hf49 := leHf47.trans leHf49
        refine brl1 20 true (by kernel_rfl) (by kernel_rfl) (fun _ => h.st.sees' l_H27_Hf49 (by simp)) ?_
        refine cl bod26 (texts_ok ss47 ss49 _ _ _ _ E Hf49 _ (SS.up hks47 leHf49) hks49 (by first | assumption | omega)) h (fun r50 H50 L50 a w le50 R h => ?_)
        obtain ⟨rfl, rfl, rfl⟩ := R
        refine h.spl (fun c50 h => ?_) (fun c50 h => ?_)
        · refine br0 ?_
          refine tkl 21 false (by kernel_rfl) ?_
          refine pkT h fun a w h => ?_
          refine tk0 ?_
          refine tkl 22 false (by kernel_rfl) ?_
          refine mv h fun a w h => ?_
          refine tk0 ?_
          refine tkl 23 true (by kernel_rfl) ?_
          refine ldWT 0 tN24 h fun a w h => ?_
          refine tk0 ?_
          refine tkl 25 true (by kernel_rfl) ?_
          refine ldWT 1 tN24 h fun a w h => ?_
          refine tk0 ?_
          refine brl1 24 true (by kernel_rfl) (by kernel_rfl) (fun _ => h.st.sees' l_H27_Hf49 (by simp)) ?_
          have l_H20_Hf49 : LE H20 Hf49 := (le27.trans leHf47).trans leHf49
          refine cl bod14 (Count_ok ((t15.ren noS next).1) _ E Hf49 _ ⟨A20_0_0, c20_0_0, rfl, (KS.up hk20_0_0 l_H20_Hf49)⟩ (by first | assumption | omega)) h (fun r54 H54 L54 a w le54 R h => ?_)
          obtain ⟨rfl, rfl, rfl⟩ := R
          refine br0 ?_
          refine brl1 26 true (by kernel_rfl) (by kernel_rfl) (fun _ => h.st.sees' l_H27_Hf49 (by simp)) ?_
          have l_H15_Hf49 : LE H15 Hf49 := ((le20.trans le27).trans leHf47).trans leHf49
          refine cl bod14 (Count_ok t15 _ E Hf49 _ ⟨A15, c15, rfl, (KS.up hk15 l_H15_Hf49)⟩ (by first | assumption | omega)) h (fun r56 H56 L56 a w le56 R h => ?_)
          obtain ⟨rfl, rfl, rfl⟩ := R
          refine br0 ?_
          refine tkl 27 false (by kernel_rfl) ?_
          refine eqi h fun a w h => ?_
          refine h.spl (fun c57 h => ?_) (fun c57 h => ?_)
          · have d57 : ((t15.ren noS next).1).count = t15.count := by first | (simpa using c57) | (simp at c57; omega)
            refine tk0 ?_
            refine tkl 28 false (by kernel_rfl) ?_
            refine pkT h fun a w h => ?_
            refine tk0 ?_
            refine tkl 29 false (by kernel_rfl) ?_
            refine mv h fun a w h => ?_
            refine tk0 ?_
            refine tkl 30 false (by kernel_rfl) ?_
            refine mv h fun a w h => ?_
            refine tk0 ?_
            refine tkl 31 false (by kernel_rfl) ?_
            refine mv h fun a w h => ?_
            refine tk0 ?_
            refine tkl 32 false (by kernel_rfl) ?_
            refine cv (next) (w64 (by omega) (by omega)) it56 it3 h fun a w h => ?_
            refine tk0 ?_
            refine tkl 33 true (by kernel_rfl) ?_
            refine ldWT 1 tN24 h fun a w h => ?_
            refine tk0 ?_
            refine brl1 34 true (by kernel_rfl) (by kernel_rfl) (fun _ => h.st.sees' l_H27_Hf49 (by simp)) ?_
            refine cl bod14 (Count_ok t15 _ E Hf49 _ ⟨A15, c15, rfl, (KS.up hk15 l_H15_Hf49)⟩ (by first | assumption | omega)) h (fun r64 H64 L64 a w le64 R h => ?_)
            obtain ⟨rfl, rfl, rfl⟩ := R
            refine br0 ?_
            refine tkl 35 false (by kernel_rfl) ?_
            refine adr (next + (t15.count : Int)) (w64 (by omega) (by omega)) h fun a w h => ?_
            refine tk0 ?_
            refine tkl 36 false (by kernel_rfl) ?_
            refine eqi h fun a w h => ?_
            refine h.spl (fun c66 h => ?_) (fun c66 h => ?_)
            · have d66 : (t15.ren noS next).2 = (next + (t15.count : Int)) := by first | (simpa using c66) | (simp at c66; omega)
              refine tk0 ?_
              refine tkl 37 false (by kernel_rfl) ?_
              refine pkT h fun a w h => ?_
              refine tk0 ?_
              refine tkl 38 false (by kernel_rfl) ?_
              refine mv h fun a w h => ?_
              refine tk0 ?_
              refine tkl 39 false (by kernel_rfl) ?_
              refine mv h fun a w h => ?_
              refine tk0 ?_
              refine tkl 40 false (by kernel_rfl) ?_
              refine mv h fun a w h => ?_
              refine tk0 ?_
              refine tkl 41 false (by kernel_rfl) ?_
              refine eqi h fun a w h => ?_
              refine h.spl (fun c71 h => ?_) (fun c71 h => ?_)
              · have d71 : (((t15.ren noS next).1).ren noS next).2 = (t15.ren noS next).2 := by first | (simpa using c71) | (simp at c71; omega)
                refine tk0 ?_
                refine tkl 42 false (by kernel_rfl) ?_
                refine pkT h fun a w h => ?_
                refine tk0 ?_
                refine tkl 43 false (by kernel_rfl) ?_
                refine mv h fun a w h => ?_
                refine tk0 ?_
                refine tkl 44 true (by kernel_rfl) ?_
                refine ldWT 0 tN24 h fun a w h => ?_
                refine tk0 ?_
                refine tkl 45 true (by kernel_rfl) ?_
                refine ldWT 2 tN24 h fun a w h => ?_
                refine tk0 ?_
                refine brl1 46 true (by kernel_rfl) (by kernel_rfl) (fun _ => h.st.sees' l_H27_Hf49 (by simp)) ?_
                refine cl bod27 (Same_ok ((t15.ren noS next).1) ((((t15.ren noS next).1).ren noS next).1) _ _ E Hf49 _ ⟨A20_0_0, c20_0_0, rfl, (KS.up hk20_0_0 l_H20_Hf49)⟩ ⟨A27_0_0, c27_0_0, rfl, (KS.up hk27_0_0 l_H27_Hf49)⟩ (by first | assumption | omega)) h (fun r76 H76 L76 a w le76 R h => ?_)
                obtain ⟨rfl, rfl, rfl⟩ := R
                refine br0 ?_
                refine tkl 47 false (by kernel_rfl) ?_
                refine pkT h fun a w h => ?_
                refine tk0 ?_
                refine tkl 48 false (by kernel_rfl) ?_
                refine as_ h fun a w h => ?_
                refine tk0 ?_
                refine en (by kernel_rfl) ?_
                refine thN ?_
                have h := h.less l_H27_Hf49
                have h2 : S E H27 78 [] [(4, .bool (((t15.ren noS next).1).same ((((t15.ren noS next).1).ren noS next).1)))] (.obj g9 (.cells #[.int .i64 (((((t15.ren noS next).1).ren noS next).1).kind), str (((((t15.ren noS next).1).ren noS next).1).name), .int .i64 (((((t15.ren noS next).1).ren noS next).1).n), .slice A27_0_0 (((((t15.ren noS next).1).ren noS next).1).kids).length c27_0_0] 24 (0, 0)) :: .obj g7 (.cells #[.int .i64 (((t15.ren noS next).1).kind), str (((t15.ren noS next).1).name), .int .i64 (((t15.ren noS next).1).n), .slice A20_0_0 (((t15.ren noS next).1).kids).length c20_0_0] 24 (0, 0)) :: .obj g6 (.cells #[.int .i64 t15.kind, str t15.name, .int .i64 t15.n, .slice A15 t15.kids.length c15] 24 (0, 0)) :: L) a w := h.to 0 _
                exact h2
              · have d71 : (((t15.ren noS next).1).ren noS next).2 ≠ (t15.ren noS next).2 := by first | (simpa using c71) | (simp at c71; omega)
                rw [hag] at c71; simp at c71
            · have d66 : (t15.ren noS next).2 ≠ (next + (t15.count : Int)) := by first | (simpa using c66) | (simp at c66; omega)
              rw [hnm] at c66; simp at c66
          · have d57 : ((t15.ren noS next).1).count ≠ t15.count := by first | (simpa using c57) | (simp at c57; omega)
            rw [ren_cnt] at c57; simp at c57
        · rw [free_ren hfit hnum15 hs47 hs49] at c50; simp at c50
      · have d43 : ((t15.ren noS next).1).depth ≠ t15.depth := by first | (simpa using c43) | (simp at c43; omega)
        rw [ren_depth] at c43; simp at c43
    · have d36 : ((t15.ren noS next).1).size ≠ t15.size := by first | (simpa using c36) | (simp at c36; omega)
      rw [ren_size] at c36; simp at c36
  · rintro a w h
    refine ret_ ?_
    have l_H_H27 : LE H H27 := ((le11.trans le15).trans le20).trans le27
    refine fin1 4 3 h l_H_H27 ?_
    exact ⟨by rw [hag]; exact congrArg Value.bool ((same_iff _ _).2 rfl), rfl⟩

end Go.Proofs.YtindlieilabgfaaGreatDoor
/- ScopeKeeps: for all arguments of bulk at most 1048576 the law answers true, and they read as before. -/
set_option linter.unusedVariables false
set_option linter.unusedSectionVars false
set_option linter.unusedSimpArgs false
set_option autoImplicit false
set_option relaxedAutoImplicit false
set_option maxRecDepth 100000
namespace Go.Proofs.YtindlieilabgfaaGreatDoor.keeps
open Go X Go.ChangeShapes Go.WideShapes Go.ChangeAt Go.RowKit
theorem own : ownKnob Tryz.prog.godebug = none := by kernel_rfl
theorem contract (H : Type) (enc : TypeId × Value → H) (W : World) (base : Nat) (args : Array Value) (ds gs : List (DataW H)) (before : List MemPlace)
    (hval : ∀ (j : Nat) t v, Tryz.f5.params[j]? = some t → args[j]? = some v → Value.okWide Tryz.prog W .any base t v)
    (hW : DataW.Whole enc Tryz.prog Tryz.f5.params.toList Rows.scopeKeepsSpec.vars false W args.toList ds gs before) (hk : Rows.uptoSmall H (ds ++ gs) = true) (hL : laidMetH Tryz.prog Rows.scopeKeepsUptoRow.laid W) :
    Calls Tryz.prog 5 args W fun e W' => ∃ v, e = .returned v ∧ Rows.scopeKeepsSpec.post enc Tryz.prog Tryz.f5 false true false false W args v W' := by
  have hW' := hW
  obtain ⟨p, q, hA, hV, rfl, hfz, hnd⟩ := hW
  rw [show Tryz.f5.params = #[29, 56] from rfl] at hA hval
  obtain ⟨v0, vs0, d0, ds0, p0, q0, ha0, rfl, rfl, h0, r0⟩ := trodAll_cons hA
  obtain ⟨v1, vs1, d1, ds1, p1, q1, ha1, rfl, rfl, h1, r1⟩ := trodAll_cons r0
  obtain ⟨rfl, rfl, rfl⟩ := trodAll_nil r1
  obtain rfl : args = #[v0, v1] := by cases args; simp_all
  have hgs : gs = [] := by
    cases gs with
    | nil => rfl
    | cons g gs => exact (show False from hV).elim
  subst hgs
  have hbulk : Rows.uptoBulkAll [d0, d1] ≤ 1048576 := by simpa [Rows.uptoSmall] using hk
  simp only [Rows.uptoBulkAll] at hbulk
  obtain ⟨fuel0, htr0⟩ := h0
  obtain ⟨fuel1, htr1⟩ := h1
  obtain ⟨A0, c0, l0, rfl, hl0, hb0⟩ := open_u8s (e := 5) Tryz.underlying29 Tryz.underlying5 (by kernel_rfl) (cells_slice Tryz.underlying29 (hval 0 29 v0 rfl rfl)) htr0 (by show Rows.uptoBulk d0 ≤ _; omega)
  obtain ⟨n1, rfl, lo1, hi1⟩ := open_int Tryz.underlying56 (cells_int Tryz.underlying56 (hval 1 56 v1 rfl rfl)) htr1
  simp [IntKind.min, IntKind.max, IntKind.signed, IntKind.bits] at lo1 hi1
  have hlaid : Laid (HW W) := by
    obtain ⟨ps, hv, _⟩ := (hL : laidMet Tryz.prog Rows.scopeKeepsUptoRow.laid W)
    exact laid_of hv (by simp [Rows.scopeKeepsUptoRow]) (by simp [Rows.scopeKeepsUptoRow]) (by simp [Rows.scopeKeepsUptoRow]) (by simp [Rows.scopeKeepsUptoRow])
  refine (keeps_ok l0 n1 A0 c0 W (HW W) [] hl0 hb0 (by omega) (by omega) hlaid W (st_world W)).mono fun e W' ⟨r, H', L', he, hle, hst, hr, hl⟩ => ?_
  subst hr
  refine ⟨_, he, post_true (by simpa using hW') rfl rfl rfl rfl (below_of hle hst) (by kernel_rfl) (fun t ht => ?_) rfl Tryz.underlying4⟩
  rw [show Tryz.f5.params = #[29, 56] from rfl] at ht
  have ht' : t = 29 ∨ t = 56 := by simpa using ht
  rcases ht' with rfl | rfl <;> exact ⟨by kernel_rfl, of_decide_eq_true (by kernel_rfl)⟩
/-- A WORLD FOR THE WITNESS: the settled one, the tables laid. -/
def valOf : DataW Unit → Value
  | .lit (.int k n) => .int k n
  | .lit (.string s) => str s
  | _ => .bool false
def cellsOf : DataW Unit → Array Value
  | .agg ds => (ds.map valOf).toArray
  | _ => #[]
def lay (i : Nat) (o : Obj) : Obj := match i, o with
  | 0, .cells _ t z => .cells (cellsOf Rows.laid_chancel_term_kids) t z
  | 1, .cells _ t z => .cells (cellsOf Rows.laid_chancel_term_ops) t z
  | 2, .cells _ t z => .cells (cellsOf Rows.laid_internal_strconv_uint64pow10) t z
  | 3, .cells _ t z => .cells (cellsOf Rows.laid_chancel_lex_keys) t z
  | 4, .cells _ t z => .cells (cellsOf Rows.laid_math_bits_deBruijn32tab) t z
  | 5, .cells _ t z => .cells (cellsOf Rows.laid_math_bits_deBruijn64tab) t z
  | _, o => o
noncomputable def laidWorld (os : Os) : World :=
  { World.holding Tryz.prog os ⟨#[], #[], []⟩ with heap := (World.holding Tryz.prog os ⟨#[], #[], []⟩).heap.mapIdx lay }
def arg : Array Value := #[.slice none 0 0, .int .u16 0]
theorem laid_met (os : Os) : laidMet Tryz.prog Rows.scopeKeepsUptoRow.laid ((laidWorld os).forCall (fun _ _ => 0) ⟨#[], arg, []⟩).memory :=
  laidMet_of_run' 8 (by kernel_rfl) (by kernel_rfl)
theorem reads (os : Os) {H : Type} (enc : TypeId × Value → H) : ∃ places, DataW.whole enc Tryz.prog ((laidWorld os).forCall (fun _ _ => 0) ⟨#[], arg, []⟩).memory Tryz.f5.params.toList Rows.scopeKeepsSpec.vars false arg.toList 8 = some ([.nil, .lit (.int .u16 0)], [], places) :=
  ⟨[], by kernel_rfl⟩
theorem liftedUpto (os : Os) (started : os.Started) (H : Type) (enc : TypeId × Value → H) (F : Stop.Interp) :
    ReturnsInHanded {} Tryz.checked os 5 .any ((Rows.OpenSpec.upto Rows.scopeKeepsSpec).preRow enc Tryz.prog Tryz.f5 Rows.scopeKeepsUptoRow.domain false Rows.scopeKeepsUptoRow.laid) (((Rows.OpenSpec.upto Rows.scopeKeepsSpec).at F).post enc Tryz.prog Tryz.f5 false true false false) := by
  obtain ⟨places, hx⟩ := reads os enc
  refine returnsInHanded_of_row (C := Tryz.checked) (s := Rows.OpenSpec.upto Rows.scopeKeepsSpec) own started (by kernel_rfl) Tryz.func5
    (witness_row_at (enc := enc) (C := Tryz.checked) false (laidWorld os) arg rfl (by kernel_rfl) (by kernel_rfl) (by kernel_rfl)
      (OpenSpec.preRow_of_cond 8 hx (by kernel_rfl) (fun k hk => by cases hk; kernel_rfl) (by kernel_rfl) (laid_met os))) ?_
  intro W base args ds gs before hval hW _ hcond _ hL _ _
  exact contract H enc W base args ds gs before hval hW (hcond _ rfl) hL
theorem saidUpto : Rows.ScopeKeepsUptoSaid :=
  OpenClaim.holds_of_cond 5 Tryz.f5 rfl rfl rfl rfl rfl rfl rfl ⟨rfl, rfl, rfl, rfl, rfl⟩ rfl rfl rfl rfl rfl (by kernel_rfl) Tryz.func5 (by kernel_rfl)
    (of_decide_eq_true (by kernel_rfl)) (by unfold Func.isWrapper; first | (rw [if_pos (by decide +kernel)]; kernel_rfl) | (rw [if_neg (by decide +kernel)]; exact ⟨rfl, rfl⟩))
    (fun os started H enc _ F => by rw [OpenClaim.pre_eq_preRow]; exact liftedUpto os started H enc F)
theorem plain (f : FuncId) (fn : Func) (hf : Tryz.pinned.checked.prog.funcNamed "chancel/chancellaw07.ScopeKeeps" = some f) (hfn : Tryz.pinned.checked.prog.funcs[f]? = some fn) :
    true = Tryz.pinned.checked.prog.looks [] ∧ ∀ (j : Nat) t, fn.params[j]? = some t → Tryz.pinned.checked.prog.wantsStandIn t = false := by
  obtain rfl : f = 5 := Option.some.inj ((show Tryz.prog.funcNamed "chancel/chancellaw07.ScopeKeeps" = some 5 by kernel_rfl).symm.trans hf) |>.symm
  obtain rfl : fn = Tryz.f5 := (Option.some.inj (Tryz.func5.symm.trans hfn)).symm
  refine ⟨by kernel_rfl, fun j t ht => ?_⟩
  rw [show Tryz.f5.params = #[29, 56] from rfl] at ht
  have ht' : t = 29 ∨ t = 56 := by simpa using Array.mem_of_getElem? ht
  rcases ht' with rfl | rfl <;> exact (show Tryz.prog.wantsStandIn _ = false by kernel_rfl)
/-- THE SECOND FORM's CARD. -/
theorem cardUpto : Rows.ScopeKeepsUptoCardSaid :=
  Claim7.holds_tied_plain_at .later [] _ _ _ _ saidUpto (fun _ h => by cases h) (by kernel_rfl) (fun _ h => by cases h) scopeKeepsUpto_row_tie rfl ⟨rfl, rfl⟩ (by kernel_rfl) rfl plain (by kernel_rfl)
end Go.Proofs.YtindlieilabgfaaGreatDoor.keeps
