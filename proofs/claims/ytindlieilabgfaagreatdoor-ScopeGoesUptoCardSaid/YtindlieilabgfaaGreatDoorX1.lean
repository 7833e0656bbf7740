/- The walk's own words: what is frozen (H), what is the call's own (L), the frame as a list (F); one lemma an operation. -/
import Derived.Tactics
import Derived.Defers
import Derived.Deep.MidRow
import Derived.Maps.AppendAt
import Derived.Below
import Derived.OrdersHeld
import Derived.KernelRfl
set_option linter.unusedVariables false
set_option linter.unusedSectionVars false
set_option linter.unusedSimpArgs false
set_option linter.unusedSimpArgs false
set_option autoImplicit false
set_option relaxedAutoImplicit false
namespace Go.Proofs.YtindlieilabgfaaGreatDoor.X
open Go

/-! ### 1. Memory -/
/-- What is frozen: blocks that nobody writes any more, and what they hold. -/
abbrev GH := Nat → Option Obj
/-- 'H1' has what 'H' has. -/
def LE (H H1 : GH) : Prop := ∀ b o, H b = some o → H1 b = some o
theorem LE.rfl {H : GH} : LE H H := fun _ _ h => h
theorem LE.trans {H H1 H2 : GH} (h : LE H H1) (k : LE H1 H2) : LE H H2 := fun b o e => k b o (h b o e)

/-- What is the call's own: a block, whole; a row that is appended to. -/
inductive It where
  | obj (g : Nat) (o : Obj)
  | blk (g : Nat) (p : Obj → Prop)
  | row (v : Value) (e sz n : Nat) (xs : List Value)
def It.holds (w : World) : It → Prop
  | .obj g o => w.heap[g]? = some o
  | .blk g p => ∃ o, w.heap[g]? = some o ∧ p o
  | .row v e sz n xs => w.ownsRow 0 e sz v n xs
def It.own : It → List Nat
  | .obj g _ => [g]
  | .blk g _ => [g]
  | .row v _ _ _ _ => v.ownBlock.toList
def Apart (i j : It) : Prop := ∀ g ∈ i.own, g ∉ j.own
theorem Apart.symm {i j : It} (h : Apart i j) : Apart j i := fun g hg hi => h g hi hg

structure St (E : World) (H : GH) (L : List It) (w : World) : Prop where
  os : w.os = E.os
  tape : w.tape = E.tape
  output : w.output = E.output
  fro : ∀ b o, H b = some o → w.heap[b]? = some o
  holds : ∀ i ∈ L, i.holds w
  off : ∀ i ∈ L, ∀ g ∈ i.own, H g = none
  apart : L.Pairwise Apart

theorem It.lt {w : World} {i : It} (h : i.holds w) {g : Nat} (hg : g ∈ i.own) : g < w.heap.size := by
  cases i with
  | obj g' o =>
    simp [It.own] at hg; subst hg
    simp [It.holds] at h
    exact (Array.getElem?_eq_some_iff.1 h).1
  | blk g' p =>
    simp [It.own] at hg; subst hg
    obtain ⟨o, ho, _⟩ := h
    exact (Array.getElem?_eq_some_iff.1 ho).1
  | row v e sz n xs =>
    simp [It.own] at hg
    exact (h.lt g hg).2
/-- An item is kept where its blocks are. -/
theorem It.kept {w w' : World} {i : It} (h : i.holds w) (hk : ∀ g ∈ i.own, w'.heap[g]? = w.heap[g]?) : i.holds w' := by
  cases i with
  | obj g o => simp only [It.holds] at *; rw [hk g (by simp [It.own])]; exact h
  | blk g p => simp only [It.holds] at *; rw [hk g (by simp [It.own])]; exact h
  | row v e sz n xs =>
    simp only [It.holds] at *
    refine ⟨h.1, ?_⟩
    rcases h.2 with h2 | ⟨g, cap, cur, rfl, h3, h4, h5⟩
    · exact .inl h2
    · exact .inr ⟨g, cap, cur, rfl, h3, by rw [hk g (by simp [It.own, Value.ownBlock])]; exact h4, h5⟩
theorem St.size_le {E w : World} {H : GH} {L : List It} (h : St E H L w) {b : Nat} {o : Obj} (hb : H b = some o) : b < w.heap.size :=
  (Array.getElem?_eq_some_iff.1 (h.fro b o hb)).1
/-- The world's count of draws is nobody's. -/
theorem St.drew {E w : World} {H : GH} {L : List It} (h : St E H L w) (n : Nat) : St E H L { w with drawn := n } :=
  ⟨h.os, h.tape, h.output, h.fro, fun i hi => It.kept (h.holds i hi) (fun _ _ => rfl), h.off, h.apart⟩
/-- A new block, on top. -/
theorem St.alloc {E w : World} {H : GH} {L : List It} (h : St E H L w) (o : Obj) : St E H (.obj w.heap.size o :: L) (w.alloc o) := by
  have old : ∀ b, b < w.heap.size → (w.alloc o).heap[b]? = w.heap[b]? := fun b hb => by
    show (w.heap.push o)[b]? = _
    simp [Array.getElem?_push, Nat.ne_of_lt hb]
  refine ⟨h.os, h.tape, h.output, fun b x hb => (old b (h.size_le hb)).trans (h.fro b x hb), ?_, ?_, ?_⟩
  · intro i hi
    cases hi with
    | head =>
      show (w.heap.push o)[w.heap.size]? = some o
      simp
    | tail _ hi => exact It.kept (h.holds i hi) (fun g hg => old g (It.lt (h.holds i hi) hg))
  · intro i hi g hg
    cases hi with
    | head =>
      simp [It.own] at hg; subst hg
      cases hH : H w.heap.size with
      | none => rfl
      | some x => exact absurd (h.size_le hH) (by omega)
    | tail _ hi => exact h.off i hi g hg
  · refine List.pairwise_cons.2 ⟨fun i hi g hg hgi => ?_, h.apart⟩
    simp [It.own] at hg; subst hg
    exact absurd (It.lt (h.holds i hi) hgi) (by omega)
/-- It number k, turned; every other block as it was. -/
theorem St.set {E w w' : World} {H : GH} {L : List It} (h : St E H L w) {k : Nat} {i j : It} (hk : L[k]? = some i) (hj : j.holds w')
    (hown : ∀ g ∈ j.own, g ∈ i.own ∨ w.heap.size ≤ g) (hos : w'.os = w.os) (htape : w'.tape = w.tape) (hout : w'.output = w.output)
    (hfr : ∀ b, b < w.heap.size → b ∉ i.own → w'.heap[b]? = w.heap[b]?) : St E H (L.set k j) w' := by
  have hki : i ∈ L := List.mem_of_getElem? hk
  have hklt : k < L.length := (List.getElem?_eq_some_iff.1 hk).1
  have hkeq : L[k] = i := (List.getElem?_eq_some_iff.1 hk).2
  have hpw := List.pairwise_iff_getElem.1 h.apart
  have other : ∀ m (hm : m < L.length), m ≠ k → Apart i L[m] := fun m hm hne => by
    rcases Nat.lt_or_gt_of_ne hne with hlt | hgt
    · have := hpw m k hm hklt hlt; rw [hkeq] at this; exact this.symm
    · have := hpw k m hklt hm hgt; rw [hkeq] at this; exact this
  have keepit : ∀ m (hm : m < L.length), m ≠ k → (L[m]).holds w' := fun m hm hne =>
    It.kept (h.holds _ (List.getElem_mem hm)) (fun g hg => hfr g (It.lt (h.holds _ (List.getElem_mem hm)) hg) (fun hgi => other m hm hne g hgi hg))
  have apj : ∀ m (hm : m < L.length), m ≠ k → Apart j L[m] := fun m hm hne g hg hgm => by
    rcases hown g hg with hgi | hge
    · exact other m hm hne g hgi hgm
    · exact absurd (It.lt (h.holds _ (List.getElem_mem hm)) hgm) (by omega)
  refine ⟨hos.trans h.os, htape.trans h.tape, hout.trans h.output, fun b o hb => ?_, ?_, ?_, ?_⟩
  · rw [hfr b (h.size_le hb) (fun hbi => by have := h.off i hki b hbi; rw [hb] at this; cases this)]
    exact h.fro b o hb
  · intro x hx
    obtain ⟨m, hm, rfl⟩ := List.getElem_of_mem hx
    rw [List.getElem_set]
    split
    · exact hj
    · exact keepit m (by simpa using hm) (fun e => by omega)
  · intro x hx g hg
    obtain ⟨m, hm, rfl⟩ := List.getElem_of_mem hx
    rw [List.getElem_set] at hg
    split at hg
    · rcases hown g hg with hgi | hge
      · exact h.off i hki g hgi
      · cases hH : H g with
        | none => rfl
        | some o => exact absurd (h.size_le hH) (by omega)
    · exact h.off _ (List.getElem_mem (by simpa using hm)) g hg
  · refine List.pairwise_iff_getElem.2 fun m n hm hn hmn => ?_
    simp only [List.length_set] at hm hn
    rw [List.getElem_set, List.getElem_set]
    split
    · split
      · omega
      · exact apj n hn (by omega)
    · split
      · exact (apj m hm (by omega)).symm
      · exact hpw m n hm hn hmn
/-- What is one's own may be dropped. -/
theorem St.sub {E w : World} {H : GH} {L L' : List It} (h : St E H L w) (hs : L'.Sublist L) : St E H L' w :=
  ⟨h.os, h.tape, h.output, h.fro, fun i hi => h.holds i (hs.mem hi), fun i hi => h.off i (hs.mem hi), h.apart.sublist hs⟩
theorem St.drop {E w : World} {H : GH} {L : List It} (h : St E H L w) (n : Nat) : St E H (L.drop n) w := h.sub (List.drop_sublist n L)
theorem St.perm {E w : World} {H : GH} {L L' : List It} (h : St E H L w) (hp : L'.Perm L) : St E H L' w :=
  ⟨h.os, h.tape, h.output, h.fro, fun i hi => h.holds i (hp.mem_iff.1 hi), fun i hi => h.off i (hp.mem_iff.1 hi), (hp.pairwise_iff Apart.symm).2 h.apart⟩
/-- The first item is frozen: nobody writes it any more. -/
def put (H : GH) (g : Nat) (o : Obj) : GH := fun b => if b = g then some o else H b
theorem put_same (H : GH) (g : Nat) (o : Obj) : put H g o g = some o := by simp [put]
theorem LE.put {H : GH} {g : Nat} {o : Obj} (h : H g = none) : LE H (put H g o) := fun b x hb => by
  unfold X.put
  split
  · rename_i e; subst e; rw [h] at hb; cases hb
  · exact hb
theorem St.freeze {E w : World} {H : GH} {L : List It} {g : Nat} {o : Obj} (h : St E H (.obj g o :: L) w) : LE H (put H g o) ∧ St E (put H g o) L w := by
  have hg : H g = none := h.off _ (List.mem_cons_self ..) g (by simp [It.own])
  refine ⟨LE.put hg, h.os, h.tape, h.output, fun b x hb => ?_, fun i hi => h.holds i (List.mem_cons_of_mem _ hi), fun i hi b hb => ?_, (List.pairwise_cons.1 h.apart).2⟩
  · unfold X.put at hb
    split at hb
    · rename_i e; subst e; cases hb; exact h.holds (.obj b o) (List.mem_cons_self ..)
    · exact h.fro b x hb
  · have ha := (List.pairwise_cons.1 h.apart).1 i hi g (by simp [It.own])
    unfold X.put
    rw [if_neg (fun e => by subst e; exact ha hb)]
    exact h.off i (List.mem_cons_of_mem _ hi) b hb

/-! ### 2. The frame -/
structure Ag (N : Nat) (D : List Deferred) (F : List (Nat × Value)) (a : Act) : Prop where
  size : a.tmps.size = N
  defers : a.defers = D
  get : ∀ i v, F.lookup i = some v → a.tmps.getD i undef = v
def ev (F : List (Nat × Value)) : Operand → Option Value
  | .tmp t => F.lookup t
  | .const v => some v
  | .global g => some (.pointer (some ⟨g, 0, none⟩))
  | .func f => some (.func (.func f) #[] #[])
theorem Ag.ev {N : Nat} {D : List Deferred} {F : List (Nat × Value)} {a : Act} (h : Ag N D F a) {x : Operand} {v : Value} (hx : X.ev F x = some v) : a.eval x = v := by
  cases x with
  | tmp t => exact h.get t v hx
  | const c => simpa [X.ev, Act.eval] using hx
  | global g => simpa [X.ev, Act.eval] using hx
  | func f => simpa [X.ev, Act.eval] using hx
theorem Ag.put {N : Nat} {D : List Deferred} {F : List (Nat × Value)} {a : Act} (h : Ag N D F a) {d : Nat} (hd : d < N) (v : Value) : Ag N D ((d, v) :: F) (a.put (some d) v) := by
  refine ⟨by simp [Act.put, h.size], h.defers, fun i u hu => ?_⟩
  simp only [List.lookup] at hu
  by_cases hi : i = d
  · subst hi
    simp at hu; subst hu
    simp [Act.put, Array.getD_eq_getD_getElem?, Array.getElem?_setIfInBounds, h.size, hd]
  · have : (i == d) = false := by simpa using hi
    rw [this] at hu
    have := h.get i u hu
    simpa [Act.put, Array.getD_eq_getD_getElem?, Array.getElem?_setIfInBounds, Ne.symm hi] using this
theorem Ag.sub {N : Nat} {D : List Deferred} {F F' : List (Nat × Value)} {a : Act} (h : Ag N D F a) (hs : F'.map (fun p => F.lookup p.1) = F'.map (fun p => some p.2)) : Ag N D F' a := by
  refine ⟨h.size, h.defers, fun i v hv => h.get i v ?_⟩
  clear h
  induction F' with
  | nil => cases hv
  | cons p F' ih =>
    obtain ⟨k, u⟩ := p
    simp only [List.map_cons, List.cons.injEq] at hs
    simp only [List.lookup] at hv
    by_cases hi : i = k
    · subst hi; simp at hv; subst hv; exact hs.1
    · have : (i == k) = false := by simpa using hi
      rw [this] at hv
      exact ih hs.2 hv
theorem ag_enter (N : Nat) (args : Array Value) (hs : args.size ≤ N) (F : List (Nat × Value)) (hF : F.map (fun p => args[p.1]?) = F.map (fun p => some p.2)) :
    Ag N [] F { tmps := args ++ Array.replicate (N - args.size) undef, defers := [] } := by
  refine ⟨by simp; omega, rfl, fun i v hv => ?_⟩
  have : args[i]? = some v := by
    induction F with
    | nil => cases hv
    | cons p F ih =>
      obtain ⟨k, u⟩ := p
      simp only [List.map_cons, List.cons.injEq] at hF
      simp only [List.lookup] at hv
      by_cases hi : i = k
      · subst hi; simp at hv; subst hv; exact hF.1
      · have : (i == k) = false := by simpa using hi
        rw [this] at hv
        exact ih hF.2 hv
  have hlt : i < args.size := (Array.getElem?_eq_some_iff.1 this).1
  simp only [Array.getD_eq_getD_getElem?]
  rw [Array.getElem?_append_left hlt, this]; rfl

/-- The whole state of a walk. -/
structure S (E : World) (H : GH) (N : Nat) (D : List Deferred) (F : List (Nat × Value)) (L : List It) (a : Act) (w : World) : Prop where
  ag : Ag N D F a
  st : St E H L w
theorem S.fr {E w : World} {H : GH} {N : Nat} {D : List Deferred} {F : List (Nat × Value)} {L : List It} {a : Act} (h : S E H N D F L a w) (F' : List (Nat × Value))
    (hs : F'.map (fun p => F.lookup p.1) = F'.map (fun p => some p.2) := by rfl) : S E H N D F' L a w := ⟨h.ag.sub hs, h.st⟩
end Go.Proofs.YtindlieilabgfaaGreatDoor.X
