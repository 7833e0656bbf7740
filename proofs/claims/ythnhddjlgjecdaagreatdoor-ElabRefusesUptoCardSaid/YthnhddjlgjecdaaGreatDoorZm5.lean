/- Parts of the proof: S15, S16, S17, X21, V17, S18, V18, S19, X22, V19, X23, V20, T9, S20, S21, V21, S26, V24, T10, S22. -/
import Derived.Test.YthnhddjlgjecdaaGreatDoorZm4
import Derived.Recover
import Derived.Lib.ItoaLen
set_option autoImplicit false
set_option linter.unnecessarySimpa false
set_option linter.unusedSectionVars false
set_option linter.unusedSimpArgs false
set_option linter.unusedVariables false
set_option maxHeartbeats 8000000
set_option maxRecDepth 100000
set_option relaxedAutoImplicit false
namespace Go.Proofs.YthnhddjlgjecdaaGreatDoor
open Go X
theorem hole_eok {e : Es} (he : EOk e) : EOk e.hole.1 := ⟨he.ord, he.sml⟩
theorem shape_inv {M : Nat} {e e' : Es} {kd : Int} {nm : Bs} {b s : Sh} {ss : List Sh} (he : EOk e) (hk : ∀ i, Gd1 M e.nx (ss.getD i (.mk 0 0 [])) ∨ (ss.length ≤ i)) (hb : kd = 3 → Gd1 1 e.nx b) (hnm : kd = 2 → ∃ s, e.nm nm = some s ∧ Gd1 M e.nx s)
   (hl : (kd = 3 ∨ kd = 8 ∨ kd = 7 ∨ kd = 10 → 0 < ss.length) ∧ (kd = 4 ∨ kd = 9 ∨ kd = 11 ∨ kd = 12 ∨ kd = 5 ∨ kd = 13 → 1 < ss.length) ∧ (kd = 6 → 2 < ss.length)) (hM : M + 2 ≤ 10000000) (hM1 : 1 ≤ M) (hn : e.nx + 1 ≤ 1000000000)
   (h : e.shape kd nm b ss = some (e', s)) : EOk e' ∧ e.nx ≤ e'.nx ∧ e'.nx ≤ e.nx + 1 ∧ e'.nm = e.nm ∧ Gd1 (M + 2) e'.nx s := by
 have g : ∀ i, i < ss.length → Gd1 M e.nx (ss.getD i (.mk 0 0 [])) := fun i hi => (hk i).resolve_right (by omega)
 have wM : Gd1 M e.nx wh := gd_wh hM1
 have cM : Gd1 M e.nx ce := gd_ce hM1
 have up : ∀ {t : Sh}, Gd1 M e.nx t → Gd1 (M + 2) e.nx t := fun h => h.mono (by omega) (Nat.le_refl _)
 have sm : ∀ {a b : Sh} {e1 e2 : Es}, EOk e1 → e1.nx = e.nx → Gd1 M e.nx a → Gd1 M e.nx b → e1.same a b = some e2 → EOk e2 ∧ e2.nx = e1.nx ∧ e2.nm = e1.nm := fun h1 _ ha hb h => same_eok h1 (uarg_gd h1 ha hb (by omega) (by omega)) h
 unfold Es.shape at h
 have g0' := g 0; have g1' := g 1; have g2' := g 2
 unfold Es.shape3 at h
 by_cases h2 : kd = 2
 · rw [if_pos h2] at h
   obtain ⟨s0, e0, hs⟩ := hnm h2
   simp only [e0, Option.getD_some, Option.some.injEq, Prod.mk.injEq] at h
   obtain ⟨rfl, rfl⟩ := h
   exact ⟨he, Nat.le_refl _, by omega, rfl, up hs⟩
 rw [if_neg h2] at h
 by_cases h3 : kd = 3
 · rw [if_pos h3] at h
   simp only [Option.some.injEq, Prod.mk.injEq] at h
   obtain ⟨rfl, rfl⟩ := h
   exact ⟨he, Nat.le_refl _, by omega, rfl, gd_fu (hb h3) (g 0 (hl.1 (.inl h3))) (by omega)⟩
 rw [if_neg h3] at h
 by_cases h4 : kd = 4
 · rw [if_pos h4] at h
   rw [Option.map_eq_some_iff] at h
   obtain ⟨e1, h1, h⟩ := h
   simp only [Prod.mk.injEq] at h
   obtain ⟨rfl, rfl⟩ := h
   have g0 := (g 0 (by have := hl.2.1 (.inl h4); omega)).mono (M' := M + 2) (nx' := e.hole.1.nx) (by omega) (by simp only [Es.hole]; omega)
   have g1 := (g 1 (hl.2.1 (.inl h4))).mono (M' := M) (nx' := e.hole.1.nx) (by omega) (by simp only [Es.hole]; omega)
   have gh : Gd1 1 e.hole.1.nx e.hole.2 := gd_hole (Nat.le_refl _)
   obtain ⟨q1, q2, q3⟩ := same_eok (hole_eok he) (uarg_gd (hole_eok he) g0 (gd_fu g1 gh (by omega)) (by omega) (by simp only [Es.hole]; omega)) h1
   refine ⟨q1, by rw [q2]; simp only [Es.hole]; omega, by rw [q2]; simp only [Es.hole]; omega, by rw [q3]; rfl, ?_⟩
   rw [q2]; exact gh.mono (by omega) (Nat.le_refl _)
 rw [if_neg h4] at h
 by_cases h6 : kd = 6
 · rw [if_pos h6] at h
   have l6 := hl.2.2 h6
   rw [Option.bind_eq_some_iff] at h
   obtain ⟨e1, h1, h⟩ := h
   rw [Option.map_eq_some_iff] at h
   obtain ⟨e2, h2, h⟩ := h
   simp only [Prod.mk.injEq] at h
   obtain ⟨rfl, rfl⟩ := h
   obtain ⟨q1, q2, q3⟩ := sm he rfl (g 0 (by omega)) wM h1
   obtain ⟨r1, r2, r3⟩ := sm q1 q2 (g 1 (by omega)) (g 2 (by omega)) h2
   exact ⟨r1, by omega, by omega, r3.trans q3, by rw [r2, q2]; exact up (g 1 (by omega))⟩
 rw [if_neg h6] at h
 by_cases h8 : kd = 8
 · rw [if_pos h8] at h
   have l8 := hl.1 (.inr (.inl h8))
   rw [Option.map_eq_some_iff] at h
   obtain ⟨e1, h1, h⟩ := h
   obtain ⟨q1, q2, q3⟩ := sm he rfl (g 0 l8) wM h1
   have e1' : e' = e1.hole.1 := by rw [h]
   have e2' : s = e1.hole.2 := by rw [h]
   subst e1'; subst e2'
   exact ⟨hole_eok q1, by simp only [Es.hole]; omega, by simp only [Es.hole]; omega, q3, gd_hole (by omega)⟩
 rw [if_neg h8] at h
 by_cases h9 : kd = 9
 · rw [if_pos h9] at h
   have l9 := hl.2.1 (.inr (.inl h9))
   rw [Option.map_eq_some_iff] at h
   obtain ⟨e1, h1, h⟩ := h
   simp only [Prod.mk.injEq] at h
   obtain ⟨rfl, rfl⟩ := h
   obtain ⟨q1, q2, q3⟩ := sm he rfl (g 0 (by omega)) (g 1 l9) h1
   exact ⟨q1, by omega, by omega, q3, by rw [q2]; exact up (g 1 l9)⟩
 rw [if_neg h9] at h
 by_cases h7 : kd = 7
 · rw [if_pos h7] at h
   have l7 := hl.1 (.inr (.inr (.inl h7)))
   rw [Option.map_eq_some_iff] at h
   obtain ⟨e1, h1, h⟩ := h
   simp only [Prod.mk.injEq] at h
   obtain ⟨rfl, rfl⟩ := h
   obtain ⟨q1, q2, q3⟩ := sm he rfl (g 0 l7) wM h1
   exact ⟨q1, by omega, by omega, q3, by rw [q2]; exact up wM⟩
 rw [if_neg h7] at h
 by_cases h10 : kd = 10
 · rw [if_pos h10] at h
   have l10 := hl.1 (.inr (.inr (.inr h10)))
   rw [Option.map_eq_some_iff] at h
   obtain ⟨e1, h1, h⟩ := h
   simp only [Prod.mk.injEq] at h
   obtain ⟨rfl, rfl⟩ := h
   obtain ⟨q1, q2, q3⟩ := sm he rfl (g 0 l10) cM h1
   exact ⟨q1, by omega, by omega, q3, by rw [q2]; exact up wM⟩
 rw [if_neg h10] at h
 by_cases h11 : kd = 11
 · rw [if_pos h11] at h
   have l11 := hl.2.1 (.inr (.inr (.inl h11)))
   rw [Option.bind_eq_some_iff] at h
   obtain ⟨e1, h1, h⟩ := h
   rw [Option.map_eq_some_iff] at h
   obtain ⟨e2, h2, h⟩ := h
   simp only [Prod.mk.injEq] at h
   obtain ⟨rfl, rfl⟩ := h
   obtain ⟨q1, q2, q3⟩ := sm he rfl (g 0 (by omega)) cM h1
   obtain ⟨r1, r2, r3⟩ := sm q1 q2 (g 1 l11) wM h2
   exact ⟨r1, by omega, by omega, r3.trans q3, by rw [r2, q2]; exact up wM⟩
 rw [if_neg h11] at h
 by_cases h12 : kd = 12
 · rw [if_pos h12] at h
   have l12 := hl.2.1 (.inr (.inr (.inr (.inl h12))))
   rw [Option.bind_eq_some_iff] at h
   obtain ⟨e1, h1, h⟩ := h
   rw [Option.map_eq_some_iff] at h
   obtain ⟨e2, h2, h⟩ := h
   simp only [Prod.mk.injEq] at h
   obtain ⟨rfl, rfl⟩ := h
   obtain ⟨q1, q2, q3⟩ := sm he rfl (g 0 (by omega)) wM h1
   obtain ⟨r1, r2, r3⟩ := sm q1 q2 (g 1 l12) wM h2
   exact ⟨r1, by omega, by omega, r3.trans q3, by rw [r2, q2]; exact up wM⟩
 rw [if_neg h12] at h
 by_cases h5 : kd = 5 ∨ kd = 13
 · rw [if_pos h5] at h
   have l5 : 1 < ss.length := hl.2.1 (by rcases h5 with h5 | h5 <;> simp [h5])
   simp only [Option.some.injEq, Prod.mk.injEq] at h
   obtain ⟨rfl, rfl⟩ := h
   exact ⟨he, Nat.le_refl _, by omega, rfl, up (g 1 l5)⟩
 · rw [if_neg h5] at h
   simp only [Option.some.injEq, Prod.mk.injEq] at h
   obtain ⟨rfl, rfl⟩ := h
   exact ⟨he, Nat.le_refl _, by omega, rfl, up wM⟩
def arB (k : Int) (l : Nat) : Bool := decide (1 ≤ k) && (decide (k ≤ 13) && ((l : Int) == kidsL.getD k.toNat (-1)))
mutual
def Tm.okn (K : Bs → Bool) : Tm → Bool
 | .mk k s _ ks => arB k ks.length && ((k != 2 || K s) && oknL (bnd k) s K ks)
def oknL (bd : Bool) (s : Bs) (K : Bs → Bool) : List Tm → Bool
 | [] => true
 | t :: l => t.okn (if bd && l.isEmpty then fun x => decide (x = s) || K x else K) && oknL bd s K l
end
theorem arB_cases {k : Int} {l : Nat} (h : arB k l = true) : (k = 1 ∧ l = 0) ∨ (k = 2 ∧ l = 0) ∨ (k = 3 ∧ l = 1) ∨ (k = 4 ∧ l = 2) ∨ (k = 5 ∧ l = 2) ∨ (k = 6 ∧ l = 3) ∨ (k = 7 ∧ l = 2) ∨ (k = 8 ∧ l = 1) ∨ (k = 9 ∧ l = 2) ∨ (k = 10 ∧ l = 1) ∨ (k = 11 ∧ l = 2) ∨ (k = 12 ∧ l = 2) ∨ (k = 13 ∧ l = 2) := by
 unfold arB at h
 simp only [Bool.and_eq_true, decide_eq_true_eq, beq_iff_eq] at h
 obtain ⟨h1, h2, h3⟩ := h
 have : k = 1 ∨ k = 2 ∨ k = 3 ∨ k = 4 ∨ k = 5 ∨ k = 6 ∨ k = 7 ∨ k = 8 ∨ k = 9 ∨ k = 10 ∨ k = 11 ∨ k = 12 ∨ k = 13 := by omega
 rcases this with rfl | rfl | rfl | rfl | rfl | rfl | rfl | rfl | rfl | rfl | rfl | rfl | rfl <;> simp [kidsL] at h3 ⊢ <;> omega
structure Inv (M : Nat) (e : Es) : Prop where
 ok : EOk e
 nm : ∀ x s, e.nm x = some s → Gd1 M e.nx s
theorem Inv.mono {M M' : Nat} {e : Es} (h : Inv M e) (hM : M ≤ M') : Inv M' e := ⟨h.ok, fun x s hs => (h.nm x s hs).mono hM (Nat.le_refl _)⟩
theorem Inv.put {M : Nat} {e : Es} (h : Inv M e) {x : Bs} {s : Sh} (hs : Gd1 M e.nx s) : Inv M (e.put x s) := ⟨⟨h.ok.ord, h.ok.sml⟩, fun y u hu => by
 simp only [Es.put] at hu
 split at hu
 · cases hu; exact hs
 · exact h.nm y u hu⟩
theorem Inv.hole {M : Nat} {e : Es} (h : Inv M e) : Inv M e.hole.1 := ⟨hole_eok h.ok, fun y u hu => (h.nm y u hu).mono (Nat.le_refl _) (by simp only [Es.hole]; omega)⟩
mutual
def Tr.szs (M : Nat) : Tr → Prop
 | .mk _ _ _ s b ks => s.size ≤ M ∧ b.size ≤ M ∧ szsL M ks
def szsL (M : Nat) : List Tr → Prop
 | [] => True
 | t :: l => t.szs M ∧ szsL M l
end
mutual
theorem szs_mono {M M' : Nat} (h : M ≤ M') : ∀ t : Tr, t.szs M → t.szs M'
 | .mk _ _ _ s b ks => fun ⟨h1, h2, h3⟩ => ⟨Nat.le_trans h1 h, Nat.le_trans h2 h, szsL_mono h ks h3⟩
theorem szsL_mono {M M' : Nat} (h : M ≤ M') : ∀ l : List Tr, szsL M l → szsL M' l
 | [] => fun _ => trivial
 | t :: l => fun ⟨h1, h2⟩ => ⟨szs_mono h t h1, szsL_mono h l h2⟩
end
structure Kid (M : Nat) (e e' : Es) (m : Nat) : Prop where
 inv : Inv (M + 2 * m) e'
 lo : e.nx ≤ e'.nx
 hi : e'.nx ≤ e.nx + 4 * m
 dom : ∀ x, (e.nm x).isSome = true → (e'.nm x).isSome = true
theorem shape_arg {M : Nat} {e : Es} {kd : Int} {nm : Bs} {ss : List Sh} {n : Nat} (ha : arB kd n = true) (hlen : ss.length = n) :
   (kd = 3 ∨ kd = 8 ∨ kd = 7 ∨ kd = 10 → 0 < ss.length) ∧ (kd = 4 ∨ kd = 9 ∨ kd = 11 ∨ kd = 12 ∨ kd = 5 ∨ kd = 13 → 1 < ss.length) ∧ (kd = 6 → 2 < ss.length) := by
 have := arB_cases ha
 omega
theorem bound_inv {M : Nat} {e : Es} {kd : Int} {acc : List Tr} {n : Nat} (ha : arB kd n = true) (hb : bnd kd = true) (hlen : acc.length + 1 = n) (hi : Inv M e) (hM : 1 ≤ M) (hacc : ∀ t ∈ acc, Gd1 M e.nx t.s) :
   Inv M (e.bound kd acc).1 ∧ e.nx ≤ (e.bound kd acc).1.nx ∧ (e.bound kd acc).1.nx ≤ e.nx + 1 ∧ (e.bound kd acc).1.nm = e.nm ∧ Gd1 M (e.bound kd acc).1.nx (e.bound kd acc).2 ∧ (kd = 3 → (e.bound kd acc).2.size = 1) := by
 unfold Es.bound
 split
 · exact ⟨hi.hole, by simp only [Es.hole]; omega, by simp only [Es.hole]; omega, rfl, gd_hole hM, fun _ => rfl⟩
 · rename_i h3
   split
   · rename_i h5
     refine ⟨hi, Nat.le_refl _, Nat.le_succ _, rfl, ?_, fun h => absurd h h3⟩
     have hl : 0 < acc.length := by have := arB_cases ha; omega
     cases acc with
     | nil => simp at hl
     | cons t l => exact hacc t (List.mem_cons_self ..)
   · exact ⟨hi, Nat.le_refl _, Nat.le_succ _, rfl, gd_wh hM, fun h => absurd h h3⟩
structure Gt (M nx : Nat) (t : Tr) : Prop where
 s : Gd1 M nx t.s
 szs : t.szs M
theorem Gt.mono {M M' nx nx' : Nat} {t : Tr} (h : Gt M nx t) (hM : M ≤ M') (hn : nx ≤ nx') : Gt M' nx' t := ⟨h.s.mono hM hn, szs_mono hM t h.szs⟩
theorem szsL_of {M : Nat} : ∀ {l : List Tr}, (∀ t ∈ l, t.szs M) → szsL M l
 | [], _ => trivial
 | t :: l, h => ⟨h t (List.mem_cons_self ..), szsL_of fun u hu => h u (List.mem_cons_of_mem _ hu)⟩
noncomputable def Es.pre (e : Es) (kd : Int) (nm : Bs) (b : Sh) (acc : List Tr) (last : Bool) : Es × Sh :=
 if bnd kd && last then (((e.bound kd acc).1.put nm (e.bound kd acc).2), (e.bound kd acc).2) else (e, b)
theorem kid_pre {M : Nat} {e : Es} {kd : Int} {nm : Bs} {b : Sh} {acc : List Tr} {l : List Tm} {n : Nat} {K : Bs → Bool} (ha : arB kd n = true) (hlen : acc.length + (l.length + 1) = n) (hi : Inv M e) (hM : 1 ≤ M) (hacc : ∀ t ∈ acc, Gd1 M e.nx t.s)
   (hK : ∀ x, K x = true → (e.nm x).isSome = true) (hbs : b.size ≤ M) :
   Inv M (e.pre kd nm b acc l.isEmpty).1 ∧ e.nx ≤ (e.pre kd nm b acc l.isEmpty).1.nx ∧ (e.pre kd nm b acc l.isEmpty).1.nx ≤ e.nx + 1 ∧ (∀ x, (e.nm x).isSome = true → ((e.pre kd nm b acc l.isEmpty).1.nm x).isSome = true) ∧
     (∀ x, (if bnd kd && l.isEmpty then fun x => decide (x = nm) || K x else K) x = true → ((e.pre kd nm b acc l.isEmpty).1.nm x).isSome = true) ∧ (e.pre kd nm b acc l.isEmpty).2.size ≤ M ∧ (kd = 3 → Gd1 1 (e.pre kd nm b acc l.isEmpty).1.nx (e.pre kd nm b acc l.isEmpty).2) := by
 unfold Es.pre
 by_cases hc : (bnd kd && l.isEmpty) = true
 · simp only [if_pos hc]
   simp only [Bool.and_eq_true] at hc
   obtain ⟨hb, he⟩ := hc
   have hl : l = [] := by simpa using he
   subst hl
   obtain ⟨q1, q2, q3, q4, q5, q6⟩ := bound_inv ha hb (by simpa using hlen) hi hM hacc
   refine ⟨q1.put q5, q2, q3, fun x hx => ?_, fun x hx => ?_, q5.size, fun h3 => ⟨q5.right, q5.hl, by rw [q6 h3]; exact Nat.le_refl _⟩⟩
   · simp only [Es.put]; split
     · rfl
     · rw [q4]; exact hx
   · simp only [Es.put]; split
     · rfl
     · rename_i hne
       simp only [Bool.or_eq_true, decide_eq_true_eq, hne, false_or] at hx
       rw [q4]; exact hK x hx
 · simp only [if_neg hc]
   refine ⟨hi, Nat.le_refl _, by omega, fun x hx => hx, hK, hbs, fun h3 => ?_⟩
   exfalso
   subst h3
   have := arB_cases ha
   have hl : l = [] := by cases l with
     | nil => rfl
     | cons a l => simp at hlen; omega
   subst hl
   exact hc (by decide)
theorem elL_cons (kd : Int) (nm : Bs) (e : Es) (b : Sh) (acc : List Tr) (t : Tm) (l : List Tm) : elL kd nm e b acc (t :: l) = match t.el (e.pre kd nm b acc l.isEmpty).1 with
   | none => none
   | some (e2, tr) => elL kd nm e2 (e.pre kd nm b acc l.isEmpty).2 (acc ++ [tr]) l := by
 rw [elL]; rfl
structure KidsOk (kd : Int) (n M : Nat) (e : Es) (b : Sh) (acc : List Tr) : Prop where
 inv : Inv M e
 accs : ∀ t ∈ acc, Gt M e.nx t
 bs : b.size ≤ M
 b3 : kd = 3 → acc ≠ [] → Gd1 1 e.nx b
theorem KidsOk.node {M : Nat} {e e2 : Es} {kd : Int} {nm : Bs} {b s : Sh} {ts : List Tr} {K : Bs → Bool} (ha : arB kd ts.length = true) (hk : kd = 2 → (e.nm nm).isSome = true) (hq : KidsOk kd ts.length M e b ts) (hM : M + 2 ≤ 10000000) (hM1 : 1 ≤ M) (hn : e.nx + 1 ≤ 1000000000)
   (h : e.shape kd nm b (ts.map Tr.s) = some (e2, s)) (m : Int) : Inv (M + 2) e2 ∧ e.nx ≤ e2.nx ∧ e2.nx ≤ e.nx + 1 ∧ e2.nm = e.nm ∧ Gt (M + 2) e2.nx (.mk kd nm m s b ts) := by
 have q := shape_inv (M := M) (e := e) (e' := e2) (kd := kd) (nm := nm) (b := b) (s := s) (ss := ts.map Tr.s) hq.inv.ok
   (fun i => by
     rcases Nat.lt_or_ge i (ts.map Tr.s).length with hl | hl
     · refine .inl ?_
       rw [List.getD_eq_getElem?_getD, List.getElem?_eq_getElem hl, Option.getD_some, List.getElem_map]
       exact (hq.accs _ (List.getElem_mem _)).s
     · exact .inr hl)
   (fun h3 => hq.b3 h3 (by rintro rfl; have := arB_cases ha; simp at this; omega))
   (fun h2' => by
     obtain ⟨s0, e0⟩ := Option.isSome_iff_exists.1 (hk h2')
     exact ⟨s0, e0, hq.inv.nm nm s0 e0⟩)
   (shape_arg (M := M) (e := e) (nm := nm) ha (by rw [List.length_map])) (by omega) hM1 hn h
 obtain ⟨q1, q2, q3, q4, q5⟩ := q
 refine ⟨⟨q1, fun x u hu => ?_⟩, q2, q3, q4, q5, by have := q5.size; exact this, by have := hq.bs; omega, szsL_of fun t ht => szs_mono (by omega) t (hq.accs t ht).szs⟩
 rw [q4] at hu
 exact (hq.inv.nm x u hu).mono (by omega) q2
theorem KidsOk.kid {M : Nat} {e e1 : Es} {kd : Int} {nm : Bs} {b : Sh} {acc : List Tr} {t : Tm} {l : List Tm} {tr : Tr} {n : Nat} {K : Bs → Bool} (ha : arB kd n = true) (hlen : acc.length + (l.length + 1) = n) (hq : KidsOk kd n M e b acc) (hM : 1 ≤ M)
   (hK : ∀ x, K x = true → (e.nm x).isSome = true) (hd : Kid M (e.pre kd nm b acc l.isEmpty).1 e1 t.size) (hg : Gt (M + 2 * t.size) e1.nx tr) : KidsOk kd n (M + 2 * t.size) e1 (e.pre kd nm b acc l.isEmpty).2 (acc ++ [tr]) := by
 obtain ⟨q1, q2, q3, q4, q5, q6, q7⟩ := kid_pre (K := K) ha hlen hq.inv hM (fun t ht => (hq.accs t ht).s) hK hq.bs (nm := nm)
 refine ⟨hd.inv, fun u hu => ?_, by omega, fun h3 _ => (q7 h3).mono (Nat.le_refl _) hd.lo⟩
 rcases List.mem_append.1 hu with hu | hu
 · exact (hq.accs u hu).mono (by omega) (Nat.le_trans q2 hd.lo)
 · simp at hu; subst hu; exact hg
mutual
theorem el_inv : ∀ (t : Tm) (e e' : Es) (r : Tr) (M : Nat) (K : Bs → Bool), t.el e = some (e', r) → t.okn K = true → (∀ x, K x = true → (e.nm x).isSome = true) → Inv M e → 1 ≤ M → M + 2 * t.size ≤ 10000000 → e.nx + 4 * t.size ≤ 1000000000 →
   Kid M e e' t.size ∧ Gt (M + 2 * t.size) e'.nx r
 | .mk kd nm n ks, e, e', r, M, K, h, hk, hK, hi, hM, hMs, hn => by
   simp only [Tm.el] at h
   simp only [Tm.okn, Bool.and_eq_true] at hk
   obtain ⟨ha, hk2, hk3⟩ := hk
   have hl3 : ks.length ≤ 3 := by have := arB_cases ha; omega
   simp only [Tm.size] at hMs hn ⊢
   split at h
   · cases h
   · rename_i e1 b ts h1
     split at h
     · cases h
     · rename_i e2 s h2
       simp only [Option.some.injEq, Prod.mk.injEq] at h
       obtain ⟨rfl, rfl⟩ := h
       obtain ⟨g1, g2, g3, g4, g5⟩ := elL_inv kd nm ks e (.mk 0 0 []) [] e1 b ts M K ks.length h1 ha (by simp) hk3 hK ⟨hi, fun t ht => (by cases ht), hM, fun _ h => absurd rfl h⟩ hM (by omega) (by omega)
       rw [← g2] at ha g1
       obtain ⟨q1, q2, q3, q4, q5⟩ := KidsOk.node (K := K) ha (fun h2' => by subst h2'; exact g5 nm (hK nm (by simpa using hk2))) g1 (by omega) (by omega) (by omega) h2 n
       refine ⟨⟨q1.mono (by omega), Nat.le_trans g3 q2, by omega, fun x hx => by rw [q4]; exact g5 x hx⟩, q5.mono (by omega) (Nat.le_refl _)⟩
theorem elL_inv (kd : Int) (nm : Bs) : ∀ (ks : List Tm) (e : Es) (b : Sh) (acc : List Tr) (e' : Es) (b' : Sh) (ts : List Tr) (M : Nat) (K : Bs → Bool) (n : Nat), elL kd nm e b acc ks = some (e', b', ts) → arB kd n = true → acc.length + ks.length = n → oknL (bnd kd) nm K ks = true → (∀ x, K x = true → (e.nm x).isSome = true) → KidsOk kd n M e b acc → 1 ≤ M → M + 2 * sizeL ks ≤ 10000000 → e.nx + (4 * sizeL ks + ks.length) ≤ 1000000000 →
   KidsOk kd n (M + 2 * sizeL ks) e' b' ts ∧ ts.length = n ∧ e.nx ≤ e'.nx ∧ e'.nx ≤ e.nx + (4 * sizeL ks + ks.length) ∧ (∀ x, (e.nm x).isSome = true → (e'.nm x).isSome = true)
 | [], e, b, acc, e', b', ts, M, K, n, h, ha, hlen, hk, hK, hq, hM, hMs, hn => by
   simp only [elL, Option.some.injEq, Prod.mk.injEq] at h
   obtain ⟨rfl, rfl, rfl⟩ := h
   exact ⟨by simpa [sizeL] using hq, by simpa using hlen, Nat.le_refl _, by omega, fun x hx => hx⟩
 | t :: l, e, b, acc, e', b', ts, M, K, n, h, ha, hlen, hk, hK, hq, hM, hMs, hn => by
   simp only [sizeL, List.length_cons] at hMs hn hlen ⊢
   rw [oknL, Bool.and_eq_true] at hk
   rw [elL_cons] at h
   split at h
   · cases h
   · rename_i e2 tr h1
     have hp := kid_pre (nm := nm) (K := K) ha hlen hq.inv hM (fun t ht => (hq.accs t ht).s) hK hq.bs
     obtain ⟨q1, q2, q3, q4, q5, q6, q7⟩ := hp
     obtain ⟨d1, d2⟩ := el_inv t _ e2 tr M _ h1 hk.1 q5 q1 hM (by omega) (by omega)
     have hq2 := KidsOk.kid (nm := nm) (K := K) ha hlen hq hM hK d1 d2
     have dh := d1.hi
     have dl := d1.lo
     obtain ⟨r1, r2, r3, r4, r5⟩ := elL_inv kd nm l e2 _ _ e' b' ts (M + 2 * t.size) K n h ha (by simp; omega) hk.2 (fun x hx => d1.dom x (q4 x (hK x hx))) hq2 (by omega) (by omega) (by omega)
     refine ⟨by rw [Nat.mul_add, ← Nat.add_assoc]; exact r1, r2, by omega, by omega, fun x hx => r5 x (d1.dom x (q4 x hx))⟩
end
theorem szs_sm {l : List Bd} {M : Nat} (ho : Ord l) (hM : M ≤ 10000000) : ∀ t : Tr, t.szs M → t.sm l := by
 intro t
 induction t using Tr.ind with
 | h kd nm n s b ks ih =>
   intro h
   have key : ∀ s : Sh, s.size ≤ M → SmS l s := fun s hs => by
     have := ap_size_le (f := look l) (K := 100) (by omega) (fun n s e => by obtain ⟨b, hb, _, rfl⟩ := look_some e; exact ho.small b hb) s
     exact ⟨by omega, by omega⟩
   simp only [Tr.szs] at h
   simp only [Tr.sm]
   refine ⟨key s h.1, key b h.2.1, ?_⟩
   have h3 := h.2.2
   clear h
   induction ks with
   | nil => trivial
   | cons t ks ih2 => exact ⟨ih t (List.mem_cons_self ..) h3.1, ih2 (fun x hx => ih x (List.mem_cons_of_mem _ hx)) h3.2⟩
section
variable {e : Es} {kd : Int} {nm : Bs} {b : Sh} {ts : List Tr}
theorem getS {i : Nat} (h : i < ts.length) : (ts.map Tr.s).getD i (.mk 0 0 []) = ts[i].s := by
 rw [List.getD_eq_getElem?_getD, List.getElem?_map, List.getElem?_eq_getElem h]; rfl
theorem sh2 (h : kd = 2) : e.shape kd nm b (ts.map Tr.s) = some (e, (e.nm nm).getD (.mk 0 0 [])) := by subst h; rfl
theorem sh3 (h : kd = 3) (h0 : 0 < ts.length) : e.shape kd nm b (ts.map Tr.s) = some (e, fu b ts[0].s) := by subst h; unfold Es.shape; rw [getS h0]; rfl
theorem sh4 (h : kd = 4) (h0 : 0 < ts.length) (h1 : 1 < ts.length) : e.shape kd nm b (ts.map Tr.s) = (e.hole.1.same ts[0].s (fu ts[1].s e.hole.2)).map fun e' => (e', e.hole.2) := by subst h; unfold Es.shape; rw [getS h0, getS h1]; rfl
theorem sh6 (h : kd = 6) (h0 : 0 < ts.length) (h1 : 1 < ts.length) (h2 : 2 < ts.length) : e.shape kd nm b (ts.map Tr.s) = (e.same ts[0].s wh).bind fun e1 => (e1.same ts[1].s ts[2].s).map fun e2 => (e2, ts[1].s) := by subst h; unfold Es.shape; rw [getS h0, getS h1, getS h2]; rfl
theorem sh8 (h : kd = 8) (h0 : 0 < ts.length) : e.shape kd nm b (ts.map Tr.s) = (e.same ts[0].s wh).map fun e1 => e1.hole := by subst h; unfold Es.shape; rw [getS h0]; rfl
theorem sh9 (h : kd = 9) (h0 : 0 < ts.length) (h1 : 1 < ts.length) : e.shape kd nm b (ts.map Tr.s) = (e.same ts[0].s ts[1].s).map fun e1 => (e1, ts[1].s) := by subst h; unfold Es.shape; rw [getS h0, getS h1]; rfl
theorem sh7 (h : kd = 7) (h0 : 0 < ts.length) : e.shape kd nm b (ts.map Tr.s) = (e.same ts[0].s wh).map fun e1 => (e1, wh) := by subst h; unfold Es.shape; rw [getS h0]; rfl
theorem sh10 (h : kd = 10) (h0 : 0 < ts.length) : e.shape kd nm b (ts.map Tr.s) = (e.same ts[0].s ce).map fun e1 => (e1, wh) := by subst h; unfold Es.shape; rw [getS h0]; rfl
theorem sh11 (h : kd = 11) (h0 : 0 < ts.length) (h1 : 1 < ts.length) : e.shape kd nm b (ts.map Tr.s) = (e.same ts[0].s ce).bind fun e1 => (e1.same ts[1].s wh).map fun e2 => (e2, wh) := by subst h; unfold Es.shape; rw [getS h0, getS h1]; rfl
theorem sh12 (h : kd = 12) (h0 : 0 < ts.length) (h1 : 1 < ts.length) : e.shape kd nm b (ts.map Tr.s) = (e.same ts[0].s wh).bind fun e1 => (e1.same ts[1].s wh).map fun e2 => (e2, wh) := by subst h; unfold Es.shape; rw [getS h0, getS h1]; rfl
theorem sh5 (h : kd = 5 ∨ kd = 13) (h1 : 1 < ts.length) : e.shape kd nm b (ts.map Tr.s) = some (e, ts[1].s) := by unfold Es.shape; rw [getS h1]; rcases h with rfl | rfl <;> rfl
theorem sh1 (h : kd ≠ 2 ∧ kd ≠ 3 ∧ kd ≠ 4 ∧ kd ≠ 6 ∧ kd ≠ 8 ∧ kd ≠ 9 ∧ kd ≠ 7 ∧ kd ≠ 10 ∧ kd ≠ 11 ∧ kd ≠ 12 ∧ kd ≠ 5 ∧ kd ≠ 13) : e.shape kd nm b (ts.map Tr.s) = some (e, wh) := by
 unfold Es.shape Es.shape3
 rw [if_neg h.1, if_neg h.2.1, if_neg h.2.2.1, if_neg h.2.2.2.1, if_neg h.2.2.2.2.1, if_neg h.2.2.2.2.2.1, if_neg h.2.2.2.2.2.2.1, if_neg h.2.2.2.2.2.2.2.1, if_neg h.2.2.2.2.2.2.2.2.1, if_neg h.2.2.2.2.2.2.2.2.2.1, if_neg (by rintro (h' | h'); exact h.2.2.2.2.2.2.2.2.2.2.1 h'; exact h.2.2.2.2.2.2.2.2.2.2.2 h')]
theorem uarg2 {M nx : Nat} {l : List Bd} {a c : Sh} (ho : Ord l) (hs : Sml l) (ha : Gd1 M nx a) (hc : Gd1 M nx c) (hM : M ≤ 10000000) (hn : nx ≤ 1000000000) : UArg l a c := uarg_gd (e := ⟨l, 0, fun _ => none⟩) ⟨ho, hs⟩ ha hc hM hn
theorem same_next {e2 : Es} {a c : Sh} {l : List Bd} (ho : Ord e.sub) (hs : Sml e.sub) (hu : UArg e.sub a c) (h : e.same a c = some ⟨l, e2.nx, e2.nm⟩) : Ord l ∧ Sml l := by
 obtain ⟨q, _, _⟩ := same_eok ⟨ho, hs⟩ hu h
 exact ⟨q.ord, q.sml⟩
end
def MapR (H : GH) (fm : Bs → Option Value) (nm : Bs → Option Sh) : Prop := ∀ x, match nm x with
 | some s => ∃ v, fm x = some v ∧ VSh H v s
 | none => fm x = none
theorem MapR.mono {H H' : GH} {fm : Bs → Option Value} {nm : Bs → Option Sh} (h : MapR H fm nm) (hl : LE H H') : MapR H' fm nm := fun x => by
 have := h x
 split at this
 · rename_i s e; obtain ⟨v, h1, h2⟩ := this; exact ⟨v, h1, h2.mono hl⟩
 · exact this
theorem MapR.get {H : GH} {fm : Bs → Option Value} {nm : Bs → Option Sh} (h : MapR H fm nm) (x : Bs) : VSh H ((fm x).getD (.agg #[.int .i64 0, .int .i64 0, .slice none 0 0])) ((nm x).getD (.mk 0 0 [])) := by
 have := h x
 split at this
 · rename_i s e; obtain ⟨v, h1, h2⟩ := this; rw [h1, e]; exact h2
 · rename_i e; rw [this, e]; exact ⟨none, 0, rfl, RS.nil _ _ _⟩
theorem MapR.put {H : GH} {fm : Bs → Option Value} {nm : Bs → Option Sh} (h : MapR H fm nm) {v : Value} {s : Sh} (hv : VSh H v s) (x : Bs) : MapR H (upd fm x (some v)) (fun y => if y = x then some s else nm y) := fun y => by
 simp only []
 unfold X.upd
 by_cases hy : y = x
 · rw [if_pos hy, if_pos hy]; exact ⟨v, rfl, hv⟩
 · rw [if_neg hy, if_neg hy]; exact h y
theorem mapR0 {H : GH} : MapR H (fun _ => none) (fun _ => none) := fun _ => rfl
end Go.Proofs.YthnhddjlgjecdaaGreatDoor
namespace Go.Proofs.YthnhddjlgjecdaaGreatDoor.X
open Go
section
variable {P : Program} {ops : Array Oper} {Q : Exit → Act → World → Prop} {γ : Gd P ops Q} {rest : List Oper} {o : Oper} {E w : World} {H : GH} {N : Nat} {D : List Deferred} {F : List (Nat × Value)} {L : List It} {a : Act}
variable {t u kt et : TypeId} {x y : Operand} {d : Nat} {v : Value} {g : Nat}
variable {κ : Type} [DecidableEq κ] {enc : κ → Value} {kind : TypeDesc} {f : κ → Option Value}
theorem lk1D {H1 : GH} {L1 : List It} {eff rd : List Nat} {nS : Nat} (k0 : Nat) {z : Value} {q : κ} (K : KeyLaw P kt enc kind) (ht : mapT P t = some (kt, et)) (hz : zrT P et = some z) (h : S E H N D F L a w)
   (k : ∀ a w, S E H N D ((d, (f q).getD z) :: F) L a w → (gd P ops Q (Sees H1 L1) eff rd nS).G rest a w)
   (ho : o.op = .lookup t x y false := by rfl) (hx : ev F x = some (.map (some g)) := by rfl) (hy : ev F y = some (enc q) := by rfl) (hk : L1[k0]? = some (.blk g (IsMap enc f)) := by rfl)
   (hw : wn ops F o = some true := by rfl) (hd : o.dst = some d := by rfl) (hN : Nat.blt d N = true := by rfl) (hR : (gd P ops Q (Sees H1 L1) eff rd nS).isR rest.length = true := by rfl) (hSub : ∀ i ∈ L1, i ∈ L := by simp) (hLe : LE H1 H := by first | exact LE.rfl | assumption) : (gd P ops Q (Sees H1 L1) eff rd nS).G (o :: rest) a w :=
 lk1X k0 K ht hz h hR (h.st.sees' hLe hSub) (fun w' e => e) k ho hx hy hk hw hd hN
theorem mf1 {bs : List Operand} {fn : Fn} {vs : List Value} (h : S E H N D F L a w) (k : ∀ a w, S E H N D ((d, .func fn vs.toArray #[]) :: F) L a w → γ.G rest a w)
   (ho : o.op = .makeFunc fn bs.toArray #[] := by rfl) (hx : evs F bs = some vs := by rfl)
   (hw : wn ops F o = some true := by rfl) (hd : o.dst = some d := by rfl) (hN : Nat.blt d N = true := by rfl) : γ.G (o :: rest) a w :=
 pv h (fun w => by simp [execOp, ho, Instr.makeFunc, h.ag.evs hx]) k hw hd hN
def setV : List Value → Nat → Value → Option (List Value)
 | [], _, _ => none
 | _ :: l, 0, v => some (v :: l)
 | x :: l, n + 1, v => match setV l n v with
   | some l' => some (x :: l')
   | none => none
theorem setV_set : ∀ {l l' : List Value} {n : Nat} {v : Value}, setV l n v = some l' → l.set n v = l' ∧ n < l.length
 | [], _, _, _, h => by simp [setV] at h
 | x :: l, l', 0, v, h => by simp only [setV, Option.some.injEq] at h; subst h; simp
 | x :: l, l', n + 1, v, h => by
   simp only [setV] at h
   split at h
   · rename_i l2 e; cases h; obtain ⟨h1, h2⟩ := setV_set e; simp [h1, h2]
   · cases h
theorem setV_eq {cs : Array Value} {l : List Value} {n : Nat} {v : Value} (h : setV cs.toList n v = some l) : cs.setIfInBounds n v = l.toArray ∧ Nat.blt n cs.size = true := by
 obtain ⟨h1, h2⟩ := setV_set h
 refine ⟨?_, by simpa [Nat.blt_eq] using h2⟩
 rw [← h1, ← Array.toList_setIfInBounds]
def setVs (cs : List Value) (o : Nat) : List Value → Option (List Value)
 | [] => some cs
 | v :: l => match setV cs o v with
   | some cs' => setVs cs' (o + 1) l
   | none => none
theorem setVs_wr : ∀ (vs cs out : List Value) (o : Nat), o + vs.length ≤ cs.length → setVs cs o vs = some out → wr cs.toArray o vs = out.toArray
 | [], cs, out, o, _, h => by simp only [setVs, Option.some.injEq] at h; subst h; rfl
 | v :: l, cs, out, o, hle, h => by
   simp only [setVs] at h
   split at h
   · rename_i cs' e
     have h1 := setV_eq (cs := cs.toArray) (by simpa using e)
     have h2 := (setV_set e).1
     simp only [List.length_cons] at hle
     have := setVs_wr l cs' out (o + 1) (by rw [← h2, List.length_set]; omega) h
     rw [wr, h1.1]; exact this
   · cases h
theorem stp (k0 : Nat) {n off : Nat} {vs cs : Array Value} {ty : TypeId} {l : List Value} {L' : List It} (ht : tyN P t n = true) (h : S E H N D F L a w) (k : ∀ a w, S E H N D F L' a w → γ.G rest a w)
   (ho : o.op = .store t x y := by rfl) (hx : ev F x = some (.pointer (some ⟨g, off, none⟩)) := by rfl) (hy : ev F y = some (.agg vs) := by rfl)
   (hk : L[k0]? = some (.obj g (.cells cs ty (0, 0))) := by rfl) (hl : setVs cs.toList off vs.toList = some l := by rfl) (hL : L.set k0 (.obj g (.cells l.toArray ty (0, 0))) = L' := by rfl) (hn : vs.size = n := by rfl) (hle : Nat.ble (off + vs.size) cs.size = true := by rfl) (h1 : vs.toList.all (·.oneCell') = true := by rfl)
   (hw : wn ops F o = some true := by rfl) (hd : o.dst = none := by rfl) (hE : γ.isE rest.length = true := by rfl) (hS : γ.isN rest.length = true → ∀ w, St E H L' w → γ.S w := by first | exact fun e => Bool.noConfusion (show false = true from e) | exact fun _ _ hw => hw.sees' LE.rfl (by simp) | exact fun _ _ hw => hw.sees' (by assumption) (by simp)) : γ.G (o :: rest) a w := by
 subst hL
 have hle' : off + vs.size ≤ cs.size := by simpa [Nat.ble_eq] using hle
 obtain ⟨d', hu, hr, hi⟩ := und_ofN ht
 have hwr := setVs_wr _ _ _ _ (by simpa using hle') hl
 obtain ⟨w', hrun, r1, r2, r3, r4, r5⟩ := run_stores (P := P) (g := g) (off := off) (ty := ty) vs.toList 0 cs w (item_at h.st.sees hk) (by simpa using hle') (fun v hv => List.all_eq_true.1 h1 v hv)
 refine unit_ h hw hd hE hS (w' := w') ?_ (h.st.wrote hk r1 r2 r3 (by rw [← hwr]; simpa using r5)) k
 have hsz : (P.info? t).map (·.size) = some vs.size := by rw [hi, hn]
 cases hinfo : P.info? t with
 | none => rw [hinfo] at hsz; cases hsz
 | some i =>
   rw [hinfo] at hsz
   simp at hsz
   simp [execOp, ho, h.ag.ev hx, h.ag.ev hy, Instr.storeAt, Instr.sureAddr, storeVar, sizeOf, typeInfo, hinfo, hsz, Value.cells, hrun]
end
end Go.Proofs.YthnhddjlgjecdaaGreatDoor.X
namespace Go.Proofs.YthnhddjlgjecdaaGreatDoor
open Go X
theorem mapSSh : mapT Tryz.prog 124 = some (9, 31) := by kernel_rfl
theorem shape_ok (e : Es) (A : Option Addr) (c gs gm : Nat) (fm : Bs → Option Value) (t : Tr) (M : Nat) (v : Value) (E : World) (H : GH) (L : List It) (ha : arB t.kind t.kids.length = true) (hq : KidsOk t.kind t.kids.length M e t.b t.kids) (hM : M + 2 ≤ 10000000) (hM1 : 1 ≤ M) (hn : e.nx + 1 ≤ 1000000000)
   (hm : MapR H fm e.nm) (hsub : BdS H A c e.sub) (hv : VTr H v t) :
   OkP Tryz.prog 130 #[.pointer (some ⟨gs, 0, none⟩), v] E H (.obj gs (.cells #[.slice A e.sub.length c, .int .i64 (e.nx : Int), .map (some gm)] 127 (0, 0)) :: .blk gm (IsMap encS fm) :: L) (.iface 121 (.agg #[])) (e.shape t.kind t.name t.b (t.kids.map Tr.s) = none) L fun r H' L' => ∃ (e' : Es) (s : Sh) (A' : Option Addr) (c' : Nat),
     e.shape t.kind t.name t.b (t.kids.map Tr.s) = some (e', s) ∧ VSh H' r s ∧ BdS H' A' c' e'.sub ∧ e'.nm = e.nm ∧ L' = .obj gs (.cells #[.slice A' e'.sub.length c', .int .i64 (e'.nx : Int), .map (some gm)] 127 (0, 0)) :: .blk gm (IsMap encS fm) :: L := by
 obtain ⟨At0, ct0, At1, ct1, At2, ct2, rfl, ht0, ht1, ht2⟩ := hv
 have hcs := arB_cases ha
 have gk : ∀ i (hi : i < t.kids.length), Gd1 M (e.nx + 1) t.kids[i].s := fun i hi => (hq.accs _ (List.getElem_mem hi)).s.mono (Nat.le_refl _) (Nat.le_succ _)
 have gk2 : ∀ i (hi : i < t.kids.length), Gd1 (M + 2) (e.nx + 1) t.kids[i].s := fun i hi => (gk i hi).mono (by omega) (Nat.le_refl _)
 have gw : Gd1 (M + 2) (e.nx + 1) wh := gd_wh (by omega)
 have gc : Gd1 (M + 2) (e.nx + 1) ce := gd_ce (by omega)
 have ho := hq.inv.ok.ord
 have hsm := hq.inv.ok.sml
 obtain ⟨Am, cm, em, hkm⟩ := hm.get t.name
 refine enterP (N := 157) [(0, _), (1, _)] Tryz.func130 rfl rfl rfl rfl fun a w h => ?_
 refine au [1,2] h ?_
 refine bxA h fun g3 a w h => ?_
 refine al zr31 h fun g4 a w h => ?_
 refine au [0,3,0,4] h ?_
 refine rgd [1] [_] [] [3] 1 mix (by kernel_rfl) h (fun a w h => ?_)
 refine mv h fun a w h => ?_
 refine mf1 h fun a w h => ?_
 refine au [0,7,4,2,0,6,0,6,0,3,0,4,1,2,0,7,2,8,0,3,1,5,1,2,6,2,0,6,0,3] h ?_; intro a w h
 refine cdB h (fun c14 => ?_) (fun c14 => ?_)
 ·have d14 : t.kind = 2 := cd_ c14
  refine sq ?_
  refine rgd [2, 1, 3] [_, _, _] [0] [3, 5, 6] 2 mix (by kernel_rfl) h (fun a w h => ?_)
  refine au [0,0,7,2,0,7,4,2,0,7,4,3] h ?_; intro a w h
  refine lk1D (f := fm) (q := t.name) 2 keyS mapSSh zr31 h fun a w h => ?_
  rw [em] at h
  refine au [5,5,0,3,1,3,1,6,1,4] h ?_; intro a w h
  exact FinP.ret (fin (rs := [.cell 4 31]) (vs := [.agg #[_, _, _]]) h rfl (.agg (k0 := 0) tN31 rfl rfl rfl .nil) rfl LE.rfl ⟨LE.rfl, h.st.drop 2⟩ ⟨_, _, _, _, (sh2 d14), ⟨_, _, rfl, hkm⟩, hsub, rfl, rfl⟩)
 ·have d14 : t.kind ≠ 2 := cd_ c14
  refine au [1,2,6,2,0,6,0,3] h ?_; intro a w h
  refine cdB h (fun c23 => ?_) (fun c23 => ?_)
  ·have d23 : t.kind = 3 := cd_ c23
   have hl : t.kids.length = 1 := by omega
   refine sq ?_
   refine rgd [1] [_] [1, 0] [1, 5] 2 mix (by kernel_rfl) h (fun a w h => ?_)
   refine fa fl34_4 (r := 6) h fun a w h => ?_
   refine ldND (l := [_, _, _]) 0 tN31 h fun a w h => ?_
   refine mv h fun a w h => ?_
   have hj28 : 0 < t.kids.length := by first | assumption | omega | (simp; done) | (simp; omega)
   obtain ⟨g28, o28, A28_0, c28_0, A28_1, c28_1, A28_2, c28_2, e28, hv28, hc28⟩ := TrS.get ht2 hj28
   obtain ⟨_, _, _, _, _, _, q28, hk28_0, hk28_1, hk28_2⟩ := hv28; cases q28
   refine iaE sli32 sz34 rfl hj28 e28 h fun a w h => ?_
   refine fa fl34_3 (r := o28 + 0 * 10 + 3) h fun a w h => ?_
   refine ldHND (l := [_, _, _]) tN31 rfl (sbL 3 3 hc28) h fun a w h => ?_
   refine cl bod166 (funS_ok t.b t.kids[0].s _ _ E H _ ⟨At1, ct1, rfl, ht1⟩ ⟨A28_0, c28_0, rfl, hk28_0⟩) h (fun r31 H31 L31 a w le31 R h => ?_)
   obtain ⟨⟨A31_0, c31_0, rfl, hk31_0⟩, rfl⟩ := R
   refine au [5,5,0,3,1,3,1,6,1,4] h ?_; intro a w h
   exact FinP.ret (fin (rs := [.cell 4 31]) (vs := [.agg #[_, _, _]]) h rfl (.agg (k0 := 0) tN31 rfl rfl rfl .nil) rfl le31 ⟨LE.rfl, h.st.drop 2⟩ ⟨_, _, _, _, (sh3 d23 (by omega)), ⟨_, _, rfl, hk31_0⟩, (BdS.up hsub le31), rfl, rfl⟩)
  ·have d23 : t.kind ≠ 3 := cd_ c23
   refine au [1,2,6,2,0,6,0,3] h ?_; intro a w h
   refine cdB h (fun c32 => ?_) (fun c32 => ?_)
   ·have d32 : t.kind = 4 := cd_ c32
    have hl : t.kids.length = 2 := by omega
    refine au [1,2,0,0] h ?_; intro a w h
    have h := h.pull 2 rfl rfl
    refine cl bod165 (hole_ok e A c gs gm E H _ (by first | omega | (simp only [Es.hole]; omega))) h (fun r35 H35 L35 a w le35 R h => ?_)
    obtain ⟨⟨A35, c35, rfl, hk35⟩, rfl, rfl⟩ := R
    refine al zr31 h fun g7 a w h => ?_
    refine au [5,5,0,3,0,4] h ?_; intro a w h
    refine rgd [0] [_] [1, 0] [4, 8, 9] 0 mix (by kernel_rfl) h (fun a w h => ?_)
    refine au [0,0,0,0] h ?_; intro a w h
    have hj38 : 0 < t.kids.length := by first | assumption | omega | (simp; done) | (simp; omega)
    obtain ⟨g38, o38, A38_0, c38_0, A38_1, c38_1, A38_2, c38_2, e38, hv38, hc38⟩ := TrS.get ht2 hj38
    obtain ⟨_, _, _, _, _, _, q38, hk38_0, hk38_1, hk38_2⟩ := hv38; cases q38
    refine iaE sli32 sz34 rfl hj38 e38 h fun a w h => ?_
    refine fa fl34_3 (r := o38 + 0 * 10 + 3) h fun a w h => ?_
    refine ldHND (l := [_, _, _]) tN31 rfl (sbL 3 3 hc38) h fun a w h => ?_
    refine mv h fun a w h => ?_
    have hj42 : 1 < t.kids.length := by first | assumption | omega | (simp; done) | (simp; omega)
    obtain ⟨g42, o42, A42_0, c42_0, A42_1, c42_1, A42_2, c42_2, e42, hv42, hc42⟩ := TrS.get ht2 hj42
    obtain ⟨_, _, _, _, _, _, q42, hk42_0, hk42_1, hk42_2⟩ := hv42; cases q42
    refine iaE sli32 sz34 rfl hj42 e42 h fun a w h => ?_
    refine fa fl34_3 (r := o42 + 1 * 10 + 3) h fun a w h => ?_
    refine ldHND (l := [_, _, _]) tN31 rfl (sbL 3 3 hc42) h fun a w h => ?_
    refine ldWD 0 tN31 h fun a w h => ?_
    refine cl bod166 (funS_ok t.kids[1].s (Sh.mk 4 (e.nx : Int) []) _ _ E H _ ⟨A42_0, c42_0, rfl, hk42_0⟩ ⟨A35, c35, rfl, hk35⟩) h (fun r46 H46 L46 a w le46 R h => ?_)
    obtain ⟨⟨A46_0, c46_0, rfl, hk46_0⟩, rfl⟩ := R
    have h := h.pull 1 rfl rfl
    have hua47 : UArg e.sub t.kids[0].s (Sh.mk 3 0 [t.kids[1].s, (Sh.mk 4 (e.nx : Int) [])]) := uarg2 ho hsm (gk2 0 (by omega)) (gd_fu (M1 := M) (M2 := 1) (gk 1 (by omega)) (gd_hole (e := e) (Nat.le_refl 1)) (by omega)) (by omega) (by omega)
    refine clP bod90 (same_ok e.hole.1 A c gs gm t.kids[0].s (Sh.mk 3 0 [t.kids[1].s, (Sh.mk 4 (e.nx : Int) [])]) _ _ E H46 _ hua47 (BdS.up hsub le46) ⟨A38_0, c38_0, rfl, (HS.up hk38_0 le46)⟩ ⟨A46_0, c46_0, rfl, hk46_0⟩) h (fun Hp a w hpn lep h => by (repeat (first | refine thP ?_ | refine ibP ?_)); exact pfin h (by exact ((sh4 d32 (by omega) (by omega)).trans (congrArg (Option.map _) hpn))) (LE.trans le46 lep) (by repeat (first | exact List.Sublist.refl _ | apply List.Sublist.cons))) (fun r47 H47 L47 a w le47 R h => ?_) (hS := fun _ _ _ _ _ le R hw => by obtain ⟨_, _, _, _, _, _, _, rfl⟩ := R; exact hw.sees' (by first | exact le | exact LE.trans (by assumption) le) (by simp))
    obtain ⟨l47, B47, p47, hs47, hu47, rfl, hb47, rfl⟩ := R
    have q47 := same_next (e := e.hole.1) (e2 := ⟨l47, (e.nx + 1), e.nm⟩) ho hsm hua47 hs47
    refine au [0,2,3,4,5,7,0,3,1,3,1,6,1,4] h ?_; intro a w h
    have h := h.pull 4 rfl rfl
    have h := h.pull 1 rfl rfl
    have h := h.pull 4 rfl rfl
    have h := h.pull 4 rfl rfl
    have h := h.pull 4 rfl rfl
    have l_H_H47 : LE H H47 := le46.trans le47
    exact FinP.ret (fin (rs := [.cell 4 31]) (vs := [.agg #[_, _, _]]) h rfl (.agg (k0 := 1) tN31 rfl rfl rfl .nil) rfl l_H_H47 ⟨LE.rfl, h.st.drop 3⟩ ⟨_, _, _, _, ((sh4 d32 (by omega) (by omega)).trans (congrArg (Option.map _) hs47)), ⟨_, _, rfl, (HS.up hk35 l_H_H47)⟩, hb47, rfl, rfl⟩)
   ·have d32 : t.kind ≠ 4 := cd_ c32
    refine au [1,2,6,2,0,6,0,3] h ?_; intro a w h
    refine cdB h (fun c49 => ?_) (fun c49 => ?_)
    ·have d49 : t.kind = 6 := cd_ c49
     have hl : t.kids.length = 3 := by omega
     refine sq ?_
     refine rgd [] [] [1, 0] [4] 1 mix (by kernel_rfl) h (fun a w h => ?_)
     refine au [0,0,0,0] h ?_; intro a w h
     have hj53 : 0 < t.kids.length := by first | assumption | omega | (simp; done) | (simp; omega)
     obtain ⟨g53, o53, A53_0, c53_0, A53_1, c53_1, A53_2, c53_2, e53, hv53, hc53⟩ := TrS.get ht2 hj53
     obtain ⟨_, _, _, _, _, _, q53, hk53_0, hk53_1, hk53_2⟩ := hv53; cases q53
     refine iaE sli32 sz34 rfl hj53 e53 h fun a w h => ?_
     refine fa fl34_3 (r := o53 + 0 * 10 + 3) h fun a w h => ?_
     refine ldHND (l := [_, _, _]) tN31 rfl (sbL 3 3 hc53) h fun a w h => ?_
     refine cl bod87 (whole_ok E H _) h (fun r56 H56 L56 a w le56 R h => ?_)
     obtain ⟨⟨A56_0, c56_0, rfl, hk56_0⟩, rfl⟩ := R
     have h := h.pull 2 rfl rfl
     have hua57 : UArg e.sub t.kids[0].s (Sh.mk 1 0 []) := uarg2 ho hsm (gk2 0 (by omega)) gw (by omega) (by omega)
     refine clP bod90 (same_ok e A c gs gm t.kids[0].s (Sh.mk 1 0 []) _ _ E H56 _ hua57 (BdS.up hsub le56) ⟨A53_0, c53_0, rfl, (HS.up hk53_0 le56)⟩ ⟨A56_0, c56_0, rfl, hk56_0⟩) h (fun Hp a w hpn lep h => by (repeat (first | refine thP ?_ | refine ibP ?_)); exact pfin h (by exact ((sh6 d49 (by omega) (by omega) (by omega)).trans (congrArg (fun o => Option.bind o _) hpn))) (LE.trans le56 lep) (by repeat (first | exact List.Sublist.refl _ | apply List.Sublist.cons))) (fun r57 H57 L57 a w le57 R h => ?_) (hS := fun _ _ _ _ _ le R hw => by obtain ⟨_, _, _, _, _, _, _, rfl⟩ := R; exact hw.sees' (by first | exact le | exact LE.trans (by assumption) le) (by simp))
     obtain ⟨l57, B57, p57, hs57, hu57, rfl, hb57, rfl⟩ := R
     have q57 := same_next (e := e) (e2 := ⟨l57, e.nx, e.nm⟩) ho hsm hua57 hs57
     refine au [0,3,0,4] h ?_
     refine rgd [] [] [0] [4, 8] 1 mix (by kernel_rfl) h (fun a w h => ?_)
     refine au [0,0,0,0] h ?_; intro a w h
     have l_H_H57 : LE H H57 := le56.trans le57
     have hj60 : 1 < t.kids.length := by first | assumption | omega | (simp; done) | (simp; omega)
     obtain ⟨g60, o60, A60_0, c60_0, A60_1, c60_1, A60_2, c60_2, e60, hv60, hc60⟩ := TrS.get (TrS.up ht2 l_H_H57) hj60
     obtain ⟨_, _, _, _, _, _, q60, hk60_0, hk60_1, hk60_2⟩ := hv60; cases q60
     refine iaE sli32 sz34 rfl hj60 e60 h fun a w h => ?_
     refine fa fl34_3 (r := o60 + 1 * 10 + 3) h fun a w h => ?_
     refine ldHND (l := [_, _, _]) tN31 rfl (sbL 3 3 hc60) h fun a w h => ?_
     refine mv h fun a w h => ?_
     have hj64 : 2 < t.kids.length := by first | assumption | omega | (simp; done) | (simp; omega)
     obtain ⟨g64, o64, A64_0, c64_0, A64_1, c64_1, A64_2, c64_2, e64, hv64, hc64⟩ := TrS.get (TrS.up ht2 l_H_H57) hj64
     obtain ⟨_, _, _, _, _, _, q64, hk64_0, hk64_1, hk64_2⟩ := hv64; cases q64
     refine iaE sli32 sz34 rfl hj64 e64 h fun a w h => ?_
     refine fa fl34_3 (r := o64 + 2 * 10 + 3) h fun a w h => ?_
     refine ldHND (l := [_, _, _]) tN31 rfl (sbL 3 3 hc64) h fun a w h => ?_
     have hua67 : UArg l57 t.kids[1].s t.kids[2].s := uarg2 q57.1 q57.2 (gk2 1 (by omega)) (gk2 2 (by omega)) (by omega) (by omega)
     refine clP bod90 (same_ok (⟨l57, e.nx, e.nm⟩ : Es) B57 p57 gs gm t.kids[1].s t.kids[2].s _ _ E H57 _ hua67 hb57 ⟨A60_0, c60_0, rfl, hk60_0⟩ ⟨A64_0, c64_0, rfl, hk64_0⟩) h (fun Hp a w hpn lep h => by (repeat (first | refine thP ?_ | refine ibP ?_)); exact pfin h (by exact ((sh6 d49 (by omega) (by omega) (by omega)).trans ((congrArg (fun o => Option.bind o _) hs57).trans (congrArg (Option.map _) hpn)))) (LE.trans l_H_H57 lep) (by repeat (first | exact List.Sublist.refl _ | apply List.Sublist.cons))) (fun r67 H67 L67 a w le67 R h => ?_) (hS := fun _ _ _ _ _ le R hw => by obtain ⟨_, _, _, _, _, _, _, rfl⟩ := R; exact hw.sees' (by first | exact le | exact LE.trans (by assumption) le) (by simp))
     obtain ⟨l67, B67, p67, hs67, hu67, rfl, hb67, rfl⟩ := R
     have q67 := same_next (e := (⟨l57, e.nx, e.nm⟩ : Es)) (e2 := ⟨l67, e.nx, e.nm⟩) q57.1 q57.2 hua67 hs67
     refine au [0,2,0,0] h ?_; intro a w h
     have l_H_H67 : LE H H67 := (le56.trans le57).trans le67
     have hj69 : 1 < t.kids.length := by first | assumption | omega | (simp; done) | (simp; omega)
     obtain ⟨g69, o69, A69_0, c69_0, A69_1, c69_1, A69_2, c69_2, e69, hv69, hc69⟩ := TrS.get (TrS.up ht2 l_H_H67) hj69
     obtain ⟨_, _, _, _, _, _, q69, hk69_0, hk69_1, hk69_2⟩ := hv69; cases q69
     refine iaE sli32 sz34 rfl hj69 e69 h fun a w h => ?_
     refine fa fl34_3 (r := o69 + 1 * 10 + 3) h fun a w h => ?_
     refine ldHN (l := [_, _, _]) tN31 rfl (sbL 3 3 hc69) h fun a w h => ?_
     refine au [5,6,0,3,1,3,1,6,1,4] h ?_; intro a w h
     have h := h.pull 3 rfl rfl
     have h := h.pull 1 rfl rfl
     have h := h.pull 3 rfl rfl
     have h := h.pull 3 rfl rfl
     exact FinP.ret (fin (rs := [.cell 4 31]) (vs := [.agg #[_, _, _]]) h rfl (.agg (k0 := 0) tN31 rfl rfl rfl .nil) rfl l_H_H67 ⟨LE.rfl, h.st.drop 2⟩ ⟨_, _, _, _, ((sh6 d49 (by omega) (by omega) (by omega)).trans ((congrArg (fun o => Option.bind o _) hs57).trans (congrArg (Option.map _) hs67))), ⟨_, _, rfl, hk69_0⟩, hb67, rfl, rfl⟩)
    ·have d49 : t.kind ≠ 6 := cd_ c49
     refine au [1,2,6,2,0,6,0,3] h ?_; intro a w h
     refine cdB h (fun c72 => ?_) (fun c72 => ?_)
     ·have d72 : t.kind = 8 := cd_ c72
      have hl : t.kids.length = 1 := by omega
      refine sq ?_
      refine rgd [] [] [1, 0] [4] 1 mix (by kernel_rfl) h (fun a w h => ?_)
      refine au [0,0,0,0] h ?_; intro a w h
      have hj76 : 0 < t.kids.length := by first | assumption | omega | (simp; done) | (simp; omega)
      obtain ⟨g76, o76, A76_0, c76_0, A76_1, c76_1, A76_2, c76_2, e76, hv76, hc76⟩ := TrS.get ht2 hj76
      obtain ⟨_, _, _, _, _, _, q76, hk76_0, hk76_1, hk76_2⟩ := hv76; cases q76
      refine iaE sli32 sz34 rfl hj76 e76 h fun a w h => ?_
      refine fa fl34_3 (r := o76 + 0 * 10 + 3) h fun a w h => ?_
      refine ldHND (l := [_, _, _]) tN31 rfl (sbL 3 3 hc76) h fun a w h => ?_
      refine cl bod87 (whole_ok E H _) h (fun r79 H79 L79 a w le79 R h => ?_)
      obtain ⟨⟨A79_0, c79_0, rfl, hk79_0⟩, rfl⟩ := R
      have h := h.pull 2 rfl rfl
      have hua80 : UArg e.sub t.kids[0].s (Sh.mk 1 0 []) := uarg2 ho hsm (gk2 0 (by omega)) gw (by omega) (by omega)
      refine clP bod90 (same_ok e A c gs gm t.kids[0].s (Sh.mk 1 0 []) _ _ E H79 _ hua80 (BdS.up hsub le79) ⟨A76_0, c76_0, rfl, (HS.up hk76_0 le79)⟩ ⟨A79_0, c79_0, rfl, hk79_0⟩) h (fun Hp a w hpn lep h => by (repeat (first | refine thP ?_ | refine ibP ?_)); exact pfin h (by exact ((sh8 d72 (by omega)).trans (congrArg (Option.map _) hpn))) (LE.trans le79 lep) (by repeat (first | exact List.Sublist.refl _ | apply List.Sublist.cons))) (fun r80 H80 L80 a w le80 R h => ?_) (hS := fun _ _ _ _ _ le R hw => by obtain ⟨_, _, _, _, _, _, _, rfl⟩ := R; exact hw.sees' (by first | exact le | exact LE.trans (by assumption) le) (by simp))
      obtain ⟨l80, B80, p80, hs80, hu80, rfl, hb80, rfl⟩ := R
      have q80 := same_next (e := e) (e2 := ⟨l80, e.nx, e.nm⟩) ho hsm hua80 hs80
      refine au [0,2,0,0] h ?_; intro a w h
      refine cl bod165 (hole_ok (⟨l80, e.nx, e.nm⟩ : Es) B80 p80 gs gm E H80 _ (by first | omega | (simp only [Es.hole]; omega))) h (fun r82 H82 L82 a w le82 R h => ?_)
      obtain ⟨⟨A82, c82, rfl, hk82⟩, rfl, rfl⟩ := R
      refine au [5,6,0,3,1,3,1,6,1,4] h ?_; intro a w h
      have h := h.pull 3 rfl rfl
      have h := h.pull 1 rfl rfl
      have h := h.pull 3 rfl rfl
      have h := h.pull 3 rfl rfl
      have l_H_H80 : LE H H80 := le79.trans le80
      exact FinP.ret (fin (rs := [.cell 4 31]) (vs := [.agg #[_, _, _]]) h rfl (.agg (k0 := 0) tN31 rfl rfl rfl .nil) rfl l_H_H80 ⟨LE.rfl, h.st.drop 2⟩ ⟨_, _, _, _, ((sh8 d72 (by omega)).trans (congrArg (Option.map _) hs80)), ⟨_, _, rfl, hk82⟩, hb80, rfl, rfl⟩)
     ·have d72 : t.kind ≠ 8 := cd_ c72
      refine au [1,2,6,2,0,6,0,3] h ?_; intro a w h
      refine cdB h (fun c83 => ?_) (fun c83 => ?_)
      ·have d83 : t.kind = 9 := cd_ c83
       have hl : t.kids.length = 2 := by omega
       refine sq ?_
       refine rgd [] [] [0] [4, 8] 1 mix (by kernel_rfl) h (fun a w h => ?_)
       refine au [0,0,0,0] h ?_; intro a w h
       have hj87 : 0 < t.kids.length := by first | assumption | omega | (simp; done) | (simp; omega)
       obtain ⟨g87, o87, A87_0, c87_0, A87_1, c87_1, A87_2, c87_2, e87, hv87, hc87⟩ := TrS.get ht2 hj87
       obtain ⟨_, _, _, _, _, _, q87, hk87_0, hk87_1, hk87_2⟩ := hv87; cases q87
       refine iaE sli32 sz34 rfl hj87 e87 h fun a w h => ?_
       refine fa fl34_3 (r := o87 + 0 * 10 + 3) h fun a w h => ?_
       refine ldHND (l := [_, _, _]) tN31 rfl (sbL 3 3 hc87) h fun a w h => ?_
       refine mv h fun a w h => ?_
       have hj91 : 1 < t.kids.length := by first | assumption | omega | (simp; done) | (simp; omega)
       obtain ⟨g91, o91, A91_0, c91_0, A91_1, c91_1, A91_2, c91_2, e91, hv91, hc91⟩ := TrS.get ht2 hj91
       obtain ⟨_, _, _, _, _, _, q91, hk91_0, hk91_1, hk91_2⟩ := hv91; cases q91
       refine iaE sli32 sz34 rfl hj91 e91 h fun a w h => ?_
       refine fa fl34_3 (r := o91 + 1 * 10 + 3) h fun a w h => ?_
       refine ldHND (l := [_, _, _]) tN31 rfl (sbL 3 3 hc91) h fun a w h => ?_
       have h := h.pull 2 rfl rfl
       have hua94 : UArg e.sub t.kids[0].s t.kids[1].s := uarg2 ho hsm (gk2 0 (by omega)) (gk2 1 (by omega)) (by omega) (by omega)
       refine clP bod90 (same_ok e A c gs gm t.kids[0].s t.kids[1].s _ _ E H _ hua94 hsub ⟨A87_0, c87_0, rfl, hk87_0⟩ ⟨A91_0, c91_0, rfl, hk91_0⟩) h (fun Hp a w hpn lep h => by (repeat (first | refine thP ?_ | refine ibP ?_)); exact pfin h (by exact ((sh9 d83 (by omega) (by omega)).trans (congrArg (Option.map _) hpn))) (LE.trans LE.rfl lep) (by repeat (first | exact List.Sublist.refl _ | apply List.Sublist.cons))) (fun r94 H94 L94 a w le94 R h => ?_) (hS := fun _ _ _ _ _ le R hw => by obtain ⟨_, _, _, _, _, _, _, rfl⟩ := R; exact hw.sees' (by first | exact le | exact LE.trans (by assumption) le) (by simp))
       obtain ⟨l94, B94, p94, hs94, hu94, rfl, hb94, rfl⟩ := R
       have q94 := same_next (e := e) (e2 := ⟨l94, e.nx, e.nm⟩) ho hsm hua94 hs94
       refine au [0,2,0,0] h ?_; intro a w h
       have hj96 : 1 < t.kids.length := by first | assumption | omega | (simp; done) | (simp; omega)
       obtain ⟨g96, o96, A96_0, c96_0, A96_1, c96_1, A96_2, c96_2, e96, hv96, hc96⟩ := TrS.get (TrS.up ht2 le94) hj96
       obtain ⟨_, _, _, _, _, _, q96, hk96_0, hk96_1, hk96_2⟩ := hv96; cases q96
       refine iaE sli32 sz34 rfl hj96 e96 h fun a w h => ?_
       refine fa fl34_3 (r := o96 + 1 * 10 + 3) h fun a w h => ?_
       refine ldHN (l := [_, _, _]) tN31 rfl (sbL 3 3 hc96) h fun a w h => ?_
       refine au [5,6,0,3,1,3,1,6,1,4] h ?_; intro a w h
       have h := h.pull 3 rfl rfl
       have h := h.pull 1 rfl rfl
       have h := h.pull 3 rfl rfl
       have h := h.pull 3 rfl rfl
       exact FinP.ret (fin (rs := [.cell 4 31]) (vs := [.agg #[_, _, _]]) h rfl (.agg (k0 := 0) tN31 rfl rfl rfl .nil) rfl le94 ⟨LE.rfl, h.st.drop 2⟩ ⟨_, _, _, _, ((sh9 d83 (by omega) (by omega)).trans (congrArg (Option.map _) hs94)), ⟨_, _, rfl, hk96_0⟩, hb94, rfl, rfl⟩)
      ·have d83 : t.kind ≠ 9 := cd_ c83
       refine au [1,2,6,2,0,6,0,3] h ?_; intro a w h
       refine cdB h (fun c99 => ?_) (fun c99 => ?_)
       ·have d99 : t.kind = 7 := cd_ c99
        have hl : t.kids.length = 2 := by omega
        refine rgd [] [] [1, 0] [4] 1 mix (by kernel_rfl) h (fun a w h => ?_)
        refine au [0,0,0,0] h ?_; intro a w h
        have hj103 : 0 < t.kids.length := by first | assumption | omega | (simp; done) | (simp; omega)
        obtain ⟨g103, o103, A103_0, c103_0, A103_1, c103_1, A103_2, c103_2, e103, hv103, hc103⟩ := TrS.get ht2 hj103
        obtain ⟨_, _, _, _, _, _, q103, hk103_0, hk103_1, hk103_2⟩ := hv103; cases q103
        refine iaE sli32 sz34 rfl hj103 e103 h fun a w h => ?_
        refine fa fl34_3 (r := o103 + 0 * 10 + 3) h fun a w h => ?_
        refine ldHND (l := [_, _, _]) tN31 rfl (sbL 3 3 hc103) h fun a w h => ?_
        refine cl bod87 (whole_ok E H _) h (fun r106 H106 L106 a w le106 R h => ?_)
        obtain ⟨⟨A106_0, c106_0, rfl, hk106_0⟩, rfl⟩ := R
        have h := h.pull 2 rfl rfl
        have hua107 : UArg e.sub t.kids[0].s (Sh.mk 1 0 []) := uarg2 ho hsm (gk2 0 (by omega)) gw (by omega) (by omega)
        refine clP bod90 (same_ok e A c gs gm t.kids[0].s (Sh.mk 1 0 []) _ _ E H106 _ hua107 (BdS.up hsub le106) ⟨A103_0, c103_0, rfl, (HS.up hk103_0 le106)⟩ ⟨A106_0, c106_0, rfl, hk106_0⟩) h (fun Hp a w hpn lep h => by (repeat (first | refine thP ?_ | refine ibP ?_)); exact pfin h (by exact ((sh7 d99 (by omega)).trans (congrArg (Option.map _) hpn))) (LE.trans le106 lep) (by repeat (first | exact List.Sublist.refl _ | apply List.Sublist.cons))) (fun r107 H107 L107 a w le107 R h => ?_) (hS := fun _ _ _ _ _ le R hw => by obtain ⟨_, _, _, _, _, _, _, rfl⟩ := R; exact hw.sees' (by first | exact le | exact LE.trans (by assumption) le) (by simp))
        obtain ⟨l107, B107, p107, hs107, hu107, rfl, hb107, rfl⟩ := R
        have q107 := same_next (e := e) (e2 := ⟨l107, e.nx, e.nm⟩) ho hsm hua107 hs107
        refine au [1,1,1,7,1,0,1,2] h ?_
        refine cl bod87 (whole_ok E H107 _) h (fun r156 H156 L156 a w le156 R h => ?_)
        obtain ⟨⟨A156_0, c156_0, rfl, hk156_0⟩, rfl⟩ := R
        refine au [5,6,0,3,1,3] h ?_; intro a w h
        have h := h.pull 3 rfl rfl
        have h := h.pull 1 rfl rfl
        have h := h.pull 3 rfl rfl
        have h := h.pull 3 rfl rfl
        have l_H_H156 : LE H H156 := (le106.trans le107).trans le156
        exact FinP.ret (fin (rs := [.cell 4 31]) (vs := [.agg #[_, _, _]]) h rfl (.agg (k0 := 0) tN31 rfl rfl rfl .nil) rfl l_H_H156 ⟨LE.rfl, h.st.drop 2⟩ ⟨_, _, _, _, ((sh7 d99 (by omega)).trans (congrArg (Option.map _) hs107)), ⟨_, _, rfl, hk156_0⟩, (BdS.up hb107 le156), rfl, rfl⟩)
       ·have d99 : t.kind ≠ 7 := cd_ c99
        refine au [1,2,6,2,0,6,0,3] h ?_; intro a w h
        refine cdB h (fun c108 => ?_) (fun c108 => ?_)
        ·have d108 : t.kind = 10 := cd_ c108
         have hl : t.kids.length = 1 := by omega
         refine rgd [] [] [1, 0] [4] 1 mix (by kernel_rfl) h (fun a w h => ?_)
         refine au [0,0,0,0] h ?_; intro a w h
         have hj112 : 0 < t.kids.length := by first | assumption | omega | (simp; done) | (simp; omega)
         obtain ⟨g112, o112, A112_0, c112_0, A112_1, c112_1, A112_2, c112_2, e112, hv112, hc112⟩ := TrS.get ht2 hj112
         obtain ⟨_, _, _, _, _, _, q112, hk112_0, hk112_1, hk112_2⟩ := hv112; cases q112
         refine iaE sli32 sz34 rfl hj112 e112 h fun a w h => ?_
         refine fa fl34_3 (r := o112 + 0 * 10 + 3) h fun a w h => ?_
         refine ldHND (l := [_, _, _]) tN31 rfl (sbL 3 3 hc112) h fun a w h => ?_
         refine cl bod88 (cellS_ok E H _) h (fun r115 H115 L115 a w le115 R h => ?_)
         obtain ⟨⟨A115_0, c115_0, rfl, hk115_0⟩, rfl⟩ := R
         have h := h.pull 2 rfl rfl
         have hua116 : UArg e.sub t.kids[0].s (Sh.mk 2 0 []) := uarg2 ho hsm (gk2 0 (by omega)) gc (by omega) (by omega)
         refine clP bod90 (same_ok e A c gs gm t.kids[0].s (Sh.mk 2 0 []) _ _ E H115 _ hua116 (BdS.up hsub le115) ⟨A112_0, c112_0, rfl, (HS.up hk112_0 le115)⟩ ⟨A115_0, c115_0, rfl, hk115_0⟩) h (fun Hp a w hpn lep h => by (repeat (first | refine thP ?_ | refine ibP ?_)); exact pfin h (by exact ((sh10 d108 (by omega)).trans (congrArg (Option.map _) hpn))) (LE.trans le115 lep) (by repeat (first | exact List.Sublist.refl _ | apply List.Sublist.cons))) (fun r116 H116 L116 a w le116 R h => ?_) (hS := fun _ _ _ _ _ le R hw => by obtain ⟨_, _, _, _, _, _, _, rfl⟩ := R; exact hw.sees' (by first | exact le | exact LE.trans (by assumption) le) (by simp))
         obtain ⟨l116, B116, p116, hs116, hu116, rfl, hb116, rfl⟩ := R
         have q116 := same_next (e := e) (e2 := ⟨l116, e.nx, e.nm⟩) ho hsm hua116 hs116
         refine au [1,1,1,7,1,0,1,2] h ?_
         refine cl bod87 (whole_ok E H116 _) h (fun r156 H156 L156 a w le156 R h => ?_)
         obtain ⟨⟨A156_0, c156_0, rfl, hk156_0⟩, rfl⟩ := R
         refine au [5,6,0,3,1,3] h ?_; intro a w h
         have h := h.pull 3 rfl rfl
         have h := h.pull 1 rfl rfl
         have h := h.pull 3 rfl rfl
         have h := h.pull 3 rfl rfl
         have l_H_H156 : LE H H156 := (le115.trans le116).trans le156
         exact FinP.ret (fin (rs := [.cell 4 31]) (vs := [.agg #[_, _, _]]) h rfl (.agg (k0 := 0) tN31 rfl rfl rfl .nil) rfl l_H_H156 ⟨LE.rfl, h.st.drop 2⟩ ⟨_, _, _, _, ((sh10 d108 (by omega)).trans (congrArg (Option.map _) hs116)), ⟨_, _, rfl, hk156_0⟩, (BdS.up hb116 le156), rfl, rfl⟩)
        ·have d108 : t.kind ≠ 10 := cd_ c108
         refine au [1,2,6,2,0,6,0,3] h ?_; intro a w h
         refine cdB h (fun c117 => ?_) (fun c117 => ?_)
         ·have d117 : t.kind = 11 := cd_ c117
          have hl : t.kids.length = 2 := by omega
          refine sq ?_
          refine rgd [] [] [1, 0] [4] 1 mix (by kernel_rfl) h (fun a w h => ?_)
          refine au [0,0,0,0] h ?_; intro a w h
          have hj121 : 0 < t.kids.length := by first | assumption | omega | (simp; done) | (simp; omega)
          obtain ⟨g121, o121, A121_0, c121_0, A121_1, c121_1, A121_2, c121_2, e121, hv121, hc121⟩ := TrS.get ht2 hj121
          obtain ⟨_, _, _, _, _, _, q121, hk121_0, hk121_1, hk121_2⟩ := hv121; cases q121
          refine iaE sli32 sz34 rfl hj121 e121 h fun a w h => ?_
          refine fa fl34_3 (r := o121 + 0 * 10 + 3) h fun a w h => ?_
          refine ldHND (l := [_, _, _]) tN31 rfl (sbL 3 3 hc121) h fun a w h => ?_
          refine cl bod88 (cellS_ok E H _) h (fun r124 H124 L124 a w le124 R h => ?_)
          obtain ⟨⟨A124_0, c124_0, rfl, hk124_0⟩, rfl⟩ := R
          have h := h.pull 2 rfl rfl
          have hua125 : UArg e.sub t.kids[0].s (Sh.mk 2 0 []) := uarg2 ho hsm (gk2 0 (by omega)) gc (by omega) (by omega)
          refine clP bod90 (same_ok e A c gs gm t.kids[0].s (Sh.mk 2 0 []) _ _ E H124 _ hua125 (BdS.up hsub le124) ⟨A121_0, c121_0, rfl, (HS.up hk121_0 le124)⟩ ⟨A124_0, c124_0, rfl, hk124_0⟩) h (fun Hp a w hpn lep h => by (repeat (first | refine thP ?_ | refine ibP ?_)); exact pfin h (by exact ((sh11 d117 (by omega) (by omega)).trans (congrArg (fun o => Option.bind o _) hpn))) (LE.trans le124 lep) (by repeat (first | exact List.Sublist.refl _ | apply List.Sublist.cons))) (fun r125 H125 L125 a w le125 R h => ?_) (hS := fun _ _ _ _ _ le R hw => by obtain ⟨_, _, _, _, _, _, _, rfl⟩ := R; exact hw.sees' (by first | exact le | exact LE.trans (by assumption) le) (by simp))
          obtain ⟨l125, B125, p125, hs125, hu125, rfl, hb125, rfl⟩ := R
          have q125 := same_next (e := e) (e2 := ⟨l125, e.nx, e.nm⟩) ho hsm hua125 hs125
          refine au [0,3] h ?_
          refine rgd [] [] [1, 0] [4] 1 mix (by kernel_rfl) h (fun a w h => ?_)
          refine au [0,0,0,0] h ?_; intro a w h
          have l_H_H125 : LE H H125 := le124.trans le125
          have hj128 : 1 < t.kids.length := by first | assumption | omega | (simp; done) | (simp; omega)
          obtain ⟨g128, o128, A128_0, c128_0, A128_1, c128_1, A128_2, c128_2, e128, hv128, hc128⟩ := TrS.get (TrS.up ht2 l_H_H125) hj128
          obtain ⟨_, _, _, _, _, _, q128, hk128_0, hk128_1, hk128_2⟩ := hv128; cases q128
          refine iaE sli32 sz34 rfl hj128 e128 h fun a w h => ?_
          refine fa fl34_3 (r := o128 + 1 * 10 + 3) h fun a w h => ?_
          refine ldHND (l := [_, _, _]) tN31 rfl (sbL 3 3 hc128) h fun a w h => ?_
          refine cl bod87 (whole_ok E H125 _) h (fun r131 H131 L131 a w le131 R h => ?_)
          obtain ⟨⟨A131_0, c131_0, rfl, hk131_0⟩, rfl⟩ := R
          have hua132 : UArg l125 t.kids[1].s (Sh.mk 1 0 []) := uarg2 q125.1 q125.2 (gk2 1 (by omega)) gw (by omega) (by omega)
          have l_H_H131 : LE H H131 := (le124.trans le125).trans le131
          refine clP bod90 (same_ok (⟨l125, e.nx, e.nm⟩ : Es) B125 p125 gs gm t.kids[1].s (Sh.mk 1 0 []) _ _ E H131 _ hua132 (BdS.up hb125 le131) ⟨A128_0, c128_0, rfl, (HS.up hk128_0 le131)⟩ ⟨A131_0, c131_0, rfl, hk131_0⟩) h (fun Hp a w hpn lep h => by (repeat (first | refine thP ?_ | refine ibP ?_)); exact pfin h (by exact ((sh11 d117 (by omega) (by omega)).trans ((congrArg (fun o => Option.bind o _) hs125).trans (congrArg (Option.map _) hpn)))) (LE.trans l_H_H131 lep) (by repeat (first | exact List.Sublist.refl _ | apply List.Sublist.cons))) (fun r132 H132 L132 a w le132 R h => ?_) (hS := fun _ _ _ _ _ le R hw => by obtain ⟨_, _, _, _, _, _, _, rfl⟩ := R; exact hw.sees' (by first | exact le | exact LE.trans (by assumption) le) (by simp))
          obtain ⟨l132, B132, p132, hs132, hu132, rfl, hb132, rfl⟩ := R
          have q132 := same_next (e := (⟨l125, e.nx, e.nm⟩ : Es)) (e2 := ⟨l132, e.nx, e.nm⟩) q125.1 q125.2 hua132 hs132
          refine au [1,1,1,7,1,0,1,2] h ?_
          refine cl bod87 (whole_ok E H132 _) h (fun r156 H156 L156 a w le156 R h => ?_)
          obtain ⟨⟨A156_0, c156_0, rfl, hk156_0⟩, rfl⟩ := R
          refine au [5,6,0,3,1,3] h ?_; intro a w h
          have h := h.pull 3 rfl rfl
          have h := h.pull 1 rfl rfl
          have h := h.pull 3 rfl rfl
          have h := h.pull 3 rfl rfl
          have l_H_H156 : LE H H156 := (((le124.trans le125).trans le131).trans le132).trans le156
          exact FinP.ret (fin (rs := [.cell 4 31]) (vs := [.agg #[_, _, _]]) h rfl (.agg (k0 := 0) tN31 rfl rfl rfl .nil) rfl l_H_H156 ⟨LE.rfl, h.st.drop 2⟩ ⟨_, _, _, _, ((sh11 d117 (by omega) (by omega)).trans ((congrArg (fun o => Option.bind o _) hs125).trans (congrArg (Option.map _) hs132))), ⟨_, _, rfl, hk156_0⟩, (BdS.up hb132 le156), rfl, rfl⟩)
         ·have d117 : t.kind ≠ 11 := cd_ c117
          refine au [1,2,6,2,0,6,0,3] h ?_; intro a w h
          refine cdB h (fun c133 => ?_) (fun c133 => ?_)
          ·have d133 : t.kind = 12 := cd_ c133
           have hl : t.kids.length = 2 := by omega
           refine sq ?_
           refine rgd [] [] [1, 0] [4] 1 mix (by kernel_rfl) h (fun a w h => ?_)
           refine au [0,0,0,0] h ?_; intro a w h
           have hj137 : 0 < t.kids.length := by first | assumption | omega | (simp; done) | (simp; omega)
           obtain ⟨g137, o137, A137_0, c137_0, A137_1, c137_1, A137_2, c137_2, e137, hv137, hc137⟩ := TrS.get ht2 hj137
           obtain ⟨_, _, _, _, _, _, q137, hk137_0, hk137_1, hk137_2⟩ := hv137; cases q137
           refine iaE sli32 sz34 rfl hj137 e137 h fun a w h => ?_
           refine fa fl34_3 (r := o137 + 0 * 10 + 3) h fun a w h => ?_
           refine ldHND (l := [_, _, _]) tN31 rfl (sbL 3 3 hc137) h fun a w h => ?_
           refine cl bod87 (whole_ok E H _) h (fun r140 H140 L140 a w le140 R h => ?_)
           obtain ⟨⟨A140_0, c140_0, rfl, hk140_0⟩, rfl⟩ := R
           have h := h.pull 2 rfl rfl
           have hua141 : UArg e.sub t.kids[0].s (Sh.mk 1 0 []) := uarg2 ho hsm (gk2 0 (by omega)) gw (by omega) (by omega)
           refine clP bod90 (same_ok e A c gs gm t.kids[0].s (Sh.mk 1 0 []) _ _ E H140 _ hua141 (BdS.up hsub le140) ⟨A137_0, c137_0, rfl, (HS.up hk137_0 le140)⟩ ⟨A140_0, c140_0, rfl, hk140_0⟩) h (fun Hp a w hpn lep h => by (repeat (first | refine thP ?_ | refine ibP ?_)); exact pfin h (by exact ((sh12 d133 (by omega) (by omega)).trans (congrArg (fun o => Option.bind o _) hpn))) (LE.trans le140 lep) (by repeat (first | exact List.Sublist.refl _ | apply List.Sublist.cons))) (fun r141 H141 L141 a w le141 R h => ?_) (hS := fun _ _ _ _ _ le R hw => by obtain ⟨_, _, _, _, _, _, _, rfl⟩ := R; exact hw.sees' (by first | exact le | exact LE.trans (by assumption) le) (by simp))
           obtain ⟨l141, B141, p141, hs141, hu141, rfl, hb141, rfl⟩ := R
           have q141 := same_next (e := e) (e2 := ⟨l141, e.nx, e.nm⟩) ho hsm hua141 hs141
           refine au [0,3] h ?_
           refine rgd [] [] [1, 0] [4] 1 mix (by kernel_rfl) h (fun a w h => ?_)
           refine au [0,0,0,0] h ?_; intro a w h
           have l_H_H141 : LE H H141 := le140.trans le141
           have hj144 : 1 < t.kids.length := by first | assumption | omega | (simp; done) | (simp; omega)
           obtain ⟨g144, o144, A144_0, c144_0, A144_1, c144_1, A144_2, c144_2, e144, hv144, hc144⟩ := TrS.get (TrS.up ht2 l_H_H141) hj144
           obtain ⟨_, _, _, _, _, _, q144, hk144_0, hk144_1, hk144_2⟩ := hv144; cases q144
           refine iaE sli32 sz34 rfl hj144 e144 h fun a w h => ?_
           refine fa fl34_3 (r := o144 + 1 * 10 + 3) h fun a w h => ?_
           refine ldHND (l := [_, _, _]) tN31 rfl (sbL 3 3 hc144) h fun a w h => ?_
           refine cl bod87 (whole_ok E H141 _) h (fun r147 H147 L147 a w le147 R h => ?_)
           obtain ⟨⟨A147_0, c147_0, rfl, hk147_0⟩, rfl⟩ := R
           have hua148 : UArg l141 t.kids[1].s (Sh.mk 1 0 []) := uarg2 q141.1 q141.2 (gk2 1 (by omega)) gw (by omega) (by omega)
           have l_H_H147 : LE H H147 := (le140.trans le141).trans le147
           refine clP bod90 (same_ok (⟨l141, e.nx, e.nm⟩ : Es) B141 p141 gs gm t.kids[1].s (Sh.mk 1 0 []) _ _ E H147 _ hua148 (BdS.up hb141 le147) ⟨A144_0, c144_0, rfl, (HS.up hk144_0 le147)⟩ ⟨A147_0, c147_0, rfl, hk147_0⟩) h (fun Hp a w hpn lep h => by (repeat (first | refine thP ?_ | refine ibP ?_)); exact pfin h (by exact ((sh12 d133 (by omega) (by omega)).trans ((congrArg (fun o => Option.bind o _) hs141).trans (congrArg (Option.map _) hpn)))) (LE.trans l_H_H147 lep) (by repeat (first | exact List.Sublist.refl _ | apply List.Sublist.cons))) (fun r148 H148 L148 a w le148 R h => ?_) (hS := fun _ _ _ _ _ le R hw => by obtain ⟨_, _, _, _, _, _, _, rfl⟩ := R; exact hw.sees' (by first | exact le | exact LE.trans (by assumption) le) (by simp))
           obtain ⟨l148, B148, p148, hs148, hu148, rfl, hb148, rfl⟩ := R
           have q148 := same_next (e := (⟨l141, e.nx, e.nm⟩ : Es)) (e2 := ⟨l148, e.nx, e.nm⟩) q141.1 q141.2 hua148 hs148
           refine au [1,1,1,7,1,0,1,2] h ?_
           refine cl bod87 (whole_ok E H148 _) h (fun r156 H156 L156 a w le156 R h => ?_)
           obtain ⟨⟨A156_0, c156_0, rfl, hk156_0⟩, rfl⟩ := R
           refine au [5,6,0,3,1,3] h ?_; intro a w h
           have h := h.pull 3 rfl rfl
           have h := h.pull 1 rfl rfl
           have h := h.pull 3 rfl rfl
           have h := h.pull 3 rfl rfl
           have l_H_H156 : LE H H156 := (((le140.trans le141).trans le147).trans le148).trans le156
           exact FinP.ret (fin (rs := [.cell 4 31]) (vs := [.agg #[_, _, _]]) h rfl (.agg (k0 := 0) tN31 rfl rfl rfl .nil) rfl l_H_H156 ⟨LE.rfl, h.st.drop 2⟩ ⟨_, _, _, _, ((sh12 d133 (by omega) (by omega)).trans ((congrArg (fun o => Option.bind o _) hs141).trans (congrArg (Option.map _) hs148))), ⟨_, _, rfl, hk156_0⟩, (BdS.up hb148 le156), rfl, rfl⟩)
          ·have d133 : t.kind ≠ 12 := cd_ c133
           refine au [0,4,1,2,6,2,0,6,0,3] h ?_; intro a w h
           refine cdB h (fun c149 => ?_) (fun c149 => ?_)
           ·have d149 : t.kind = 5 := cd_ c149
            rw [c149] at h
            have hl : t.kids.length = 2 := by omega
            refine au [1,8,1,0,2,0,1,2,0,0] h ?_; intro a w h
            have hj153 : 1 < t.kids.length := by first | assumption | omega | (simp; done) | (simp; omega)
            obtain ⟨g153, o153, A153_0, c153_0, A153_1, c153_1, A153_2, c153_2, e153, hv153, hc153⟩ := TrS.get ht2 hj153
            obtain ⟨_, _, _, _, _, _, q153, hk153_0, hk153_1, hk153_2⟩ := hv153; cases q153
            refine iaE sli32 sz34 rfl hj153 e153 h fun a w h => ?_
            refine fa fl34_3 (r := o153 + 1 * 10 + 3) h fun a w h => ?_
            refine ldHN (l := [_, _, _]) tN31 rfl (sbL 3 3 hc153) h fun a w h => ?_
            refine au [5,5,0,3,1,3,1,6,1,4] h ?_; intro a w h
            exact FinP.ret (fin (rs := [.cell 4 31]) (vs := [.agg #[_, _, _]]) h rfl (.agg (k0 := 0) tN31 rfl rfl rfl .nil) rfl LE.rfl ⟨LE.rfl, h.st.drop 2⟩ ⟨_, _, _, _, (sh5 (by omega) (by omega)), ⟨_, _, rfl, hk153_0⟩, hsub, rfl, rfl⟩)
           ·have d149 : t.kind ≠ 5 := cd_ c149
            refine au [0,5,6,2,0,6,0,3] h ?_; intro a w h
            refine cdB h (fun c149 => ?_) (fun c149 => ?_)
            ·have d149 : t.kind = 13 := cd_ c149
             rw [c149] at h
             have hl : t.kids.length = 2 := by omega
             refine au [1,2,0,0] h ?_; intro a w h
             have hj153 : 1 < t.kids.length := by first | assumption | omega | (simp; done) | (simp; omega)
             obtain ⟨g153, o153, A153_0, c153_0, A153_1, c153_1, A153_2, c153_2, e153, hv153, hc153⟩ := TrS.get ht2 hj153
             obtain ⟨_, _, _, _, _, _, q153, hk153_0, hk153_1, hk153_2⟩ := hv153; cases q153
             refine iaE sli32 sz34 rfl hj153 e153 h fun a w h => ?_
             refine fa fl34_3 (r := o153 + 1 * 10 + 3) h fun a w h => ?_
             refine ldHN (l := [_, _, _]) tN31 rfl (sbL 3 3 hc153) h fun a w h => ?_
             refine au [5,5,0,3,1,3,1,6,1,4] h ?_; intro a w h
             exact FinP.ret (fin (rs := [.cell 4 31]) (vs := [.agg #[_, _, _]]) h rfl (.agg (k0 := 0) tN31 rfl rfl rfl .nil) rfl LE.rfl ⟨LE.rfl, h.st.drop 2⟩ ⟨_, _, _, _, (sh5 (by omega) (by omega)), ⟨_, _, rfl, hk153_0⟩, hsub, rfl, rfl⟩)
            ·have d149 : t.kind ≠ 13 := cd_ c149
             refine au [1,8,1,7,1,0,1,2] h ?_
             refine cl bod87 (whole_ok E H _) h (fun r156 H156 L156 a w le156 R h => ?_)
             obtain ⟨⟨A156_0, c156_0, rfl, hk156_0⟩, rfl⟩ := R
             refine au [5,5,0,3,1,3] h ?_; intro a w h
             exact FinP.ret (fin (rs := [.cell 4 31]) (vs := [.agg #[_, _, _]]) h rfl (.agg (k0 := 0) tN31 rfl rfl rfl .nil) rfl le156 ⟨LE.rfl, h.st.drop 2⟩ ⟨_, _, _, _, (sh1 (by omega)), ⟨_, _, rfl, hk156_0⟩, (BdS.up hsub le156), rfl, rfl⟩)
structure Tkn (M : Nat) (K : Bs → Bool) (e : Es) (kd : Int) (nm : Bs) (ks : List Tm) (k : Nat) (ek : Es) (b : Sh) (acc : List Tr) : Prop where
 rest : elL kd nm ek b acc (ks.drop k) = elL kd nm e (.mk 0 0 []) [] ks
 len : acc.length = k
 kids : KidsOk kd ks.length (M + 2 * sizeL (ks.take k)) ek b acc
 hi : ek.nx ≤ e.nx + (4 * sizeL (ks.take k) + k)
 dom : ∀ x, K x = true → (ek.nm x).isSome = true
theorem Tkn.start {M : Nat} {K : Bs → Bool} {e : Es} {kd : Int} {nm : Bs} {ks : List Tm} (hK : ∀ x, K x = true → (e.nm x).isSome = true) (hi : Inv M e) (hM : 1 ≤ M) : Tkn M K e kd nm ks 0 e (.mk 0 0 []) [] :=
 ⟨by simp, rfl, ⟨by simpa [sizeL] using hi, fun t ht => (by cases ht), by simp only [List.take_zero, sizeL]; exact hM, fun _ h => absurd rfl h⟩, by simp [sizeL], hK⟩
theorem takeS {ks : List Tm} {k : Nat} (h : k < ks.length) : sizeL (ks.take (k + 1)) = sizeL (ks.take k) + ks[k].size := by
 have key : ∀ l m : List Tm, sizeL (l ++ m) = sizeL l + sizeL m := fun l m => by
   induction l with
   | nil => simp [sizeL]
   | cons t l ih => simp only [List.cons_append, sizeL, ih]; omega
 rw [List.take_succ_eq_append_getElem h, key]; simp [sizeL]
theorem takeS_le {ks : List Tm} {k : Nat} (h : k < ks.length) : sizeL (ks.take k) + ks[k].size ≤ sizeL ks := by rw [← takeS h]; exact size_take_le ks _
theorem okn_at {bd : Bool} {s : Bs} {K : Bs → Bool} : ∀ {ks : List Tm} {k : Nat} (h : k < ks.length), oknL bd s K ks = true → ks[k].okn (if bd && (ks.drop (k + 1)).isEmpty then fun x => decide (x = s) || K x else K) = true
 | [], k, h, _ => absurd h (Nat.not_lt_zero k)
 | t :: l, 0, h, hk => by
   rw [oknL, Bool.and_eq_true] at hk
   simpa using hk.1
 | t :: l, k + 1, h, hk => by
   rw [oknL, Bool.and_eq_true] at hk
   have := okn_at (ks := l) (k := k) (by simpa using h) hk.2
   simpa using this
section
variable {M : Nat} {K : Bs → Bool} {e ek : Es} {kd : Int} {nm : Bs} {ks : List Tm} {k : Nat} {b : Sh} {acc : List Tr}
noncomputable abbrev preK (ek : Es) (kd : Int) (nm : Bs) (b : Sh) (acc : List Tr) (ks : List Tm) (k : Nat) : Es × Sh := ek.pre kd nm b acc (ks.drop (k + 1)).isEmpty
def Es.bput (e : Es) (kd : Int) (nm : Bs) (acc : List Tr) : Es := ⟨e.sub, (e.bound kd acc).1.nx, fun y => if y = nm then some (e.bound kd acc).2 else e.nm y⟩
theorem bput_eq (e : Es) (kd : Int) (nm : Bs) (acc : List Tr) : (e.bound kd acc).1.put nm (e.bound kd acc).2 = e.bput kd nm acc := by
 unfold Es.put Es.bput Es.bound
 split
 · rfl
 · split <;> rfl
theorem preT (h : (bnd kd && ((k : Int) == (ks.length : Int) - 1)) = true) : preK ek kd nm b acc ks k = (ek.bput kd nm acc, (ek.bound kd acc).2) := by
 rw [← bput_eq]
 simp only [Bool.and_eq_true, beq_iff_eq] at h
 have h2 : (ks.drop (k + 1)) = [] := List.drop_eq_nil_of_le (by omega)
 unfold preK Es.pre
 rw [h2, if_pos (by simp [h.1])]
theorem preF (hk : k < ks.length) (h : (bnd kd && ((k : Int) == (ks.length : Int) - 1)) = false) : preK ek kd nm b acc ks k = (ek, b) := by
 unfold preK Es.pre
 rw [if_neg]
 intro hc
 simp only [Bool.and_eq_true, List.isEmpty_iff, List.drop_eq_nil_iff] at hc
 rw [hc.1, Bool.true_and, beq_eq_false_iff_ne] at h
 omega
structure CallOk (M : Nat) (t : Tm) (e : Es) : Prop where
 kn : ∃ K, t.okn K = true ∧ ∀ x, K x = true → (e.nm x).isSome = true
 inv : Inv M e
 one : 1 ≤ M
 sz : M + 2 * t.size ≤ 10000000
 nx : e.nx + 4 * t.size ≤ 1000000000
theorem CallOk.inv' {M : Nat} {t : Tm} {e e' : Es} {r : Tr} (h : CallOk M t e) (he : t.el e = some (e', r)) : Kid M e e' t.size ∧ Gt (M + 2 * t.size) e'.nx r := by
 obtain ⟨K, h1, h2⟩ := h.kn
 exact el_inv t e e' r M K he h1 h2 h.inv h.one h.sz h.nx
theorem CallOk.bare {kd : Int} {nm : Bs} {n : Int} {ks : List Tm} {M : Nat} {e : Es} (h : CallOk M (.mk kd nm n ks) e) : arB kd ks.length = true ∧ M + 2 * (1 + sizeL ks) ≤ 10000000 ∧ e.nx + 4 * (1 + sizeL ks) ≤ 1000000000 ∧ ∃ K, oknL (bnd kd) nm K ks = true ∧ (kd = 2 → K nm = true) ∧ ∀ x, K x = true → (e.nm x).isSome = true := by
 obtain ⟨K, h1, h2⟩ := h.kn
 simp only [Tm.okn, Bool.and_eq_true] at h1
 have := h.sz; have h4 := h.nx
 simp only [Tm.size] at this h4
 exact ⟨h1.1, this, h4, K, h1.2.2, fun e => by subst e; simpa using h1.2.1, h2⟩
theorem Tkn.call (h : Tkn M K e kd nm ks k ek b acc) (hk : k < ks.length) (ha : arB kd ks.length = true) (ho : oknL (bnd kd) nm K ks = true) (hM : 1 ≤ M) (h1 : M + 2 * (1 + sizeL ks) ≤ 10000000) (h2 : e.nx + 4 * (1 + sizeL ks) ≤ 1000000000) :
   CallOk (M + 2 * sizeL (ks.take k)) ks[k] (preK ek kd nm b acc ks k).1 := by
 have hl3 : ks.length ≤ 3 := by have := arB_cases ha; omega
 have hle := takeS_le hk
 have hlen : acc.length + ((ks.drop (k + 1)).length + 1) = ks.length := by rw [h.len, List.length_drop]; omega
 obtain ⟨q1, q2, q3, q4, q5, q6, q7⟩ := kid_pre (nm := nm) (K := K) ha hlen h.kids.inv (by omega) (fun t ht => (h.kids.accs t ht).s) h.dom h.kids.bs
 have := h.hi
 exact ⟨⟨_, okn_at hk ho, q5⟩, q1, by omega, by omega, by unfold preK; omega⟩
theorem Tkn.step {e2 : Es} {tr : Tr} (h : Tkn M K e kd nm ks k ek b acc) (hk : k < ks.length) (ha : arB kd ks.length = true) (ho : oknL (bnd kd) nm K ks = true) (hM : 1 ≤ M) (h1 : M + 2 * (1 + sizeL ks) ≤ 10000000) (h2 : e.nx + 4 * (1 + sizeL ks) ≤ 1000000000)
   (he : ks[k].el (preK ek kd nm b acc ks k).1 = some (e2, tr)) : Tkn M K e kd nm ks (k + 1) e2 (preK ek kd nm b acc ks k).2 (acc ++ [tr]) := by
 have hc := h.call hk ha ho hM h1 h2
 obtain ⟨d1, d2⟩ := hc.inv' he
 have hlen : acc.length + ((ks.drop (k + 1)).length + 1) = ks.length := by rw [h.len, List.length_drop]; omega
 obtain ⟨q1, q2, q3, q4, q5, q6, q7⟩ := kid_pre (nm := nm) (K := K) ha hlen h.kids.inv (by omega) (fun t ht => (h.kids.accs t ht).s) h.dom h.kids.bs
 have hq := KidsOk.kid (nm := nm) (K := K) ha hlen h.kids (by omega) h.dom d1 d2
 have hh := h.hi; have dh := d1.hi
 refine ⟨?_, by simp [h.len], ?_, ?_, fun x hx => d1.dom x (q4 x (h.dom x hx))⟩
 · rw [← h.rest, List.drop_eq_getElem_cons hk, elL_cons]
   unfold preK at he
   rw [he]
 · rw [takeS hk, Nat.mul_add, ← Nat.add_assoc]; exact hq
 · rw [takeS hk]; unfold preK at dh; omega
theorem Tkn.none {n : Int} (h : Tkn M K e kd nm ks k ek b acc) (hk : k < ks.length) (he : ks[k].el (preK ek kd nm b acc ks k).1 = none) : (Tm.mk kd nm n ks).el e = none := by
 have hr := h.rest
 rw [List.drop_eq_getElem_cons hk, elL_cons] at hr
 unfold preK at he
 rw [he] at hr
 simp only [Tm.el]
 rw [← hr]
theorem Tkn.fin (h : Tkn M K e kd nm ks ks.length ek b acc) : acc.length = ks.length ∧ KidsOk kd acc.length (M + 2 * sizeL ks) ek b acc ∧ ek.nx ≤ e.nx + (4 * sizeL ks + ks.length) := by
 have h1 := h.kids; have h2 := h.hi
 rw [List.take_length] at h1 h2
 exact ⟨h.len, by rw [h.len]; exact h1, h2⟩
theorem Tkn.done (h : Tkn M K e kd nm ks ks.length ek b acc) : elL kd nm e (.mk 0 0 []) [] ks = some (ek, b, acc) := by
 rw [← h.rest, List.drop_length]; rfl
theorem Tkn.el {n : Int} (h : Tkn M K e kd nm ks ks.length ek b acc) : (Tm.mk kd nm n ks).el e = (ek.shape kd nm b (acc.map Tr.s)).map fun p => (p.1, Tr.mk kd nm n p.2 b acc) := by
 simp only [Tm.el]
 rw [h.done]
 simp only []
 cases ek.shape kd nm b (acc.map Tr.s) <;> rfl
end
theorem tree_ok : ∀ (t : Tm) (M : Nat) (e : Es) (A : Option Addr) (c gs gm : Nat) (fm : Bs → Option Value) (v : Value) (E : World) (H : GH) (L : List It), CallOk M t e → MapR H fm e.nm → BdS H A c e.sub → VT H v t →
   OkP Tryz.prog 89 #[.pointer (some ⟨gs, 0, none⟩), v] E H (.obj gs (.cells #[.slice A e.sub.length c, .int .i64 (e.nx : Int), .map (some gm)] 127 (0, 0)) :: .blk gm (IsMap encS fm) :: L) (.iface 121 (.agg #[])) (t.el e = none) L fun r H' L' => ∃ (e' : Es) (t' : Tr) (A' : Option Addr) (c' : Nat) (fm' : Bs → Option Value), t.el e = some (e', t') ∧ VTr H' r t' ∧ MapR H' fm' e'.nm ∧ BdS H' A' c' e'.sub ∧ L' = .obj gs (.cells #[.slice A' e'.sub.length c', .int .i64 (e'.nx : Int), .map (some gm)] 127 (0, 0)) :: .blk gm (IsMap encS fm') :: L := by
 intro t
 induction t using Tm.ind with
 | h kd nm nn ks ih =>
 intro M e A c gs gm fm v E H L hco hm hsub hv
 obtain ⟨ha, hM1, hn1, K, hok, hk2, hK⟩ := hco.bare
 have hM := hco.one
 have hi0 := hco.inv
 have hlen := length_le_sizeL ks
 have hl3 : ks.length ≤ 3 := by have := arB_cases ha; omega
 obtain ⟨At0, ct0, rfl, ht0⟩ := hv
 dsimp only [Tm.kind, Tm.name, Tm.n, Tm.kids] at ht0 ⊢
 refine enterP (N := 61) [(0, _), (1, _)] Tryz.func89 rfl rfl rfl rfl fun a w h => ?_
 refine au [1,2] h ?_
 refine bxA h fun g3 a w h => ?_
 refine al zr34 h fun g4 a w h => ?_
 refine au [0,2,0,7,2,8,0,7,2,8,0,7,2,8,7,5] h ?_; intro a w h
 refine al zr34 h fun g5 a w h => ?_
 refine au [5,5,0,3,0,4,1,2,0,7,3,0,6,0,0,0,0,3,1,5] h ?_; intro a w h
 have h := h.row (e := 34) (sz := 10)
 obtain ⟨Hg3, leHg3, h, hfg3⟩ := h.frz 3
 refine lp (β := Nat × GH × (Option Addr) × Nat × (List Value) × Es × Sh × (List Tr) × (Bs → Option Value) × (Option Addr) × Nat × (Option Addr) × Nat) (fun x a w => match x with | (k, HL0, Brk, prk, xrk, ek, b, acc, fmk, Ak, ck, Ab, cb) => ((k ≤ ks.length) ∧ (LE Hg3 HL0) ∧ (RowR RTr 10 HL0 xrk acc) ∧ ((Tkn M K e kd nm ks k ek b acc ∧ MapR HL0 fmk ek.nm ∧ BdS HL0 Ak ck ek.sub ∧ HS HL0 Ab cb b.kids))) ∧ S E HL0 61 [] [(0, .pointer (some ⟨gs, 0, none⟩)), (3, .pointer (some ⟨g3, 0, none⟩)), (4, .pointer (some ⟨g4, 0, none⟩)), (5, .pointer (some ⟨g5, 0, none⟩)), (16, .slice At0 ks.length ct0), (17, .int .i64 (ks.length : Int)), (18, .int .i64 (k : Int))] (.row (.slice Brk acc.length prk) 34 10 acc.length xrk :: .obj g5 (.cells #[.int .i64 kd, str nm, .int .i64 nn, .int .i64 0, .int .i64 0, .slice none 0 0, .int .i64 b.kind, .int .i64 b.n, .slice Ab b.kids.length cb, .slice Brk acc.length prk] 34 (0, 0)) :: .obj g4 (.cells #[.int .i64 0, str [], .int .i64 0, .int .i64 0, .int .i64 0, .slice none 0 0, .int .i64 0, .int .i64 0, .slice none 0 0, .slice none 0 0] 34 (0, 0)) :: .obj gs (.cells #[.slice Ak ek.sub.length ck, .int .i64 (ek.nx : Int), .map (some gm)] 127 (0, 0)) :: .blk gm (IsMap encS fmk) :: L) a w)
  (fun x => match x with | (k, HL0, Brk, prk, xrk, ek, b, acc, fmk, Ak, ck, Ab, cb) => ks.length - k) (0, Hg3, none, 0, [], e, (Sh.mk 0 0 []), ([] : List Tr), fm, A, c, none, 0) ⟨⟨Nat.zero_le _, LE.rfl, ((RowR.nil : RowR RTr 10 H [] ([] : List Tr)).mono fun cs y _ hr => RTr.mono leHg3 y hr), ⟨Tkn.start hK hi0 hM, hm.mono le_, BdS.up hsub le_, RS.nil _ _ _⟩⟩, (by show S _ _ _ _ _ _ _ _; rw [show (.int .i64 (Sh.mk 0 0 []).kind : Value) = .int .i64 0 from Eq.symm (by first | rfl | (simp; done) | (simp; omega) | (congr 1; simp; omega) | (congr 1; omega)), show (.int .i64 (Sh.mk 0 0 []).n : Value) = .int .i64 0 from Eq.symm (by first | rfl | (simp; done) | (simp; omega) | (congr 1; simp; omega) | (congr 1; omega)), show (.slice none (Sh.mk 0 0 []).kids.length 0 : Value) = .slice none 0 0 from Eq.symm (by first | rfl | (simp; done) | (simp; omega) | (congr 1; simp; omega) | (congr 1; omega))]; exact h.to 0 _)⟩ ?_
 rintro ⟨k, HL0, Brk, prk, xrk, ek, b, acc, fmk, Ak, ck, Ab, cb⟩ a w ⟨⟨hk, leHL0, hrrk, hi⟩, h⟩
 obtain ⟨htk, hmk, hbk, hbb⟩ := hi
 have hh := htk.hi
 have htl := size_take_le ks k
 refine au [1,2,6,4,0,3,0,4] h ?_; intro a w h
 refine cdB h (fun c19 => ?_) (fun c19 => ?_)
 ·have d19 : k < ks.length := cd_ c19
  refine au [1,8,1,0,0,4,1,5,1,2,0,0] h ?_; intro a w h
  have l_H_HL0 : LE H HL0 := leHg3.trans leHL0
  have hj21 : k < ks.length := by first | assumption | omega | (simp; done) | (simp; omega)
  obtain ⟨g21, o21, A21_0, c21_0, e21, hv21, hc21⟩ := KS.get (KS.up ht0 l_H_HL0) hj21
  obtain ⟨_, _, q21, hk21_0⟩ := hv21; cases q21
  refine iaE sli24 sz26 rfl hj21 e21 h fun a w h => ?_
  refine ldHN tN26 rfl hc21 h fun a w h => ?_
  refine al zr26 h fun g7 a w h => ?_
  refine au [0,6,5,5,0,3,0,4] h ?_; intro a w h
  refine sqc (fun a w => S E HL0 61 [] [(0, .pointer (some ⟨gs, 0, none⟩)), (3, .pointer (some ⟨g3, 0, none⟩)), (4, .pointer (some ⟨g4, 0, none⟩)), (5, .pointer (some ⟨g5, 0, none⟩)), (16, .slice At0 ks.length ct0), (17, .int .i64 (ks.length : Int)), (18, .int .i64 (k : Int)), (19, .bool (decide (((k : Int) : Int) < (ks.length : Int)))), (20, .int .i64 (k : Int)), (22, .agg #[.int .i64 ks[k].kind, str ks[k].name, .int .i64 ks[k].n, .slice A21_0 ks[k].kids.length c21_0]), (7, .pointer (some ⟨g7, 0, none⟩)), (6, .int .i64 (k : Int)), (23, .agg #[.int .i64 kd, str nm, .int .i64 nn, .slice At0 ks.length ct0]), (24, .bool (bnd kd)), (25, .bool (bnd kd)), (32, .bool ((bnd kd) && (((k : Int) : Int) == ((ks.length : Int) - 1))))] (.obj g7 (.cells #[.int .i64 ks[k].kind, str ks[k].name, .int .i64 ks[k].n, .slice A21_0 ks[k].kids.length c21_0] 26 (0, 0)) :: .row (.slice Brk acc.length prk) 34 10 acc.length xrk :: .obj g5 (.cells #[.int .i64 kd, str nm, .int .i64 nn, .int .i64 0, .int .i64 0, .slice none 0 0, .int .i64 b.kind, .int .i64 b.n, .slice Ab b.kids.length cb, .slice Brk acc.length prk] 34 (0, 0)) :: .obj g4 (.cells #[.int .i64 0, str [], .int .i64 0, .int .i64 0, .int .i64 0, .slice none 0 0, .int .i64 0, .int .i64 0, .slice none 0 0, .slice none 0 0] 34 (0, 0)) :: .obj gs (.cells #[.slice Ak ek.sub.length ck, .int .i64 (ek.nx : Int), .map (some gm)] 127 (0, 0)) :: .blk gm (IsMap encS fmk) :: L) a w) ?_ ?_
  ·refine rg0 ?_
   refine ldHN tN26 rfl (Hc.all (leHL0 _ _ hfg3)) h fun a w h => ?_
   refine cl bod117 (Binder_ok _ _ _ _ _ _ _) h (fun r24 H24 L24 a w le24 R h => ?_)
   obtain ⟨rfl, rfl, rfl⟩ := R
   refine h.spl (fun c24 h => ?_) (fun c24 h => ?_)
   ·refine au [0,0,0,0,0,7] h ?_; intro a w h
    refine ldH t1_24 (Hc.of (leHL0 _ _ hfg3) rfl) h fun a w h => ?_
    refine ln sli24 h fun a w h => ?_
    refine sbr ((ks.length : Int) - 1) (w64 (by omega) (by omega)) h fun a w h => ?_
    refine au [6,2,4,8,0,3] h ?_; intro a w h
    exact (by show S _ _ _ _ _ _ _ _; rw [show (.bool (bnd kd) : Value) = .bool true from Eq.symm (by first | ((try rw [c24]) <;> (try simp only [Bool.true_or, Bool.or_true, Bool.false_or, Bool.or_false, Bool.true_and, Bool.and_true, Bool.false_and, Bool.and_false, Bool.not_true, Bool.not_false, cond_true, cond_false]); done) | (exfalso; omega)), show (.bool ((bnd kd) && (((k : Int) : Int) == ((ks.length : Int) - 1))) : Value) = .bool (((k : Int) : Int) == ((ks.length : Int) - 1)) from Eq.symm (by first | ((try rw [c24]) <;> (try simp only [Bool.true_or, Bool.or_true, Bool.false_or, Bool.or_false, Bool.true_and, Bool.and_true, Bool.false_and, Bool.and_false, Bool.not_true, Bool.not_false, cond_true, cond_false]); done) | (exfalso; omega))]; exact h.to 0 _)
   ·refine au [0,0,0,1,0,1,0,1,0,1,0,1,0,1,5,0,0,3] h ?_; intro a w h
    exact (by show S _ _ _ _ _ _ _ _; rw [show (.bool (bnd kd) : Value) = .bool false from Eq.symm (by first | ((try rw [c24]) <;> (try simp only [Bool.true_or, Bool.or_true, Bool.false_or, Bool.or_false, Bool.true_and, Bool.and_true, Bool.false_and, Bool.and_false, Bool.not_true, Bool.not_false, cond_true, cond_false]); done) | (exfalso; omega)), show (.bool ((bnd kd) && (((k : Int) : Int) == ((ks.length : Int) - 1))) : Value) = .bool false from Eq.symm (by first | ((try rw [c24]) <;> (try simp only [Bool.true_or, Bool.or_true, Bool.false_or, Bool.or_false, Bool.true_and, Bool.and_true, Bool.false_and, Bool.and_false, Bool.not_true, Bool.not_false, cond_true, cond_false]); done) | (exfalso; omega))]; exact h.to 0 _)
  ·rintro a w h
   refine cdB h (fun c32 => ?_) (fun c32 => ?_)
   ·have hkl : k + 1 = ks.length := by simp at c32; omega
    refine au [1,2,0,0] h ?_; intro a w h
    refine ldHN tN26 rfl (Hc.all (leHL0 _ _ hfg3)) h fun a w h => ?_
    refine au [0,7,3,0] h ?_; intro a w h
    have h := h.pull 4 rfl rfl
    obtain ⟨Hn37, leHn37, h, hsHn37, bk37⟩ := h.lendR (R := fun _ cs x => RTr HL0 cs x) 2 hrrk rfl (fun _ _ _ _ _ hr => hr)
    have l_H_Hn37 : LE H Hn37 := (leHg3.trans leHL0).trans leHn37
    refine cl bod129 (bound_ok ek Ak ck gs gm (Tm.mk kd nm nn ks) acc _ _ _ HL0 E Hn37 _ (by omega) ⟨At0, ct0, rfl, (KS.up ht0 l_H_Hn37)⟩ hsHn37 (fun h5 => by have := arB_cases ha; have := htk.len; have h5 : kd = 5 := h5; omega) (BdS.up hbk leHn37)) h fun r37 H37 L37 a w le37 R h => ?_
    obtain ⟨⟨A37, c37, rfl, hk37⟩, rfl⟩ := R
    have h := bk37.get le37 h
    refine fa fl34_4 (r := 6) h fun a w h => ?_
    refine stp (l := [_, _, _, _, _, _, _, _, _, _]) 3 tN31 h fun a w h => ?_
    refine au [0,3] h ?_
    refine rgd [1, 3] [_, _] [0] [3, 5, 7] 1 mix (by kernel_rfl) h (fun a w h => ?_)
    refine au [0,0,7,2,0,7,4,2,0,7] h ?_; intro a w h
    refine ldHD t1_9 (Hc.of (leHL0 _ _ hfg3) rfl) h fun a w h => ?_
    refine fa fl34_4 (r := 6) h fun a w h => ?_
    refine ldND (l := [_, _, _]) 1 tN31 h fun a w h => ?_
    have h := h.pull 5 rfl rfl
    refine mu 0 keyS mapSSh h fun a w h => ?_
    have h : S _ _ _ _ _ (.blk _ (IsMap encS (upd fmk nm (some (.agg #[.int .i64 (((ek.bound kd acc).2).kind), .int .i64 (((ek.bound kd acc).2).n), .slice A37 (((ek.bound kd acc).2).kids).length c37])))) :: _) _ _ := h
    have hmu := MapR.put hmk (⟨_, _, rfl, hk37⟩ : VSh HL0 (.agg #[.int .i64 (((ek.bound kd acc).2).kind), .int .i64 (((ek.bound kd acc).2).n), .slice A37 (((ek.bound kd acc).2).kids).length c37]) (ek.bound kd acc).2) nm
    refine au [0,3] h ?_
    refine rgd [4, 3] [_, _] [4, 3, 2, 0] [1, 3] 2 mix (by kernel_rfl) h (fun a w h => ?_)
    refine au [0,7,4,2,0,0] h ?_; intro a w h
    refine ldWD 1 tN26 h fun a w h => ?_
    have h := h.pull 2 rfl rfl
    have hcl := htk.call d19 ha hok hM hM1 hn1
    rw [preT c32] at hcl
    refine clP bod89 (ih _ (List.getElem_mem d19) _ (ek.bput kd nm acc) Ak ck gs gm (upd fmk nm (some (.agg #[.int .i64 (((ek.bound kd acc).2).kind), .int .i64 (((ek.bound kd acc).2).n), .slice A37 (((ek.bound kd acc).2).kids).length c37]))) (.agg #[.int .i64 ks[k].kind, str ks[k].name, .int .i64 ks[k].n, .slice A21_0 ks[k].kids.length c21_0]) E HL0 _ hcl hmu hbk ⟨A21_0, c21_0, rfl, hk21_0⟩) h (fun Hp a w hpn lep h => by (repeat (first | refine thP ?_ | refine ibP ?_)); exact pfin h (htk.none d19 (by rw [preT c32]; exact hpn)) (LE.trans l_H_HL0 lep) (by repeat (first | exact List.Sublist.refl _ | apply List.Sublist.cons))) (fun r51 H51 L51 a w le51 R h => ?_) (hS := fun _ _ _ _ _ le R hw => by obtain ⟨_, _, _, _, _, _, _, _, _, rfl⟩ := R; exact hw.sees' (by first | exact le | exact LE.trans (by assumption) le) (by simp))
    obtain ⟨e51, t51, B51, p51, fm51, hel51, ⟨A51_0, c51_0, A51_1, c51_1, A51_2, c51_2, rfl, hk51_0, hk51_1, hk51_2⟩, hm51, hb51, rfl⟩ := R
    refine bsl bs32 h fun g52 a w h => ?_
    refine apn (n := acc.length) (m := 1) 3 0 (L' := fun i => _ :: _ :: _ :: i :: _) [_, _, _, _, _, _, _, _, _, _] ((acc ++ [t51]).length) (by first | (simp; done) | (simp; omega)) row32 h (by first | omega | (simp; done) | (simp; omega) | (have := htk.len; simp; omega)) (by first | omega | (simp; done) | (simp; omega) | (have := htk.len; simp; omega)) fun v53 a w hone53 h => ?_
    obtain ⟨B53, cp53, rfl⟩ := h.rowv 3
    have hr53 : RowR RTr 10 H51 (xrk ++ [.int .i64 t51.kind, str t51.name, .int .i64 t51.n, .int .i64 t51.s.kind, .int .i64 t51.s.n, .slice A51_0 t51.s.kids.length c51_0, .int .i64 t51.b.kind, .int .i64 t51.b.n, .slice A51_1 t51.b.kids.length c51_1, .slice A51_2 t51.kids.length c51_2]) (acc ++ [t51]) := (hrrk.mono fun cs y _ hr => RTr.mono le51 y hr).snoc rfl (rtr_of_v (cs := [_, _, _, _, _, _, _, _, _, _]) ⟨_, _, _, _, _, _, rfl, hk51_0, hk51_1, hk51_2⟩)
    refine fa fl34_5 (r := 9) h fun a w h => ?_
    refine st5 (l := [_, _, _, _, _, _, _, _, _, _]) t1_32 h fun a w h => ?_
    refine au [1,1,1,7,1,0,0,5] h ?_
    refine inc ?_ h fun a w h => ?_
    ·omega
    refine au [0,0,0,3] h ?_; intro a w h
    have h := h.del 0
    have h := h.del 3
    have h := h.pull 1 rfl rfl
    have h := h.pull 1 rfl rfl
    have h := h.pull 4 rfl rfl
    have h := h.pull 4 rfl rfl
    have h := h.pull 4 rfl rfl
    have l_Hg3_H51 : LE Hg3 H51 := leHL0.trans le51
    exact ⟨((k + 1), H51, B53, cp53, _, e51, (ek.bound kd acc).2, (acc ++ [t51]), fm51, B51, p51, A37, c37), ⟨⟨by omega, l_Hg3_H51, hr53, ⟨by have q := htk.step d19 ha hok hM hM1 hn1 (by rw [preT c32]; exact hel51); rwa [preT c32] at q, hm51, hb51, (HS.up hk37 le51)⟩⟩, h.to 0 _⟩, by show _ - (k + 1) < _ - k; omega⟩
   ·refine au [1,8,1,0] h ?_
    refine rgd [2, 0] [_, _] [4, 3, 2, 0] [1, 3] 2 mix (by kernel_rfl) h (fun a w h => ?_)
    refine au [0,7,4,2,0,0] h ?_; intro a w h
    refine ldWD 1 tN26 h fun a w h => ?_
    have h := h.pull 5 rfl rfl
    have h := h.pull 5 rfl rfl
    have hcl := htk.call d19 ha hok hM hM1 hn1
    rw [preF d19 c32] at hcl
    refine clP bod89 (ih _ (List.getElem_mem d19) _ ek Ak ck gs gm fmk (.agg #[.int .i64 ks[k].kind, str ks[k].name, .int .i64 ks[k].n, .slice A21_0 ks[k].kids.length c21_0]) E HL0 _ hcl hmk hbk ⟨A21_0, c21_0, rfl, hk21_0⟩) h (fun Hp a w hpn lep h => by (repeat (first | refine thP ?_ | refine ibP ?_)); exact pfin h (htk.none d19 (by rw [preF d19 c32]; exact hpn)) (LE.trans l_H_HL0 lep) (by repeat (first | exact List.Sublist.refl _ | apply List.Sublist.cons))) (fun r51 H51 L51 a w le51 R h => ?_) (hS := fun _ _ _ _ _ le R hw => by obtain ⟨_, _, _, _, _, _, _, _, _, rfl⟩ := R; exact hw.sees' (by first | exact le | exact LE.trans (by assumption) le) (by simp))
    obtain ⟨e51, t51, B51, p51, fm51, hel51, ⟨A51_0, c51_0, A51_1, c51_1, A51_2, c51_2, rfl, hk51_0, hk51_1, hk51_2⟩, hm51, hb51, rfl⟩ := R
    refine bsl bs32 h fun g52 a w h => ?_
    refine apn (n := acc.length) (m := 1) 4 0 (L' := fun i => _ :: _ :: _ :: _ :: i :: _) [_, _, _, _, _, _, _, _, _, _] ((acc ++ [t51]).length) (by first | (simp; done) | (simp; omega)) row32 h (by first | omega | (simp; done) | (simp; omega) | (have := htk.len; simp; omega)) (by first | omega | (simp; done) | (simp; omega) | (have := htk.len; simp; omega)) fun v53 a w hone53 h => ?_
    obtain ⟨B53, cp53, rfl⟩ := h.rowv 4
    have hr53 : RowR RTr 10 H51 (xrk ++ [.int .i64 t51.kind, str t51.name, .int .i64 t51.n, .int .i64 t51.s.kind, .int .i64 t51.s.n, .slice A51_0 t51.s.kids.length c51_0, .int .i64 t51.b.kind, .int .i64 t51.b.n, .slice A51_1 t51.b.kids.length c51_1, .slice A51_2 t51.kids.length c51_2]) (acc ++ [t51]) := (hrrk.mono fun cs y _ hr => RTr.mono le51 y hr).snoc rfl (rtr_of_v (cs := [_, _, _, _, _, _, _, _, _, _]) ⟨_, _, _, _, _, _, rfl, hk51_0, hk51_1, hk51_2⟩)
    refine fa fl34_5 (r := 9) h fun a w h => ?_
    refine st5 (l := [_, _, _, _, _, _, _, _, _, _]) t1_32 h fun a w h => ?_
    refine au [1,1,1,7,1,0,0,5] h ?_
    refine inc ?_ h fun a w h => ?_
    ·omega
    refine au [0,0,0,3] h ?_; intro a w h
    have h := h.del 0
    have h := h.del 2
    have h := h.pull 1 rfl rfl
    have h := h.pull 1 rfl rfl
    have h := h.pull 4 rfl rfl
    have h := h.pull 4 rfl rfl
    have h := h.pull 4 rfl rfl
    have l_Hg3_H51 : LE Hg3 H51 := leHL0.trans le51
    exact ⟨((k + 1), H51, B53, cp53, _, e51, b, (acc ++ [t51]), fm51, B51, p51, Ab, cb), ⟨⟨by omega, l_Hg3_H51, hr53, ⟨by have q := htk.step d19 ha hok hM hM1 hn1 (by rw [preF d19 c32]; exact hel51); rwa [preF d19 c32] at q, hm51, hb51, (HS.up hbb le51)⟩⟩, h.to 0 _⟩, by show _ - (k + 1) < _ - k; omega⟩
 ·have d19 : ks.length ≤ k := cd_ c19
  refine au [2,5,2,2,2,2,2,3,1,0,0,4] h ?_
  have hke : k = ks.length := by omega
  rw [hke] at htk
  obtain ⟨hal, hqe, hne⟩ := htk.fin
  obtain ⟨Hrrk, leHrrk, h, hsHrrk⟩ := h.frw 0 hrrk rfl (fun _ l cs y _ hr => RTr.mono l y hr)
  refine au [0,5,0,0,3,3] h ?_; intro a w h
  have h := h.pull 3 rfl rfl
  have h := h.pull 3 rfl rfl
  have l_H_Hrrk : LE H Hrrk := (leHg3.trans leHL0).trans leHrrk
  refine clP bod130 (shape_ok ek Ak ck gs gm fmk (Tr.mk kd nm nn (Sh.mk 0 0 []) b acc) (M + 2 * sizeL ks) (.agg #[.int .i64 kd, str nm, .int .i64 nn, .int .i64 0, .int .i64 0, .slice none 0 0, .int .i64 b.kind, .int .i64 b.n, .slice Ab b.kids.length cb, .slice Brk acc.length prk]) E Hrrk _ (by show arB kd acc.length = true; rw [hal]; exact ha) hqe (by omega) (by omega) (by omega) (hmk.mono leHrrk) (BdS.up hbk leHrrk) ⟨none, 0, Ab, cb, Brk, prk, rfl, RS.nil _ _ _, (HS.up hbb leHrrk), hsHrrk⟩) h (fun Hp a w hpn lep h => by (repeat (first | refine thP ?_ | refine ibP ?_)); exact pfin h (htk.el.trans (congrArg (Option.map _) hpn)) (LE.trans l_H_Hrrk lep) (by repeat (first | exact List.Sublist.refl _ | apply List.Sublist.cons))) (fun r58 H58 L58 a w le58 R h => ?_)
  obtain ⟨e58, s58, B58, p58, hsh58, ⟨A58, c58, rfl, hk58⟩, hb58, hnm58, rfl⟩ := R
  refine fa fl34_3 (r := 3) h fun a w h => ?_
  refine stp (l := [_, _, _, _, _, _, _, _, _, _]) 2 tN31 h fun a w h => ?_
  refine au [0,2,3,5,5,8,0,3,1,3] h ?_; intro a w h
  have h := h.pull 1 rfl rfl
  have h := h.pull 1 rfl rfl
  have h := h.pull 3 rfl rfl
  have h := h.pull 3 rfl rfl
  have l_HL0_H58 : LE HL0 H58 := leHrrk.trans le58
  have l_H_H58 : LE H H58 := ((leHg3.trans leHL0).trans leHrrk).trans le58
  exact FinP.ret (fin (rs := [.cell 4 34]) (vs := [.agg #[_, _, _, _, _, _, _, _, _, _]]) h rfl (.agg (k0 := 1) tN34 rfl rfl rfl .nil) rfl l_H_H58 ⟨LE.rfl, h.st.drop 2⟩ ⟨_, Tr.mk kd nm nn s58 b acc, _, _, _, htk.el.trans (congrArg (Option.map _) hsh58), ⟨_, _, _, _, _, _, rfl, hk58, (HS.up hbb l_HL0_H58), (TrS.up hsHrrk le58)⟩, by rw [hnm58]; exact (hmk.mono l_HL0_H58), hb58, rfl⟩)
def nmI (l : List Dc) (s : Sh) (f : Bs → Option Sh) : Bs → Option Sh := l.foldl (fun f d y => if y = d.name then some s else f y) f
theorem nmI_succ {l : List Dc} {k : Nat} (h : k < l.length) (s : Sh) (f : Bs → Option Sh) : nmI (l.take (k + 1)) s f = fun y => if y = l[k].name then some s else nmI (l.take k) s f y := by
 unfold nmI
 rw [List.take_succ_eq_append_getElem h, List.foldl_append]; rfl
theorem nmI_mem (s : Sh) : ∀ (l : List Dc) (f : Bs → Option Sh) (x : Bs), nmI l s f x = if x ∈ l.map (·.name) then some s else f x
 | [], f, x => by simp [nmI]
 | d :: l, f, x => by
   have := nmI_mem s l (fun y => if y = d.name then some s else f y) x
   unfold nmI at this ⊢
   rw [List.foldl_cons, this]
   simp only [List.map_cons, List.mem_cons]
   by_cases h1 : x ∈ l.map (·.name)
   · simp [h1]
   · by_cases h2 : x = d.name <;> simp [h1, h2]
noncomputable def elD : Es → List Df → List Td → Option (Es × List Td)
 | e, [], acc => some (e, acc)
 | e, d :: ds, acc => match d.t.el e with
   | none => none
   | some (e1, tr) => elD (e1.put d.name tr.s) ds (acc ++ [⟨d.name, tr⟩])
def doneD (l : List Bd) : List Td → Option (List Td)
 | [] => some []
 | d :: ds => (d.t.done l).bind fun t => (doneD l ds).map fun ts => ⟨d.name, t⟩ :: ts
def Pg.es0 (p : Pg) : Es := ⟨[], 0, nmI p.cells ce (nmI p.inputs wh (fun _ => none))⟩
noncomputable def elabT (p : Pg) : Option Ty :=
 (elD p.es0 p.defs []).bind fun q => (p.body.el q.1).bind fun r => (r.1.same r.2.s wh).bind fun e => (doneD e.sub q.2).bind fun ds => (r.2.done e.sub).map fun b => ⟨ds, b⟩
def sizeD : List Df → Nat
 | [] => 0
 | d :: l => d.t.size + sizeD l
theorem sizeD_app (l m : List Df) : sizeD (l ++ m) = sizeD l + sizeD m := by
 induction l with
 | nil => simp [sizeD]
 | cons d l ih => simp only [List.cons_append, sizeD, ih]; omega
theorem sizeD_take {l : List Df} {k : Nat} (h : k < l.length) : sizeD (l.take (k + 1)) = sizeD (l.take k) + l[k].t.size := by
 rw [List.take_succ_eq_append_getElem h, sizeD_app]; simp [sizeD]
theorem sizeD_le (l : List Df) (k : Nat) : sizeD (l.take k) ≤ sizeD l := by
 have := sizeD_app (l.take k) (l.drop k)
 rw [List.take_append_drop] at this; omega
structure PgOk (p : Pg) : Prop where
 defs : ∀ k (hk : k < p.defs.length), p.defs[k].t.okn (fun x => decide (x ∈ p.known k)) = true
 body : p.body.okn (fun x => decide (x ∈ p.known p.defs.length)) = true
 size : sizeD p.defs + p.body.size ≤ 1000000
structure Tp (p : Pg) (k : Nat) (e : Es) (acc : List Td) : Prop where
 rest : elD e (p.defs.drop k) acc = elD p.es0 p.defs []
 len : acc.length = k
 inv : Inv (1 + 2 * sizeD (p.defs.take k)) e
 hi : e.nx ≤ 4 * sizeD (p.defs.take k)
 dom : ∀ x, x ∈ p.known k → (e.nm x).isSome = true
 szs : ∀ t ∈ acc, t.t.szs (1 + 2 * sizeD (p.defs.take k))
 tsz : ∀ t ∈ acc, t.t.size ≤ 1000000
mutual
theorem bare_size : ∀ t : Tr, t.bare.size = t.size
 | .mk kd nm n s b ks => by simp only [Tr.bare, Tm.size, Tr.size, bareL_size ks]
theorem bareL_size : ∀ l : List Tr, sizeL (bareL l) = sizeTL l
 | [] => rfl
 | t :: l => by simp only [bareL, sizeL, sizeTL, bare_size t, bareL_size l]
end
theorem el_size {t : Tm} {e e' : Es} {r : Tr} (h : t.el e = some (e', r)) : r.size = t.size := by rw [← bare_size, el_bare t e e' r h]
theorem ord_nil : Ord [] := ⟨by simp, by simp, by simp, by simp, by simp⟩
theorem Tp.start (p : Pg) : Tp p 0 p.es0 [] := by
 refine ⟨rfl, rfl, ⟨⟨ord_nil, by intro b hb; cases hb⟩, fun x s hs => ?_⟩, by simp [Pg.es0], fun x hx => ?_, fun t ht => (by cases ht), fun t ht => (by cases ht)⟩
 · simp only [Pg.es0, nmI_mem] at hs
   split at hs
   · cases hs; exact gd_ce (by omega)
   · split at hs
     · cases hs; exact gd_wh (by omega)
     · cases hs
 · simp only [Pg.known, List.take_zero, List.map_nil, List.append_nil, List.map_append, List.mem_append] at hx
   simp only [Pg.es0, nmI_mem]
   split
   · rfl
   · rename_i h1
     rcases hx with hx | hx
     · rw [if_pos hx]; rfl
     · exact absurd hx h1
section
variable {p : Pg} {k : Nat} {e e1 : Es} {acc : List Td} {tr : Tr}
theorem Tp.call (h : Tp p k e acc) (hp : PgOk p) (hk : k < p.defs.length) : CallOk (1 + 2 * sizeD (p.defs.take k)) p.defs[k].t e := by
 have h1 := sizeD_take hk; have h2 := sizeD_le p.defs (k + 1); have h3 := hp.size; have h4 := h.hi
 exact ⟨⟨_, hp.defs k hk, fun x hx => h.dom x (by simpa using hx)⟩, h.inv, by omega, by omega, by omega⟩
theorem Tp.step (h : Tp p k e acc) (hp : PgOk p) (hk : k < p.defs.length) (he : p.defs[k].t.el e = some (e1, tr)) : Tp p (k + 1) (e1.put p.defs[k].name tr.s) (acc ++ [⟨p.defs[k].name, tr⟩]) := by
 have hc := h.call hp hk
 obtain ⟨d1, d2⟩ := hc.inv' he
 have h1 := sizeD_take hk; have h4 := h.hi; have h5 := d1.hi
 have hM : 1 + 2 * sizeD (p.defs.take (k + 1)) = 1 + 2 * sizeD (p.defs.take k) + 2 * p.defs[k].t.size := by omega
 refine ⟨?_, by simp [h.len], ?_, by simp only [Es.put]; omega, fun x hx => ?_, fun t ht => ?_, fun t ht => ?_⟩
 · rw [← h.rest, List.drop_eq_getElem_cons hk, elD, he]
 · rw [hM]; exact d1.inv.put d2.s
 · simp only [Es.put]
   split
   · rfl
   · rename_i hne
     refine d1.dom x (h.dom x ?_)
     simp only [Pg.known, List.take_succ_eq_append_getElem hk, List.map_append, List.mem_append, List.map_cons, List.map_nil, List.mem_singleton] at hx ⊢
     rcases hx with hx | hx | hx
     · exact .inl hx
     · exact .inr hx
     · exact absurd hx hne
 · rw [hM]
   rcases List.mem_append.1 ht with ht | ht
   · exact szs_mono (by omega) _ (h.szs t ht)
   · simp at ht; subst ht; exact d2.szs
 · rcases List.mem_append.1 ht with ht | ht
   · exact h.tsz t ht
   · simp at ht; subst ht
     have := el_size he; have := hp.size; have := sizeD_le p.defs (k + 1); simp only []; omega
theorem Tp.no (h : Tp p k e acc) (hk : k < p.defs.length) (he : p.defs[k].t.el e = none) : elabT p = none := by
 have hr := h.rest
 rw [List.drop_eq_getElem_cons hk, elD, he] at hr
 unfold elabT
 rw [← hr]; rfl
theorem Tp.all (h : Tp p p.defs.length e acc) : elD p.es0 p.defs [] = some (e, acc) := by
 rw [← h.rest, List.drop_length]; rfl
theorem Tp.body (h : Tp p p.defs.length e acc) (hp : PgOk p) : CallOk (1 + 2 * sizeD p.defs) p.body e := by
 have h3 := hp.size; have h4 := h.hi; have h5 := h.inv
 rw [List.take_length] at h4 h5
 exact ⟨⟨_, hp.body, fun x hx => h.dom x (by simpa using hx)⟩, h5, by omega, by omega, by omega⟩
theorem Tp.elb (h : Tp p p.defs.length e acc) : elabT p = (p.body.el e).bind fun r => (r.1.same r.2.s wh).bind fun e => (doneD e.sub acc).bind fun ds => (r.2.done e.sub).map fun b => ⟨ds, b⟩ := by
 unfold elabT; rw [h.all]; rfl
end
theorem body_ok {p : Pg} {e e1 : Es} {acc : List Td} {tr : Tr} (h : Tp p p.defs.length e acc) (hp : PgOk p) (he : p.body.el e = some (e1, tr)) :
   UArg e1.sub tr.s wh ∧ ∀ l, e1.same tr.s wh = some ⟨l, e1.nx, e1.nm⟩ → Ord l ∧ Sml l ∧ tr.sm l ∧ ∀ t ∈ acc, t.t.sm l := by
 obtain ⟨d1, d2⟩ := (h.body hp).inv' he
 have h3 := hp.size; have h5 := d1.hi; have h4 := h.hi
 rw [List.take_length] at h4
 have hu : UArg e1.sub tr.s wh := uarg2 d1.inv.ok.ord d1.inv.ok.sml d2.s (gd_wh (by omega)) (by omega) (by omega)
 refine ⟨hu, fun l hl => ?_⟩
 obtain ⟨q1, q2⟩ := same_next (e2 := ⟨l, e1.nx, e1.nm⟩) d1.inv.ok.ord d1.inv.ok.sml hu hl
 refine ⟨q1, q2, szs_sm q1 (by omega) tr d2.szs, fun t ht => szs_sm q1 (M := 1 + 2 * sizeD p.defs) (by omega) _ ?_⟩
 have := h.szs t ht
 rwa [List.take_length] at this
theorem doneD_snoc (l : List Bd) : ∀ (ts : List Td) (t : Td), doneD l (ts ++ [t]) = (doneD l ts).bind fun ds => (t.t.done l).map fun t' => ds ++ [⟨t.name, t'⟩]
 | [], t => by simp only [List.nil_append, doneD]; cases t.t.done l <;> rfl
 | u :: ts, t => by
   simp only [List.cons_append, doneD, doneD_snoc l ts t]
   cases u.t.done l <;> simp
   cases doneD l ts <;> simp
   cases t.t.done l <;> simp
structure Td2 (l : List Bd) (acc : List Td) (k : Nat) (zs : List Td) : Prop where
 done : doneD l (acc.take k) = some (zs.take k)
 rest : zs.drop k = acc.drop k
 len : zs.length = acc.length
theorem Td2.start (l : List Bd) (acc : List Td) : Td2 l acc 0 acc := ⟨rfl, rfl, rfl⟩
theorem Td2.at_ {l : List Bd} {acc zs : List Td} {k : Nat} (h : Td2 l acc k zs) (hk : k < zs.length) (hk2 : k < acc.length) : zs[k] = acc[k] := by
 have := h.rest
 rw [List.drop_eq_getElem_cons hk, List.drop_eq_getElem_cons hk2] at this
 exact (List.cons.inj this).1
theorem Td2.step {l : List Bd} {acc zs : List Td} {k : Nat} {t : Tr} (h : Td2 l acc k zs) (hk : k < zs.length) (hk2 : k < acc.length) (he : acc[k].t.done l = some t) : Td2 l acc (k + 1) (zs.set k ⟨acc[k].name, t⟩) := by
 have hr := h.rest
 rw [List.drop_eq_getElem_cons hk, List.drop_eq_getElem_cons hk2] at hr
 refine ⟨?_, ?_, by simp [h.len]⟩
 · rw [List.take_succ_eq_append_getElem hk2, doneD_snoc, h.done, he, List.take_succ_eq_append_getElem (by simpa using hk)]
   simp [List.take_set_of_le]
 · rw [List.drop_set_of_lt (by omega)]; exact (List.cons.inj hr).2
theorem Td2.no {l : List Bd} {acc zs : List Td} {k : Nat} (h : Td2 l acc k zs) (hk2 : k < acc.length) (he : acc[k].t.done l = none) : doneD l acc = none := by
 have key : ∀ us vs : List Td, doneD l us = none → doneD l (us ++ vs) = none := by
   intro us vs hn
   induction us with
   | nil => simp [doneD] at hn
   | cons u us ih =>
     simp only [List.cons_append, doneD] at hn ⊢
     cases e : u.t.done l with
     | none => rfl
     | some v =>
       rw [e] at hn
       simp only [Option.bind_some, Option.map_eq_none_iff] at hn ⊢
       exact ih hn
 have h1 : doneD l (acc.take (k + 1)) = none := by rw [List.take_succ_eq_append_getElem hk2, doneD_snoc, h.done, he]; rfl
 have := key _ (acc.drop (k + 1)) h1
 rwa [List.take_append_drop] at this
theorem Td2.all {l : List Bd} {acc zs : List Td} (h : Td2 l acc acc.length zs) : doneD l acc = some zs := by
 have := h.done
 rwa [List.take_length, List.take_of_length_le (by rw [h.len]; exact Nat.le_refl _)] at this
end Go.Proofs.YthnhddjlgjecdaaGreatDoor
namespace Go.Proofs.YthnhddjlgjecdaaGreatDoor.X
open Go
section
variable {P : Program} {ops : Array Oper} {Q : Exit → Act → World → Prop} {γ : Gd P ops Q} {rest : List Oper} {o : Oper} {E w : World} {H : GH} {N : Nat} {D : List Deferred} {F : List (Nat × Value)} {L : List It} {a : Act}
variable {t u : TypeId} {x y : Operand} {d : Nat} {v : Value} {g off : Nat}
theorem S.rowg (k0 : Nat) {e sz n : Nat} {xs : List Value} (h : S E H N D F L a w) (hn : 0 < n) (hk : L[k0]? = some (.row v e sz n xs) := by rfl) : ∃ g c, v = .slice (some ⟨g, 0, none⟩) n c := by
 have hown : w.ownsRow 0 e sz v n xs := item_at h.st.sees hk
 rcases hown.2 with ⟨_, e0⟩ | ⟨g, cap, cur, rfl, _⟩
 · omega
 · exact ⟨g, cap, rfl⟩
theorem row_cur {e sz n c : Nat} {xs : List Value} {w : World} (h : w.ownsRow 0 e sz (.slice (some ⟨g, 0, none⟩) n c) n xs) : ∃ cur, w.heap[g]? = some (.cells cur e (0, 0)) ∧ n ≤ c ∧ c ≤ maxLen ∧ cur.size = c * sz ∧ cur.toList.take (n * sz) = xs := by
 rcases h.2 with ⟨e0, _⟩ | ⟨g', cap, cur, e0, _, hg, h1, h2, h3, h4⟩
 · cases e0
 · cases e0; exact ⟨cur, hg, h1, h2, h3, h4⟩
theorem ldRw (k0 : Nat) {e sz n c n' : Nat} {xs l : List Value} (ht : tyN P t n' = true) (hl : ∀ i u, l[i]? = some u → xs[off + i]? = some u) (hn : l.length = n') (h : S E H N D F L a w) (k : ∀ a w, S E H N D ((d, .agg l.toArray) :: F) L a w → (gl P ops Q).G rest a w)
   (ho : o.op = .load t x := by rfl) (hx : ev F x = some (.pointer (some ⟨g, off, none⟩)) := by rfl) (hk : L[k0]? = some (.row (.slice (some ⟨g, 0, none⟩) n c) e sz n xs) := by rfl)
   (hw : wn ops F o = some true := by rfl) (hd : o.dst = some d := by rfl) (hN : Nat.blt d N = true := by rfl) : (gl P ops Q).G (o :: rest) a w := by
 refine rdv h rfl trivial (fun w' hw' => ?_) k hw hd hN
 have e' : w' = w := hw'
 subst e'
 obtain ⟨cur, hg, h1, h2, h3, h4⟩ := row_cur (item_at h.st.sees hk)
 have := run_loadAtN (P := P) (w := w') (g := g) (off := off) (l := l) ht hn (fun j v hv => by
   have hx := hl j v hv
   rw [← h4, List.getElem?_take] at hx
   split at hx
   · rw [cell_own hg]; simpa using hx
   · cases hx)
 simp [execOp, ho, h.ag.ev hx, this]
theorem wr_toList : ∀ (l : List Value) (cs : Array Value) (o : Nat), o + l.length ≤ cs.size → (wr cs o l).toList = cs.toList.take o ++ l ++ cs.toList.drop (o + l.length)
 | [], cs, o, _ => by simp [wr]
 | v :: l, cs, o, h => by
   simp only [List.length_cons] at h
   rw [wr, wr_toList l _ _ (by simp; omega)]
   apply List.ext_getElem?
   intro i
   simp only [Array.toList_setIfInBounds, List.length_cons, List.getElem?_append, List.length_append, List.length_take, List.length_set, Array.length_toList, List.getElem?_take, List.getElem?_drop, List.getElem?_set]
   have h1 : min (o + 1) cs.size = o + 1 := by omega
   have h2 : min o cs.size = o := by omega
   simp only [h1, h2]
   by_cases c1 : i < o
   · simp only [show i < o + 1 + l.length by omega, show i < o + (l.length + 1) by omega, show i < o + 1 by omega, c1, if_true]
     rw [if_neg (by omega)]
   · by_cases c2 : i = o
     · subst c2
       simp only [show i < i + 1 + l.length by omega, show i < i + (l.length + 1) by omega, show i < i + 1 by omega, if_true, Nat.lt_irrefl, if_false, Nat.sub_self, List.getElem?_cons_zero]
       rw [if_pos (by omega)]
     · by_cases c3 : i < o + 1 + l.length
       · simp only [c3, show i < o + (l.length + 1) by omega, show ¬ i < o + 1 by omega, c1, if_true, if_false]
         rw [show i - o = (i - (o + 1)) + 1 by omega, List.getElem?_cons_succ]
       · simp only [c3, show ¬ i < o + (l.length + 1) by omega, if_false]
         rw [if_neg (by omega)]
         congr 1; omega
theorem stRw (k0 : Nat) {e sz n c n' : Nat} {xs : List Value} {vs : Array Value} {L' : List It} (ht : tyN P t n' = true) (hle : off + vs.size ≤ xs.length) (h : S E H N D F L a w) (k : ∀ a w, S E H N D F L' a w → γ.G rest a w)
   (ho : o.op = .store t x y := by rfl) (hx : ev F x = some (.pointer (some ⟨g, off, none⟩)) := by rfl) (hy : ev F y = some (.agg vs) := by rfl)
   (hk : L[k0]? = some (.row (.slice (some ⟨g, 0, none⟩) n c) e sz n xs) := by rfl) (hL : L.set k0 (.row (.slice (some ⟨g, 0, none⟩) n c) e sz n (xs.take off ++ vs.toList ++ xs.drop (off + vs.size))) = L' := by rfl) (hn : vs.size = n' := by rfl) (h1 : vs.toList.all (·.oneCell') = true := by rfl)
   (hw : wn ops F o = some true := by rfl) (hd : o.dst = none := by rfl) (hE : γ.isE rest.length = true := by rfl) (hS : γ.isN rest.length = true → ∀ w, St E H L' w → γ.S w := by first | exact fun e => Bool.noConfusion (show false = true from e) | exact fun _ _ hw => hw.sees' LE.rfl (by simp) | exact fun _ _ hw => hw.sees' (by assumption) (by simp)) : γ.G (o :: rest) a w := by
 subst hL
 have hown : w.ownsRow 0 e sz (.slice (some ⟨g, 0, none⟩) n c) n xs := item_at h.st.sees hk
 obtain ⟨cur, hg, q1, q2, q3, q4⟩ := row_cur hown
 obtain ⟨d', hu, hr, hi⟩ := und_ofN ht
 have hxl : xs.length = n * sz := hown.1
 have hcl : n * sz ≤ cur.size := by rw [q3]; exact Nat.mul_le_mul_right _ q1
 obtain ⟨w', hrun, r1, r2, r3, r4, r5⟩ := run_stores (P := P) (g := g) (off := off) (ty := e) vs.toList 0 cur w hg (by simp; omega) (fun v hv => List.all_eq_true.1 h1 v hv)
 have hst : St E H (L.set k0 (.row (.slice (some ⟨g, 0, none⟩) n c) e sz n (xs.take off ++ vs.toList ++ xs.drop (off + vs.size)))) w' := by
   refine h.st.set hk ?_ (fun x hx => .inl hx) r1 r2 r3 (fun b _ hb => ?_)
   · refine ⟨?_, .inr ⟨g, c, wr cur off vs.toList, rfl, Nat.zero_le _, by rw [r5]; simp, q1, q2, by rw [size_wr, q3], ?_⟩⟩
     · simp only [List.length_append, List.length_take, List.length_drop, Array.length_toList]; omega
     · rw [wr_toList _ _ _ (by simp; omega), ← q4]
       apply List.ext_getElem?
       intro i
       simp only [List.getElem?_take, List.getElem?_append, List.length_append, List.length_take, Array.length_toList, List.getElem?_drop]
       have e1 : min off cur.size = off := by omega
       have e2 : min off (min (n * sz) cur.size) = off := by omega
       simp only [e1, e2]
       by_cases c0 : i < n * sz
       · simp only [c0, if_true]
         by_cases c1 : i < off
         · simp only [c1, show i < off + vs.size by omega, if_true]
         · by_cases c2 : i < off + vs.size
           · simp only [c2, c1, if_true, if_false]
           · simp only [c2, if_false]; rw [if_pos (by omega)]
       · simp only [c0, if_false, show ¬ i < off + vs.size by omega]; rw [if_neg (by omega)]
   · rw [r5 b, if_neg (fun e => hb (by simp [It.own, Value.ownBlock, e]))]
 refine unit_ h hw hd hE hS (w' := w') ?_ hst k
 have hsz : (P.info? t).map (·.size) = some vs.size := by rw [hi, hn]
 cases hinfo : P.info? t with
 | none => rw [hinfo] at hsz; cases hsz
 | some i =>
   rw [hinfo] at hsz
   simp at hsz
   simp [execOp, ho, h.ag.ev hx, h.ag.ev hy, Instr.storeAt, Instr.sureAddr, storeVar, sizeOf, typeInfo, hinfo, hsz, Value.cells, hrun]
theorem stRw2 (k0 : Nat) {e sz n c n' : Nat} {xs : List Value} (xs' : List Value) {vs : Array Value} {L' : List It} (hx' : xs.take off ++ vs.toList ++ xs.drop (off + vs.size) = xs') (ht : tyN P t n' = true) (hle : off + vs.size ≤ xs.length) (h : S E H N D F L a w) (k : ∀ a w, S E H N D F L' a w → γ.G rest a w)
   (ho : o.op = .store t x y := by rfl) (hx : ev F x = some (.pointer (some ⟨g, off, none⟩)) := by rfl) (hy : ev F y = some (.agg vs) := by rfl)
   (hk : L[k0]? = some (.row (.slice (some ⟨g, 0, none⟩) n c) e sz n xs) := by rfl) (hL : L.set k0 (.row (.slice (some ⟨g, 0, none⟩) n c) e sz n xs') = L' := by rfl) (hn : vs.size = n' := by rfl) (h1 : vs.toList.all (·.oneCell') = true := by rfl)
   (hw : wn ops F o = some true := by rfl) (hd : o.dst = none := by rfl) (hE : γ.isE rest.length = true := by rfl) (hS : γ.isN rest.length = true → ∀ w, St E H L' w → γ.S w := by first | exact fun e => Bool.noConfusion (show false = true from e) | exact fun _ _ hw => hw.sees' LE.rfl (by simp) | exact fun _ _ hw => hw.sees' (by assumption) (by simp)) : γ.G (o :: rest) a w := by
 subst hx'
 exact stRw k0 ht hle h k ho hx hy hk hL hn h1 hw hd hE hS
end
section
variable {α : Type} {R : GH → List Value → α → Prop} {sz : Nat} {H : GH} {xs : List Value} {ys : List α}
theorem RowR.cut (h : RowR R sz H xs ys) {j : Nat} (hj : j < ys.length) : ∃ p cs q, xs = p ++ cs ++ q ∧ p.length = j * sz ∧ cs.length = sz ∧ R H cs ys[j] ∧ RowR R sz H p (ys.take j) ∧ RowR R sz H q (ys.drop (j + 1)) := by
 obtain ⟨css, l1, rfl, p1⟩ := h
 have hj' : j < css.length := by omega
 have hp : RowR R sz H (css.take j).flatten (ys.take j) := ⟨css.take j, by simp [l1], rfl, fun i cs y h1 h2 => by
   rw [List.getElem?_take] at h1 h2
   split at h1
   · rename_i hi; rw [if_pos hi] at h2; exact p1 i cs y h1 h2
   · cases h1⟩
 have hq : RowR R sz H (css.drop (j + 1)).flatten (ys.drop (j + 1)) := ⟨css.drop (j + 1), by simp [l1], rfl, fun i cs y h1 h2 => by
   rw [List.getElem?_drop] at h1 h2; exact p1 _ cs y h1 h2⟩
 have h0 := p1 j css[j] ys[j] (List.getElem?_eq_getElem hj') (List.getElem?_eq_getElem hj)
 refine ⟨_, css[j], _, ?_, ?_, h0.1, h0.2, hp, hq⟩
 · have e : css = css.take j ++ [css[j]] ++ css.drop (j + 1) := by
     rw [← List.take_succ_eq_append_getElem hj', List.take_append_drop]
   calc css.flatten = (css.take j ++ [css[j]] ++ css.drop (j + 1)).flatten := by rw [← e]
     _ = _ := by simp only [List.flatten_append, List.flatten_cons, List.flatten_nil, List.append_nil]
 · rw [hp.len, List.length_take, Nat.min_eq_left (by omega)]
theorem mid_at {p cs q : List Value} {o : Nat} (hp : p.length = o) : ∀ (i : Nat) (u : Value), cs[i]? = some u → (p ++ cs ++ q)[o + i]? = some u := fun i u h => by
 have hi := (List.getElem?_eq_some_iff.1 h).1
 rw [List.append_assoc, List.getElem?_append_right (by omega), List.getElem?_append_left (by omega), hp, Nat.add_sub_cancel_left, h]
theorem mid_put {p t q vs : List Value} {n : Value} {o m : Nat} (hp : p.length = o) (hv : vs.length = t.length) (hm : m = vs.length) : (p ++ (n :: t) ++ q).take (o + 1) ++ vs ++ (p ++ (n :: t) ++ q).drop (o + 1 + m) = p ++ (n :: vs) ++ q := by
 subst hp; subst hm
 have h1 : (p ++ (n :: t) ++ q).take (p.length + 1) = p ++ [n] := by
   rw [show p ++ (n :: t) ++ q = (p ++ [n]) ++ (t ++ q) by simp]; exact List.take_left' (by simp)
 have h2 : (p ++ (n :: t) ++ q).drop (p.length + 1 + vs.length) = q := List.drop_left' (by simp; omega)
 rw [h1, h2]; simp
theorem RowR.glue {p cs q : List Value} {y : α} {j : Nat} (hj : j < ys.length) (hp : RowR R sz H p (ys.take j)) (hl : cs.length = sz) (hr : R H cs y) (hq : RowR R sz H q (ys.drop (j + 1))) : RowR R sz H (p ++ cs ++ q) (ys.set j y) := by
 have := (hp.snoc hl hr).app hq
 rw [List.append_assoc (ys.take j), List.singleton_append] at this
 rwa [List.set_eq_take_append_cons_drop, if_pos hj]
end
end Go.Proofs.YthnhddjlgjecdaaGreatDoor.X
namespace Go.Proofs.YthnhddjlgjecdaaGreatDoor
open Go X
theorem program_ok (p : Pg) (gs gm : Nat) (v : Value) (E : World) (H : GH) (L : List It) (hp : PgOk p) (hli : p.inputs.length < 1000000000) (hlc : p.cells.length < 1000000000) (hlf : p.defs.length < 1000000000) (hv : VP H v p) :
   OkP Tryz.prog 44 #[.pointer (some ⟨gs, 0, none⟩), v] E H (.obj gs (.cells #[.slice none 0 0, .int .i64 0, .map (some gm)] 127 (0, 0)) :: .blk gm (IsMap encS (fun _ => none)) :: L) (.iface 121 (.agg #[])) (elabT p = none) L fun r H' L' => ∃ (ty : Ty) (i j : It), elabT p = some ty ∧ VTy H' r ty ∧ L' = i :: j :: L := by
 obtain ⟨Ap0, cp0, Ap1, cp1, Ap2, cp2, Ap3, cp3, rfl, hp0, hp1, hp2, hp3⟩ := hv
 refine enterP (N := 110) [(0, _), (1, _)] Tryz.func44 rfl rfl rfl rfl fun a w h => ?_
 refine au [1,2] h ?_
 refine bxA h fun g3 a w h => ?_
 refine al zr59 h fun g4 a w h => ?_
 refine au [0,3,0,4,1,2,0,7,2,8,6,0,0,0,0,3,1,5] h ?_; intro a w h
 obtain ⟨Hg3, leHg3, h, hfg3⟩ := h.frz 1
 refine lp (β := Nat × GH × (Bs → Option Value)) (fun x a w => match x with | (k, HL0, fmk) => ((k ≤ p.inputs.length) ∧ (LE Hg3 HL0) ∧ (MapR HL0 fmk (nmI (p.inputs.take k) wh (fun _ => none)))) ∧ S E HL0 110 [] [(0, .pointer (some ⟨gs, 0, none⟩)), (3, .pointer (some ⟨g3, 0, none⟩)), (4, .pointer (some ⟨g4, 0, none⟩)), (16, .slice Ap0 p.inputs.length cp0), (17, .int .i64 (p.inputs.length : Int)), (18, .int .i64 (k : Int))] (.obj g4 (.cells #[.slice none 0 0, .int .i64 0, str [], .int .i64 0, .int .i64 0, .int .i64 0, .slice none 0 0, .int .i64 0, .int .i64 0, .slice none 0 0, .slice none 0 0] 59 (0, 0)) :: .obj gs (.cells #[.slice none 0 0, .int .i64 0, .map (some gm)] 127 (0, 0)) :: .blk gm (IsMap encS fmk) :: L) a w)
  (fun x => match x with | (k, HL0, fmk) => p.inputs.length - k) (0, Hg3, (fun _ => none)) ⟨⟨Nat.zero_le _, LE.rfl, mapR0⟩, h.to 0 _⟩ ?_
 rintro ⟨k, HL0, fmk⟩ a w ⟨⟨hk, leHL0, hi⟩, h⟩
 refine au [1,2,6,4,0,3,0,4] h ?_; intro a w h
 refine cdB h (fun c19 => ?_) (fun c19 => ?_)
 ·have d19 : k < p.inputs.length := cd_ c19
  refine au [1,8,1,0,0,4,1,5,1,2] h ?_
  have l_H_HL0 : LE H HL0 := leHg3.trans leHL0
  have hj20 : k < p.inputs.length := by first | assumption | omega | (simp; done) | (simp; omega)
  obtain ⟨g20, o20, e20, hv20, hc20⟩ := CS.get (CS.up hp0 l_H_HL0) hj20
  refine iaE sli22 sz82 rfl hj20 e20 h fun a w h => ?_
  refine ldHN tN82 rfl hc20 h fun a w h => ?_
  refine al zr82 h fun g6 a w h => ?_
  refine au [5,5,0,3] h ?_; intro a w h
  refine rgd [2, 0] [_, _] [1, 0] [3, 5] 1 mix (by kernel_rfl) h (fun a w h => ?_)
  refine au [0,0,7,2,0,7,4,2,0,7,4,3] h ?_; intro a w h
  refine cl bod87 (whole_ok E HL0 _) h (fun r28 H28 L28 a w le28 R h => ?_)
  obtain ⟨⟨A28_0, c28_0, rfl, hk28_0⟩, rfl⟩ := R
  have h := h.pull 3 rfl rfl
  refine mu 0 keyS mapSSh h fun a w h => ?_
  have h : S _ _ _ _ _ (.blk _ (IsMap encS (upd fmk p.inputs[k].name (some (.agg #[.int .i64 ((Sh.mk 1 0 []).kind), .int .i64 ((Sh.mk 1 0 []).n), .slice A28_0 ((Sh.mk 1 0 []).kids).length c28_0])))) :: _) _ _ := h
  have hmu := MapR.put (hi.mono le28) (⟨_, _, rfl, hk28_0⟩ : VSh H28 (.agg #[.int .i64 ((Sh.mk 1 0 []).kind), .int .i64 ((Sh.mk 1 0 []).n), .slice A28_0 ((Sh.mk 1 0 []).kids).length c28_0]) (Sh.mk 1 0 [])) p.inputs[k].name
  refine au [1,1,1,7,1,0,0,5] h ?_
  refine inc ?_ h fun a w h => ?_
  ·omega
  refine au [0,0,0,3] h ?_; intro a w h
  have h := h.del 1
  have h := h.pull 2 rfl rfl
  have h := h.pull 2 rfl rfl
  have l_Hg3_H28 : LE Hg3 H28 := leHL0.trans le28
  exact ⟨((k + 1), H28, (upd fmk p.inputs[k].name (some (.agg #[.int .i64 ((Sh.mk 1 0 []).kind), .int .i64 ((Sh.mk 1 0 []).n), .slice A28_0 ((Sh.mk 1 0 []).kids).length c28_0])))), ⟨⟨by omega, l_Hg3_H28, (by rw [nmI_succ d19]; exact hmu)⟩, h.to 0 _⟩, by show _ - (k + 1) < _ - k; omega⟩
 ·have d19 : p.inputs.length ≤ k := cd_ c19
  refine au [2,5,2,2,2,2,2,3,1,0,0,4,1,2,0,7] h ?_; intro a w h
  refine ldH t1_22 (Hc.of (leHL0 _ _ hfg3) rfl) h fun a w h => ?_
  refine au [6,0,0,0,0,3,1,5] h ?_; intro a w h
  have hke : k = p.inputs.length := by omega
  rw [hke, List.take_length] at hi
  refine lp (β := Nat × GH × (Bs → Option Value)) (fun x a w => match x with | (k2, HL2, fm2) => ((k2 ≤ p.cells.length) ∧ (LE HL0 HL2) ∧ (MapR HL2 fm2 (nmI (p.cells.take k2) ce (nmI p.inputs wh (fun _ => none))))) ∧ S E HL2 110 [] [(0, .pointer (some ⟨gs, 0, none⟩)), (3, .pointer (some ⟨g3, 0, none⟩)), (4, .pointer (some ⟨g4, 0, none⟩)), (16, .slice Ap0 p.inputs.length cp0), (17, .int .i64 (p.inputs.length : Int)), (18, .int .i64 (k : Int)), (19, .bool (decide (((k : Int) : Int) < (p.inputs.length : Int)))), (31, .slice Ap1 p.cells.length cp1), (32, .int .i64 (p.cells.length : Int)), (33, .int .i64 (k2 : Int))] (.obj g4 (.cells #[.slice none 0 0, .int .i64 0, str [], .int .i64 0, .int .i64 0, .int .i64 0, .slice none 0 0, .int .i64 0, .int .i64 0, .slice none 0 0, .slice none 0 0] 59 (0, 0)) :: .obj gs (.cells #[.slice none 0 0, .int .i64 0, .map (some gm)] 127 (0, 0)) :: .blk gm (IsMap encS fm2) :: L) a w)
   (fun x => match x with | (k2, HL2, fm2) => p.cells.length - k2) (0, HL0, fmk) ⟨⟨Nat.zero_le _, LE.rfl, hi⟩, h.to 0 _⟩ ?_
  rintro ⟨k2, HL2, fm2⟩ a w ⟨⟨hk, leHL2, hi⟩, h⟩
  refine au [1,2,6,4,0,3,0,4] h ?_; intro a w h
  refine cdB h (fun c34 => ?_) (fun c34 => ?_)
  ·have d34 : k2 < p.cells.length := cd_ c34
   refine au [1,8,1,0,0,4,1,5,1,2] h ?_
   have l_H_HL2 : LE H HL2 := (leHg3.trans leHL0).trans leHL2
   have hj35 : k2 < p.cells.length := by first | assumption | omega | (simp; done) | (simp; omega)
   obtain ⟨g35, o35, e35, hv35, hc35⟩ := CS.get (CS.up hp1 l_H_HL2) hj35
   refine iaE sli22 sz82 rfl hj35 e35 h fun a w h => ?_
   refine ldHN tN82 rfl hc35 h fun a w h => ?_
   refine al zr82 h fun g8 a w h => ?_
   refine au [5,5,0,3] h ?_; intro a w h
   refine rgd [2, 0] [_, _] [1, 0] [3, 5] 1 mix (by kernel_rfl) h (fun a w h => ?_)
   refine au [0,0,7,2,0,7,4,2,0,7,4,3] h ?_; intro a w h
   refine cl bod88 (cellS_ok E HL2 _) h (fun r43 H43 L43 a w le43 R h => ?_)
   obtain ⟨⟨A43_0, c43_0, rfl, hk43_0⟩, rfl⟩ := R
   have h := h.pull 3 rfl rfl
   refine mu 0 keyS mapSSh h fun a w h => ?_
   have h : S _ _ _ _ _ (.blk _ (IsMap encS (upd fm2 p.cells[k2].name (some (.agg #[.int .i64 ((Sh.mk 2 0 []).kind), .int .i64 ((Sh.mk 2 0 []).n), .slice A43_0 ((Sh.mk 2 0 []).kids).length c43_0])))) :: _) _ _ := h
   have hmu := MapR.put (hi.mono le43) (⟨_, _, rfl, hk43_0⟩ : VSh H43 (.agg #[.int .i64 ((Sh.mk 2 0 []).kind), .int .i64 ((Sh.mk 2 0 []).n), .slice A43_0 ((Sh.mk 2 0 []).kids).length c43_0]) (Sh.mk 2 0 [])) p.cells[k2].name
   refine au [1,1,1,7,1,0,0,5] h ?_
   refine inc ?_ h fun a w h => ?_
   ·omega
   refine au [0,0,0,3] h ?_; intro a w h
   have h := h.del 1
   have h := h.pull 2 rfl rfl
   have h := h.pull 2 rfl rfl
   have l_HL0_H43 : LE HL0 H43 := leHL2.trans le43
   exact ⟨((k2 + 1), H43, (upd fm2 p.cells[k2].name (some (.agg #[.int .i64 ((Sh.mk 2 0 []).kind), .int .i64 ((Sh.mk 2 0 []).n), .slice A43_0 ((Sh.mk 2 0 []).kids).length c43_0])))), ⟨⟨by omega, l_HL0_H43, (by rw [nmI_succ d34]; exact hmu)⟩, h.to 0 _⟩, by show _ - (k2 + 1) < _ - k2; omega⟩
  ·have d34 : p.cells.length ≤ k2 := cd_ c34
   refine au [2,5,2,2,2,2,2,3,1,0,1,2] h ?_
   refine al zr59 h fun g9 a w h => ?_
   refine au [0,3,0,4,1,2,0,7] h ?_; intro a w h
   have l_Hg3_HL2 : LE Hg3 HL2 := leHL0.trans leHL2
   refine ldH t1_23 (Hc.of (l_Hg3_HL2 _ _ hfg3) rfl) h fun a w h => ?_
   refine au [6,0,0,0,0,3,1,5] h ?_; intro a w h
   have hke2 : k2 = p.cells.length := by omega
   rw [hke2, List.take_length] at hi
   have h := h.row (e := 74) (sz := 11)
   refine lp (β := Nat × GH × (Option Addr) × Nat × (List Value) × Es × (List Td) × (Bs → Option Value) × (Option Addr) × Nat) (fun x a w => match x with | (k3, HL4, Brd, prd, xrd, ek, acc, fm3, Ak, ck) => ((k3 ≤ p.defs.length) ∧ (LE HL2 HL4) ∧ (RowR RTd 11 HL4 xrd acc) ∧ ((Tp p k3 ek acc ∧ MapR HL4 fm3 ek.nm ∧ BdS HL4 Ak ck ek.sub))) ∧ S E HL4 110 [] [(0, .pointer (some ⟨gs, 0, none⟩)), (3, .pointer (some ⟨g3, 0, none⟩)), (4, .pointer (some ⟨g4, 0, none⟩)), (9, .pointer (some ⟨g9, 0, none⟩)), (16, .slice Ap0 p.inputs.length cp0), (17, .int .i64 (p.inputs.length : Int)), (18, .int .i64 (k : Int)), (19, .bool (decide (((k : Int) : Int) < (p.inputs.length : Int)))), (31, .slice Ap1 p.cells.length cp1), (32, .int .i64 (p.cells.length : Int)), (33, .int .i64 (k2 : Int)), (34, .bool (decide (((k2 : Int) : Int) < (p.cells.length : Int)))), (46, .slice Ap2 p.defs.length cp2), (47, .int .i64 (p.defs.length : Int)), (48, .int .i64 (k3 : Int))] (.row (.slice Brd acc.length prd) 74 11 acc.length xrd :: .obj g9 (.cells #[.slice Brd acc.length prd, .int .i64 0, str [], .int .i64 0, .int .i64 0, .int .i64 0, .slice none 0 0, .int .i64 0, .int .i64 0, .slice none 0 0, .slice none 0 0] 59 (0, 0)) :: .obj g4 (.cells #[.slice none 0 0, .int .i64 0, str [], .int .i64 0, .int .i64 0, .int .i64 0, .slice none 0 0, .int .i64 0, .int .i64 0, .slice none 0 0, .slice none 0 0] 59 (0, 0)) :: .obj gs (.cells #[.slice Ak ek.sub.length ck, .int .i64 (ek.nx : Int), .map (some gm)] 127 (0, 0)) :: .blk gm (IsMap encS fm3) :: L) a w)
    (fun x => match x with | (k3, HL4, Brd, prd, xrd, ek, acc, fm3, Ak, ck) => p.defs.length - k3) (0, HL2, none, 0, [], p.es0, ([] : List Td), fm2, none, 0) ⟨⟨Nat.zero_le _, LE.rfl, (RowR.nil : RowR RTd 11 HL2 [] ([] : List Td)), ⟨Tp.start p, hi, RS.nil _ _ _⟩⟩, (by show S _ _ _ _ _ _ _ _; rw [show (.slice none p.es0.sub.length 0 : Value) = .slice none 0 0 from Eq.symm (by first | rfl | (simp; done) | (simp; omega) | (congr 1; simp; omega) | (congr 1; omega)), show (.int .i64 (p.es0.nx : Int) : Value) = .int .i64 0 from Eq.symm (by first | rfl | (simp; done) | (simp; omega) | (congr 1; simp; omega) | (congr 1; omega))]; exact h.to 0 _)⟩ ?_
   rintro ⟨k3, HL4, Brd, prd, xrd, ek, acc, fm3, Ak, ck⟩ a w ⟨⟨hk, leHL4, hrrd, hi⟩, h⟩
   obtain ⟨htp, hmk, hbk⟩ := hi
   refine au [1,2,6,4,0,3,0,4] h ?_; intro a w h
   refine cdB h (fun c49 => ?_) (fun c49 => ?_)
   ·have d49 : k3 < p.defs.length := cd_ c49
    refine au [1,8,1,0,0,4,1,5,1,2] h ?_
    have l_H_HL4 : LE H HL4 := ((leHg3.trans leHL0).trans leHL2).trans leHL4
    have hj50 : k3 < p.defs.length := by first | assumption | omega | (simp; done) | (simp; omega)
    obtain ⟨g50, o50, A50_0, c50_0, e50, hv50, hc50⟩ := FS.get (FS.up hp2 l_H_HL4) hj50
    obtain ⟨_, _, q50, hk50_0⟩ := hv50; cases q50
    refine iaE sli23 sz93 rfl hj50 e50 h fun a w h => ?_
    refine ldHN tN93 rfl hc50 h fun a w h => ?_
    refine al zr93 h fun g11 a w h => ?_
    refine au [5,5,0,3,0,4] h ?_; intro a w h
    refine rgx [0] [_] [1, 4] 9 mix h (fun a w h => ?_)
    refine au [8,0,0,7,2,6,8,1,3,8,2,6,8,2,0,0,2,6,8,3,0,7,2,6,8,4] h ?_; intro a w h
    refine ldNT (l := [_, _, _, _]) 0 tN26 h fun a w h => ?_
    refine tk0 ?_
    refine bg2 5 7 true true h ?_ ?_
    ·have h := h.pull 5 rfl rfl
     have h := h.pull 5 rfl rfl
     refine clP bod89 (tree_ok p.defs[k3].t _ ek Ak ck gs gm fm3 (.agg #[.int .i64 p.defs[k3].t.kind, str p.defs[k3].t.name, .int .i64 p.defs[k3].t.n, .slice A50_0 p.defs[k3].t.kids.length c50_0]) E HL4 _ (htp.call hp d49) hmk hbk ⟨A50_0, c50_0, rfl, hk50_0⟩) h (fun Hp a w hpn lep h => by (repeat (first | refine thP ?_ | refine ibP ?_)); exact pfin h (htp.no d49 hpn) (LE.trans l_H_HL4 lep) (by repeat (first | exact List.Sublist.refl _ | apply List.Sublist.cons))) (fun r57 H57 L57 a w le57 R h => ?_) (hS := fun _ _ _ _ _ le R hw => by obtain ⟨_, _, _, _, _, _, _, _, _, rfl⟩ := R; exact hw.sees' (by first | exact le | exact LE.trans (by assumption) le) (by simp))
     obtain ⟨e57, t57, B57, p57, fm57, hel57, ⟨A57_0, c57_0, A57_1, c57_1, A57_2, c57_2, rfl, hk57_0, hk57_1, hk57_2⟩, hm57, hb57, rfl⟩ := R
     refine au [2,7,8,6,7,5,2,6] h ?_; intro a w h
     refine bg1 7 true h ?_
     refine al zr74 h fun g12 a w h => ?_
     refine br0 ?_
     refine bf1 8 ?_
     refine au [5,5,2,7] h ?_; intro a w h
     refine en (by kernel_rfl) ?_
     refine au [1,0,0,4] h ?_
     refine rgd [1, 3, 0] [_, _, _] [0] [3, 5, 8] 1 mix (by kernel_rfl) h (fun a w h => ?_)
     refine au [0,0,7,2,0,7,4,2,0,7,4,3,0,7,0,7] h ?_; intro a w h
     refine ldND (l := [_, _, _]) 2 tN31 h fun a w h => ?_
     have h := h.pull 2 rfl rfl
     refine mu 0 keyS mapSSh h fun a w h => ?_
     have h : S _ _ _ _ _ (.blk _ (IsMap encS (upd fm57 p.defs[k3].name (some (.agg #[.int .i64 t57.s.kind, .int .i64 t57.s.n, .slice A57_0 t57.s.kids.length c57_0])))) :: _) _ _ := h
     have hmu := MapR.put hm57 (⟨_, _, rfl, hk57_0⟩ : VSh H57 (.agg #[.int .i64 t57.s.kind, .int .i64 t57.s.n, .slice A57_0 t57.s.kids.length c57_0]) t57.s) p.defs[k3].name
     refine au [0,3,0,5,0,7] h ?_; intro a w h
     refine ld 5 t1_57 h fun a w h => ?_
     refine ldW 1 tN74 h fun a w h => ?_
     refine bsl bs57 h fun g71 a w h => ?_
     refine apn (n := acc.length) (m := 1) 5 0 (L' := fun i => _ :: _ :: _ :: _ :: _ :: i :: _) [_, _, _, _, _, _, _, _, _, _, _] ((acc ++ [(Td.mk p.defs[k3].name t57)]).length) (by first | (simp; done) | (simp; omega)) row57 h (by first | omega | (simp; done) | (simp; omega) | (have := htp.len; simp; omega)) (by first | omega | (simp; done) | (simp; omega) | (have := htp.len; simp; omega)) fun v72 a w hone72 h => ?_
     obtain ⟨B72, cp72, rfl⟩ := h.rowv 5
     have hr72 : RowR RTd 11 H57 (xrd ++ [str p.defs[k3].name, .int .i64 t57.kind, str t57.name, .int .i64 t57.n, .int .i64 t57.s.kind, .int .i64 t57.s.n, .slice A57_0 t57.s.kids.length c57_0, .int .i64 t57.b.kind, .int .i64 t57.b.n, .slice A57_1 t57.b.kids.length c57_1, .slice A57_2 t57.kids.length c57_2]) (acc ++ [(Td.mk p.defs[k3].name t57)]) := (hrrd.mono fun cs y _ hr => RTd.mono le57 y hr).snoc rfl (rtd_of_v (cs := [_, _, _, _, _, _, _, _, _, _, _]) ⟨_, _, _, _, _, _, rfl, hk57_0, hk57_1, hk57_2⟩)
     refine fa fl59_0 (r := 0) h fun a w h => ?_
     refine st6 (l := [_, _, _, _, _, _, _, _, _, _, _]) t1_57 h fun a w h => ?_
     refine au [1,1,1,7,1,0,0,5] h ?_
     refine inc ?_ h fun a w h => ?_
     ·omega
     refine au [0,0,0,3] h ?_; intro a w h
     have h := h.del 0
     have h := h.del 1
     have h := h.del 2
     have h := h.pull 1 rfl rfl
     have h := h.pull 4 rfl rfl
     have h := h.pull 4 rfl rfl
     have h := h.pull 4 rfl rfl
     have l_HL2_H57 : LE HL2 H57 := leHL4.trans le57
     exact ⟨((k3 + 1), H57, B72, cp72, _, (e57.put p.defs[k3].name t57.s), (acc ++ [(Td.mk p.defs[k3].name t57)]), (upd fm57 p.defs[k3].name (some (.agg #[.int .i64 t57.s.kind, .int .i64 t57.s.n, .slice A57_0 t57.s.kids.length c57_0]))), B57, p57), ⟨⟨by omega, l_HL2_H57, hr72, ⟨htp.step hp d49 hel57, hmu, hb57⟩⟩, (by show S _ _ _ _ _ _ _ _; rw [show (.slice B57 (e57.put p.defs[k3].name t57.s).sub.length p57 : Value) = .slice B57 e57.sub.length p57 from Eq.symm (by first | rfl | (simp; done) | (simp; omega) | (congr 1; simp; omega) | (congr 1; omega)), show (.int .i64 ((e57.put p.defs[k3].name t57.s).nx : Int) : Value) = .int .i64 (e57.nx : Int) from Eq.symm (by first | rfl | (simp; done) | (simp; omega) | (congr 1; simp; omega) | (congr 1; omega))]; exact h.to 0 _)⟩, by show _ - (k3 + 1) < _ - k3; omega⟩
    ·refine al zr74 h fun g12 a w h => ?_
     refine br0 ?_
     refine bg1 5 true h ?_
     have h := h.pull 6 rfl rfl
     have h := h.pull 6 rfl rfl
     refine clP bod89 (tree_ok p.defs[k3].t _ ek Ak ck gs gm fm3 (.agg #[.int .i64 p.defs[k3].t.kind, str p.defs[k3].t.name, .int .i64 p.defs[k3].t.n, .slice A50_0 p.defs[k3].t.kids.length c50_0]) E HL4 _ (htp.call hp d49) hmk hbk ⟨A50_0, c50_0, rfl, hk50_0⟩) h (fun Hp a w hpn lep h => by (repeat (first | refine thP ?_ | refine ibP ?_)); exact pfin h (htp.no d49 hpn) (LE.trans l_H_HL4 lep) (by repeat (first | exact List.Sublist.refl _ | apply List.Sublist.cons))) (fun r57 H57 L57 a w le57 R h => ?_) (hS := fun _ _ _ _ _ le R hw => by obtain ⟨_, _, _, _, _, _, _, _, _, rfl⟩ := R; exact hw.sees' (by first | exact le | exact LE.trans (by assumption) le) (by simp))
     obtain ⟨e57, t57, B57, p57, fm57, hel57, ⟨A57_0, c57_0, A57_1, c57_1, A57_2, c57_2, rfl, hk57_0, hk57_1, hk57_2⟩, hm57, hb57, rfl⟩ := R
     refine au [2,7,8,6,7,5,2,6] h ?_; intro a w h
     refine bf1 8 ?_
     refine au [5,7,2,7] h ?_; intro a w h
     refine en (by kernel_rfl) ?_
     refine au [1,0,0,4] h ?_
     refine rgd [0, 3, 2] [_, _, _] [0] [3, 5, 8] 1 mix (by kernel_rfl) h (fun a w h => ?_)
     refine au [0,0,7,2,0,7,4,2,0,7,4,3,0,7,0,7] h ?_; intro a w h
     refine ldND (l := [_, _, _]) 2 tN31 h fun a w h => ?_
     have h := h.pull 1 rfl rfl
     refine mu 0 keyS mapSSh h fun a w h => ?_
     have h : S _ _ _ _ _ (.blk _ (IsMap encS (upd fm57 p.defs[k3].name (some (.agg #[.int .i64 t57.s.kind, .int .i64 t57.s.n, .slice A57_0 t57.s.kids.length c57_0])))) :: _) _ _ := h
     have hmu := MapR.put hm57 (⟨_, _, rfl, hk57_0⟩ : VSh H57 (.agg #[.int .i64 t57.s.kind, .int .i64 t57.s.n, .slice A57_0 t57.s.kids.length c57_0]) t57.s) p.defs[k3].name
     refine au [0,3,0,5,0,7] h ?_; intro a w h
     refine ld 5 t1_57 h fun a w h => ?_
     refine ldW 2 tN74 h fun a w h => ?_
     refine bsl bs57 h fun g71 a w h => ?_
     refine apn (n := acc.length) (m := 1) 5 0 (L' := fun i => _ :: _ :: _ :: _ :: _ :: i :: _) [_, _, _, _, _, _, _, _, _, _, _] ((acc ++ [(Td.mk p.defs[k3].name t57)]).length) (by first | (simp; done) | (simp; omega)) row57 h (by first | omega | (simp; done) | (simp; omega) | (have := htp.len; simp; omega)) (by first | omega | (simp; done) | (simp; omega) | (have := htp.len; simp; omega)) fun v72 a w hone72 h => ?_
     obtain ⟨B72, cp72, rfl⟩ := h.rowv 5
     have hr72 : RowR RTd 11 H57 (xrd ++ [str p.defs[k3].name, .int .i64 t57.kind, str t57.name, .int .i64 t57.n, .int .i64 t57.s.kind, .int .i64 t57.s.n, .slice A57_0 t57.s.kids.length c57_0, .int .i64 t57.b.kind, .int .i64 t57.b.n, .slice A57_1 t57.b.kids.length c57_1, .slice A57_2 t57.kids.length c57_2]) (acc ++ [(Td.mk p.defs[k3].name t57)]) := (hrrd.mono fun cs y _ hr => RTd.mono le57 y hr).snoc rfl (rtd_of_v (cs := [_, _, _, _, _, _, _, _, _, _, _]) ⟨_, _, _, _, _, _, rfl, hk57_0, hk57_1, hk57_2⟩)
     refine fa fl59_0 (r := 0) h fun a w h => ?_
     refine st6 (l := [_, _, _, _, _, _, _, _, _, _, _]) t1_57 h fun a w h => ?_
     refine au [1,1,1,7,1,0,0,5] h ?_
     refine inc ?_ h fun a w h => ?_
     ·omega
     refine au [0,0,0,3] h ?_; intro a w h
     have h := h.del 0
     have h := h.del 2
     have h := h.del 2
     have h := h.pull 1 rfl rfl
     have h := h.pull 4 rfl rfl
     have h := h.pull 4 rfl rfl
     have h := h.pull 4 rfl rfl
     have l_HL2_H57 : LE HL2 H57 := leHL4.trans le57
     exact ⟨((k3 + 1), H57, B72, cp72, _, (e57.put p.defs[k3].name t57.s), (acc ++ [(Td.mk p.defs[k3].name t57)]), (upd fm57 p.defs[k3].name (some (.agg #[.int .i64 t57.s.kind, .int .i64 t57.s.n, .slice A57_0 t57.s.kids.length c57_0]))), B57, p57), ⟨⟨by omega, l_HL2_H57, hr72, ⟨htp.step hp d49 hel57, hmu, hb57⟩⟩, (by show S _ _ _ _ _ _ _ _; rw [show (.slice B57 (e57.put p.defs[k3].name t57.s).sub.length p57 : Value) = .slice B57 e57.sub.length p57 from Eq.symm (by first | rfl | (simp; done) | (simp; omega) | (congr 1; simp; omega) | (congr 1; omega)), show (.int .i64 ((e57.put p.defs[k3].name t57.s).nx : Int) : Value) = .int .i64 (e57.nx : Int) from Eq.symm (by first | rfl | (simp; done) | (simp; omega) | (congr 1; simp; omega) | (congr 1; omega))]; exact h.to 0 _)⟩, by show _ - (k3 + 1) < _ - k3; omega⟩
   ·have d49 : p.defs.length ≤ k3 := cd_ c49
    refine au [2,5,2,2,2,2,2,3,1,0,0,4] h ?_
    have hke : k3 = p.defs.length := by omega
    rw [hke] at htp
    refine au [0,5,0,0,0,7] h ?_; intro a w h
    have l_Hg3_HL4 : LE Hg3 HL4 := (leHL0.trans leHL2).trans leHL4
    refine ldHN (l := [_, _, _, _]) tN26 rfl (Hc.sub 3 4 (l_Hg3_HL4 _ _ hfg3)) h fun a w h => ?_
    have h := h.pull 4 rfl rfl
    have h := h.pull 4 rfl rfl
    have l_H_HL4 : LE H HL4 := ((leHg3.trans leHL0).trans leHL2).trans leHL4
    refine clP bod89 (tree_ok p.body _ ek Ak ck gs gm fm3 (.agg #[.int .i64 p.body.kind, str p.body.name, .int .i64 p.body.n, .slice Ap3 p.body.kids.length cp3]) E HL4 _ (htp.body hp) hmk hbk ⟨Ap3, cp3, rfl, (KS.up hp3 l_H_HL4)⟩) h (fun Hp a w hpn lep h => by (repeat (first | refine thP ?_ | refine ibP ?_)); exact pfin h (htp.elb.trans (congrArg (fun o => Option.bind o _) hpn)) (LE.trans l_H_HL4 lep) (by repeat (first | exact List.Sublist.refl _ | apply List.Sublist.cons))) (fun r78 H78 L78 a w le78 R h => ?_)
    obtain ⟨e78, t78, B78, p78, fm78, hel78, ⟨A78_0, c78_0, A78_1, c78_1, A78_2, c78_2, rfl, hk78_0, hk78_1, hk78_2⟩, hm78, hb78, rfl⟩ := R
    refine fa fl59_1 (r := 1) h fun a w h => ?_
    refine stp (l := [_, _, _, _, _, _, _, _, _, _, _]) 3 tN34 h fun a w h => ?_
    refine au [0,3,0,4] h ?_
    obtain ⟨hua, hnext⟩ := body_ok htp hp hel78
    refine rgd [3] [_] [1, 0] [3] 1 mix (by kernel_rfl) h (fun a w h => ?_)
    refine au [0,0,0,7,0,7] h ?_; intro a w h
    refine ldND (l := [_, _, _]) 0 tN31 h fun a w h => ?_
    refine cl bod87 (whole_ok E H78 _) h (fun r84 H84 L84 a w le84 R h => ?_)
    obtain ⟨⟨A84_0, c84_0, rfl, hk84_0⟩, rfl⟩ := R
    have l_H_H84 : LE H H84 := ((((leHg3.trans leHL0).trans leHL2).trans leHL4).trans le78).trans le84
    refine clP bod90 (same_ok e78 B78 p78 gs gm t78.s wh _ _ E H84 _ hua (BdS.up hb78 le84) ⟨A78_0, c78_0, rfl, (HS.up hk78_0 le84)⟩ ⟨A84_0, c84_0, rfl, hk84_0⟩) h (fun Hp a w hpn lep h => by (repeat (first | refine thP ?_ | refine ibP ?_)); exact pfin h (htp.elb.trans ((congrArg (fun o => Option.bind o _) hel78).trans (congrArg (fun o => Option.bind o _) hpn))) (LE.trans l_H_H84 lep) (by repeat (first | exact List.Sublist.refl _ | apply List.Sublist.cons))) (fun r85 H85 L85 a w le85 R h => ?_) (hS := fun _ _ _ _ _ le R hw => by obtain ⟨_, _, _, _, _, _, _, rfl⟩ := R; exact hw.sees' (by first | exact le | exact LE.trans (by assumption) le) (by simp))
    obtain ⟨l85, B85, p85, hs, hu85, rfl, hb85, rfl⟩ := R
    refine au [0,3,0,4,0,4] h ?_
    have hal := htp.len
    obtain ⟨ho, hsm, hsmb, hsmd⟩ := hnext _ hs
    have hbz := hp.size
    refine au [0,5,0,7,3,1,6,0,0,0,0,3,1,5] h ?_; intro a w h
    have l_HL4_H85 : LE HL4 H85 := (le78.trans le84).trans le85
    refine lp (β := Nat × GH × (Option Addr) × Nat × (List Value) × (List Td)) (fun x a w => match x with | (k4, HL6, Brd, prd, xrd, zs) => ((k4 ≤ acc.length) ∧ (LE H85 HL6) ∧ (RowR RTd 11 HL6 xrd zs) ∧ (Td2 l85 acc k4 zs)) ∧ S E HL6 110 [] [(0, .pointer (some ⟨gs, 0, none⟩)), (3, .pointer (some ⟨g3, 0, none⟩)), (4, .pointer (some ⟨g4, 0, none⟩)), (9, .pointer (some ⟨g9, 0, none⟩)), (16, .slice Ap0 p.inputs.length cp0), (17, .int .i64 (p.inputs.length : Int)), (18, .int .i64 (k : Int)), (19, .bool (decide (((k : Int) : Int) < (p.inputs.length : Int)))), (31, .slice Ap1 p.cells.length cp1), (32, .int .i64 (p.cells.length : Int)), (33, .int .i64 (k2 : Int)), (34, .bool (decide (((k2 : Int) : Int) < (p.cells.length : Int)))), (46, .slice Ap2 p.defs.length cp2), (47, .int .i64 (p.defs.length : Int)), (48, .int .i64 (k3 : Int)), (49, .bool (decide (((k3 : Int) : Int) < (p.defs.length : Int)))), (87, .slice Brd acc.length prd), (88, .int .i64 (acc.length : Int)), (89, .int .i64 (k4 : Int))] (.obj gs (.cells #[.slice B85 l85.length p85, .int .i64 (e78.nx : Int), .map (some gm)] 127 (0, 0)) :: .blk gm (IsMap encS fm78) :: .row (.slice Brd acc.length prd) 74 11 acc.length xrd :: .obj g9 (.cells #[.slice Brd acc.length prd, .int .i64 t78.kind, str t78.name, .int .i64 t78.n, .int .i64 t78.s.kind, .int .i64 t78.s.n, .slice A78_0 t78.s.kids.length c78_0, .int .i64 t78.b.kind, .int .i64 t78.b.n, .slice A78_1 t78.b.kids.length c78_1, .slice A78_2 t78.kids.length c78_2] 59 (0, 0)) :: .obj g4 (.cells #[.slice none 0 0, .int .i64 0, str [], .int .i64 0, .int .i64 0, .int .i64 0, .slice none 0 0, .int .i64 0, .int .i64 0, .slice none 0 0, .slice none 0 0] 59 (0, 0)) :: L) a w)
     (fun x => match x with | (k4, HL6, Brd, prd, xrd, zs) => acc.length - k4) (0, H85, Brd, prd, xrd, acc) ⟨⟨Nat.zero_le _, LE.rfl, (hrrd.mono fun cs y _ hr => RTd.mono l_HL4_H85 y hr), Td2.start _ _⟩, h.to 0 _⟩ ?_
    rintro ⟨k4, HL6, Brd, prd, xrd, zs⟩ a w ⟨⟨hk, leHL6, hrrd, hi⟩, h⟩
    have htd := hi
    refine au [1,2,6,4,0,3,0,4] h ?_; intro a w h
    refine cdB h (fun c90 => ?_) (fun c90 => ?_)
    ·have d90 : k4 < acc.length := cd_ c90
     refine au [1,8,1,0,0,4,1,5,1,2,0,0] h ?_; intro a w h
     have hz : k4 < zs.length := by rw [htd.len]; omega
     have hz2 : k4 < acc.length := by omega
     obtain ⟨gr, cr, er⟩ := h.rowg (n := acc.length) 2 (by omega)
     injection er with er1 er2 er3
     subst er1
     refine iaE sli57 sz74 rfl hz2 rfl h fun a w h => ?_
     obtain ⟨pc, cc, qc, hcut, hpl, hcl, hcr, hpr, hqr⟩ := (hrrd).cut hz
     subst hcut
     rw [htd.at_ hz hz2] at hcr
     obtain ⟨Az0, cz0, Az1, cz1, Az2, cz2, rfl, hz0, hz1, hzk⟩ := hcr
     refine ldRw 2 (l := [str acc[k4].name, .int .i64 acc[k4].t.kind, str acc[k4].t.name, .int .i64 acc[k4].t.n, .int .i64 acc[k4].t.s.kind, .int .i64 acc[k4].t.s.n, .slice Az0 acc[k4].t.s.kids.length cz0, .int .i64 acc[k4].t.b.kind, .int .i64 acc[k4].t.b.n, .slice Az1 acc[k4].t.b.kids.length cz1, .slice Az2 acc[k4].t.kids.length cz2]) tN74 (mid_at (p := pc) (cs := [str acc[k4].name, .int .i64 acc[k4].t.kind, str acc[k4].t.name, .int .i64 acc[k4].t.n, .int .i64 acc[k4].t.s.kind, .int .i64 acc[k4].t.s.n, .slice Az0 acc[k4].t.s.kids.length cz0, .int .i64 acc[k4].t.b.kind, .int .i64 acc[k4].t.b.n, .slice Az1 acc[k4].t.b.kids.length cz1, .slice Az2 acc[k4].t.kids.length cz2]) (q := qc) (o := 0 + k4 * 11) (by omega)) rfl h fun a w h => ?_
     refine al zr74 h fun g14 a w h => ?_
     refine au [0,6,5,5,0,3] h ?_; intro a w h
     refine rgd [4, 0] [_, _] [3, 0] [1, 5] 3 mix (by kernel_rfl) h (fun a w h => ?_)
     refine au [0,7,4,2,0,0,0,0,0,7] h ?_; intro a w h
     refine ldND (l := [_, _, _, _, _, _, _, _, _, _]) 1 tN34 h fun a w h => ?_
     have h := h.pull 1 rfl rfl
     have l_H_HL6 : LE H HL6 := ((((((leHg3.trans leHL0).trans leHL2).trans leHL4).trans le78).trans le84).trans le85).trans leHL6
     refine clP bod91 (done_ok acc[k4].t _ (⟨l85, e78.nx, e78.nm⟩ : Es) B85 p85 gs gm E HL6 _ (by show (l85).length < _; have := ord_len ho hsm; omega) (hsmd _ (List.getElem_mem hz2)) (BdS.up hb85 leHL6) ⟨Az0, cz0, Az1, cz1, Az2, cz2, rfl, hz0, hz1, hzk⟩ (by have := htp.tsz _ (List.getElem_mem hz2); omega)) h (fun Hp a w hpn lep h => by (repeat (first | refine thP ?_ | refine ibP ?_)); exact pfin h (htp.elb.trans ((congrArg (fun o => Option.bind o _) hel78).trans ((congrArg (fun o => Option.bind o _) hs).trans (congrArg (fun o => Option.bind o _) (htd.no hz2 hpn))))) (LE.trans l_H_HL6 lep) (by repeat (first | exact List.Sublist.refl _ | apply List.Sublist.cons))) (fun r100 H100 L100 a w le100 R h => ?_) (hS := fun _ _ _ _ _ le R hw => by obtain ⟨_, _, _, rfl⟩ := R; exact hw.sees' (by first | exact le | exact LE.trans (by assumption) le) (by simp))
     obtain ⟨t100, hd100, ⟨A100_0, c100_0, A100_1, c100_1, A100_2, c100_2, rfl, hk100_0, hk100_1, hk100_2⟩, rfl⟩ := R
     refine iaE sli57 sz74 rfl hz2 rfl h fun a w h => ?_
     refine fa fl74_1 (r := 0 + k4 * 11 + 1) h fun a w h => ?_
     refine stRw2 (xs := (pc ++ [str acc[k4].name, .int .i64 acc[k4].t.kind, str acc[k4].t.name, .int .i64 acc[k4].t.n, .int .i64 acc[k4].t.s.kind, .int .i64 acc[k4].t.s.n, .slice Az0 acc[k4].t.s.kids.length cz0, .int .i64 acc[k4].t.b.kind, .int .i64 acc[k4].t.b.n, .slice Az1 acc[k4].t.b.kids.length cz1, .slice Az2 acc[k4].t.kids.length cz2] ++ qc)) (off := 0 + k4 * 11 + 1) (vs := #[.int .i64 t100.kind, str t100.name, .int .i64 t100.n, .int .i64 t100.s.kind, .int .i64 t100.s.n, .slice A100_0 t100.s.kids.length c100_0, .int .i64 t100.b.kind, .int .i64 t100.b.n, .slice A100_1 t100.b.kids.length c100_1, .slice A100_2 t100.kids.length c100_2]) 3 (pc ++ [str acc[k4].name, .int .i64 t100.kind, str t100.name, .int .i64 t100.n, .int .i64 t100.s.kind, .int .i64 t100.s.n, .slice A100_0 t100.s.kids.length c100_0, .int .i64 t100.b.kind, .int .i64 t100.b.n, .slice A100_1 t100.b.kids.length c100_1, .slice A100_2 t100.kids.length c100_2] ++ qc) (mid_put (p := pc) (q := qc) (vs := [.int .i64 t100.kind, str t100.name, .int .i64 t100.n, .int .i64 t100.s.kind, .int .i64 t100.s.n, .slice A100_0 t100.s.kids.length c100_0, .int .i64 t100.b.kind, .int .i64 t100.b.n, .slice A100_1 t100.b.kids.length c100_1, .slice A100_2 t100.kids.length c100_2]) (t := [.int .i64 acc[k4].t.kind, str acc[k4].t.name, .int .i64 acc[k4].t.n, .int .i64 acc[k4].t.s.kind, .int .i64 acc[k4].t.s.n, .slice Az0 acc[k4].t.s.kids.length cz0, .int .i64 acc[k4].t.b.kind, .int .i64 acc[k4].t.b.n, .slice Az1 acc[k4].t.b.kids.length cz1, .slice Az2 acc[k4].t.kids.length cz2]) (n := str acc[k4].name) (o := 0 + k4 * 11) (m := 10) (by omega) rfl rfl) tN34 (by simp only [List.length_append, List.length_cons, List.length_nil, List.size_toArray]; omega) h fun a w h => ?_
     have hrz : RowR RTd 11 H100 (pc ++ [str acc[k4].name, .int .i64 t100.kind, str t100.name, .int .i64 t100.n, .int .i64 t100.s.kind, .int .i64 t100.s.n, .slice A100_0 t100.s.kids.length c100_0, .int .i64 t100.b.kind, .int .i64 t100.b.n, .slice A100_1 t100.b.kids.length c100_1, .slice A100_2 t100.kids.length c100_2] ++ qc) (zs.set k4 (Td.mk acc[k4].name t100)) := RowR.glue hz (hpr.mono fun cs y _ hr => RTd.mono le100 y hr) rfl ⟨_, _, _, _, _, _, rfl, hk100_0, hk100_1, hk100_2⟩ (hqr.mono fun cs y _ hr => RTd.mono le100 y hr)
     refine au [1,1,1,7,1,0,0,5] h ?_
     refine inc ?_ h fun a w h => ?_
     ·omega
     refine au [0,0,0,3] h ?_; intro a w h
     have h := h.del 1
     have l_H85_H100 : LE H85 H100 := leHL6.trans le100
     exact ⟨((k4 + 1), H100, (some ⟨gr, 0, none⟩), prd, _, (zs.set k4 (Td.mk acc[k4].name t100))), ⟨⟨by omega, l_H85_H100, hrz, hi.step hz hz2 hd100⟩, h.to 0 _⟩, by show _ - (k4 + 1) < _ - k4; omega⟩
    ·have d90 : acc.length ≤ k4 := cd_ c90
     refine au [2,5,2,2,2,2,2,3,1,0,0,4] h ?_
     have hke4 : k4 = acc.length := by omega
     rw [hke4] at htd
     rw [← htd.len] at h
     refine au [0,5,0,0,0,7] h ?_; intro a w h
     refine ldN (l := [_, _, _, _, _, _, _, _, _, _]) 3 tN34 h fun a w h => ?_
     have l_H78_HL6 : LE H78 HL6 := (le84.trans le85).trans leHL6
     have l_H_HL6 : LE H HL6 := ((((((leHg3.trans leHL0).trans leHL2).trans leHL4).trans le78).trans le84).trans le85).trans leHL6
     refine clP bod91 (done_ok t78 _ (⟨l85, e78.nx, e78.nm⟩ : Es) B85 p85 gs gm E HL6 _ (by show (l85).length < _; have := ord_len ho hsm; omega) (hsmb) (BdS.up hb85 leHL6) ⟨A78_0, c78_0, A78_1, c78_1, A78_2, c78_2, rfl, (HS.up hk78_0 l_H78_HL6), (HS.up hk78_1 l_H78_HL6), (TrS.up hk78_2 l_H78_HL6)⟩ (by have := hbz; have := el_size hel78; omega)) h (fun Hp a w hpn lep h => by (repeat (first | refine thP ?_ | refine ibP ?_)); exact pfin h (htp.elb.trans ((congrArg (fun o => Option.bind o _) hel78).trans ((congrArg (fun o => Option.bind o _) hs).trans ((congrArg (fun o => Option.bind o _) htd.all).trans (congrArg (Option.map _) hpn))))) (LE.trans l_H_HL6 lep) (by repeat (first | exact List.Sublist.refl _ | apply List.Sublist.cons))) (fun r107 H107 L107 a w le107 R h => ?_)
     obtain ⟨t107, hd107, ⟨A107_0, c107_0, A107_1, c107_1, A107_2, c107_2, rfl, hk107_0, hk107_1, hk107_2⟩, rfl⟩ := R
     refine fa fl59_1 (r := 1) h fun a w h => ?_
     refine stp (l := [_, _, _, _, _, _, _, _, _, _, _]) 3 tN34 h fun a w h => ?_
     refine au [0,3,0,4] h ?_
     obtain ⟨Hrrd, leHrrd, h, hsHrrd⟩ := h.frw 2 (hrrd.mono fun cs y _ hr => RTd.mono le107 y hr) rfl (fun _ l cs y _ hr => RTd.mono l y hr)
     refine au [0,5,3,5,5,8,0,3,1,3] h ?_; intro a w h
     have h := h.pull 1 rfl rfl
     have h := h.pull 1 rfl rfl
     have h := h.pull 3 rfl rfl
     have h := h.pull 3 rfl rfl
     have l_H_Hrrd : LE H Hrrd := ((((((((leHg3.trans leHL0).trans leHL2).trans leHL4).trans le78).trans le84).trans le85).trans leHL6).trans le107).trans leHrrd
     exact FinP.ret (fin (rs := [.cell 4 59]) (vs := [.agg #[_, _, _, _, _, _, _, _, _, _, _]]) h rfl (.agg (k0 := 1) tN59 rfl rfl rfl .nil) rfl l_H_Hrrd ⟨LE.rfl, h.st.drop 2⟩ ⟨⟨zs, t107⟩, _, _, (htp.elb.trans ((congrArg (fun o => Option.bind o _) hel78).trans ((congrArg (fun o => Option.bind o _) hs).trans ((congrArg (fun o => Option.bind o _) htd.all).trans (congrArg (Option.map _) hd107))))), ⟨_, _, _, _, _, _, _, _, rfl, hsHrrd, (HS.up hk107_0 leHrrd), (HS.up hk107_1 leHrrd), (TrS.up hk107_2 leHrrd)⟩, rfl⟩)
end Go.Proofs.YthnhddjlgjecdaaGreatDoor
namespace Go.Proofs.YthnhddjlgjecdaaGreatDoor.X
open Go
theorem upon_mono {P : Program} {o : Oper} {a : Act} {K K' : Act → World → Prop} {Q Q' : Exit → Act → World → Prop} {r : Result Next} (hK : ∀ a w, K a w → K' a w) (hQ : ∀ e a w, Q e a w → Q' e a w) (h : o.upon P a K Q r) : o.upon P a K' Q' r := by
 cases r with
 | ok n w' =>
   cases n <;> simp only [Oper.upon] at h ⊢
   case value u => exact hK _ _ h
   case skip => exact hK _ _ h
   case defer d => exact hK _ _ h
   case enter f args =>
     refine Calls.mono h fun e w'' he => ?_
     cases e with
     | returned u => exact hK _ _ he
     | panicked c => exact hQ _ _ _ he
     | outgrown => obtain ⟨a, w, h⟩ := he; exact ⟨a, w, hQ _ _ _ h⟩
   case row row args => exact Rows.mono h fun u w'' he => hK _ _ he
 | halt x w' =>
   cases x <;> simp only [Oper.upon] at h ⊢
   exact hQ _ _ _ h
def opsS (P : Program) (ops : Array Oper) (Q : Exit → Act → World → Prop) : List Oper → Act → World → Prop
 | [], a, w => Q .normal a w
 | o :: rest, a, w => if Region.wanted o (yielded ops a.tmps) then o.wp P a w (opsS P ops Q rest) Q else opsS P ops Q rest (a.put o.dst undef) w
def gS (P : Program) (ops : Array Oper) (Q : Exit → Act → World → Prop) : Gd P ops Q where
 G := opsS P ops Q
 S := fun _ => True
 isE := fun _ => true
 isN := fun _ => false
 isR := fun _ => true
 W := fun w w' => w' = w
 nil h := h
 skip hw h := by unfold opsS; rw [if_neg (by rw [hw]; simp)]; exact h
 pure_ hw hr h := by
   unfold opsS; rw [if_pos hw]
   unfold Oper.wp
   rw [hr _, Oper.upon_value]; exact h
 quiet _ _ hw hr h := by
   unfold opsS; rw [if_pos hw]
   unfold Oper.wp
   rw [hr _ rfl, Oper.upon_value]; exact h
 eff _ hw h := by
   unfold opsS; rw [if_pos hw]
   exact Oper.wp_mono' h fun _ _ h => h.2
theorem opsS_sound {P : Program} {ops : Array Oper} {Q : Exit → Act → World → Prop} {QS : Exit → Act → List Frame → World → Prop} {cs : List Frame} (hQ : ∀ e a w, Q e a w → QS e a cs w) (l : List Oper) :
   ∀ k, (∀ j : Nat, l[j]? = ops[k + j]?) → ∀ a w, opsS P ops Q l a w → wpOpsS P ops QS (List.range' k l.length) a cs w := by
 induction l with
 | nil => intro k _ a w h; exact hQ _ _ _ h
 | cons o l ih =>
   intro k hk a w h
   have h0 : ops[k]? = some o := by simpa using (hk 0).symm
   have ih' := ih (k + 1) (fun j => by have := hk (j + 1); simpa [Nat.add_assoc, Nat.add_comm 1 j] using this)
   simp only [List.length_cons, List.range'_succ, wpOpsS, h0]
   simp only [opsS] at h
   split
   · rename_i hw
     rw [if_pos hw] at h
     unfold Oper.wp at h
     split
     · rename_i w' hr
       rw [hr] at h
       exact absurd h (by simp [Oper.upon])
     · exact upon_mono (fun a w h => ih' a w h) hQ h
   · rename_i hw
     rw [if_neg hw] at h
     exact ih' _ _ h
section
variable {P : Program} {E w : World} {H : GH} {N : Nat} {D : List Deferred} {F : List (Nat × Value)} {L : List It} {a : Act} {f : FuncId} {fn : Func}
theorem enterRec {id d : Nat} {l : List Oper} {o : Oper} {c2 : Code} {args : List Value} {R : Value → GH → List It → Prop} (F : List (Nat × Value)) (u u' : FrameMode) (rv : Value)
   (hrec : ∀ (c₀ : Frame) (cs : List Frame), c₀.mode = u → recoverD (c₀ :: cs) = some (rv, { c₀ with mode := u' } :: cs) ∨ (recoverD (c₀ :: cs) = none ∧ rv = .nilIface ∧ u' = u))
   (hf : P.funcs[f]? = some fn) (hb : fn.body = some (.seq (.region id (o :: l).toArray false) c2)) (hn : fn.ntmps = N) (ho : o.op = .call { callee := .builtin .recover, args := #[], argTypes := #[] }) (hg : o.guard = none) (hd : o.dst = some d) (hN : Nat.blt d N = true)
   (hF : F.map (fun p => args.toArray[p.1]?) = F.map (fun p => some p.2)) (hs : Nat.ble args.length N = true)
   (h : ∀ a w, S E H N [] ((d, rv) :: F) L a w → (gS P (o :: l).toArray (Exit.then (c2.wp P (Fin P fn E H R)) (Fin P fn E H R))).G l a w) :
   ∀ w, St E H L w → CallsD P f args.toArray u w fun e u1 w' => u1 = u' ∧ ∃ r H' L', e = .returned r ∧ LE H H' ∧ St E H' L' w' ∧ R r H' L' := by
 intro w hw
 refine callsD_of_wpS hf hb fun c₀ cs hc => ?_
 refine wpS_seq (wpS_region ?_)
 rw [List.range_eq_range']
 have hfin : ∀ e a w, Fin P fn E H R e a w → bodyPostS P fn c₀ cs (fun e u1 w' => u1 = u' ∧ ∃ r H' L', e = .returned r ∧ LE H H' ∧ St E H' L' w' ∧ R r H' L') e a ({ c₀ with mode := u' } :: cs) w := by
   intro e a w hq
   cases e with
   | normal => obtain ⟨h1, v, h2, h3⟩ := hq; exact ⟨h1, u', rfl, v, h2, rfl, h3⟩
   | ret => obtain ⟨h1, v, h2, h3⟩ := hq; exact ⟨h1, u', rfl, v, h2, rfl, h3⟩
   | panic c => obtain ⟨h1, h2⟩ := hq; exact ⟨h1, u', rfl, rfl, h2⟩
   | outgrown => exact ⟨u', rfl, hq⟩
   | exit i => exact hq
   | goto i => exact hq
 have hag : Ag N [] F { tmps := args.toArray ++ Array.replicate (fn.ntmps - args.toArray.size) undef, defers := [] } := by rw [hn]; exact ag_enter N args.toArray (by simpa using hs) F hF
 have hS := h _ w ⟨hag.put (by simpa [Nat.blt_eq] using hN) rv, hw⟩
 have key := opsS_sound (P := P) (cs := { c₀ with mode := u' } :: cs) (QS := Exit.thenS (c2.wpS P (bodyPostS P fn c₀ cs (fun e u1 w' => u1 = u' ∧ ∃ r H' L', e = .returned r ∧ LE H H' ∧ St E H' L' w' ∧ R r H' L'))) (bodyPostS P fn c₀ cs (fun e u1 w' => u1 = u' ∧ ∃ r H' L', e = .returned r ∧ LE H H' ∧ St E H' L' w' ∧ R r H' L')))
   (fun e a w hq => by
     cases e with
     | normal => exact wpS_of_wp (Code.wp_mono (fun e a w h => hfin e a w h) hq)
     | ret => exact hfin _ _ _ hq
     | panic c => exact hfin _ _ _ hq
     | outgrown => exact hfin _ _ _ hq
     | exit i => exact hfin _ _ _ hq
     | goto i => exact hfin _ _ _ hq) l 1 (fun j => by simp [Nat.add_comm 1 j]) _ w hS
 have hwant : Region.wanted o (yielded (o :: l).toArray (args.toArray ++ Array.replicate (fn.ntmps - args.toArray.size) undef)) = true := by unfold Region.wanted; rw [hg]
 have hrun : ∀ av : Operand → Value, (execOp av o).run P w = .ok .recover w := fun av => by simp [execOp, ho, resolve, invoke, builtin]
 have hsz : (o :: l).toArray.size = l.length + 1 := by simp
 rw [hsz, List.range'_succ]
 simp only [wpOpsS, List.getElem?_toArray, List.getElem?_cons_zero]
 rw [if_pos hwant, hrun]
 simp only []
 rw [hd]
 rcases hrec c₀ cs hc with h1 | ⟨h1, rfl, rfl⟩
 · rw [h1]; exact key
 · rw [h1]
   have e0 : ({ c₀ with mode := u' } : Frame) = c₀ := by subst hc; rfl
   rw [e0] at key
   exact key
theorem rec_panic (v : Value) : ∀ (c₀ : Frame) (cs : List Frame), c₀.mode = .panicking (chain1 v) → recoverD (c₀ :: cs) = some (v, { c₀ with mode := .panicking [{ v, recovered := true }] } :: cs) ∨ (recoverD (c₀ :: cs) = none ∧ v = .nilIface ∧ FrameMode.panicking [{ v, recovered := true }] = .panicking (chain1 v)) := fun c₀ cs h => by
 left; simp [recoverD, h]
theorem rec_ret : ∀ (c₀ : Frame) (cs : List Frame), c₀.mode = .returning → recoverD (c₀ :: cs) = some (.nilIface, { c₀ with mode := .returning } :: cs) ∨ (recoverD (c₀ :: cs) = none ∧ Value.nilIface = .nilIface ∧ FrameMode.returning = .returning) := fun c₀ cs h => by
 right; refine ⟨?_, rfl, rfl⟩; simp [recoverD, h]
theorem finU {R R1 : Value → GH → List It → Prop} {H0 : GH} {caps dargs args : Array Value} {u u' : FrameMode} (hu : u ≠ .run) (h : S E H N [{ target := .fn (.func f) caps, args := dargs }] F L a w) (hb : bodT P f = true)
   (hc : ∀ w, St E H L w → CallsD P f args u w fun e u1 w' => u1 = u' ∧ ∃ r H' L', e = .returned r ∧ LE H H' ∧ St E H' L' w' ∧ R1 r H' L') (hs : settle u' = .returning) (hle : LE H0 H)
   (k : ∀ r H' L' w', LE H H' → R1 r H' L' → S E H' N [{ target := .fn (.func f) caps, args := dargs }] F L' a w' → ∃ v H'' L'', (results fn a.tmps).run P w' = .ok v w' ∧ LE H0 H'' ∧ St E H'' L'' w' ∧ R v H'' L'') (hA : dargs ++ caps = args := by rfl) :
   Leaves P fn a.tmps (fun e w' => ∃ r H' L', e = .returned r ∧ LE H0 H' ∧ St E H' L' w' ∧ R r H' L') a.defers u w := by
 subst hA
 rw [h.ag.defers]
 refine leaves_cons (f := f) (args := dargs ++ caps) hu (by simp [invoke, run_callFunc hb]) ?_
 refine (hc w h.st).mono ?_
 rintro e u1 w' ⟨rfl, r, H', L', rfl, hl, hst, hr⟩
 obtain ⟨v, H'', L'', h1, h2, h3, h4⟩ := k r H' L' w' hl hr ⟨h.ag, hst⟩
 show Leaves P fn a.tmps _ [] (settle u1) w'
 rw [hs]
 exact ⟨v, h1, v, H'', L'', rfl, h2, h3, h4⟩
end
section
variable {P : Program} {ops : Array Oper} {Q : Exit → Act → World → Prop} {γ : Gd P ops Q} {rest : List Oper} {o : Oper} {E w : World} {H : GH} {N : Nat} {D : List Deferred} {F : List (Nat × Value)} {L : List It} {a : Act}
variable {t u : TypeId} {x y : Operand} {d : Nat} {v : Value}
theorem taN {z : Value} (ht : cncT P t = true) (hz : zrT P t = some z) (h : S E H N D F L a w) (k : ∀ a w, S E H N D ((d, .tuple #[z, .bool false]) :: F) L a w → γ.G rest a w)
   (ho : o.op = .typeAssert x u t true := by rfl) (hx : ev F x = some .nilIface := by rfl)
   (hw : wn ops F o = some true := by rfl) (hd : o.dst = some d := by rfl) (hN : Nat.blt d N = true := by rfl) : γ.G (o :: rest) a w := by
 obtain ⟨kd, hu, hnk⟩ := und_cnc ht
 refine pv h (fun w => ?_) k hw hd hN
 have hzero : ∀ w, (zeroValue t).run P w = .ok z w := fun w => by
   unfold zrT at hz
   split at hz
   · rename_i i hi; simp [zeroValue, typeInfo, hi, hz]
   · cases hz
 have : (Instr.typeAssert .nilIface u t true).run P w = .ok (.tuple #[z, .bool false]) w := by
   unfold Instr.typeAssert
   simp only [Sem.run_bind, run_underlying hu, Result.andThen_ok]
   cases kd <;> first | exact absurd rfl (hnk _) | simp [hzero]
 simp [execOp, ho, h.ag.ev hx, this]
end
end Go.Proofs.YthnhddjlgjecdaaGreatDoor.X
namespace Go.Proofs.YthnhddjlgjecdaaGreatDoor
open Go X
theorem elabD_pan (ga gb : Nat) (z0 z1 z2 z3 z4 z5 z6 z7 z8 z9 z10 ze : Value) (E : World) (H : GH) (L : List It) : ∀ w, St E H (.obj ga (.cells #[z0, z1, z2, z3, z4, z5, z6, z7, z8, z9, z10] 59 (0, 0)) :: .obj gb (.cells #[ze] 60 (0, 0)) :: L) w → CallsD Tryz.prog 43 #[.pointer (some ⟨ga, 0, none⟩), .pointer (some ⟨gb, 0, none⟩)] (.panicking (chain1 (.iface 121 (.agg #[])))) w fun e u1 w' => u1 = .panicking [{ v := (.iface 121 (.agg #[])), recovered := true }] ∧ ∃ r H' L', e = .returned r ∧ LE H H' ∧ St E H' L' w' ∧ (H = H' ∧ L' = .obj ga (.cells #[.slice none 0 0, .int .i64 0, str [], .int .i64 0, .int .i64 0, .int .i64 0, .slice none 0 0, .int .i64 0, .int .i64 0, .slice none 0 0, .slice none 0 0] 59 (0, 0)) :: .obj gb (.cells #[.int .i64 8] 60 (0, 0)) :: L) := by
 refine enterRec (args := [.pointer (some ⟨ga, 0, none⟩), .pointer (some ⟨gb, 0, none⟩)]) (R := fun r H' L' => H = H' ∧ L' = .obj ga (.cells #[.slice none 0 0, .int .i64 0, str [], .int .i64 0, .int .i64 0, .int .i64 0, .slice none 0 0, .int .i64 0, .int .i64 0, .slice none 0 0, .slice none 0 0] 59 (0, 0)) :: .obj gb (.cells #[.int .i64 8] 60 (0, 0)) :: L) (fn := Tryz.f43) (N := 11) [(0, _), (1, _)] (.panicking (chain1 (.iface 121 (.agg #[])))) (.panicking [{ v := (.iface 121 (.agg #[])), recovered := true }]) (.iface 121 (.agg #[])) (rec_panic _) Tryz.func43 rfl rfl rfl rfl rfl rfl rfl rfl (fun a w h => ?_)
 refine taT cnc121 h fun a w h => ?_
 refine au [0,0,4,7,4,7] h ?_; intro a w h
 refine al zr121 h fun g2 a w h => ?_
 refine au [5,5,0,6,0,2,0,0,0,3,2,0,0,5,7,5,5,6,5,3,1,1] h ?_; intro a w h
 exact finN0 1 h LE.rfl ⟨rfl, rfl⟩
theorem elabD_ret (ga gb : Nat) (z0 z1 z2 z3 z4 z5 z6 z7 z8 z9 z10 ze : Value) (E : World) (H : GH) (L : List It) : ∀ w, St E H (.obj ga (.cells #[z0, z1, z2, z3, z4, z5, z6, z7, z8, z9, z10] 59 (0, 0)) :: .obj gb (.cells #[ze] 60 (0, 0)) :: L) w → CallsD Tryz.prog 43 #[.pointer (some ⟨ga, 0, none⟩), .pointer (some ⟨gb, 0, none⟩)] .returning w fun e u1 w' => u1 = .returning ∧ ∃ r H' L', e = .returned r ∧ LE H H' ∧ St E H' L' w' ∧ (H = H' ∧ L' = .obj ga (.cells #[z0, z1, z2, z3, z4, z5, z6, z7, z8, z9, z10] 59 (0, 0)) :: .obj gb (.cells #[ze] 60 (0, 0)) :: L) := by
 refine enterRec (args := [.pointer (some ⟨ga, 0, none⟩), .pointer (some ⟨gb, 0, none⟩)]) (R := fun r H' L' => H = H' ∧ L' = .obj ga (.cells #[z0, z1, z2, z3, z4, z5, z6, z7, z8, z9, z10] 59 (0, 0)) :: .obj gb (.cells #[ze] 60 (0, 0)) :: L) (fn := Tryz.f43) (N := 11) [(0, _), (1, _)] .returning .returning .nilIface rec_ret Tryz.func43 rfl rfl rfl rfl rfl rfl rfl rfl (fun a w h => ?_)
 refine taN cnc121 zr121 h fun a w h => ?_
 refine au [0,0,4,7,4,7] h ?_; intro a w h
 refine al zr121 h fun g2 a w h => ?_
 refine au [5,5,0,6,0,2,0,0,0,3,2,1,1,8] h ?_; intro a w h
 exact finN0 1 h LE.rfl ⟨rfl, rfl⟩
def numB : Bs → Bool
 | [] => false
 | c :: _ => decide (48 ≤ c.toNat) && decide (c.toNat ≤ 57)
theorem numB_dec (u : Nat) : ∃ c l, Lib.decDigits u = c :: l ∧ numB (Lib.decDigits u) = true := by
 induction u using Nat.strongRecOn with
 | _ u ih =>
   rw [Lib.decDigits]
   split
   · rename_i h
     refine ⟨_, _, rfl, ?_⟩
     have : (UInt8.ofNat (48 + u)).toNat = 48 + u := by simp [UInt8.toNat_ofNat']; omega
     simp [numB, this]; omega
   · rename_i h
     obtain ⟨c, l, e, hn⟩ := ih (u / 10) (by omega)
     rw [e] at hn ⊢
     exact ⟨c, _, rfl, hn⟩
theorem numB_itoa {n : Int} (h : 0 ≤ n) : numB (Lib.itoa n) = true := by
 unfold Lib.itoa
 rw [if_neg (by omega)]
 obtain ⟨_, _, _, hn⟩ := numB_dec n.toNat
 exact hn
def Fit (n : Int) (c : Nat) : Prop := 0 ≤ n ∧ n + c ≤ 4611686018427387904
theorem nx_fit {n : Int} {c : Nat} (h : Fit n (c + 1)) : nx n = n + 1 := by
 obtain ⟨h1, h2⟩ := h
 unfold nx
 exact w64 (by omega) (by omega)
mutual
theorem ren_num : ∀ (t : Tm) (σ : Bs → Option Bs) (n : Int), Fit n t.count → (t.ren σ n).2 = n + t.count
 | .mk k s m ks, σ, n, h => by
   simp only [Tm.ren]
   simp only [Tm.count] at h
   by_cases hb : bnd k = true
   · rw [if_pos hb] at h ⊢
     have e := nx_fit (n := n) (c := countL ks) (by unfold Fit at *; omega)
     rw [e]
     rw [renL_num _ _ _ ks σ (n + 1) (by unfold Fit at *; omega)]
     simp only [Tm.count, if_pos hb]; omega
   · rw [if_neg hb] at h ⊢
     rw [renL_num _ _ _ ks σ n (by unfold Fit at *; omega)]
     simp only [Tm.count, if_neg hb]; omega
theorem renL_num (bd : Bool) (s s' : Bs) : ∀ (l : List Tm) (σ : Bs → Option Bs) (n : Int), Fit n (countL l) → (renL bd s s' l σ n).2 = n + countL l
 | [], _, n, _ => by simp [renL, countL]
 | t :: l, σ, n, h => by
   simp only [countL] at h
   simp only [renL]
   have e := ren_num t (if (bd && l.isEmpty) = true then updS σ s s' else σ) n (by unfold Fit at *; omega)
   rw [e, renL_num bd s s' l σ (n + t.count) (by unfold Fit at *; omega)]
   simp only [countL]; omega
end
theorem renL_empty (bd : Bool) (s s' : Bs) (l : List Tm) (σ : Bs → Option Bs) (n : Int) : (renL bd s s' l σ n).1.isEmpty = l.isEmpty := by
 cases l <;> simp [renL]
theorem node_ar {k : Int} {s : Bs} {n : Int} {l : Nat} (h : nodeB k s n l = true) : arB k l = true := by
 unfold nodeB at h
 simp only [Bool.and_eq_true, Bool.not_eq_true', Bool.or_eq_false_iff, decide_eq_false_iff_not, bne_eq_false_iff_eq] at h
 obtain ⟨⟨h1, h2, h3, _⟩, _⟩ := h
 unfold arB
 simp only [Bool.and_eq_true, decide_eq_true_eq, beq_iff_eq]
 exact ⟨by omega, by omega, h3⟩
def RK (σ : Bs → Option Bs) (b : Bs → Nat) (K : Bs → Bool) : Prop := (∀ s, σ s = none ↔ b s = 0) ∧ ∀ s s', σ s = some s' → K s' = true
theorem RK.bind {σ : Bs → Option Bs} {b : Bs → Nat} {K : Bs → Bool} (h : RK σ b K) (s s' : Bs) : RK (updS σ s s') (inc1 b s) (fun x => decide (x = s') || K x) := by
 refine ⟨fun r => ?_, fun r r' hr => ?_⟩
 · unfold updS inc1
   split
   · simp
   · exact h.1 r
 · unfold updS at hr
   split at hr
   · cases hr; simp
   · simp [h.2 r r' hr]
mutual
theorem okn_ren : ∀ (t : Tm) (σ : Bs → Option Bs) (n : Int) (b : Bs → Nat) (K : Bs → Bool), t.wrong = false → RK σ b K → (∀ x, t.fr b x = true → K x = true) → (t.ren σ n).1.okn K = true
 | .mk k s m ks, σ, n, b, K, hw, hr, hf => by
   simp only [Tm.wrong, Bool.or_eq_false_iff, Bool.not_eq_false'] at hw
   have ha := node_ar hw.1
   simp only [Tm.ren, Tm.okn, Bool.and_eq_true]
   refine ⟨?_, ?_, ?_⟩
   · rw [renL_length]; exact ha
   · by_cases h2 : k = 2
     · subst h2
       have hb : bnd 2 = false := by decide
       simp only [renN, hb, Bool.false_eq_true, if_false, beq_self_eq_true, if_true]
       cases e : σ s with
       | some s' => simp [hr.2 s s' e]
       | none =>
         have : Tm.fr (.mk 2 s m ks) b s = true := by simp [Tm.fr, (hr.1 s).1 e]
         simp [hf s this]
     · simp [h2]
   · exact oknL_ren (bnd k) s (renN k s σ n) ks σ _ b K hw.2 hr (fun x hx => hf x (by simp only [Tm.fr, hx, Bool.or_true]))
theorem oknL_ren (bd : Bool) (s s' : Bs) : ∀ (l : List Tm) (σ : Bs → Option Bs) (n : Int) (b : Bs → Nat) (K : Bs → Bool), wrongL l = false → RK σ b K → (∀ x, frL bd s l b x = true → K x = true) → oknL bd s' K (renL bd s s' l σ n).1 = true
 | [], _, _, _, _, _, _, _ => rfl
 | t :: l, σ, n, b, K, hw, hr, hf => by
   simp only [wrongL, Bool.or_eq_false_iff] at hw
   rw [renL, oknL, Bool.and_eq_true]
   refine ⟨?_, oknL_ren bd s s' l σ _ b K hw.2 hr (fun x hx => hf x (by simp only [frL, hx, Bool.or_true]))⟩
   rw [renL_empty]
   by_cases hc : (bd && l.isEmpty) = true
   · rw [if_pos hc, if_pos hc]
     refine okn_ren t _ _ (inc1 b s) _ hw.1 (hr.bind s s') (fun x hx => ?_)
     have := hf x (by simp only [frL, hc, if_true, hx, Bool.true_or])
     simp [this]
   · rw [if_neg hc, if_neg hc]
     refine okn_ren t _ _ b K hw.1 hr (fun x hx => ?_)
     exact hf x (by simp only [frL, hc, if_false, hx, Bool.true_or]; simp [hx])
end
theorem rk0 (K : Bs → Bool) : RK (fun _ => none) none0 K := ⟨fun s => by simp [none0], fun s s' h => by cases h⟩
theorem okn_strange {t : Tm} {known : List Bs} {n : Int} (hw : t.wrong = false) (hs : t.strange known = false) : (t.ren (fun _ => none) n).1.okn (fun x => decide (x ∈ known)) = true := by
 refine okn_ren t _ n none0 _ hw (rk0 _) (fun x hx => ?_)
 unfold Tm.strange at hs
 rw [List.any_eq_false] at hs
 have := hs x (fr_names t _ x hx)
 rw [hx, Bool.true_and] at this
 simpa using this
theorem right_wrong {t : Tm} (h : t.right = true) : t.wrong = false ∧ t.size ≤ 10000 := by
 unfold Tm.right at h
 simp only [Bool.and_eq_true, decide_eq_true_eq, Bool.not_eq_true'] at h
 exact ⟨h.2.2, by have := h.2.1; omega⟩
theorem right_parts {p : Pg} (h : p.right = true) : (∀ d ∈ p.defs, d.t.right = true) ∧ p.body.right = true ∧ p.defs.length ≤ 32 := by
 unfold Pg.right Pg.print at h
 have hf : p.fits = true := by
   cases e : p.fits with
   | true => rfl
   | false => rw [e] at h; simp at h
 unfold Pg.fits at hf
 simp only [Bool.and_eq_true, Bool.not_eq_true', decide_eq_true_eq] at hf
 obtain ⟨hb, hm, hbody⟩ := hf
 unfold Pg.bad at hb
 simp only [Bool.or_eq_false_iff] at hb
 refine ⟨fun d hd => ?_, hbody, ?_⟩
 · have := List.any_eq_false.1 hb.2.2.2 d hd
   unfold Df.wrong at this
   simp only [Bool.or_eq_true, Bool.not_eq_true', not_or] at this
   simpa using this.2.1
 · unfold mx3 at hm
   split at hm <;> split at hm <;> omega
theorem go_at {p : Pg} : ∀ {k : Nat} {ds : List Df} {n : Int}, p.go k = some (ds, n) → k ≤ p.defs.length ∧ ds.length = k ∧ ∀ j (hj : j < ds.length) (hj2 : j < p.defs.length), ds[j].name = p.defs[j].name ∧ p.defs[j].t.strange (p.known j) = false ∧ ∃ m, ds[j].t = (p.defs[j].t.ren (fun _ => none) m).1
 | 0, ds, n, h => by
   simp only [Pg.go, Option.some.injEq, Prod.mk.injEq] at h
   obtain ⟨rfl, _⟩ := h
   exact ⟨Nat.zero_le _, rfl, fun j hj => by simp at hj⟩
 | k + 1, ds, n, h => by
   simp only [Pg.go] at h
   split at h
   · rename_i ds0 n0 d hg hd
     split at h
     · cases h
     · rename_i hs
       cases h
       obtain ⟨h1, h2, h3⟩ := go_at hg
       obtain ⟨hk, rfl⟩ := List.getElem?_eq_some_iff.1 hd
       refine ⟨hk, by simp [h2], fun j hj hj2 => ?_⟩
       by_cases hc : j < ds0.length
       · rw [List.getElem_append_left hc]; exact h3 j hc hj2
       · have hj' : j = k := by simp at hj; omega
         subst hj'
         rw [List.getElem_append_right (by omega)]
         simp only [h2, Nat.sub_self, List.getElem_cons_zero]
         exact ⟨trivial, by simpa using hs, n0, rfl⟩
   · cases h
theorem sizeD_le32 : ∀ {l : List Df}, (∀ d ∈ l, d.t.size ≤ 10000) → sizeD l ≤ 10000 * l.length
 | [], _ => by simp [sizeD]
 | d :: l, h => by
   have h1 := h d (List.mem_cons_self ..)
   have h2 := sizeD_le32 (l := l) fun x hx => h x (List.mem_cons_of_mem _ hx)
   simp only [sizeD, List.length_cons]; omega
theorem resolve_cases {p : Pg} (h : p.resolve.2 = 0) : p.right = true ∧ ∃ ds n, p.go p.defs.length = some (ds, n) ∧ p.body.strange (p.known p.defs.length) = false ∧ p.resolve.1 = ⟨p.inputs, p.cells, ds, (p.body.ren (fun _ => none) n).1⟩ := by
 unfold Pg.resolve at h ⊢
 split at h
 · simp at h
 · rename_i hr
   split at h
   · simp at h
   · rename_i ht
     split at h
     · simp at h
     · rename_i ds n hg
       split at h
       · simp at h
       · rename_i hs
         exact ⟨by simpa using hr, ds, n, hg, by simpa using hs, by rw [if_neg hr, if_neg ht, if_neg hs]⟩
theorem resolve_pgok {p : Pg} (h : p.resolve.2 = 0) : PgOk p.resolve.1 := by
 obtain ⟨hr, ds, n, hg, hs, e⟩ := resolve_cases h
 obtain ⟨r1, r2, r3⟩ := right_parts hr
 obtain ⟨_, g2, g3⟩ := go_at hg
 have hkn : ∀ k, k ≤ p.defs.length → (Pg.mk p.inputs p.cells ds (p.body.ren (fun _ => none) n).1).known k = p.known k := fun k hk => by
   unfold Pg.known
   simp only []
   congr 1
   apply List.ext_getElem (by simp [g2])
   intro j h1 h2
   simp only [List.length_map, List.length_take] at h1 h2
   simp only [List.getElem_map, List.getElem_take]
   exact (g3 j (by omega) (by omega)).1
 rw [e]
 refine ⟨fun k hk => ?_, ?_, ?_⟩
 · simp only [] at hk ⊢
   obtain ⟨_, q2, m, q3⟩ := g3 k hk (by omega)
   rw [hkn k (by omega), q3]
   exact okn_strange (right_wrong (r1 _ (List.getElem_mem _))).1 q2
 · simp only []
   rw [g2, hkn _ (Nat.le_refl _)]
   exact okn_strange (right_wrong r2).1 hs
 · simp only []
   have h1 := sizeD_le32 (l := ds) fun d hd => by
     obtain ⟨j, hj, rfl⟩ := List.getElem_of_mem hd
     obtain ⟨_, _, m, q3⟩ := g3 j hj (by omega)
     rw [q3, ren_size]
     exact (right_wrong (r1 _ (List.getElem_mem _))).2
   have h2 := (right_wrong r2).2
   rw [ren_size]; omega
def Ty.zero : Ty := ⟨[], .mk 0 [] 0 (.mk 0 0 []) (.mk 0 0 []) []⟩
noncomputable def Pg.elb (p : Pg) : Ty × Int := if p.resolve.2 ≠ 0 then (Ty.zero, p.resolve.2) else match elabT p.resolve.1 with
 | none => (Ty.zero, 8)
 | some t => (t, 0)
theorem elab_err {p : Pg} (h : p.resolve.2 ≠ 0) : p.elb = (Ty.zero, p.resolve.2) := if_pos h
theorem elab_none {p : Pg} (h : p.resolve.2 = 0) (hn : elabT p.resolve.1 = none) : p.elb = (Ty.zero, 8) := by
 unfold Pg.elb; rw [if_neg (by simpa using h), hn]
theorem elab_some {p : Pg} {t : Ty} (h : p.resolve.2 = 0) (hn : elabT p.resolve.1 = some t) : p.elb = (t, 0) := by
 unfold Pg.elb; rw [if_neg (by simpa using h), hn]
theorem resolve_len {p : Pg} (h : p.resolve.2 = 0) : p.resolve.1.inputs.length ≤ 32 ∧ p.resolve.1.cells.length ≤ 32 ∧ p.resolve.1.defs.length ≤ 32 := by
 obtain ⟨hr, ds, n, hg, hs, e⟩ := resolve_cases h
 obtain ⟨_, g2, _⟩ := go_at hg
 rw [e]
 unfold Pg.right Pg.print at hr
 have hf : p.fits = true := by
   cases e : p.fits with
   | true => rfl
   | false => rw [e] at hr; simp at hr
 unfold Pg.fits at hf
 simp only [Bool.and_eq_true, Bool.not_eq_true', decide_eq_true_eq] at hf
 have hm := hf.2.1
 unfold mx3 at hm
 simp only [g2]
 split at hm <;> split at hm <;> omega
theorem vty_zero {H : GH} : VTy H (.agg #[.slice none 0 0, .int .i64 0, str [], .int .i64 0, .int .i64 0, .int .i64 0, .slice none 0 0, .int .i64 0, .int .i64 0, .slice none 0 0, .slice none 0 0]) Ty.zero :=
 ⟨none, 0, none, 0, none, 0, none, 0, rfl, RS.nil _ _ _, RS.nil _ _ _, RS.nil _ _ _, RS.nil _ _ _⟩
theorem X.FinD.of {P : Program} {fn : Func} {E : World} {H : GH} {R : Value → GH → List It → Prop} {a : Act} {w : World} (h : Fin P fn E H R .ret a w) : FinD P fn E H R .ret a w := by
 obtain ⟨h1, h2⟩ := h
 show Leaves P fn a.tmps _ a.defers .returning w
 rw [h1]; exact h2
theorem Elab_ok (p : Pg) (v : Value) (E : World) (H : GH) (L : List It) (hv : VP H v p) (hL : Laid H) (hm : Mild p) : Ok Tryz.prog 20 #[v] E H L fun r H' L' => ∃ u, r = .tuple #[u, .int .i64 p.elb.2] ∧ VTy H' u p.elb.1 ∧ L' = L := by
 obtain ⟨Ap0, cp0, Ap1, cp1, Ap2, cp2, Ap3, cp3, rfl, hp0, hp1, hp2, hp3⟩ := hv
 refine enterD (N := 22) [(0, _)] Tryz.func20 rfl rfl rfl rfl fun a w h => ?_
 refine au [1,2] h ?_
 refine bxA h fun g1 a w h => ?_
 refine al zr59 h fun g2 a w h => ?_
 refine al zr60 h fun g3 a w h => ?_
 refine au [0,2,3,5] h ?_; intro a w h
 refine cl bod29 (Resolve_ok p _ E H _ ⟨Ap0, cp0, Ap1, cp1, Ap2, cp2, Ap3, cp3, rfl, hp0, hp1, hp2, hp3⟩ (hL.up LE.rfl) (by first | assumption | omega)) h (fun r8 H8 L8 a w le8 R h => ?_)
 obtain ⟨_, rfl, ⟨A8_0_0, c8_0_0, A8_0_1, c8_0_1, A8_0_2, c8_0_2, A8_0_3, c8_0_3, rfl, hk8_0_0, hk8_0_1, hk8_0_2, hk8_0_3⟩, hl8⟩ := R
 subst L8
 refine au [0,0,4,7,4,7] h ?_; intro a w h
 refine al zr28 h fun g4 a w h => ?_
 refine au [5,5,5,2,0,3,0,4,1,2,2,8,6,3,0,3] h ?_; intro a w h
 refine cdB h (fun c12 => ?_) (fun c12 => ?_)
 ·have d12 : p.resolve.2 ≠ 0 := cd_ c12
  have hne : p.resolve.2 ≠ 0 := by first | (simpa using c12) | omega
  refine sq ?_
  refine rgdF [1] [_] [1, 0] [1] 1 mix (by kernel_rfl) h (fun a w h => ?_)
  refine au [7,5,4,2,5,7,5,2,1,1] h ?_; intro a w h
  refine npN ?_
  refine au [1,0,1,3,1,4] h ?_
  have h := h.pull 1 rfl rfl
  have h := h.pull 2 rfl rfl
  have h := h.pull 3 rfl rfl
  have h := h.pull 3 rfl rfl
  have h := h.pull 3 rfl rfl
  have h := h.pull 3 rfl rfl
  refine FinD.of ?_
  exact fin (rs := [.cell 2 59, .cell 3 60]) (vs := [_, _]) h rfl (.agg (k0 := 0) tN59 rfl rfl rfl (.one (k0 := 1) t1_60 rfl rfl rfl .nil)) rfl le8 ⟨LE.rfl, h.st.drop 4⟩ ⟨_, by rw [elab_err hne]; rfl, by rw [elab_err hne]; exact vty_zero, rfl⟩
 ·have d12 : p.resolve.2 = 0 := cd_ c12
  refine au [1,8,1,0,1,2,7,3] h ?_; intro a w h
  refine df h fun a w h => ?_
  refine au [0,2] h ?_
  refine mk0 (enc := encS) h fun gm a w h => ?_
  refine bdl lay127 zr127 h fun a w h => ?_
  refine bxA h fun g18 a w h => ?_
  refine au [0,6,0,2,0,0,3,5] h ?_; intro a w h
  have h := h.pull 1 rfl rfl
  have h := h.pull 1 rfl rfl
  have hz : p.resolve.2 = 0 := by first | (simpa using c12) | omega
  obtain ⟨hl1, hl2, hl3⟩ := resolve_len hz
  refine clP bod44 (program_ok p.resolve.1 g18 gm _ E H8 _ (resolve_pgok hz) (by omega) (by omega) (by omega) ⟨A8_0_0, c8_0_0, A8_0_1, c8_0_1, A8_0_2, c8_0_2, A8_0_3, c8_0_3, rfl, hk8_0_0, hk8_0_1, hk8_0_2, hk8_0_3⟩) h (fun Hp a w hpn lep h => ?_) (fun r21 H21 L21 a w le21 R h => ?_)
  ·have h := h.pull 1 rfl rfl
   have h := h.pull 2 rfl rfl
   (repeat (first | refine thP ?_ | refine ibP ?_))
   have l_H_Hp : LE H Hp := le8.trans lep
   refine finU (by intro e; cases e) h bod43 (elabD_pan _ _ _ _ _ _ _ _ _ _ _ _ _ _ E Hp _) rfl l_H_Hp (fun r1 H1 L1 w1 le1 R1 h => ?_)
   obtain ⟨rfl, rfl⟩ := R1
   exact ⟨_, _, _, run_results (rs := [.cell 2 59, .cell 3 60]) rfl (.agg (k0 := 0) tN59 rfl rfl rfl (.one (k0 := 1) t1_60 rfl rfl rfl .nil)) h, l_H_Hp, h.st.drop 4, _, by rw [elab_none hz hpn]; rfl, by rw [elab_none hz hpn]; exact vty_zero, rfl⟩
  obtain ⟨ty, i1, i2, het, ⟨A0, c0, A1, c1, A2, c2, A3, c3, rfl, hy0, hy1, hy2, hy3⟩, rfl⟩ := R
  have h := h.del 0
  have h := h.del 0
  refine au [5,7,5,2,0,3,1,3] h ?_; intro a w h
  have h := h.pull 1 rfl rfl
  have h := h.pull 2 rfl rfl
  have h := h.pull 3 rfl rfl
  have h := h.pull 3 rfl rfl
  have h := h.pull 3 rfl rfl
  have h := h.pull 3 rfl rfl
  have l_H_H21 : LE H H21 := le8.trans le21
  refine finU (by intro e; cases e) h bod43 (elabD_ret _ _ _ _ _ _ _ _ _ _ _ _ _ _ E H21 _) rfl l_H_H21 (fun r1 H1 L1 w1 le1 R1 h => ?_)
  obtain ⟨rfl, rfl⟩ := R1
  exact ⟨_, _, _, run_results (rs := [.cell 2 59, .cell 3 60]) rfl (.agg (k0 := 0) tN59 rfl rfl rfl (.one (k0 := 1) t1_60 rfl rfl rfl .nil)) h, l_H_H21, h.st.drop 4, _, by rw [elab_some hz het]; rfl, by rw [elab_some hz het]; exact ⟨_, _, _, _, _, _, _, _, rfl, hy0, hy1, hy2, hy3⟩, rfl⟩
mutual
def Tr.same : Tr → Tr → Bool
 | .mk k s n a b ks, .mk k' s' n' a' b' ks' => ((k == k') && (decide (s = s') && (n == n'))) && (a.same a' && (b.same b' && sameTL ks ks'))
def sameTL : List Tr → List Tr → Bool
 | [], [] => true
 | t :: l, u :: m => t.same u && sameTL l m
 | _, _ => false
end
mutual
theorem tr_same_iff : ∀ t u : Tr, t.same u = true ↔ t = u
 | .mk k s n a b ks, .mk k' s' n' a' b' ks' => by simp [Tr.same, sameTL_iff ks ks', sh_same_iff, and_assoc]
theorem sameTL_iff : ∀ l m : List Tr, sameTL l m = true ↔ l = m
 | [], [] => by simp [sameTL]
 | [], _ :: _ => by simp [sameTL]
 | _ :: _, [] => by simp [sameTL]
 | t :: l, u :: m => by simp [sameTL, tr_same_iff t u, sameTL_iff l m]
end
theorem sameTL_eqBy : ∀ l m : List Tr, eqBy Tr.same l m = sameTL l m
 | [], [] => rfl
 | [], _ :: _ => rfl
 | _ :: _, [] => rfl
 | t :: l, u :: m => by simp only [eqBy, sameTL, sameTL_eqBy l m]
mutual
def Tr.big : Tr → Nat
 | .mk _ _ _ s b ks => max (max s.size b.size) (bigL ks)
def bigL : List Tr → Nat
 | [] => 0
 | t :: l => max t.big (bigL l)
end
theorem big_le {t : Tr} {l : List Tr} (h : t ∈ l) : t.big ≤ bigL l := by
 induction l with
 | nil => cases h
 | cons u l ih =>
   simp only [bigL]
   cases h with
   | head => omega
   | tail _ h => have := ih h; omega
mutual
def Sh.textR : Sh → Bs
 | .mk k n ks => if k == 1 then [105, 110, 116] else if k == 2 then [114, 101, 102] else if k == 4 then [39] ++ Lib.itoa n else (([40] ++ (textRL ks).getD 0 []) ++ [32, 45, 62, 32] ++ (textRL ks).getD 1 []) ++ [41]
def textRL : List Sh → List Bs
 | [] => []
 | t :: l => t.textR :: textRL l
end
def Sh.text (t : Sh) : Bs := if t.right then t.textR else [63]
theorem textRL_at : ∀ {l : List Sh} {i : Nat} (h : i < l.length), (textRL l).getD i [] = l[i].textR
 | [], _, h => absurd h (Nat.not_lt_zero _)
 | t :: l, 0, _ => rfl
 | t :: l, i + 1, h => by
   have := textRL_at (l := l) (i := i) (by simpa using h)
   simpa [textRL] using this
def HlOk (t : Sh) : Prop := ∀ x ∈ t.hl, x ≤ 9223372036854775807
theorem HlOk.kid {k n : Int} {ks : List Sh} (h : HlOk (.mk k n ks)) {t : Sh} (ht : t ∈ ks) : HlOk t := fun x hx => h x (by simp only [Sh.hl]; exact List.mem_append_right _ (mem_hlL.2 ⟨t, ht, hx⟩))
theorem right_n0 {k n : Int} {ks : List Sh} (h : (Sh.mk k n ks).right = true) : 0 ≤ n ∧ 1 ≤ k ∧ k ≤ 4 ∧ (k ≠ 3 → ks = []) ∧ (k = 3 → ks.length = 2) ∧ ∀ t ∈ ks, t.right = true := by
 simp only [Sh.right, rightSL_all, nodeSh, Bool.and_eq_true, decide_eq_true_eq, List.all_eq_true, beq_iff_eq] at h
 obtain ⟨⟨h1, h2, h3, h4, h5⟩, h6⟩ := h
 refine ⟨h3, h1, h2, fun hk => List.eq_nil_of_length_eq_zero ?_, fun hk => ?_, h6⟩
 · rw [if_neg hk] at h5; exact h5
 · rw [if_pos hk] at h5; exact h5
theorem text_len : ∀ t : Sh, t.right = true → HlOk t → t.textR.length ≤ 24 * t.size := by
 intro t
 induction t using Sh.ind with
 | h k n ks ih =>
   intro hr hh
   obtain ⟨h0, h1, h2, h3, h4, h5⟩ := right_n0 hr
   have hs : 1 ≤ (Sh.mk k n ks).size := by simp [Sh.size]
   simp only [Sh.textR]
   by_cases c1 : k = 1
   · subst c1; simp; omega
   by_cases c2 : k = 2
   · subst c2; simp; omega
   by_cases c4 : k = 4
   · subst c4
     have hn := hh n (by simp [Sh.hl])
     have := Lib.itoa_length_le n (by omega) hn
     simp; omega
   have c3 : k = 3 := by omega
   subst c3
   have hl := h4 rfl
   match ks, hl, ih, h5, hh with
   | [a, b], _, ih, h5, hh =>
     have e1 := ih a (by simp) (h5 a (by simp)) (hh.kid (by simp))
     have e2 := ih b (by simp) (h5 b (by simp)) (hh.kid (by simp))
     simp [textRL, Sh.size, sizeSL]; omega
theorem EqualFunc_Tr_ok (xs ys : List Tr) (A A' : Option Addr) (c c' : Nat) (q : Tr → Tr → Bool) (f : FuncId) (caps : Array Value) (E : World) (H : GH) (L : List It) (hx : TrS H A c xs) (hy : TrS H A' c' ys) (hb : xs.length < 1000000000000) (hf : bodT Tryz.prog f = true)
   (hq : ∀ j (hj : j < xs.length) (hj2 : j < ys.length) (v v' : Value) (L : List It), VTr H v xs[j] → VTr H v' ys[j] → Ok Tryz.prog f (#[] ++ [v, v'].toArray ++ caps) E H L fun r H' L' => r = .bool (q xs[j] ys[j]) ∧ H = H' ∧ L = L') :
   Ok Tryz.prog 37 #[.slice A xs.length c, .slice A' ys.length c', .func (.func f) #[] caps] E H L fun r H' L' => r = .bool (eqBy q xs ys) ∧ H = H' ∧ L = L' := by
 refine enter (N := 32) [(0, _), (1, _), (2, _)] Tryz.func37 rfl rfl rfl rfl fun a w h => ?_
 refine au [1,2,0,6,0,3,0,4,1,2,0,0,6,0,0,0,6,0,6,3,0,3] h ?_; intro a w h
 refine cdB h (fun c14 => ?_) (fun c14 => ?_)
 ·have d14 : xs.length ≠ ys.length := cd_ c14
  refine au [1,2,0,6,0,3,1,3,1,4] h ?_; intro a w h
  refine fin1 6 0 h LE.rfl ?_
  exact ⟨by rw [eqBy_len d14], rfl, rfl⟩
 ·have d14 : xs.length = ys.length := cd_ c14
  refine au [1,8,1,0,0,4,1,2,0,0,6,0,0,0,0,3,1,5] h ?_; intro a w h
  refine lp (β := Nat) (fun k a w => ((k ≤ xs.length) ∧ (∀ j (h1 : j < xs.length) (h2 : j < ys.length), j < k → q xs[j] ys[j] = true)) ∧ S E H 32 [] [(1, .slice A' ys.length c'), (2, .func (.func f) #[] caps), (15, .slice A xs.length c), (16, .int .i64 (xs.length : Int)), (17, .int .i64 (k : Int))] (L) a w)
   (fun k => xs.length - k) 0 ⟨⟨Nat.zero_le _, fun _ _ _ h => absurd h (by omega)⟩, h.to 0 _⟩ ?_
  rintro k a w ⟨⟨hk, hi⟩, h⟩
  refine au [1,2,6,4,0,3,0,4] h ?_; intro a w h
  refine cdB h (fun c18 => ?_) (fun c18 => ?_)
  ·have d18 : k < xs.length := cd_ c18
   refine au [1,8,1,0,0,4,1,5,1,2,0,0] h ?_; intro a w h
   have hj20 : k < xs.length := by first | assumption | omega | (simp; done) | (simp; omega)
   obtain ⟨g20, o20, A20_0, c20_0, A20_1, c20_1, A20_2, c20_2, e20, hv20, hc20⟩ := TrS.get hx hj20
   obtain ⟨_, _, _, _, _, _, q20, hk20_0, hk20_1, hk20_2⟩ := hv20; cases q20
   refine iaE sli32 sz34 rfl hj20 e20 h fun a w h => ?_
   refine ldHN tN34 rfl hc20 h fun a w h => ?_
   refine al zr34 h fun g8 a w h => ?_
   refine au [0,6,5,5,0,2,0,0,0,0] h ?_; intro a w h
   have hj24 : k < ys.length := by first | assumption | omega | (simp; done) | (simp; omega)
   obtain ⟨g24, o24, A24_0, c24_0, A24_1, c24_1, A24_2, c24_2, e24, hv24, hc24⟩ := TrS.get hy hj24
   obtain ⟨_, _, _, _, _, _, q24, hk24_0, hk24_1, hk24_2⟩ := hv24; cases q24
   refine iaE sli32 sz34 rfl hj24 e24 h fun a w h => ?_
   refine ldHN tN34 rfl hc24 h fun a w h => ?_
   refine al zr34 h fun g9 a w h => ?_
   refine au [5,5,0,2,0,0,3,4,3,3] h ?_; intro a w h
   refine cl hf (hq k hj20 hj24 _ _ _ ⟨A20_0, c20_0, A20_1, c20_1, A20_2, c20_2, rfl, hk20_0, hk20_1, hk20_2⟩ ⟨A24_0, c24_0, A24_1, c24_1, A24_2, c24_2, rfl, hk24_0, hk24_1, hk24_2⟩) h (fun r29 H29 L29 a w le29 R h => ?_)
   obtain ⟨rfl, rfl, rfl⟩ := R
   refine au [7,1,0,3] h ?_; intro a w h
   refine cdB h (fun c30 => ?_) (fun c30 => ?_)
   ·have d30 : (q xs[k] ys[k]) = false := cd_ c30
    refine au [1,2,0,6,0,3,1,3,1,6,1,4,1,4,1,6,1,4] h ?_; intro a w h
    refine fin1 6 2 h LE.rfl ?_
    exact ⟨by rw [eqBy_at hj20 hj24 (by simpa using c30)], rfl, rfl⟩
   ·have d30 : (q xs[k] ys[k]) = true := cd_ c30
    refine au [1,8,1,7,1,0,0,5] h ?_
    refine inc ?_ h fun a w h => ?_
    ·omega
    refine au [0,0,0,3] h ?_; intro a w h
    have h := h.del 0
    have h := h.del 0
    exact ⟨(k + 1), ⟨⟨by omega, fun j h1 h2 h0 => by rcases upto h0 with h0 | rfl; exact hi j h1 h2 h0; simpa using c30⟩, h.to 0 _⟩, by show _ - (k + 1) < _ - k; omega⟩
  ·have d18 : xs.length ≤ k := cd_ c18
   refine au [2,5,2,2,2,2,2,3,1,0,1,2,0,6,0,3,1,3] h ?_; intro a w h
   refine fin1 6 0 h LE.rfl ?_
   exact ⟨by rw [eqBy_yes d14 fun j h1 h2 => hi j h1 h2 (by omega)], rfl, rfl⟩
theorem SameTr_ok : ∀ (t u : Tr) (v v2 : Value) (E : World) (H : GH) (L : List It), VTr H v t → VTr H v2 u → t.size < 1000000000000 → t.big < 1000000000000 →
   Ok Tryz.prog 11 #[v, v2] E H L fun r H' L' => r = .bool (t.same u) ∧ H = H' ∧ L = L' := by
 intro t
 induction t using Tr.ind with
 | h kd nm nn s b ks ih =>
 intro u v v2 E H L hv hv2 hb hg
 obtain ⟨kd2, nm2, nn2, s2, b2, ks2⟩ := u
 obtain ⟨At0, ct0, At1, ct1, At2, ct2, rfl, ht0, ht1, ht2⟩ := hv
 dsimp only [Tr.kind, Tr.name, Tr.n, Tr.s, Tr.b, Tr.kids] at ht0 ht1 ht2 ⊢
 obtain ⟨Au0, cu0, Au1, cu1, Au2, cu2, rfl, hu0, hu1, hu2⟩ := hv2
 dsimp only [Tr.kind, Tr.name, Tr.n, Tr.s, Tr.b, Tr.kids] at hu0 hu1 hu2 ⊢
 simp only [Tr.size] at hb
 simp only [Tr.big] at hg
 have hlen := tr_len_le ks
 refine enter (N := 47) [(0, _), (1, _)] Tryz.func11 rfl rfl rfl rfl fun a w h => ?_
 refine au [1,2] h ?_
 refine bxA h fun g2 a w h => ?_
 refine bxA h fun g3 a w h => ?_
 refine au [0,6,0,3] h ?_; intro a w h
 refine sqc (fun a w => S E H 47 [] [(2, .pointer (some ⟨g2, 0, none⟩)), (3, .pointer (some ⟨g3, 0, none⟩)), (4, .bool false), (5, .bool (((kd : Int) == kd2) && ((decide (nm = nm2)) && ((nn : Int) == nn2))))] (.obj g3 (.cells #[.int .i64 kd2, str nm2, .int .i64 nn2, .int .i64 s2.kind, .int .i64 s2.n, .slice Au0 s2.kids.length cu0, .int .i64 b2.kind, .int .i64 b2.n, .slice Au1 b2.kids.length cu1, .slice Au2 ks2.length cu2] 34 (0, 0)) :: .obj g2 (.cells #[.int .i64 kd, str nm, .int .i64 nn, .int .i64 s.kind, .int .i64 s.n, .slice At0 s.kids.length ct0, .int .i64 b.kind, .int .i64 b.n, .slice At1 b.kids.length ct1, .slice At2 ks.length ct2] 34 (0, 0)) :: L) a w) ?_ ?_
 ·refine au [0,5,0,7,2,8,0,7,0,8,6,2] h ?_; intro a w h
  refine h.spl (fun c10 h => ?_) (fun c10 h => ?_)
  ·have d10 : kd = kd2 := cd_ c10
   refine au [0,0,0,7,2,8,0,7,0,8,6,8,4,8] h ?_; intro a w h
   refine h.spl (fun c17 h => ?_) (fun c17 h => ?_)
   ·have d17 : nm = nm2 := cd_ c17
    refine au [0,0,0,7,2,8,0,7,0,8,6,2,4,8,0,6,0,3] h ?_; intro a w h
    exact (by show S _ _ _ _ _ _ _ _; rw [show (.bool (((kd : Int) == kd2) && ((decide (nm = nm2)) && ((nn : Int) == nn2))) : Value) = .bool ((nn : Int) == nn2) from Eq.symm (by first | ((try rw [c10]) <;> (try rw [c17]) <;> (try simp only [Bool.true_or, Bool.or_true, Bool.false_or, Bool.or_false, Bool.true_and, Bool.and_true, Bool.false_and, Bool.and_false, Bool.not_true, Bool.not_false, cond_true, cond_false]); done) | (exfalso; omega))]; exact h.to 0 _)
   ·have d17 : nm ≠ nm2 := cd_ c17
    refine au [0,0,0,1,0,1,0,1,0,1,0,1,5,0,0,6,0,3] h ?_; intro a w h
    exact (by show S _ _ _ _ _ _ _ _; rw [show (.bool (((kd : Int) == kd2) && ((decide (nm = nm2)) && ((nn : Int) == nn2))) : Value) = .bool false from Eq.symm (by first | ((try rw [c10]) <;> (try rw [c17]) <;> (try simp only [Bool.true_or, Bool.or_true, Bool.false_or, Bool.or_false, Bool.true_and, Bool.and_true, Bool.false_and, Bool.and_false, Bool.not_true, Bool.not_false, cond_true, cond_false]); done) | (exfalso; omega))]; exact h.to 0 _)
  ·have d10 : kd ≠ kd2 := cd_ c10
   refine au [0,0,0,1,0,1,0,1,0,1,0,1,5,0,0,0,0,1,0,1,0,1,0,1,0,1,5,0,0,6,0,3] h ?_; intro a w h
   exact (by show S _ _ _ _ _ _ _ _; rw [show (.bool (((kd : Int) == kd2) && ((decide (nm = nm2)) && ((nn : Int) == nn2))) : Value) = .bool false from Eq.symm (by first | ((try rw [c10]) <;> (try simp only [Bool.true_or, Bool.or_true, Bool.false_or, Bool.or_false, Bool.true_and, Bool.and_true, Bool.false_and, Bool.and_false, Bool.not_true, Bool.not_false, cond_true, cond_false]); done) | (exfalso; omega))]; exact h.to 0 _)
 ·rintro a w h
  refine sqc (fun a w => S E H 47 [] [(4, .bool ((((kd : Int) == kd2) && ((decide (nm = nm2)) && ((nn : Int) == nn2))) && ((s.same s2) && ((b.same b2) && (eqBy Tr.same ks ks2)))))] (.obj g3 (.cells #[.int .i64 kd2, str nm2, .int .i64 nn2, .int .i64 s2.kind, .int .i64 s2.n, .slice Au0 s2.kids.length cu0, .int .i64 b2.kind, .int .i64 b2.n, .slice Au1 b2.kids.length cu1, .slice Au2 ks2.length cu2] 34 (0, 0)) :: .obj g2 (.cells #[.int .i64 kd, str nm, .int .i64 nn, .int .i64 s.kind, .int .i64 s.n, .slice At0 s.kids.length ct0, .int .i64 b.kind, .int .i64 b.n, .slice At1 b.kids.length ct1, .slice At2 ks.length ct2] 34 (0, 0)) :: L) a w) ?_ ?_
  ·refine au [0,5,0,0] h ?_; intro a w h
   refine h.spl (fun c25 h => ?_) (fun c25 h => ?_)
   ·refine au [0,0,0,7] h ?_; intro a w h
    refine ldN (l := [_, _, _]) 1 tN31 h fun a w h => ?_
    refine fa fl34_3 (r := 3) h fun a w h => ?_
    refine ldN (l := [_, _, _]) 0 tN31 h fun a w h => ?_
    refine cl bod36 (SameSh_ok s s2 _ _ E H _ ⟨At0, ct0, rfl, ht0⟩ ⟨Au0, cu0, rfl, hu0⟩ (by first | assumption | omega)) h (fun r31 H31 L31 a w le31 R h => ?_)
    obtain ⟨rfl, rfl, rfl⟩ := R
    refine pkT h fun a w h => ?_
    refine h.spl (fun c32 h => ?_) (fun c32 h => ?_)
    ·refine au [0,0,0,7] h ?_; intro a w h
     refine ldN (l := [_, _, _]) 1 tN31 h fun a w h => ?_
     refine fa fl34_4 (r := 6) h fun a w h => ?_
     refine ldN (l := [_, _, _]) 0 tN31 h fun a w h => ?_
     refine cl bod36 (SameSh_ok b b2 _ _ E H _ ⟨At1, ct1, rfl, ht1⟩ ⟨Au1, cu1, rfl, hu1⟩ (by first | assumption | omega)) h (fun r38 H38 L38 a w le38 R h => ?_)
     obtain ⟨rfl, rfl, rfl⟩ := R
     refine pkT h fun a w h => ?_
     refine h.spl (fun c39 h => ?_) (fun c39 h => ?_)
     ·refine au [0,0,0,7,2,8,0,7,0,8] h ?_; intro a w h
      refine cl bod37 (EqualFunc_Tr_ok ks ks2 _ _ _ _ Tr.same 11 #[] E H _ ht2 hu2 (by omega) bod11 (fun j hj hj2 v v2 L2 hv hv2 => ih _ (List.getElem_mem hj) _ v v2 E _ L2 hv hv2 (by have := tr_size_le (List.getElem_mem hj); omega) (by have := big_le (List.getElem_mem hj); omega))) h (fun r45 H45 L45 a w le45 R h => ?_)
      obtain ⟨rfl, rfl, rfl⟩ := R
      refine au [4,8,0,6,0,3] h ?_; intro a w h
      exact (by show S _ _ _ _ _ _ _ _; rw [show (.bool ((((kd : Int) == kd2) && ((decide (nm = nm2)) && ((nn : Int) == nn2))) && ((s.same s2) && ((b.same b2) && (eqBy Tr.same ks ks2)))) : Value) = .bool (eqBy Tr.same ks ks2) from Eq.symm (by first | ((try rw [c25]) <;> (try rw [c32]) <;> (try rw [c39]) <;> (try simp only [Bool.true_or, Bool.or_true, Bool.false_or, Bool.or_false, Bool.true_and, Bool.and_true, Bool.false_and, Bool.and_false, Bool.not_true, Bool.not_false, cond_true, cond_false]); done) | (exfalso; omega))]; exact h.to 0 _)
     ·refine au [0,0,0,1,0,1,0,1,0,1,0,1,5,0,0,6,0,3] h ?_; intro a w h
      exact (by show S _ _ _ _ _ _ _ _; rw [show (.bool ((((kd : Int) == kd2) && ((decide (nm = nm2)) && ((nn : Int) == nn2))) && ((s.same s2) && ((b.same b2) && (eqBy Tr.same ks ks2)))) : Value) = .bool false from Eq.symm (by first | ((try rw [c25]) <;> (try rw [c32]) <;> (try rw [c39]) <;> (try simp only [Bool.true_or, Bool.or_true, Bool.false_or, Bool.or_false, Bool.true_and, Bool.and_true, Bool.false_and, Bool.and_false, Bool.not_true, Bool.not_false, cond_true, cond_false]); done) | (exfalso; omega))]; exact h.to 0 _)
    ·refine au [0,0,0,1,0,1,0,1,0,1,0,1,5,0,0,0,0,1,0,1,0,1,0,1,0,1,5,0,0,6,0,3] h ?_; intro a w h
     exact (by show S _ _ _ _ _ _ _ _; rw [show (.bool ((((kd : Int) == kd2) && ((decide (nm = nm2)) && ((nn : Int) == nn2))) && ((s.same s2) && ((b.same b2) && (eqBy Tr.same ks ks2)))) : Value) = .bool false from Eq.symm (by first | ((try rw [c25]) <;> (try rw [c32]) <;> (try simp only [Bool.true_or, Bool.or_true, Bool.false_or, Bool.or_false, Bool.true_and, Bool.and_true, Bool.false_and, Bool.and_false, Bool.not_true, Bool.not_false, cond_true, cond_false]); done) | (exfalso; omega))]; exact h.to 0 _)
   ·refine au [0,0,0,1,0,1,0,1,0,1,0,1,5,0,0,0,0,1,0,1,0,1,0,1,0,1,5,0,0,0,0,1,0,1,0,1,0,1,0,1,5,0,0,6,0,3] h ?_; intro a w h
    exact (by show S _ _ _ _ _ _ _ _; rw [show (.bool ((((kd : Int) == kd2) && ((decide (nm = nm2)) && ((nn : Int) == nn2))) && ((s.same s2) && ((b.same b2) && (eqBy Tr.same ks ks2)))) : Value) = .bool false from Eq.symm (by first | ((try rw [c25]) <;> (try simp only [Bool.true_or, Bool.or_true, Bool.false_or, Bool.or_false, Bool.true_and, Bool.and_true, Bool.false_and, Bool.and_false, Bool.not_true, Bool.not_false, cond_true, cond_false]); done) | (exfalso; omega))]; exact h.to 0 _)
  ·rintro a w h
   refine ret_ ?_
   refine fin1 4 2 h LE.rfl ?_
   exact ⟨by simp only [Tr.same]; rw [← sameTL_eqBy]; (try simp only [Bool.and_assoc]), rfl, rfl⟩
theorem Text_ok : ∀ (t : Sh) (v : Value) (E : World) (H : GH) (L : List It), Laid H → VSh H v t → t.size < 1000000000 → (t.right = true → HlOk t) →
   Ok Tryz.prog 26 #[v] E H L fun r H' L' => r = str t.text ∧ H = H' ∧ L = L' := by
 intro t
 induction t using Sh.ind with
 | h kd nn ks ih =>
 intro v E H L hL hv hb hh
 obtain ⟨At0, ct0, rfl, ht0⟩ := hv
 dsimp only [Sh.kind, Sh.n, Sh.kids] at ht0 ⊢
 have hb0 := hb
 simp only [Sh.size] at hb
 refine enter (N := 32) [(0, _)] Tryz.func26 rfl rfl rfl rfl fun a w h => ?_
 refine au [1,2] h ?_
 refine bxA h fun g1 a w h => ?_
 refine au [0,6,0,3,0,4,1,2,3,3] h ?_; intro a w h
 refine cl bod55 (RightSh_ok (Sh.mk kd nn ks : Sh) _ E H _ ⟨At0, ct0, rfl, ht0⟩ (by first | assumption | omega)) h (fun r4 H4 L4 a w le4 R h => ?_)
 obtain ⟨rfl, rfl, rfl⟩ := R
 refine au [7,1,0,3] h ?_; intro a w h
 refine cdB h (fun c5 => ?_) (fun c5 => ?_)
 ·have d5 : (Sh.mk kd nn ks : Sh).right = false := cd_ c5
  refine au [1,2,0,6,0,3,1,3,1,4] h ?_; intro a w h
  refine fin1 2 1 h LE.rfl ?_
  exact ⟨by simp only [Sh.text]; rw [if_neg (by simpa using c5)], rfl, rfl⟩
 ·have d5 : (Sh.mk kd nn ks : Sh).right = true := cd_ c5
  have hrt : (Sh.mk kd nn ks).right = true := by simpa using c5
  obtain ⟨hn0, hk1, hk4, hnk, hk3, hkr⟩ := right_n0 hrt
  have hho := hh hrt
  refine au [1,8,1,0,0,4,1,2,0,7,0,8,0,3,1,5,1,2,6,2,0,6,0,3] h ?_; intro a w h
  refine cdB h (fun c8 => ?_) (fun c8 => ?_)
  ·have d8 : kd = 1 := cd_ c8
   refine au [1,2,0,6,0,3,1,3,1,6,1,4] h ?_; intro a w h
   refine fin1 2 1 h LE.rfl ?_
   exact ⟨by simp only [Sh.text, Sh.textR]; rw [if_pos (by simpa using c5)]; simp [d8], rfl, rfl⟩
  ·have d8 : kd ≠ 1 := cd_ c8
   refine au [1,2,6,2,0,6,0,3] h ?_; intro a w h
   refine cdB h (fun c10 => ?_) (fun c10 => ?_)
   ·have d10 : kd = 2 := cd_ c10
    refine au [1,2,0,6,0,3,1,3,1,6,1,4] h ?_; intro a w h
    refine fin1 2 1 h LE.rfl ?_
    exact ⟨by simp only [Sh.text, Sh.textR]; rw [if_pos (by simpa using c5)]; simp [d8, d10], rfl, rfl⟩
   ·have d10 : kd ≠ 2 := cd_ c10
    refine au [1,2,6,2,0,6,0,3] h ?_; intro a w h
    refine cdB h (fun c12 => ?_) (fun c12 => ?_)
    ·have d12 : kd = 4 := cd_ c12
     have hnm := hho nn (by simp [Sh.hl, d12])
     have hil := Lib.itoa_length_le nn (by omega) hnm
     refine au [1,2,0,7,0,8] h ?_; intro a w h
     refine cl bod56 (Itoa_ok nn E H _ (hL.up le_) (by omega) (by omega)) h (fun r16 H16 L16 a w le16 R h => ?_)
     obtain ⟨rfl, rfl, rfl⟩ := R
     refine catB h ?_ fun a w h => ?_
     ·(try simp only [List.length_append, List.length_cons, List.length_nil]); omega
     refine au [0,6,0,3,1,3,1,6,1,4] h ?_; intro a w h
     refine fin1 2 1 h LE.rfl ?_
     exact ⟨by simp only [Sh.text, Sh.textR]; rw [if_pos (by simpa using c5)]; simp [d8, d10, d12], rfl, rfl⟩
    ·have d12 : kd ≠ 4 := cd_ c12
     have hc3 : kd = 3 := by omega
     have hkl := hk3 hc3
     refine au [1,8,1,7,1,0,0,4] h ?_
     refine rgx [0] [_] [1, 3, 8, 10] 15 mix h (fun a w h => ?_)
     refine au [8,0,0,7,2,6,8,1,3,8,2,6,8,2] h ?_; intro a w h
     have hj20 : 0 < ks.length := by first | assumption | omega | (simp; done) | (simp; omega)
     obtain ⟨g20, o20, A20_0, c20_0, e20, hv20, hc20⟩ := HS.get ht0 hj20
     obtain ⟨_, _, q20, hk20_0⟩ := hv20; cases q20
     refine iaE sli29 sz31 rfl hj20 e20 h fun a w h => ?_
     refine au [2,6,8,3] h ?_
     refine ldHNT tN31 rfl hc20 h fun a w h => ?_
     refine au [2,6,8,7,0,7,2,6,8,8,3,8,2,6,8,9] h ?_; intro a w h
     have hj27 : 1 < ks.length := by first | assumption | omega | (simp; done) | (simp; omega)
     obtain ⟨g27, o27, A27_0, c27_0, e27, hv27, hc27⟩ := HS.get ht0 hj27
     obtain ⟨_, _, q27, hk27_0⟩ := hv27; cases q27
     refine iaE sli29 sz31 rfl hj27 e27 h fun a w h => ?_
     refine au [2,6,8,10] h ?_
     refine ldHNT tN31 rfl hc27 h fun a w h => ?_
     refine tk0 ?_
     refine bg1 4 true h ?_
     refine clG bod26 (ih _ (List.getElem_mem hj20) _ E H _ (hL.up le_) ⟨A20_0, c20_0, rfl, hk20_0⟩ (by have := sh_size_le (List.getElem_mem hj20); omega) (fun _ => hho.kid (List.getElem_mem _))) h (fun r22 H22 L22 a w le22 R h => ?_)
     obtain ⟨rfl, rfl, rfl⟩ := R
     refine au [2,7,8,5] h ?_
     have htl22 : (ks[0].text).length ≤ 24 * ks[0].size := by simp only [Sh.text]; rw [if_pos (hkr _ (List.getElem_mem hj20))]; exact text_len _ (hkr _ (List.getElem_mem hj20)) (hho.kid (List.getElem_mem hj20))
     have hsz2 : ks[0].size + ks[1].size ≤ sizeSL ks := by match ks, hkl with | [a, b], _ => simp [sizeSL]
     refine catB h ?_ fun a w h => ?_
     ·(try simp only [List.length_append, List.length_cons, List.length_nil]); omega
     refine au [2,6,8,6] h ?_
     refine catB h ?_ fun a w h => ?_
     ·(try simp only [List.length_append, List.length_cons, List.length_nil]); omega
     refine tk0 ?_
     refine bg1 11 true h ?_
     refine clG bod26 (ih _ (List.getElem_mem hj27) _ E H _ (hL.up le_) ⟨A27_0, c27_0, rfl, hk27_0⟩ (by have := sh_size_le (List.getElem_mem hj27); omega) (fun _ => hho.kid (List.getElem_mem _))) h (fun r29 H29 L29 a w le29 R h => ?_)
     obtain ⟨rfl, rfl, rfl⟩ := R
     refine au [2,7,8,12] h ?_
     have htl29 : (ks[1].text).length ≤ 24 * ks[1].size := by simp only [Sh.text]; rw [if_pos (hkr _ (List.getElem_mem hj27))]; exact text_len _ (hkr _ (List.getElem_mem hj27)) (hho.kid (List.getElem_mem hj27))
     refine catB h ?_ fun a w h => ?_
     ·(try simp only [List.length_append, List.length_cons, List.length_nil]); omega
     refine au [2,6,8,13] h ?_
     refine catB h ?_ fun a w h => ?_
     ·(try simp only [List.length_append, List.length_cons, List.length_nil]); omega
     refine au [2,6,8,14,0,6,2,6] h ?_; intro a w h
     refine en (by kernel_rfl) ?_
     refine au [1,0,1,3] h ?_
     refine fin1 2 1 h LE.rfl ?_
     exact ⟨by simp only [Sh.text, Sh.textR]; rw [if_pos hrt, textRL_at hj20, textRL_at hj27, if_pos (hkr _ (List.getElem_mem hj20)), if_pos (hkr _ (List.getElem_mem hj27))]; simp [d8, d10, d12], rfl, rfl⟩
mutual
def Tm.bs : Tm → List Bs
 | .mk k s _ ks => (if bnd k then [s] else []) ++ bsL ks
def bsL : List Tm → List Bs
 | [] => []
 | t :: l => t.bs ++ bsL l
end
theorem dec_inj : ∀ (u v : Nat), Lib.decDigits u = Lib.decDigits v → u = v := by
 intro u
 induction u using Nat.strongRecOn with
 | _ u ih =>
   intro v h
   have key : ∀ a b : Nat, a < 10 → b < 10 → UInt8.ofNat (48 + a) = UInt8.ofNat (48 + b) → a = b := by
     intro a b ha hb e
     have := congrArg UInt8.toNat e
     simp [UInt8.toNat_ofNat'] at this; omega
   by_cases hu : u < 10
   · by_cases hv : v < 10
     · rw [Lib.decDigits, dif_pos hu, Lib.decDigits, dif_pos hv] at h
       exact key u v hu hv (by simpa using h)
     · rw [Lib.decDigits, dif_pos hu] at h
       rw [show Lib.decDigits v = Lib.decDigits (v / 10) ++ [UInt8.ofNat (48 + v % 10)] by rw [Lib.decDigits, dif_neg hv]] at h
       obtain ⟨c, l, e, _⟩ := numB_dec (v / 10)
       rw [e] at h; simp at h
   · by_cases hv : v < 10
     · rw [show Lib.decDigits v = [UInt8.ofNat (48 + v)] by rw [Lib.decDigits, dif_pos hv]] at h
       rw [show Lib.decDigits u = Lib.decDigits (u / 10) ++ [UInt8.ofNat (48 + u % 10)] by rw [Lib.decDigits, dif_neg hu]] at h
       obtain ⟨c, l, e, _⟩ := numB_dec (u / 10)
       rw [e] at h; simp at h
     · rw [show Lib.decDigits v = Lib.decDigits (v / 10) ++ [UInt8.ofNat (48 + v % 10)] by rw [Lib.decDigits, dif_neg hv], show Lib.decDigits u = Lib.decDigits (u / 10) ++ [UInt8.ofNat (48 + u % 10)] by rw [Lib.decDigits, dif_neg hu]] at h
       obtain ⟨h1, h2⟩ := List.append_inj' h rfl
       have e1 := ih (u / 10) (by omega) (v / 10) h1
       have e2 := key (u % 10) (v % 10) (by omega) (by omega) (by simpa using h2)
       omega
theorem itoa_inj {m n : Int} (hm : 0 ≤ m) (hn : 0 ≤ n) (h : Lib.itoa m = Lib.itoa n) : m = n := by
 unfold Lib.itoa at h
 rw [if_neg (by omega), if_neg (by omega)] at h
 have := dec_inj _ _ h; omega
def nums (n : Int) (c : Nat) : List Bs := (List.range c).map fun (i : Nat) => Lib.itoa (n + (i : Int))
theorem nums_add (n : Int) (a b : Nat) : nums n (a + b) = nums n a ++ nums (n + a) b := by
 unfold nums
 rw [List.range_add, List.map_append, List.map_map]
 congr 1
 apply List.map_congr_left
 intro i _
 simp only [Function.comp]
 congr 1; omega
mutual
theorem bs_ren : ∀ (t : Tm) (σ : Bs → Option Bs) (n : Int), Fit n t.count → (t.ren σ n).1.bs = nums n t.count
 | .mk k s m ks, σ, n, hf => by
   simp only [Tm.count] at hf
   simp only [Tm.ren, Tm.bs, Tm.count]
   by_cases hb : bnd k = true
   · rw [if_pos hb] at hf ⊢
     have e := nx_fit (n := n) (c := countL ks) (by unfold Fit at *; omega)
     rw [if_pos hb, if_pos hb, e, bsL_ren _ _ _ ks σ (n + 1) (by unfold Fit at *; omega), nums_add]
     congr 1
     · simp [nums, renN, hb]
   · rw [if_neg hb] at hf ⊢
     rw [if_neg hb, if_neg hb, bsL_ren _ _ _ ks σ n (by unfold Fit at *; omega)]
     simp
theorem bsL_ren (bd : Bool) (s s' : Bs) : ∀ (l : List Tm) (σ : Bs → Option Bs) (n : Int), Fit n (countL l) → bsL (renL bd s s' l σ n).1 = nums n (countL l)
 | [], _, _, _ => rfl
 | t :: l, σ, n, hf => by
   simp only [countL] at hf
   have ft : Fit n t.count := by unfold Fit at *; omega
   have e := ren_num t (if (bd && l.isEmpty) = true then updS σ s s' else σ) n ft
   simp only [renL, bsL, countL]
   rw [bs_ren t _ n ft, e, bsL_ren bd s s' l σ (n + t.count) (by unfold Fit at *; omega), nums_add]
end
def finS (l : List Bd) (s : Sh) : Sh := (s.ap (look l)).ap fun _ => some wh
theorem fin_wh (l : List Bd) : finS l wh = wh := by simp [finS, wh, Sh.ap, apL]
theorem fin_ce (l : List Bd) : finS l ce = ce := by simp [finS, ce, Sh.ap, apL]
theorem fin_z (l : List Bd) : finS l (.mk 0 0 []) = .mk 0 0 [] := by simp [finS, Sh.ap, apL]
theorem fin_fu (l : List Bd) (a b : Sh) : finS l (fu a b) = fu (finS l a) (finS l b) := by simp [finS, fu, Sh.ap, apL]
theorem fin_eq {l l' : List Bd} {a b : Sh} (hm : More l l') (ha : a.right = true) (hb : b.right = true) (h : a.ap (look l) = b.ap (look l)) : finS l' a = finS l' b := by
 unfold finS; rw [← hm a ha, ← hm b hb, h]
theorem same_snd {e e' : Es} {a b : Sh} (he : EOk e) (hu : UArg e.sub a b) (h : e.same a b = some e') : More e.sub e'.sub ∧ ∀ l, More e'.sub l → finS l a = finS l b := by
 obtain ⟨f, hf⟩ := uniR_ex hu.ord hu.ra hu.rb
 unfold Es.same at h
 rw [Option.map_eq_some_iff] at h
 obtain ⟨l, hl, rfl⟩ := h
 rw [hl] at hf
 obtain ⟨_, h2, h3⟩ := uni_sound f _ _ _ _ hf he.ord hu.ra hu.rb
 exact ⟨h2, fun l' hm => fin_eq hm hu.ra hu.rb h3⟩
def Rule (kd : Int) (s b k0 k1 k2 : Sh) : Prop :=
 (kd = 1 → s = wh) ∧ (kd = 3 → s = fu b k0) ∧ (kd = 4 → k0 = fu k1 s) ∧ (kd = 5 → b = k0 ∧ s = k1) ∧ (kd = 6 → k0 = wh ∧ k1 = s ∧ k2 = s) ∧ (kd = 7 → k0 = wh ∧ s = wh) ∧ (kd = 8 → k0 = wh) ∧ (kd = 9 → k0 = s ∧ k1 = s ∧ b = wh) ∧ (kd = 10 → k0 = ce ∧ s = wh) ∧
 (kd = 11 → k0 = ce ∧ k1 = wh ∧ s = wh) ∧ (kd = 12 → k0 = wh ∧ k1 = wh ∧ s = wh) ∧ (kd = 13 → s = k1)
abbrev zS : Sh := .mk 0 0 []
theorem shape_snd {M : Nat} {e e' : Es} {kd : Int} {nm : Bs} {b s : Sh} {ss : List Sh} (he : EOk e) (hk : ∀ i, i < ss.length → Gd1 M e.nx (ss.getD i zS)) (hnm : kd = 2 → (e.nm nm).isSome = true)
   (hl : (kd = 3 ∨ kd = 8 ∨ kd = 7 ∨ kd = 10 → 0 < ss.length) ∧ (kd = 4 ∨ kd = 9 ∨ kd = 11 ∨ kd = 12 ∨ kd = 5 ∨ kd = 13 → 1 < ss.length) ∧ (kd = 6 → 2 < ss.length)) (hM : M + 2 ≤ 10000000) (hM1 : 1 ≤ M) (hn : e.nx + 1 ≤ 1000000000)
   (h5b : kd = 5 → b = ss.getD 0 zS) (h9b : kd = 9 → b = wh) (h : e.shape kd nm b ss = some (e', s)) :
   More e.sub e'.sub ∧ (kd = 2 → e.nm nm = some s) ∧ ∀ l, Ord l → More e'.sub l → Rule kd (finS l s) (finS l b) (finS l (ss.getD 0 zS)) (finS l (ss.getD 1 zS)) (finS l (ss.getD 2 zS)) := by
 have g := hk
 have wM : Gd1 M e.nx wh := gd_wh hM1
 have cM : Gd1 M e.nx ce := gd_ce hM1
 have sm : ∀ {a b : Sh} {e1 e2 : Es}, EOk e1 → e1.nx = e.nx → Gd1 M e.nx a → Gd1 M e.nx b → e1.same a b = some e2 → EOk e2 ∧ e2.nx = e1.nx ∧ More e1.sub e2.sub ∧ ∀ l, More e2.sub l → finS l a = finS l b := fun h1 _ ha hb h => by
   have u := uarg_gd h1 ha hb (by omega) (by omega)
   obtain ⟨q1, q2, _⟩ := same_eok h1 u h
   exact ⟨q1, q2, same_snd h1 u h⟩
 unfold Es.shape at h
 unfold Es.shape3 at h
 by_cases h2 : kd = 2
 · subst h2
   rw [if_pos rfl] at h
   obtain ⟨s0, e0⟩ := Option.isSome_iff_exists.1 (hnm rfl)
   simp only [e0, Option.getD_some, Option.some.injEq, Prod.mk.injEq] at h
   obtain ⟨rfl, rfl⟩ := h
   exact ⟨More.refl he.ord, fun _ => e0, fun l ho hm => by simp [Rule, -List.getD_eq_getElem?_getD]⟩
 rw [if_neg h2] at h
 by_cases h3 : kd = 3
 · subst h3
   rw [if_pos rfl] at h
   simp only [Option.some.injEq, Prod.mk.injEq] at h
   obtain ⟨rfl, rfl⟩ := h
   exact ⟨More.refl he.ord, by simp, fun l ho hm => by simp [Rule, fin_fu, -List.getD_eq_getElem?_getD]⟩
 rw [if_neg h3] at h
 by_cases h4 : kd = 4
 · subst h4
   rw [if_pos rfl] at h
   rw [Option.map_eq_some_iff] at h
   obtain ⟨e1, h1, h⟩ := h
   simp only [Prod.mk.injEq] at h
   obtain ⟨rfl, rfl⟩ := h
   have g0 := (g 0 (by have := hl.2.1 (.inl rfl); omega)).mono (M' := M + 2) (nx' := e.hole.1.nx) (by omega) (by simp only [Es.hole]; omega)
   have g1 := (g 1 (hl.2.1 (.inl rfl))).mono (M' := M) (nx' := e.hole.1.nx) (by omega) (by simp only [Es.hole]; omega)
   have gh : Gd1 1 e.hole.1.nx e.hole.2 := gd_hole (Nat.le_refl _)
   obtain ⟨q1, q2⟩ := same_snd (hole_eok he) (uarg_gd (hole_eok he) g0 (gd_fu g1 gh (by omega)) (by omega) (by simp only [Es.hole]; omega)) h1
   refine ⟨q1, by simp, fun l ho hm => ?_⟩
   have := q2 l hm
   rw [fin_fu] at this
   simp [Rule, this, -List.getD_eq_getElem?_getD]
 rw [if_neg h4] at h
 by_cases h6 : kd = 6
 · subst h6
   rw [if_pos rfl] at h
   have l6 := hl.2.2 rfl
   rw [Option.bind_eq_some_iff] at h
   obtain ⟨e1, h1, h⟩ := h
   rw [Option.map_eq_some_iff] at h
   obtain ⟨e2, h2, h⟩ := h
   simp only [Prod.mk.injEq] at h
   obtain ⟨rfl, rfl⟩ := h
   obtain ⟨q1, q2, q3, q4⟩ := sm he rfl (g 0 (by omega)) wM h1
   obtain ⟨r1, r2, r3, r4⟩ := sm q1 q2 (g 1 (by omega)) (g 2 (by omega)) h2
   refine ⟨q3.trans he.ord q1.ord r3, by simp, fun l ho hm => ?_⟩
   have a1 := q4 l (r3.trans q1.ord r1.ord hm)
   have a2 := r4 l hm
   rw [fin_wh] at a1
   simp only [Rule]
   simp [a1, a2, -List.getD_eq_getElem?_getD]
 rw [if_neg h6] at h
 by_cases h8 : kd = 8
 · subst h8
   rw [if_pos rfl] at h
   have l8 := hl.1 (.inr (.inl rfl))
   rw [Option.map_eq_some_iff] at h
   obtain ⟨e1, h1, h⟩ := h
   obtain ⟨q1, q2, q3, q4⟩ := sm he rfl (g 0 l8) wM h1
   have e1' : e' = e1.hole.1 := by rw [h]
   subst e1'
   refine ⟨q3, by simp, fun l ho hm => ?_⟩
   have a1 := q4 l hm
   rw [fin_wh] at a1
   simp only [Rule]; simp [a1, -List.getD_eq_getElem?_getD]
 rw [if_neg h8] at h
 by_cases h9 : kd = 9
 · subst h9
   rw [if_pos rfl] at h
   have l9 := hl.2.1 (.inr (.inl rfl))
   rw [Option.map_eq_some_iff] at h
   obtain ⟨e1, h1, h⟩ := h
   simp only [Prod.mk.injEq] at h
   obtain ⟨rfl, rfl⟩ := h
   obtain ⟨q1, q2, q3, q4⟩ := sm he rfl (g 0 (by omega)) (g 1 l9) h1
   refine ⟨q3, by simp, fun l ho hm => ?_⟩
   have a1 := q4 l hm
   have a2 := h9b rfl
   subst a2
   simp only [Rule]; simp [a1, fin_wh, -List.getD_eq_getElem?_getD]
 rw [if_neg h9] at h
 by_cases h7 : kd = 7
 · subst h7
   rw [if_pos rfl] at h
   have l7 := hl.1 (.inr (.inr (.inl rfl)))
   rw [Option.map_eq_some_iff] at h
   obtain ⟨e1, h1, h⟩ := h
   simp only [Prod.mk.injEq] at h
   obtain ⟨rfl, rfl⟩ := h
   obtain ⟨q1, q2, q3, q4⟩ := sm he rfl (g 0 l7) wM h1
   refine ⟨q3, by simp, fun l ho hm => ?_⟩
   have a1 := q4 l hm
   rw [fin_wh] at a1
   simp only [Rule]; simp [a1, fin_wh, -List.getD_eq_getElem?_getD]
 rw [if_neg h7] at h
 by_cases h10 : kd = 10
 · subst h10
   rw [if_pos rfl] at h
   have l10 := hl.1 (.inr (.inr (.inr rfl)))
   rw [Option.map_eq_some_iff] at h
   obtain ⟨e1, h1, h⟩ := h
   simp only [Prod.mk.injEq] at h
   obtain ⟨rfl, rfl⟩ := h
   obtain ⟨q1, q2, q3, q4⟩ := sm he rfl (g 0 l10) cM h1
   refine ⟨q3, by simp, fun l ho hm => ?_⟩
   have a1 := q4 l hm
   rw [fin_ce] at a1
   simp only [Rule]; simp [a1, fin_wh, -List.getD_eq_getElem?_getD]
 rw [if_neg h10] at h
 by_cases h11 : kd = 11
 · subst h11
   rw [if_pos rfl] at h
   have l11 := hl.2.1 (.inr (.inr (.inl rfl)))
   rw [Option.bind_eq_some_iff] at h
   obtain ⟨e1, h1, h⟩ := h
   rw [Option.map_eq_some_iff] at h
   obtain ⟨e2, h2, h⟩ := h
   simp only [Prod.mk.injEq] at h
   obtain ⟨rfl, rfl⟩ := h
   obtain ⟨q1, q2, q3, q4⟩ := sm he rfl (g 0 (by omega)) cM h1
   obtain ⟨r1, r2, r3, r4⟩ := sm q1 q2 (g 1 l11) wM h2
   refine ⟨q3.trans he.ord q1.ord r3, by simp, fun l ho hm => ?_⟩
   have a1 := q4 l (r3.trans q1.ord r1.ord hm)
   have a2 := r4 l hm
   rw [fin_ce] at a1; rw [fin_wh] at a2
   simp only [Rule]; simp [a1, a2, fin_wh, -List.getD_eq_getElem?_getD]
 rw [if_neg h11] at h
 by_cases h12 : kd = 12
 · subst h12
   rw [if_pos rfl] at h
   have l12 := hl.2.1 (.inr (.inr (.inr (.inl rfl))))
   rw [Option.bind_eq_some_iff] at h
   obtain ⟨e1, h1, h⟩ := h
   rw [Option.map_eq_some_iff] at h
   obtain ⟨e2, h2, h⟩ := h
   simp only [Prod.mk.injEq] at h
   obtain ⟨rfl, rfl⟩ := h
   obtain ⟨q1, q2, q3, q4⟩ := sm he rfl (g 0 (by omega)) wM h1
   obtain ⟨r1, r2, r3, r4⟩ := sm q1 q2 (g 1 l12) wM h2
   refine ⟨q3.trans he.ord q1.ord r3, by simp, fun l ho hm => ?_⟩
   have a1 := q4 l (r3.trans q1.ord r1.ord hm)
   have a2 := r4 l hm
   rw [fin_wh] at a1 a2
   simp only [Rule]; simp [a1, a2, fin_wh, -List.getD_eq_getElem?_getD]
 rw [if_neg h12] at h
 by_cases h5 : kd = 5 ∨ kd = 13
 · rw [if_pos h5] at h
   simp only [Option.some.injEq, Prod.mk.injEq] at h
   obtain ⟨rfl, rfl⟩ := h
   refine ⟨More.refl he.ord, fun h => absurd h h2, fun l ho hm => ?_⟩
   rcases h5 with rfl | rfl
   · have := h5b rfl
     subst this
     simp only [Rule]; simp
   · simp only [Rule]; simp
 · rw [if_neg h5] at h
   simp only [not_or] at h5
   simp only [Option.some.injEq, Prod.mk.injEq] at h
   obtain ⟨rfl, rfl⟩ := h
   exact ⟨More.refl he.ord, fun h => absurd h h2, fun l ho hm => by simp only [Rule]; simp [*, fin_wh, -List.getD_eq_getElem?_getD]⟩
def sAt (ks : List Tr) (i : Nat) : Sh := (ks.map Tr.s).getD i zS
mutual
def Tr.ok (G : Bs → Option Sh) (f : Sh → Sh) : Tr → Prop
 | .mk kd nm n s b ks => arB kd ks.length = true ∧ Rule kd (f s) (f b) (f (sAt ks 0)) (f (sAt ks 1)) (f (sAt ks 2)) ∧ (kd = 2 → G nm = some (f s)) ∧ (bnd kd = true → G nm = some (f b)) ∧ (bnd kd = false → b = zS) ∧ okL G f ks
def okL (G : Bs → Option Sh) (f : Sh → Sh) : List Tr → Prop
 | [] => True
 | t :: l => t.ok G f ∧ okL G f l
end
theorem okL_snoc {G : Bs → Option Sh} {f : Sh → Sh} {t : Tr} : ∀ {l : List Tr}, okL G f l → t.ok G f → okL G f (l ++ [t])
 | [], _, h => ⟨h, trivial⟩
 | u :: l, h, ht => ⟨h.1, okL_snoc h.2 ht⟩
theorem okL_mem {G : Bs → Option Sh} {f : Sh → Sh} : ∀ {l : List Tr}, okL G f l ↔ ∀ t ∈ l, t.ok G f
 | [] => by simp [okL]
 | u :: l => by simp [okL, okL_mem (l := l)]
def NmLe (a b : Bs → Option Sh) : Prop := ∀ x s, a x = some s → b x = some s
structure Snd (e e' : Es) (bs : List Bs) : Prop where
 more : More e.sub e'.sub
 le : NmLe e.nm e'.nm
 dom : ∀ x, (e'.nm x).isSome = true → (e.nm x).isSome = true ∨ x ∈ bs
theorem kd_b {e : Es} {kd : Int} {acc : List Tr} : (kd = 9 → (e.bound kd acc).2 = wh) ∧ (kd = 5 → (e.bound kd acc).2 = (acc.map Tr.s).headD zS) := by
 refine ⟨fun h => ?_, fun h => ?_⟩ <;> subst h <;> rfl
theorem bound_sub (e : Es) (kd : Int) (acc : List Tr) : (e.bound kd acc).1.sub = e.sub ∧ (e.bound kd acc).1.nm = e.nm := by
 unfold Es.bound
 split
 · exact ⟨rfl, rfl⟩
 · split <;> exact ⟨rfl, rfl⟩
theorem pre_sub (e : Es) (kd : Int) (nm : Bs) (b : Sh) (acc : List Tr) (q : Bool) : (e.pre kd nm b acc q).1.sub = e.sub := by
 unfold Es.pre
 split
 · exact (bound_sub e kd acc).1
 · rfl
mutual
theorem el_snd : ∀ (t : Tm) (e e' : Es) (r : Tr) (M : Nat) (K : Bs → Bool), t.el e = some (e', r) → t.okn K = true → (∀ x, K x = true → (e.nm x).isSome = true) → Inv M e → 1 ≤ M → M + 2 * t.size ≤ 10000000 → e.nx + 4 * t.size ≤ 1000000000 →
   t.bs.Nodup → (∀ x ∈ t.bs, e.nm x = none) → Snd e e' t.bs ∧ ∀ l nmF, Ord l → More e'.sub l → NmLe e'.nm nmF → r.ok (fun x => (nmF x).map (finS l)) (finS l)
 | .mk kd nm n ks, e, e', r, M, K, h, hk, hK, hi, hM, hMs, hn, hd, hf => by
   have hinv := el_inv (.mk kd nm n ks) e e' r M K h hk hK hi hM hMs hn
   simp only [Tm.el] at h
   simp only [Tm.okn, Bool.and_eq_true] at hk
   obtain ⟨ha, hk2, hk3⟩ := hk
   have hl3 : ks.length ≤ 3 := by have := arB_cases ha; omega
   simp only [Tm.size] at hMs hn
   simp only [Tm.bs] at hd hf
   split at h
   · cases h
   · rename_i e1 b ts h1
     split at h
     · cases h
     · rename_i e2 s h2
       simp only [Option.some.injEq, Prod.mk.injEq] at h
       obtain ⟨rfl, rfl⟩ := h
       have hk0 : KidsOk kd ks.length M e (.mk 0 0 []) [] := ⟨hi, fun t ht => (by cases ht), hM, fun _ h => absurd rfl h⟩
       obtain ⟨g1, g2, g3, g4, g5⟩ := elL_inv kd nm ks e (.mk 0 0 []) [] e1 b ts M K ks.length h1 ha (by simp) hk3 hK hk0 hM (by omega) (by omega)
       have hd2 : (bsL ks).Nodup := (List.nodup_append.1 hd).2.1
       have hd3 : bnd kd = true → nm ∉ bsL ks ∧ e.nm nm = none := fun hb => by
         rw [if_pos hb] at hd hf
         exact ⟨fun hm => (List.nodup_append.1 hd).2.2 nm (by simp) nm hm rfl, hf nm (by simp)⟩
       obtain ⟨a1, a2, a3, a4⟩ := elL_snd kd nm ks e (.mk 0 0 []) [] e1 b ts M K ks.length h1 ha (by simp) hk3 hK hk0 hM (by omega) (by omega) hd2 hd3 (fun x hx => hf x (List.mem_append_right _ hx))
       have hts : ts.length = ks.length := g2
       have hgt : ∀ i, i < (ts.map Tr.s).length → Gd1 (M + 2 * sizeL ks) e1.nx ((ts.map Tr.s).getD i zS) := fun i hi => by
         rw [List.getD_eq_getElem?_getD, List.getElem?_eq_getElem hi, Option.getD_some, List.getElem_map]
         exact (g1.accs _ (List.getElem_mem _)).s
       have ha' : arB kd ts.length = true := by rw [hts]; exact ha
       obtain ⟨s1, s2, s3⟩ := shape_snd (M := M + 2 * sizeL ks) (e := e1) (e' := e2) (kd := kd) (nm := nm) (b := b) (s := s) (ss := ts.map Tr.s) g1.inv.ok hgt
         (fun h2' => by subst h2'; exact g5 nm (hK nm (by simpa using hk2))) (shape_arg (M := M) (e := e) (nm := nm) ha' (by rw [List.length_map])) (by omega) (by omega) (by omega)
         (fun h5 => by
           have hb : bnd kd = true := by subst h5; decide
           have hlen : ks.length = 2 := by have := arB_cases ha; omega
           exact (a3 hb (by rintro rfl; simp at hlen)).2.2 h5 (by simp [hlen]))
         (fun h9 => by
           have hb : bnd kd = true := by subst h9; decide
           have hlen : ks.length = 2 := by have := arB_cases ha; omega
           exact (a3 hb (by rintro rfl; simp at hlen)).2.1 h9) h2
       have hnm2 : e2.nm = e1.nm := (KidsOk.node (K := K) ha' (fun h2' => by subst h2'; exact g5 nm (hK nm (by simpa using hk2))) (by rw [hts]; exact g1) (by omega) (by omega) (by omega) h2 n).2.2.2.1
       refine ⟨⟨a1.more.trans hi.ok.ord g1.inv.ok.ord s1, fun x u hx => by rw [hnm2]; exact a1.le x u hx, fun x hx => by rw [hnm2] at hx; exact a1.dom x hx⟩, fun l nmF ho hm hle => ?_⟩
       rw [hnm2] at hle
       have hm1 : More e1.sub l := s1.trans g1.inv.ok.ord hinv.1.inv.ok.ord hm
       simp only [Tr.ok]
       refine ⟨ha', s3 l ho hm, fun h2' => by rw [hle nm s (s2 h2')]; rfl, fun hb => ?_, fun hb => a2 hb, a4 l nmF ho hm1 hle trivial⟩
       by_cases hks : ks = []
       · subst hks
         have := arB_cases ha
         unfold bnd at hb
         simp at hb this
         omega
       · rw [hle nm b (a3 hb hks).1]; rfl
theorem elL_snd (kd : Int) (nm : Bs) : ∀ (ks : List Tm) (e : Es) (b : Sh) (acc : List Tr) (e' : Es) (b' : Sh) (ts : List Tr) (M : Nat) (K : Bs → Bool) (n : Nat), elL kd nm e b acc ks = some (e', b', ts) → arB kd n = true → acc.length + ks.length = n → oknL (bnd kd) nm K ks = true → (∀ x, K x = true → (e.nm x).isSome = true) → KidsOk kd n M e b acc → 1 ≤ M → M + 2 * sizeL ks ≤ 10000000 → e.nx + (4 * sizeL ks + ks.length) ≤ 1000000000 →
   (bsL ks).Nodup → (bnd kd = true → nm ∉ bsL ks ∧ e.nm nm = none) → (∀ x ∈ bsL ks, e.nm x = none) →
   Snd e e' ((if bnd kd then [nm] else []) ++ bsL ks) ∧ (bnd kd = false → b' = b) ∧ (bnd kd = true → ks ≠ [] → e'.nm nm = some b' ∧ (kd = 9 → b' = wh) ∧ (kd = 5 → 2 ≤ acc.length + ks.length → b' = (ts.map Tr.s).getD 0 zS)) ∧
     ∀ l nmF, Ord l → More e'.sub l → NmLe e'.nm nmF → okL (fun x => (nmF x).map (finS l)) (finS l) acc → okL (fun x => (nmF x).map (finS l)) (finS l) ts
 | [], e, b, acc, e', b', ts, M, K, n, h, ha, hlen, hk, hK, hq, hM, hMs, hn, hd, hd3, hf => by
   simp only [elL, Option.some.injEq, Prod.mk.injEq] at h
   obtain ⟨rfl, rfl, rfl⟩ := h
   exact ⟨⟨More.refl hq.inv.ok.ord, fun _ _ h => h, fun x hx => .inl hx⟩, fun _ => rfl, fun _ h => absurd rfl h, fun l nmF _ _ _ h => h⟩
 | t :: l, e, b, acc, e', b', ts, M, K, n, h, ha, hlen, hk, hK, hq, hM, hMs, hn, hd, hd3, hf => by
   simp only [sizeL, List.length_cons] at hMs hn hlen
   simp only [bsL] at hd hd3 hf
   rw [oknL, Bool.and_eq_true] at hk
   rw [elL_cons] at h
   split at h
   · cases h
   · rename_i e2 tr h1
     obtain ⟨q1, q2, q3, q4, q5, q6, q7⟩ := kid_pre (nm := nm) (K := K) ha hlen hq.inv hM (fun t ht => (hq.accs t ht).s) hK hq.bs
     obtain ⟨d1, d2⟩ := el_inv t _ e2 tr M _ h1 hk.1 q5 q1 hM (by omega) (by omega)
     have hq2 := KidsOk.kid (nm := nm) (K := K) ha hlen hq hM hK d1 d2
     have dh := d1.hi
     have dl := d1.lo
     have hK2 : ∀ x, K x = true → (e2.nm x).isSome = true := fun x hx => d1.dom x (q4 x (hK x hx))
     obtain ⟨r1, r2, r3, r4, r5⟩ := elL_inv kd nm l e2 _ _ e' b' ts (M + 2 * t.size) K n h ha (by simp; omega) hk.2 hK2 hq2 (by omega) (by omega) (by omega)
     obtain ⟨n1, n2, n3⟩ := List.nodup_append.1 hd
     -- the names ahead of this kid
     have pn : ∀ x, x ≠ nm ∨ bnd kd = false ∨ l ≠ [] → (e.pre kd nm b acc l.isEmpty).1.nm x = e.nm x := fun x hx => by
       unfold Es.pre
       split
       · rename_i hc
         simp only [Bool.and_eq_true, List.isEmpty_iff] at hc
         have : x ≠ nm := by rcases hx with hx | hx | hx; exact hx; rw [hc.1] at hx; cases hx; exact absurd hc.2 hx
         simp only [Es.put]
         rw [if_neg this, (bound_sub e kd acc).2]
       · rfl
     obtain ⟨b1, b2⟩ := el_snd t _ e2 tr M _ h1 hk.1 q5 q1 hM (by omega) (by omega) n1 (fun x hx => by
       rw [pn x]
       · exact hf x (List.mem_append_left _ hx)
       · cases hb : bnd kd with
         | false => exact .inr (.inl rfl)
         | true => exact .inl fun e => (hd3 hb).1 (by subst e; exact List.mem_append_left _ hx))
     have pe : NmLe e.nm (e.pre kd nm b acc l.isEmpty).1.nm := fun x s hx => by
       by_cases hc : x ≠ nm ∨ bnd kd = false ∨ l ≠ []
       · rw [pn x hc]; exact hx
       · simp only [not_or, Bool.not_eq_false, ne_eq, Classical.not_not] at hc
         obtain ⟨rfl, hb, _⟩ := hc
         rw [(hd3 hb).2] at hx; cases hx
     have le2 : NmLe e.nm e2.nm := fun x s hx => b1.le x s (pe x s hx)
     have dom2 : ∀ x, (e2.nm x).isSome = true → (e.nm x).isSome = true ∨ (x = nm ∧ bnd kd = true ∧ l = []) ∨ x ∈ t.bs := fun x hx => by
       rcases b1.dom x hx with hx | hx
       · by_cases hc : x ≠ nm ∨ bnd kd = false ∨ l ≠ []
         · rw [pn x hc] at hx; exact .inl hx
         · simp only [not_or, Bool.not_eq_false, ne_eq, Classical.not_not] at hc
           exact .inr (.inl hc)
       · exact .inr (.inr hx)
     have no2 : ∀ x, e.nm x = none → (x = nm → bnd kd = true → l = [] → False) → x ∉ t.bs → e2.nm x = none := fun x h1 h2 h3 => by
       cases hx : e2.nm x with
       | none => rfl
       | some s =>
         rcases dom2 x (by rw [hx]; rfl) with h | ⟨ha, hb, hc⟩ | h
         · rw [h1] at h; cases h
         · exact (h2 ha hb hc).elim
         · exact absurd h h3
     have key : Snd e e2 ((if bnd kd then [nm] else []) ++ t.bs) := by
       refine ⟨?_, le2, fun x hx => ?_⟩
       · have := b1.more; rw [pre_sub] at this; exact this
       · rcases dom2 x hx with h | ⟨rfl, h, _⟩ | h
         · exact .inl h
         · rw [if_pos h]; exact .inr (by simp)
         · exact .inr (List.mem_append_right _ h)
     cases l with
     | nil =>
       simp only [elL, Option.some.injEq, Prod.mk.injEq] at h
       obtain ⟨rfl, rfl, rfl⟩ := h
       simp only [bsL, List.append_nil]
       refine ⟨key, fun hb => ?_, fun hb _ => ?_, fun lF nmF ho hm hle hacc => okL_snoc hacc (b2 lF nmF ho hm hle)⟩
       · unfold Es.pre; rw [hb]; rfl
       · have hp : e.pre kd nm b acc ([] : List Tm).isEmpty = ((e.bound kd acc).1.put nm (e.bound kd acc).2, (e.bound kd acc).2) := by unfold Es.pre; rw [hb]; rfl
         rw [hp] at b1 ⊢
         refine ⟨b1.le nm _ (by simp [Es.put]), kd_b.1, fun h5 hl => ?_⟩
         rw [kd_b.2 h5]
         cases acc with
         | nil => simp at hl
         | cons a acc => rfl
     | cons t2 l2 =>
       have hp : e.pre kd nm b acc (t2 :: l2).isEmpty = (e, b) := by unfold Es.pre; simp
       rw [hp] at h hq2
       obtain ⟨c1, c2, c3, c4⟩ := elL_snd kd nm (t2 :: l2) e2 _ _ e' b' ts (M + 2 * t.size) K n h ha (by simp; simp at hlen; omega) hk.2 hK2 hq2 (by omega) (by omega) (by omega) n2
         (fun hb => ⟨fun hm => (hd3 hb).1 (List.mem_append_right _ hm), no2 nm (hd3 hb).2 (fun _ _ h => by cases h) (fun hm => (hd3 hb).1 (List.mem_append_left _ hm))⟩)
         (fun x hx => no2 x (hf x (List.mem_append_right _ hx)) (fun _ _ h => by cases h) (fun hm => n3 x hm x hx rfl))
       refine ⟨⟨key.more.trans hq.inv.ok.ord d1.inv.ok.ord c1.more, fun x s hx => c1.le x s (le2 x s hx), fun x hx => ?_⟩, c2, fun hb _ => ?_, fun lF nmF ho hm hle hacc => ?_⟩
       · rcases c1.dom x hx with h | h
         · rcases key.dom x h with h | h
           · exact .inl h
           · rcases List.mem_append.1 h with h | h
             · exact .inr (List.mem_append_left _ h)
             · exact .inr (List.mem_append_right _ (by simp only [bsL]; exact List.mem_append_left _ h))
         · rcases List.mem_append.1 h with h | h
           · exact .inr (List.mem_append_left _ h)
           · exact .inr (List.mem_append_right _ (by simp only [bsL] at h ⊢; exact List.mem_append_right _ h))
       · obtain ⟨x1, x2, x3⟩ := c3 hb (by simp)
         exact ⟨x1, x2, fun h5 hl => x3 h5 (by simp at hl ⊢; omega)⟩
       · refine c4 lF nmF ho hm hle (okL_snoc hacc (b2 lF nmF ho ?_ ?_))
         · exact c1.more.trans d1.inv.ok.ord r1.inv.ok.ord hm
         · exact fun x s hx => hle x s (c1.le x s hx)
end
end Go.Proofs.YthnhddjlgjecdaaGreatDoor
