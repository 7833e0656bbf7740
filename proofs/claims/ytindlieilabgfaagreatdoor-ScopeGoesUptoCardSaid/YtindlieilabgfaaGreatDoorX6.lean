/- Maps that are one's own. -/
import Derived.Test.YtindlieilabgfaaGreatDoorX5
import Derived.MapKept
set_option linter.unusedVariables false
set_option linter.unusedSectionVars false
set_option linter.unusedSimpArgs false
set_option linter.unusedSimpArgs false
set_option autoImplicit false
set_option relaxedAutoImplicit false
namespace Go.Proofs.YtindlieilabgfaaGreatDoor.X
open Go

/-- What a map asks of its keys' type: texts, or whole numbers. -/
structure KeyLaw (P : Program) (kt : TypeId) {κ : Type} [DecidableEq κ] (enc : κ → Value) (kind : TypeDesc) : Prop where
  und : P.underlying kt = some kind
  check : ∀ b a w, (Instr.checkKey b 10000 kt (enc a)).run P w = .ok () w
  now : ∀ a b, Instr.sameNow kind (enc a) (enc b) = some (decide (a = b))
  bits : ∀ a, Instr.sameBits 10000 (enc a) (enc a) = true
theorem KeyLaw.inj {P : Program} {kt : TypeId} {κ : Type} [DecidableEq κ] {enc : κ → Value} {kind : TypeDesc} (K : KeyLaw P kt enc kind) {a b : κ} (h : enc a = enc b) : a = b := by
  have h1 := K.now a b
  rw [h, K.now b b] at h1
  simpa using h1
def strB (s : List UInt8) : Value := .string ⟨s.toArray⟩
theorem ba_beq (x y : ByteArray) : (x == y) = decide (x = y) := by
  obtain ⟨⟨x⟩⟩ := x; obtain ⟨⟨y⟩⟩ := y
  rw [Bool.eq_iff_iff]
  have : (({ data := ⟨x⟩ } : ByteArray) == { data := ⟨y⟩ }) = ((⟨x⟩ : Array UInt8) == ⟨y⟩) := rfl
  rw [this]
  simp
theorem keyStr {P : Program} {kt : TypeId} (h : P.underlying kt = some .string) : KeyLaw P kt (fun s : List UInt8 => Value.string ⟨s.toArray⟩) .string where
  und := h
  check b a w := by
    rw [show (10000 : Nat) = 9999 + 1 from rfl]
    unfold Instr.checkKey
    rw [Sem.run_bind, run_underlying h]; rfl
  now a b := by
    simp only [Instr.sameNow, ba_beq]
    by_cases e : a = b
    · subst e; simp
    · have : (⟨a.toArray⟩ : ByteArray) ≠ ⟨b.toArray⟩ := fun h => e (str_inj.1 h)
      simp [e, this]
  bits a := by simp [Instr.sameBits, ba_beq]
theorem keyInt {P : Program} {kt : TypeId} {q : IntKind} (h : P.underlying kt = some (.int q)) : KeyLaw P kt (fun n : Int => Value.int q n) (.int q) where
  und := h
  check b a w := by
    rw [show (10000 : Nat) = 9999 + 1 from rfl]
    unfold Instr.checkKey
    rw [Sem.run_bind, run_underlying h]; rfl
  now a b := by
    simp only [Instr.sameNow, if_true]
    by_cases e : a = b <;> simp [e]
  bits a := by simp [Instr.sameBits]

section
variable {κ : Type} [DecidableEq κ]
def fnd (k : κ) : List (κ × Value) → Nat → Option (Nat × Value)
  | [], _ => none
  | p :: l, i => if p.1 = k then some (i, p.2) else fnd k l (i + 1)
theorem fnd_lookup (k : κ) : ∀ (m : List (κ × Value)) (i : Nat), (fnd k m i).map (·.2) = m.lookup k
  | [], _ => rfl
  | (a, v) :: l, i => by
    simp only [fnd, List.lookup]
    by_cases e : a = k
    · subst e; simp
    · have : (k == a) = false := by simpa using Ne.symm e
      simp [e, this, fnd_lookup k l]
theorem fnd_some {k : κ} : ∀ {m : List (κ × Value)} {i j : Nat} {v : Value}, fnd k m i = some (j, v) → i ≤ j ∧ m[j - i]? = some (k, v)
  | [], _, _, _, h => by cases h
  | (a, u) :: l, i, j, v, h => by
    simp only [fnd] at h
    split at h
    · rename_i e
      simp at h; obtain ⟨rfl, rfl⟩ := h
      have e' : a = k := e
      subst e'
      exact ⟨Nat.le_refl _, by simp⟩
    · obtain ⟨h1, h2⟩ := fnd_some h
      refine ⟨by omega, ?_⟩
      rw [show j - i = (j - (i + 1)) + 1 by omega]
      simpa using h2
theorem fnd_none {k : κ} : ∀ {m : List (κ × Value)} {i : Nat}, fnd k m i = none → ∀ p ∈ m, p.1 ≠ k
  | [], _, _, p, hp => by cases hp
  | (a, u) :: l, i, h, p, hp => by
    simp only [fnd] at h
    split at h
    · cases h
    · rename_i e
      cases hp with
      | head => exact e
      | tail _ hp => exact fnd_none h p hp
/-- A map's block: what stands under each key. -/
def IsMap (enc : κ → Value) (f : κ → Option Value) (o : Obj) : Prop :=
  ∃ es clock, ∃ m : List (κ × Value), o = .map es clock ∧ MapKept.Stamped es clock ∧ es.toList.map (fun e => (e.key, e.val)) = m.map (fun p => (enc p.1, p.2)) ∧ (m.map (·.1)).Nodup ∧ ∀ k, m.lookup k = f k
theorem isMap_empty (enc : κ → Value) : IsMap enc (fun _ => none) (.map #[] 0) := ⟨#[], 0, [], rfl, MapKept.stamped_empty 0, rfl, by simp, fun _ => rfl⟩
theorem map_erase {α β : Type} (f : α → β) : ∀ (l : List α) (j : Nat), (l.eraseIdx j).map f = (l.map f).eraseIdx j
  | [], j => by simp
  | a :: l, 0 => by simp
  | a :: l, j + 1 => by simp [map_erase f l j]
variable {P : Program} {kt : TypeId} {enc : κ → Value} {kind : TypeDesc} {f : κ → Option Value}
theorem findNow_eq (K : KeyLaw P kt enc kind) (k : κ) : ∀ (es : List MapEntry) (m : List (κ × Value)) (i : Nat), es.map (fun e => (e.key, e.val)) = m.map (fun p => (enc p.1, p.2)) →
    Instr.findNow kind (enc k) es i = some (fnd k m i)
  | [], m, i, h => by
    cases m with
    | nil => rfl
    | cons p l => simp at h
  | e :: es, m, i, h => by
    cases m with
    | nil => simp at h
    | cons p l =>
      simp only [List.map_cons, List.cons.injEq, Prod.mk.injEq] at h
      obtain ⟨⟨h1, h2⟩, h3⟩ := h
      unfold Instr.findNow
      rw [h1, K.now]
      by_cases ek : p.1 = k
      · rw [decide_eq_true ek.symm]
        simp [fnd, ek, h2]
      · rw [decide_eq_false (Ne.symm ek)]
        simp only [fnd, ek, if_false]
        exact findNow_eq K k es l (i + 1) h3
theorem run_findKey (K : KeyLaw P kt enc kind) {es : Array MapEntry} {m : List (κ × Value)} (h : es.toList.map (fun e => (e.key, e.val)) = m.map (fun p => (enc p.1, p.2))) (k : κ) (w : World) :
    (Instr.findKey kt (enc k) es.toList).run P w = .ok (fnd k m 0) w := by
  unfold Instr.findKey
  simp only [Sem.run_bind, run_underlying K.und, Result.andThen_ok, findNow_eq K k es.toList m 0 h, Sem.run_pure]
theorem run_getMap {w : World} {g : Nat} {es : Array MapEntry} {c : Nat} (h : w.heap[g]? = some (.map es c)) : (getObj g).run P w = .ok (.map es c) w := by simp [getObj, Sem.run, h]
theorem run_lookup (K : KeyLaw P kt enc kind) {t et : TypeId} (ht : P.underlying t = some (.map kt et)) {z : Value} (hz : zrT P et = some z) {w : World} {g : Nat} {o : Obj} (hg : w.heap[g]? = some o) (hm : IsMap enc f o) (k : κ) (ok : Bool) :
    (Instr.lookup t (.map (some g)) (enc k) ok).run P w = .ok (if ok then .tuple #[(f k).getD z, .bool (f k).isSome] else (f k).getD z) w := by
  obtain ⟨es, c, m, rfl, hst, h1, h2, h3⟩ := hm
  have hzero : (zeroValue et).run P w = .ok z w := by
    unfold zrT at hz
    split at hz
    · rename_i i hi; simp [zeroValue, typeInfo, hi, hz]
    · cases hz
  have hf := run_findKey K h1 k w
  have hl := fnd_lookup k m 0
  rw [h3] at hl
  unfold Instr.lookup
  simp only [Sem.run_bind, run_underlying ht, Result.andThen_ok, run_getMap hg, Sem.run_pure, K.check, hf]
  cases hx : fnd k m 0 with
  | none => rw [hx] at hl; simp at hl; simp [hzero, ← hl]
  | some p => rw [hx] at hl; simp at hl; simp [← hl]
def upd (f : κ → Option Value) (k : κ) (v : Option Value) : κ → Option Value := fun x => if x = k then v else f x
theorem lookup_set {k : κ} {v u : Value} : ∀ {m : List (κ × Value)} {j : Nat}, m[j]? = some (k, u) → (∀ i p, i < j → m[i]? = some p → p.1 ≠ k) → ∀ x, (m.set j (k, v)).lookup x = if x = k then some v else m.lookup x
  | [], j, h, _, x => by simp at h
  | (a, w) :: l, 0, h, _, x => by
    simp at h; obtain ⟨rfl, rfl⟩ := h
    simp only [List.set_cons_zero, List.lookup]
    by_cases e : x = a
    · subst e; simp
    · have : (x == a) = false := by simpa using e
      simp [e, this]
  | (a, w) :: l, j + 1, h, hn, x => by
    simp at h
    simp only [List.set_cons_succ, List.lookup]
    have ha : a ≠ k := hn 0 (a, w) (by omega) rfl
    by_cases e : x = a
    · subst e; simp [ha]
    · have : (x == a) = false := by simpa using e
      simp only [this]
      exact lookup_set h (fun i p hi hp => hn (i + 1) p (by omega) (by simpa using hp)) x
theorem lookup_append {k : κ} {v : Value} : ∀ {m : List (κ × Value)}, (∀ p ∈ m, p.1 ≠ k) → ∀ x, (m ++ [(k, v)]).lookup x = if x = k then some v else m.lookup x
  | [], _, x => by
    simp only [List.nil_append, List.lookup]
    by_cases e : x = k
    · subst e; simp
    · have : (x == k) = false := by simpa using e
      simp [e, this]
  | (a, w) :: l, hn, x => by
    simp only [List.cons_append, List.lookup]
    have ha : a ≠ k := hn (a, w) (List.mem_cons_self ..)
    by_cases e : x = a
    · subst e; simp [ha]
    · have : (x == a) = false := by simpa using e
      simp only [this]
      exact lookup_append (fun p hp => hn p (List.mem_cons_of_mem _ hp)) x
theorem lookup_none_of {k : κ} : ∀ {m : List (κ × Value)}, (∀ p ∈ m, p.1 ≠ k) → m.lookup k = none
  | [], _ => rfl
  | (a, w) :: l, hn => by
    have ha : a ≠ k := hn (a, w) (List.mem_cons_self ..)
    have : (k == a) = false := by simpa using Ne.symm ha
    simp only [List.lookup, this]
    exact lookup_none_of fun p hp => hn p (List.mem_cons_of_mem _ hp)
theorem lookup_erase {k : κ} {u : Value} : ∀ {m : List (κ × Value)} {j : Nat}, (m.map (·.1)).Nodup → m[j]? = some (k, u) → ∀ x, (m.eraseIdx j).lookup x = if x = k then none else m.lookup x
  | [], j, _, h, x => by simp at h
  | (a, w) :: l, 0, hd, h, x => by
    simp at h; obtain ⟨rfl, rfl⟩ := h
    simp only [List.map_cons, List.nodup_cons] at hd
    simp only [List.eraseIdx_cons_zero, List.lookup]
    by_cases e : x = a
    · subst e
      rw [if_pos rfl]
      exact lookup_none_of fun p hp e => hd.1 (List.mem_map.2 ⟨p, hp, e⟩)
    · have : (x == a) = false := by simpa using e
      simp [e, this]
  | (a, w) :: l, j + 1, hd, h, x => by
    simp at h
    simp only [List.map_cons, List.nodup_cons] at hd
    simp only [List.eraseIdx_cons_succ, List.lookup]
    have ha : a ≠ k := fun e => by subst e; exact hd.1 (List.mem_map.2 ⟨_, List.mem_of_getElem? h, rfl⟩)
    by_cases e : x = a
    · subst e; simp [ha]
    · have : (x == a) = false := by simpa using e
      simp only [this]
      exact lookup_erase hd.2 h x
theorem nodup_first {k : κ} {u : Value} {m : List (κ × Value)} {j : Nat} (hd : (m.map (·.1)).Nodup) (h : m[j]? = some (k, u)) : ∀ i p, i < j → m[i]? = some p → p.1 ≠ k := by
  intro i p hi hp e
  have h1 : (m.map (·.1))[i]? = some k := by simp [hp, e]
  have h2 : (m.map (·.1))[j]? = some k := by simp [h]
  have hj : j < (m.map (·.1)).length := (List.getElem?_eq_some_iff.1 h2).1
  have := (List.getElem?_inj (by omega) hd).1 (h1.trans h2.symm)
  omega
/-- A store into a map that is one's own. -/
theorem run_update (K : KeyLaw P kt enc kind) {t et : TypeId} (ht : P.underlying t = some (.map kt et)) {w : World} {g : Nat} {o : Obj} (hg : w.heap[g]? = some o) (hm : IsMap enc f o) (k : κ) (v : Value) :
    ∃ o', (Instr.mapUpdate t (.map (some g)) (enc k) v).run P w = .ok () { w with heap := w.heap.setIfInBounds g o' } ∧ IsMap enc (upd f k (some v)) o' := by
  obtain ⟨es, c, m, rfl, hst, h1, h2, h3⟩ := hm
  have hf := run_findKey K h1 k w
  cases hx : fnd k m 0 with
  | none =>
    refine ⟨.map (es.push { key := enc k, val := v, born := c }) (c + 1), ?_, ?_⟩
    · unfold Instr.mapUpdate
      simp only [Sem.run_bind, run_underlying ht, Result.andThen_ok, run_getMap hg, K.check, hf, hx]
      simp [setObj, Sem.run, hg]
    · have hn := fnd_none hx
      have hns : ∀ x ∈ es.toList, x.key ≠ enc k := by
        intro x hx e
        have : (x.key, x.val) ∈ m.map (fun p => (enc p.1, p.2)) := by rw [← h1]; exact List.mem_map.2 ⟨x, hx, rfl⟩
        obtain ⟨p, hp, hpe⟩ := List.mem_map.1 this
        have he : enc p.1 = enc k := by rw [← e]; exact congrArg Prod.fst hpe
        exact hn p hp (K.inj he)
      refine ⟨_, _, m ++ [(k, v)], rfl, MapKept.stamped_push hst hns, by simp [h1], ?_, fun x => ?_⟩
      · rw [List.map_append, List.nodup_append]
        refine ⟨h2, by simp, fun a ha b hb => ?_⟩
        simp at hb; subst hb
        obtain ⟨p, hp, rfl⟩ := List.mem_map.1 ha
        exact hn p hp
      · rw [lookup_append hn, h3]; rfl
  | some q =>
    obtain ⟨j, u⟩ := q
    obtain ⟨_, hj⟩ := fnd_some hx
    simp at hj
    have hlt : j < m.length := (List.getElem?_eq_some_iff.1 hj).1
    have hlen : es.toList.length = m.length := by simpa using congrArg List.length h1
    have hsz : j < es.size := by simp at hlen; omega
    have hke : es[j]? = some es[j] := Array.getElem?_eq_getElem hsz
    have hkey : (es[j]'hsz).key = enc k := by
      have : (es.toList.map (fun e => (e.key, e.val)))[j]? = some (enc k, u) := by rw [h1]; simp [hj]
      simp [hke] at this
      exact this.1
    refine ⟨.map (es.modify j fun e => { e with key := enc k, val := v }) c, ?_, ?_⟩
    · unfold Instr.mapUpdate
      simp only [Sem.run_bind, run_underlying ht, Result.andThen_ok, run_getMap hg, K.check, hf, hx]
      simp [hke, hkey, Instr.keyThatStays, K.bits, setObj, Sem.run, hg]
    · refine ⟨_, _, m.set j (k, v), rfl, MapKept.stamped_modify hst j _ (fun _ _ => rfl) (fun e _ he => by rw [hke] at he; cases he; exact hkey.symm), ?_, ?_, fun x => ?_⟩
      · apply List.ext_getElem?
        intro i
        have hi : (es.toList.map (fun e => (e.key, e.val)))[i]? = (m.map (fun p => (enc p.1, p.2)))[i]? := by rw [h1]
        simp only [List.getElem?_map, Array.getElem?_toList] at hi ⊢
        rw [Array.getElem?_modify, List.getElem?_set]
        by_cases e : j = i
        · subst e; simp [hke, hlt]
        · simp only [e, if_false]; exact hi
      · have : (m.set j (k, v)).map (·.1) = m.map (·.1) := by
          apply List.ext_getElem?
          intro i
          simp only [List.getElem?_map, List.getElem?_set]
          by_cases e : j = i
          · subst e
            have : m[j] = (k, u) := by rw [List.getElem?_eq_getElem hlt] at hj; exact Option.some.inj hj
            simp [hlt, this]
          · simp [e]
        rw [this]; exact h2
      · rw [lookup_set hj (nodup_first h2 hj), h3]; rfl
theorem run_delete (K : KeyLaw P kt enc kind) {t et ty : TypeId} {ts : Array TypeId} (hts : ts[0]? = some t) (ht : P.underlying t = some (.map kt et)) {w : World} {g : Nat} {o : Obj} (hg : w.heap[g]? = some o) (hm : IsMap enc f o) (k : κ) :
    ∃ o', (Builtin.delete_ ts ty #[.map (some g), enc k]).run P w = .ok (.tuple #[]) { w with heap := w.heap.setIfInBounds g o' } ∧ IsMap enc (upd f k none) o' := by
  obtain ⟨es, c, m, rfl, hst, h1, h2, h3⟩ := hm
  have hf := run_findKey K h1 k w
  cases hx : fnd k m 0 with
  | none =>
    refine ⟨.map es c, ?_, ⟨es, c, m, rfl, hst, h1, h2, fun x => ?_⟩⟩
    · unfold Builtin.delete_
      simp only [hts]
      simp only [List.getElem?_toArray, List.getElem?_cons_zero, List.getElem?_cons_succ, Sem.run_bind, run_underlying ht, Result.andThen_ok, run_getMap hg, K.check, hf, hx]
      simp [setObj, Sem.run, hg]
    · rw [h3]
      unfold upd
      split
      · rename_i e; subst e
        rw [← h3]; exact lookup_none_of (fnd_none hx)
      · rfl
  | some q =>
    obtain ⟨j, u⟩ := q
    obtain ⟨_, hj⟩ := fnd_some hx
    simp at hj
    have hlt : j < m.length := (List.getElem?_eq_some_iff.1 hj).1
    have hlen : es.toList.length = m.length := by simpa using congrArg List.length h1
    refine ⟨.map (es.eraseIdxIfInBounds j) c, ?_, ⟨_, _, m.eraseIdx j, rfl, MapKept.stamped_erase hst j, ?_, ?_, fun x => ?_⟩⟩
    · unfold Builtin.delete_
      simp only [hts]
      simp only [List.getElem?_toArray, List.getElem?_cons_zero, List.getElem?_cons_succ, Sem.run_bind, run_underlying ht, Result.andThen_ok, run_getMap hg, K.check, hf, hx]
      simp [setObj, Sem.run, hg]
    · have hs : j < es.size := by simp at hlen; omega
      simp only [Array.eraseIdxIfInBounds, hs, dif_pos, Array.toList_eraseIdx]
      rw [map_erase, h1, map_erase]
    · rw [map_erase]; exact h2.sublist (List.eraseIdx_sublist ..)
    · rw [lookup_erase h2 hj, h3]; rfl
end
end Go.Proofs.YtindlieilabgfaaGreatDoor.X
