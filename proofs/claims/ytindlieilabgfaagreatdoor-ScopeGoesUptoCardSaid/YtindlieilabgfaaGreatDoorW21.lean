/- Words for Resolve. -/
import Derived.Test.YtindlieilabgfaaGreatDoorW20
set_option linter.unusedVariables false
set_option linter.unusedSimpArgs false
set_option linter.unusedSectionVars false
set_option autoImplicit false
set_option relaxedAutoImplicit false
set_option maxRecDepth 10000
namespace Go.Proofs.YtindlieilabgfaaGreatDoor
open Go X
theorem known_succ (p : Pg) {k : Nat} (h : k < p.defs.length) : p.known (k + 1) = p.known k ++ [p.defs[k].name] := by
  unfold Pg.known; rw [List.take_succ_eq_append_getElem h]; simp only [List.map_append, List.append_assoc]; rfl
theorem known_len (p : Pg) (k : Nat) : (p.known k).length ≤ p.inputs.length + p.cells.length + p.defs.length := by
  unfold Pg.known; simp only [List.length_append, List.length_map, List.length_take]; omega
theorem rs_le {α : Type} {R : GH → List Value → α → Prop} {sz : Nat} {H : GH} {A : Option Addr} {n c : Nat} {ys : List α} (h : RS R sz H (.slice A n c) ys) : n ≤ c := by
  obtain ⟨A', c', e, h1, _⟩ := h
  cases e; exact h1
theorem rs_clip {α : Type} {R : GH → List Value → α → Prop} {sz : Nat} {H : GH} {A : Option Addr} {c : Nat} {ys : List α} (h : RS R sz H (.slice A ys.length c) ys) : RS R sz H (.slice A ys.length ys.length) ys := by
  obtain ⟨A', c', e, h1, h2⟩ := h
  cases e
  exact ⟨A, ys.length, rfl, Nat.le_refl _, h2⟩
theorem go_none {p : Pg} {k : Nat} (h : p.go k = none) : ∀ m, k ≤ m → p.go m = none := by
  intro m hm
  induction m with
  | zero => have : k = 0 := by omega
            subst this; exact h
  | succ m ih =>
    by_cases e : k = m + 1
    · subst e; exact h
    · simp only [Pg.go, ih (by omega)]
theorem go_succ {p : Pg} {k : Nat} {ds : List Df} {n : Int} (h : p.go k = some (ds, n)) (hk : k < p.defs.length) :
    p.go (k + 1) = if p.defs[k].t.strange (p.known k) then none else some (ds ++ [⟨p.defs[k].name, (p.defs[k].t.ren (fun _ => none) n).1⟩], (p.defs[k].t.ren (fun _ => none) n).2) := by
  simp only [Pg.go, h, List.getElem?_eq_getElem hk]
theorem vp_zero (H : GH) : VP H (.agg #[.slice none 0 0, .slice none 0 0, .slice none 0 0, .int .i64 0, str [], .int .i64 0, .slice none 0 0]) Pg.zero :=
  ⟨none, 0, none, 0, none, 0, none, 0, rfl, RS.nil _ _ _, RS.nil _ _ _, RS.nil _ _ _, RS.nil _ _ _⟩
theorem twice_yes {p : Pg} {k : Nat} (hk : k < (p.known p.defs.length).length) (h : decide (indexL (p.known p.defs.length) (p.known p.defs.length)[k] < (k : Int)) = true) : p.twice = true := by
  unfold Pg.twice
  rw [List.any_eq_true]
  exact ⟨k, List.mem_range.2 hk, by simpa [List.getD, List.getElem?_eq_getElem hk] using h⟩
theorem twice_no {p : Pg} (h : ∀ j (hj : j < (p.known p.defs.length).length), decide (indexL (p.known p.defs.length) (p.known p.defs.length)[j] < (j : Int)) = false) : p.twice = false := by
  unfold Pg.twice
  rw [List.any_eq_false]
  intro j hj
  have hj := List.mem_range.1 hj
  have := h j hj
  simp only [List.getD, List.getElem?_eq_getElem hj, Option.getD_some, this]
  simp
section
variable {P : Program} {ops : Array Oper} {Q : Exit → Act → World → Prop} {γ : Gd P ops Q} {rest : List Oper} {o : Oper} {E w : World} {H : GH} {N : Nat} {D : List Deferred} {F : List (Nat × Value)} {L : List It} {a : Act}
variable {t : TypeId} {x y : Operand} {g off : Nat} {cs : Array Value} {ty : TypeId}
/-- A struct, stored within an own block. -/
theorem stN (k0 : Nat) {n : Nat} {vs : List Value} {L' : List It} (ht : tyN P t n = true) (h : S E H N D F L a w) (k : ∀ a w, S E H N D F L' a w → γ.G rest a w) (out : List Value)
    (ho : o.op = .store t x y := by rfl) (hx : ev F x = some (.pointer (some ⟨g, off, none⟩)) := by rfl) (hy : ev F y = some (.agg vs.toArray) := by rfl)
    (hk : L[k0]? = some (.obj g (.cells cs ty (0, 0))) := by rfl) (hout : (wr cs off vs).toList = out := by rfl) (hL : L.set k0 (.obj g (.cells out.toArray ty (0, 0))) = L' := by rfl) (hn : vs.length = n := by rfl) (hf : Nat.ble (off + n) cs.size = true := by rfl) (h1 : vs.all (·.oneCell') = true := by rfl)
    (hw : wn ops F o = some true := by rfl) (hd : o.dst = none := by rfl) (hE : γ.isE rest.length = true := by rfl) (hS : γ.isN rest.length = true → ∀ w, St E H L' w → γ.S w := by exact fun e => Bool.noConfusion (show false = true from e)) : γ.G (o :: rest) a w := by
  obtain ⟨w', hrun, r1, r2, r3, r4, r5⟩ := run_stores (P := P) (g := g) (off := off) (ty := ty) vs 0 cs w (item_at h.st.sees hk) (by simp [Nat.ble_eq] at hf; omega) (fun v hv => List.all_eq_true.1 h1 v hv)
  subst hL
  have hoa : out.toArray = wr cs off vs := by rw [← hout]
  refine unit_ h hw hd hE hS (w' := w') ?_ (h.st.wrote hk r1 r2 r3 (by rw [hoa]; simpa using r5)) k
  obtain ⟨d', hu, hr, hi⟩ := und_ofN ht
  obtain ⟨i, hi', hs⟩ := Option.map_eq_some_iff.1 hi
  simp [execOp, ho, h.ag.ev hx, h.ag.ev hy, Instr.storeAt, Instr.sureAddr, storeVar, sizeOf, typeInfo, hi', hs, Value.cells, hn, hrun]
end
end Go.Proofs.YtindlieilabgfaaGreatDoor
