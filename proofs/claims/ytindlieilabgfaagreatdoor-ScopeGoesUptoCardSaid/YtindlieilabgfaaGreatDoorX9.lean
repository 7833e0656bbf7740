/- What is frozen by hand, what is known less of. -/
import Derived.Test.YtindlieilabgfaaGreatDoorX8
set_option linter.unusedVariables false
set_option linter.unusedSectionVars false
set_option linter.unusedSimpArgs false
set_option linter.unusedSimpArgs false
set_option autoImplicit false
set_option relaxedAutoImplicit false
namespace Go.Proofs.YtindlieilabgfaaGreatDoor.X
open Go

theorem perm_erase {α : Type} : ∀ {l : List α} {n : Nat} (h : n < l.length), (l[n] :: l.eraseIdx n).Perm l
  | a :: l, 0, _ => by simp
  | a :: l, n + 1, h => by
    have := perm_erase (l := l) (n := n) (by simpa using h)
    simp only [List.getElem_cons_succ, List.eraseIdx_cons_succ]
    exact (List.Perm.swap ..).trans (this.cons a)
section
variable {P : Program} {E w : World} {H H' : GH} {N : Nat} {D : List Deferred} {F : List (Nat × Value)} {L : List It} {a : Act}
theorem St.less (h : St E H' L w) (hl : LE H H') : St E H L w :=
  ⟨h.os, h.tape, h.output, fun b o e => h.fro b o (hl b o e), h.holds, fun i hi g hg => by
    cases hH : H g with
    | none => rfl
    | some o => exact absurd ((hl g o hH).symm.trans (h.off i hi g hg)) (by simp), h.apart⟩
theorem S.less (h : S E H' N D F L a w) (hl : LE H H') : S E H N D F L a w := ⟨h.ag, h.st.less hl⟩
/-- An own block is frozen. -/
theorem St.frz (k0 : Nat) {g : Nat} {o : Obj} {L' : List It} (h : St E H L w) (hk : L[k0]? = some (.obj g o)) (hL : L.eraseIdx k0 = L') : ∃ H', LE H H' ∧ St E H' L' w ∧ H' g = some o := by
  subst hL
  have hlt : k0 < L.length := (List.getElem?_eq_some_iff.1 hk).1
  have he : L[k0] = .obj g o := by rw [List.getElem?_eq_getElem hlt] at hk; exact Option.some.inj hk
  have hp : (It.obj g o :: L.eraseIdx k0).Perm L := by
    rw [← he]; exact perm_erase hlt
  obtain ⟨h1, h2⟩ := (h.perm hp).freeze
  exact ⟨_, h1, h2, put_same H g o⟩
theorem S.frz (k0 : Nat) {g : Nat} {o : Obj} {L' : List It} (h : S E H N D F L a w) (hk : L[k0]? = some (.obj g o) := by rfl) (hL : L.eraseIdx k0 = L' := by rfl) : ∃ H', LE H H' ∧ S E H' N D F L' a w ∧ H' g = some o := by
  obtain ⟨H', h1, h2, h3⟩ := h.st.frz k0 hk hL
  exact ⟨H', h1, ⟨h.ag, h2⟩, h3⟩
theorem Hc.of {g i : Nat} {cs : Array Value} {e : TypeId} {z : Nat × Nat} {v : Value} (h : H g = some (.cells cs e z)) (hv : cs.toList[i]? = some v) : Hc H g i v := ⟨cs, e, z, h, by rw [← Array.getElem?_toList]; exact hv⟩
/-- A contract whose own growth is forgotten. -/
theorem Ok.less {f : FuncId} {args : Array Value} {R : Value → Prop} (hc : Ok P f args E H' L fun r H1 L1 => R r ∧ H' = H1 ∧ L = L1) (hl : LE H H') (hst : ∀ w, St E H L w → St E H' L w) :
    Ok P f args E H L fun r H1 L1 => R r ∧ H = H1 ∧ L = L1 := fun w hw =>
  (hc w (hst w hw)).mono fun e w' ⟨r, H1, L1, h1, h2, h3, h4, h5, h6⟩ => by
    subst h5; subst h6
    exact ⟨r, H, L, h1, LE.rfl, h3.less hl, h4, rfl, rfl⟩
end
section
variable {P : Program} {ops : Array Oper} {Q : Exit → Act → World → Prop} {γ : Gd P ops Q} {rest : List Oper} {o : Oper} {E w : World} {H : GH} {N : Nat} {D : List Deferred} {F : List (Nat × Value)} {L : List It} {a : Act}
variable {x y y2 : Operand} {d : Nat}
/-- max of three ints. -/
def mx3 (a b c : Int) : Int := if (if a < b then b else a) < c then c else if a < b then b else a
theorem mxl {t2 : Array TypeId} {m n l : Int} (h : S E H N D F L a w) (k : ∀ a w, S E H N D ((d, .int .i64 (mx3 m n l)) :: F) L a w → γ.G rest a w)
    (ho : o.op = .call { callee := .builtin .max, args := #[x, y, y2], argTypes := t2 } := by rfl) (hx : ev F x = some (.int .i64 m) := by rfl) (hy : ev F y = some (.int .i64 n) := by rfl) (hy2 : ev F y2 = some (.int .i64 l) := by rfl)
    (hw : wn ops F o = some true := by rfl) (hd : o.dst = some d := by rfl) (hN : Nat.blt d N = true := by rfl) : γ.G (o :: rest) a w :=
  pv h (fun w => by
    simp [execOp, ho, resolve, invoke, builtin, h.ag.ev hx, h.ag.ev hy, h.ag.ev hy2, Builtin.max_, Builtin.max2, mx3]) k hw hd hN
end
end Go.Proofs.YtindlieilabgfaaGreatDoor.X
