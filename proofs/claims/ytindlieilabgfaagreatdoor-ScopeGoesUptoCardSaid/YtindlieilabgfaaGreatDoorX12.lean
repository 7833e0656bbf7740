/- Structs and slices that are built: by lists, so that 'rfl' computes them; rows' values. -/
import Derived.Test.YtindlieilabgfaaGreatDoorX11
set_option linter.unusedVariables false
set_option linter.unusedSectionVars false
set_option linter.unusedSimpArgs false
set_option linter.unusedSimpArgs false
set_option autoImplicit false
set_option relaxedAutoImplicit false
namespace Go.Proofs.YtindlieilabgfaaGreatDoor.X
open Go

def cellsL : Value → List Value
  | .agg cs => cs.toList
  | v => [v]
theorem cellsL_eq (v : Value) : v.cells = (cellsL v).toArray := by cases v <;> simp [cellsL, Value.cells]
def putL : List Value → Nat → List Value → List Value
  | cs, _, [] => cs
  | cs, o, v :: vs => putL (cs.set o v) (o + 1) vs
def fillL (pl : Nat → Option (Nat × Nat)) : List Value → List (Nat × Value) → Option (List Value)
  | cs, [] => some cs
  | cs, (i, v) :: rest => match pl i with
    | none => none
    | some (off, size) => if Nat.beq (cellsL v).length size && Nat.ble (off + (cellsL v).length) cs.length then fillL pl (putL cs off (cellsL v)) rest else none
theorem foldl_putL : ∀ (vs : List Value) (cs : List Value) (off k : Nat), (vs.zipIdx k).foldl (fun (cs : Array Value) (x : Value × Nat) => cs.setIfInBounds (off + x.2) x.1) cs.toArray = (putL cs (off + k) vs).toArray := by
  intro vs
  induction vs with
  | nil => intro cs off k; simp [putL]
  | cons v vs ih =>
    intro cs off k
    have := ih (cs.set (off + k) v) off (k + 1)
    simp only [putL]
    rw [Nat.add_assoc, ← this]
    simp [List.zipIdx_cons]
theorem fill_of {pl : Nat → Option (Nat × Nat)} : ∀ (vs : List (Nat × Value)) (cs out : List Value), fillL pl cs vs = some out → Instr.fill pl cs.toArray vs = some out.toArray
  | [], cs, out, h => by simp [fillL] at h; simp [Instr.fill, h]
  | (i, v) :: rest, cs, out, h => by
    simp only [fillL] at h
    split at h
    · cases h
    · rename_i off size hp
      split at h
      · rename_i hc
        simp only [Bool.and_eq_true, Nat.ble_eq, Nat.beq_eq] at hc
        have ih := fill_of rest _ _ h
        have hsz : v.cells.size = (cellsL v).length := by rw [cellsL_eq]; simp
        have hf := foldl_putL (cellsL v) cs off 0
        simp only [Nat.add_zero] at hf
        unfold Instr.fill
        simp only [hp]
        rw [if_neg (by rw [hsz]; simp; omega), cellsL_eq, ← Array.foldl_toList, Array.toList_zipIdx]
        exact (congrArg (fun q => Instr.fill pl q rest) hf).trans ih
      · cases h
section
variable {P : Program} {ops : Array Oper} {Q : Exit → Act → World → Prop} {γ : Gd P ops Q} {rest : List Oper} {o : Oper} {E w : World} {H : GH} {N : Nat} {D : List Deferred} {F : List (Nat × Value)} {L : List It} {a : Act}
variable {t u : TypeId} {x y : Operand} {d : Nat} {v : Value} {g off : Nat} {ty : TypeId}
theorem bdl {pl : List (Nat × Nat)} {zv : Value} {zl out : List Value} {ps : List (Nat × Operand)} {vs : List (Nat × Value)} (hl : layT P t = some pl.toArray) (hz : zrT P t = some zv) (h : S E H N D F L a w)
    (k : ∀ a w, S E H N D ((d, .agg out.toArray) :: F) L a w → γ.G rest a w)
    (ho : o.op = .build t ps.toArray := by rfl) (hx : pevs F ps = some vs := by rfl) (hzl : cellsL zv = zl := by rfl) (hf : fillL (fun i => pl[i]?) zl vs = some out := by rfl)
    (hw : wn ops F o = some true := by rfl) (hd : o.dst = some d := by rfl) (hN : Nat.blt d N = true := by rfl) : γ.G (o :: rest) a w :=
  bd hl hz out.toArray h k ho hx (by
    subst hzl
    have := fill_of vs _ _ hf
    rw [cellsL_eq]
    rw [← this]; congr 1; funext i; simp) hw hd hN
theorem bsl {e sz n : Nat} {zl out : List Value} {ps : List (Nat × Operand)} {vs : List (Nat × Value)} (hl : bsT P t = some (e, sz, zl.toArray)) (h : S E H N D F L a w)
    (k : ∀ g a w, S E H N D ((d, .slice (some ⟨g, 0, none⟩) n n) :: F) (.obj g (.cells out.toArray e (0, 0)) :: L) a w → γ.G rest a w)
    (ho : o.op = .buildSlice t n ps.toArray := by rfl) (hx : pevs F ps = some vs := by rfl)
    (hf : fillL (fun i => some (i * sz, sz)) ((List.range (n * sz)).map (fun i => zl.getD (i % zl.length) default)) vs = some out := by rfl) (hn : Nat.ble n 1024 = true := by rfl) (hn0 : Nat.blt 0 n = true := by rfl)
    (hw : wn ops F o = some true := by rfl) (hd : o.dst = some d := by rfl) (hN : Nat.blt d N = true := by rfl) (hE : γ.isE rest.length = true := by rfl) (hS : γ.isN rest.length = true → ∀ g w, St E H (.obj g (.cells out.toArray e (0, 0)) :: L) w → γ.S w := by first | exact fun e => Bool.noConfusion (show false = true from e) | exact fun _ _ _ hw => hw.sees' LE.rfl (by simp) | exact fun _ _ _ hw => hw.sees' (by assumption) (by simp)) : γ.G (o :: rest) a w :=
  bs hl out.toArray h k ho hx (by
    have := fill_of vs _ _ hf
    rw [← this]; congr 1
    apply Array.ext'
    simp [Array.toList_range]) hn hn0 hw hd hN hE hS
/-- What a row's value looks like. -/
theorem S.rowv (k0 : Nat) {v : Value} {e sz n : Nat} {xs : List Value} (h : S E H N D F L a w) (hk : L[k0]? = some (.row v e sz n xs) := by rfl) : ∃ A c, v = .slice A n c := by
  have hown : w.ownsRow 0 e sz v n xs := item_at h.st.sees hk
  rcases hown.2 with ⟨rfl, rfl⟩ | ⟨g, cap, cur, rfl, _⟩
  · exact ⟨_, _, rfl⟩
  · exact ⟨_, _, rfl⟩
end
theorem Hc.all {H : GH} {g : Nat} {l : List Value} {e : TypeId} {z : Nat × Nat} (h : H g = some (.cells l.toArray e z)) : ∀ i u, l[i]? = some u → Hc H g (0 + i) u := fun i u hu => ⟨_, _, _, h, by simpa using hu⟩
end Go.Proofs.YtindlieilabgfaaGreatDoor.X
