/- The operations that look into memory, or write it: own blocks, own rows, what is frozen. -/
import Derived.Test.YtindlieilabgfaaGreatDoorX2
set_option linter.unusedVariables false
set_option linter.unusedSectionVars false
set_option linter.unusedSimpArgs false
set_option linter.unusedSimpArgs false
set_option autoImplicit false
set_option relaxedAutoImplicit false
namespace Go.Proofs.YtindlieilabgfaaGreatDoor.X
open Go

section
variable {P : Program} {ops : Array Oper} {Q : Exit → Act → World → Prop} {γ : Gd P ops Q} {rest : List Oper} {o : Oper} {E w : World} {H : GH} {N : Nat} {D : List Deferred} {F : List (Nat × Value)} {L : List It} {a : Act}
variable {t u : TypeId} {x y : Operand} {d : Nat} {v : Value} {g off : Nat} {cs : Array Value} {ty : TypeId}

/-! ### Addresses -/
theorem run_field {s f fo : Nat} (hf : fldT P s f = some fo) (g off : Nat) (w : World) :
    (Instr.fieldAt s (.pointer (some ⟨g, off, none⟩)) f).run P w = .ok (.pointer (some ⟨g, off + fo, none⟩)) w := by
  unfold fldT at hf
  split at hf
  · rename_i fs hu
    split at hf
    · rename_i fd hfd
      split at hf
      · rename_i j hj
        split at hf
        · cases hf
        · rename_i hz
          cases hf
          unfold Instr.fieldAt
          rw [Sem.run_bind, run_underlying hu]
          simp [hfd, Instr.sureAddr, fieldPlace, sizeOf, typeInfo, hj, hz, Addr.add_mid]
      · cases hf
    · cases hf
  · cases hf
theorem fa {s f fo r : Nat} (hf : fldT P s f = some fo) (h : S E H N D F L a w) (k : ∀ a w, S E H N D ((d, .pointer (some ⟨g, r, none⟩)) :: F) L a w → γ.G rest a w)
    (ho : o.op = .fieldAddr s x f := by rfl) (hx : ev F x = some (.pointer (some ⟨g, off, none⟩)) := by rfl) (hr : off + fo = r := by rfl)
    (hw : wn ops F o = some true := by rfl) (hd : o.dst = some d := by rfl) (hN : Nat.blt d N = true := by rfl) : γ.G (o :: rest) a w :=
  pv h (fun w => by subst hr; simp [execOp, ho, h.ag.ev hx, run_field hf]) k hw hd hN

/-! ### Own blocks -/
theorem cell_own {z : Nat × Nat} (hg : w.heap[g]? = some (.cells cs ty z)) (i : Nat) : w.cell? ⟨g, i, none⟩ = cs[i]? := by simp [World.cell?, hg]
theorem al {zv : Value} (hz : zrT P t = some zv) (h : S E H N D F L a w) (k : ∀ g a w, S E H N D ((d, .pointer (some ⟨g, 0, none⟩)) :: F) (.obj g (.cells cs t (0, 0)) :: L) a w → γ.G rest a w)
    (ho : o.op = .alloc t := by rfl) (hc : zv.cells = cs := by rfl)
    (hw : wn ops F o = some true := by rfl) (hd : o.dst = some d := by rfl) (hN : Nat.blt d N = true := by rfl) (hE : γ.isE rest.length = true := by rfl) (hS : γ.isN rest.length = true → ∀ g w, St E H (.obj g (.cells cs t (0, 0)) :: L) w → γ.S w := by first | exact fun e => Bool.noConfusion (show false = true from e) | exact fun _ _ _ hw => hw.sees' LE.rfl (by simp) | exact fun _ _ _ hw => hw.sees' (by assumption) (by simp)) : γ.G (o :: rest) a w := by
  subst hc
  refine val h hw hd hN hE (fun e => hS e _) (w' := w.alloc (.cells zv.cells t)) ?_ (h.st.alloc _) (k _)
  unfold zrT at hz
  split at hz
  · rename_i i hi
    simp [execOp, ho, Instr.alloc, zeroValue, typeInfo, hi, hz, newVar, newRow, newObj, Sem.run, World.alloc_eq]
  · cases hz
theorem bx1 (h : S E H N D F L a w) (k : ∀ g a w, S E H N D ((d, .pointer (some ⟨g, 0, none⟩)) :: F) (.obj g (.cells #[v] t (0, 0)) :: L) a w → γ.G rest a w)
    (ho : o.op = .box t x := by rfl) (hx : ev F x = some v := by rfl) (hc : v.cells = #[v] := by rfl)
    (hw : wn ops F o = some true := by rfl) (hd : o.dst = some d := by rfl) (hN : Nat.blt d N = true := by rfl) (hE : γ.isE rest.length = true := by rfl) (hS : γ.isN rest.length = true → ∀ g w, St E H (.obj g (.cells #[v] t (0, 0)) :: L) w → γ.S w := by first | exact fun e => Bool.noConfusion (show false = true from e) | exact fun _ _ _ hw => hw.sees' LE.rfl (by simp) | exact fun _ _ _ hw => hw.sees' (by assumption) (by simp)) : γ.G (o :: rest) a w := by
  refine val h hw hd hN hE (fun e => hS e _) (w' := w.alloc (.cells #[v] t)) ?_ (h.st.alloc _) (k _)
  simp [execOp, ho, h.ag.ev hx, Instr.box, newVar, newRow, newObj, Sem.run, World.alloc_eq, hc]
theorem bxA (h : S E H N D F L a w) (k : ∀ g a w, S E H N D ((d, .pointer (some ⟨g, 0, none⟩)) :: F) (.obj g (.cells cs t (0, 0)) :: L) a w → γ.G rest a w)
    (ho : o.op = .box t x := by rfl) (hx : ev F x = some (.agg cs) := by rfl)
    (hw : wn ops F o = some true := by rfl) (hd : o.dst = some d := by rfl) (hN : Nat.blt d N = true := by rfl) (hE : γ.isE rest.length = true := by rfl) (hS : γ.isN rest.length = true → ∀ g w, St E H (.obj g (.cells cs t (0, 0)) :: L) w → γ.S w := by first | exact fun e => Bool.noConfusion (show false = true from e) | exact fun _ _ _ hw => hw.sees' LE.rfl (by simp) | exact fun _ _ _ hw => hw.sees' (by assumption) (by simp)) : γ.G (o :: rest) a w := by
  refine val h hw hd hN hE (fun e => hS e _) (w' := w.alloc (.cells cs t)) ?_ (h.st.alloc _) (k _)
  simp [execOp, ho, h.ag.ev hx, Instr.box, newVar, newRow, newObj, Sem.run, World.alloc_eq, Value.cells]
theorem item_at {i : It} {k : Nat} (h : Sees H L w) (hk : L[k]? = some i) : i.holds w := h.holds i (List.mem_of_getElem? hk)
theorem run_loadAt1 (ht : ty1 P t = true) (hc : w.cell? ⟨g, off, none⟩ = some v) : (Instr.loadAt t (.pointer (some ⟨g, off, none⟩))).run P w = .ok v w := by
  simp [Instr.loadAt, Instr.sureAddr, run_load1 ht _ v hc]
theorem run_loadAtN {n : Nat} {l : List Value} (ht : tyN P t n = true) (hl : l.length = n) (hc : ∀ j v, l[j]? = some v → w.cell? ⟨g, off + j, none⟩ = some v) :
    (Instr.loadAt t (.pointer (some ⟨g, off, none⟩))).run P w = .ok (.agg l.toArray) w := by
  simp [Instr.loadAt, Instr.sureAddr, run_loadN ht g off l hl hc]
/-- A cell of an own block (the k-th item). -/
theorem ldX {H1 : GH} {L1 : List It} (k0 : Nat) {z : Nat × Nat} (ht : ty1 P t = true) (h : S E H N D F L a w) (hR : γ.isR rest.length = true) (hSw : γ.S w) (hW : ∀ w', γ.W w w' → Sees H1 L1 w') (k : ∀ a w, S E H N D ((d, v) :: F) L a w → γ.G rest a w)
    (ho : o.op = .load t x ) (hx : ev F x = some (.pointer (some ⟨g, off, none⟩)) ) (hk : L1[k0]? = some (.obj g (.cells cs ty z)) ) (hv : cs.toList[off]? = some v)
    (hw : wn ops F o = some true ) (hd : o.dst = some d ) (hN : Nat.blt d N = true ) : γ.G (o :: rest) a w :=
  rdv h hR hSw (fun w' hw' => by simp [execOp, ho, h.ag.ev hx, run_loadAt1 (P := P) ht ((cell_own (item_at (hW w' hw') hk) off).trans ((Array.getElem?_toList ..).symm.trans hv))]) k hw hd hN
theorem ld (k0 : Nat) {z : Nat × Nat} (ht : ty1 P t = true) (h : S E H N D F L a w) (k : ∀ a w, S E H N D ((d, v) :: F) L a w → (gl P ops Q).G rest a w)
    (ho : o.op = .load t x := by rfl) (hx : ev F x = some (.pointer (some ⟨g, off, none⟩)) := by rfl) (hk : L[k0]? = some (.obj g (.cells cs ty z)) := by rfl) (hv : cs.toList[off]? = some v := by rfl)
    (hw : wn ops F o = some true := by rfl) (hd : o.dst = some d := by rfl) (hN : Nat.blt d N = true := by rfl) : (gl P ops Q).G (o :: rest) a w :=
  ldX k0 ht h rfl trivial (fun w' e => e ▸ h.st.sees) k ho hx hk hv hw hd hN
theorem ldD {H1 : GH} {L1 : List It} {eff rd : List Nat} {nS : Nat} (k0 : Nat) {z : Nat × Nat} (ht : ty1 P t = true) (h : S E H N D F L a w) (k : ∀ a w, S E H N D ((d, v) :: F) L a w → (gd P ops Q (Sees H1 L1) eff rd nS).G rest a w)
    (ho : o.op = .load t x := by rfl) (hx : ev F x = some (.pointer (some ⟨g, off, none⟩)) := by rfl) (hk : L1[k0]? = some (.obj g (.cells cs ty z)) := by rfl) (hv : cs.toList[off]? = some v := by rfl)
    (hw : wn ops F o = some true := by rfl) (hd : o.dst = some d := by rfl) (hN : Nat.blt d N = true := by rfl) (hR : (gd P ops Q (Sees H1 L1) eff rd nS).isR rest.length = true := by rfl) (hSub : ∀ i ∈ L1, i ∈ L := by simp) (hLe : LE H1 H := by first | exact LE.rfl | assumption) : (gd P ops Q (Sees H1 L1) eff rd nS).G (o :: rest) a w :=
  ldX k0 ht h hR (h.st.sees' hLe hSub) (fun w' e => e) k ho hx hk hv hw hd hN

/-- A whole struct, in an own block of its own. -/
theorem ldWX {H1 : GH} {L1 : List It} (k0 : Nat) {z : Nat × Nat} {n : Nat} (ht : tyN P t n = true) (h : S E H N D F L a w) (hR : γ.isR rest.length = true) (hSw : γ.S w) (hW : ∀ w', γ.W w w' → Sees H1 L1 w') (k : ∀ a w, S E H N D ((d, .agg cs) :: F) L a w → γ.G rest a w)
    (ho : o.op = .load t x ) (hx : ev F x = some (.pointer (some ⟨g, 0, none⟩)) ) (hk : L1[k0]? = some (.obj g (.cells cs ty z)) ) (hn : cs.size = n )
    (hw : wn ops F o = some true ) (hd : o.dst = some d ) (hN : Nat.blt d N = true ) : γ.G (o :: rest) a w := by
  refine rdv h hR hSw (fun w' hw' => ?_) k hw hd hN
  have := run_loadAtN (P := P) (w := w') (g := g) (off := 0) (l := cs.toList) ht (by simpa using hn) (fun j v hv => by
    rw [Nat.zero_add, cell_own (item_at (hW w' hw') hk) j]; simpa using hv)
  simp at this
  simp [execOp, ho, h.ag.ev hx, this]
theorem ldW (k0 : Nat) {z : Nat × Nat} {n : Nat} (ht : tyN P t n = true) (h : S E H N D F L a w) (k : ∀ a w, S E H N D ((d, .agg cs) :: F) L a w → (gl P ops Q).G rest a w)
    (ho : o.op = .load t x := by rfl) (hx : ev F x = some (.pointer (some ⟨g, 0, none⟩)) := by rfl) (hk : L[k0]? = some (.obj g (.cells cs ty z)) := by rfl) (hn : cs.size = n := by rfl)
    (hw : wn ops F o = some true := by rfl) (hd : o.dst = some d := by rfl) (hN : Nat.blt d N = true := by rfl) : (gl P ops Q).G (o :: rest) a w :=
  ldWX k0 ht h rfl trivial (fun w' e => e ▸ h.st.sees) k ho hx hk hn hw hd hN
theorem ldWD {H1 : GH} {L1 : List It} {eff rd : List Nat} {nS : Nat} (k0 : Nat) {z : Nat × Nat} {n : Nat} (ht : tyN P t n = true) (h : S E H N D F L a w) (k : ∀ a w, S E H N D ((d, .agg cs) :: F) L a w → (gd P ops Q (Sees H1 L1) eff rd nS).G rest a w)
    (ho : o.op = .load t x := by rfl) (hx : ev F x = some (.pointer (some ⟨g, 0, none⟩)) := by rfl) (hk : L1[k0]? = some (.obj g (.cells cs ty z)) := by rfl) (hn : cs.size = n := by rfl)
    (hw : wn ops F o = some true := by rfl) (hd : o.dst = some d := by rfl) (hN : Nat.blt d N = true := by rfl) (hR : (gd P ops Q (Sees H1 L1) eff rd nS).isR rest.length = true := by rfl) (hSub : ∀ i ∈ L1, i ∈ L := by simp) (hLe : LE H1 H := by first | exact LE.rfl | assumption) : (gd P ops Q (Sees H1 L1) eff rd nS).G (o :: rest) a w :=
  ldWX k0 ht h hR (h.st.sees' hLe hSub) (fun w' e => e) k ho hx hk hn hw hd hN

/-- A struct within an own block. -/
theorem ldNX {H1 : GH} {L1 : List It} (k0 : Nat) {z : Nat × Nat} {n : Nat} {l : List Value} (ht : tyN P t n = true) (h : S E H N D F L a w) (hR : γ.isR rest.length = true) (hSw : γ.S w) (hW : ∀ w', γ.W w w' → Sees H1 L1 w') (k : ∀ a w, S E H N D ((d, .agg l.toArray) :: F) L a w → γ.G rest a w)
    (ho : o.op = .load t x ) (hx : ev F x = some (.pointer (some ⟨g, off, none⟩)) ) (hk : L1[k0]? = some (.obj g (.cells cs ty z)) )
    (hl : (cs.toList.drop off).take n = l ) (hn : l.length = n )
    (hw : wn ops F o = some true ) (hd : o.dst = some d ) (hN : Nat.blt d N = true ) : γ.G (o :: rest) a w := by
  refine rdv h hR hSw (fun w' hw' => ?_) k hw hd hN
  have := run_loadAtN (P := P) (w := w') (g := g) (off := off) (l := l) ht hn (fun j v hv => by
    rw [cell_own (item_at (hW w' hw') hk) _]
    subst hl
    rw [List.getElem?_take] at hv
    split at hv
    · simpa using hv
    · cases hv)
  simp [execOp, ho, h.ag.ev hx, this]
theorem ldN (k0 : Nat) {z : Nat × Nat} {n : Nat} {l : List Value} (ht : tyN P t n = true) (h : S E H N D F L a w) (k : ∀ a w, S E H N D ((d, .agg l.toArray) :: F) L a w → (gl P ops Q).G rest a w)
    (ho : o.op = .load t x := by rfl) (hx : ev F x = some (.pointer (some ⟨g, off, none⟩)) := by rfl) (hk : L[k0]? = some (.obj g (.cells cs ty z)) := by rfl)
    (hl : (cs.toList.drop off).take n = l := by rfl) (hn : l.length = n := by rfl)
    (hw : wn ops F o = some true := by rfl) (hd : o.dst = some d := by rfl) (hN : Nat.blt d N = true := by rfl) : (gl P ops Q).G (o :: rest) a w :=
  ldNX k0 ht h rfl trivial (fun w' e => e ▸ h.st.sees) k ho hx hk hl hn hw hd hN
theorem ldND {H1 : GH} {L1 : List It} {eff rd : List Nat} {nS : Nat} (k0 : Nat) {z : Nat × Nat} {n : Nat} {l : List Value} (ht : tyN P t n = true) (h : S E H N D F L a w) (k : ∀ a w, S E H N D ((d, .agg l.toArray) :: F) L a w → (gd P ops Q (Sees H1 L1) eff rd nS).G rest a w)
    (ho : o.op = .load t x := by rfl) (hx : ev F x = some (.pointer (some ⟨g, off, none⟩)) := by rfl) (hk : L1[k0]? = some (.obj g (.cells cs ty z)) := by rfl)
    (hl : (cs.toList.drop off).take n = l := by rfl) (hn : l.length = n := by rfl)
    (hw : wn ops F o = some true := by rfl) (hd : o.dst = some d := by rfl) (hN : Nat.blt d N = true := by rfl) (hR : (gd P ops Q (Sees H1 L1) eff rd nS).isR rest.length = true := by rfl) (hSub : ∀ i ∈ L1, i ∈ L := by simp) (hLe : LE H1 H := by first | exact LE.rfl | assumption) : (gd P ops Q (Sees H1 L1) eff rd nS).G (o :: rest) a w :=
  ldNX k0 ht h hR (h.st.sees' hLe hSub) (fun w' e => e) k ho hx hk hl hn hw hd hN

/-- What a store of some cells makes of a block. -/
def wr (cs : Array Value) (o : Nat) : List Value → Array Value
  | [] => cs
  | v :: l => wr (cs.setIfInBounds o v) (o + 1) l
theorem size_wr : ∀ (l : List Value) (cs : Array Value) (o : Nat), (wr cs o l).size = cs.size
  | [], _, _ => rfl
  | v :: l, cs, o => by simp [wr, size_wr l]
theorem heap_setCell (hg : w.heap[g]? = some (.cells cs ty (0, 0))) (v : Value) (b : Nat) :
    (w.setCell ⟨g, off, none⟩ v).heap[b]? = if b = g then some (.cells (cs.setIfInBounds off v) ty (0, 0)) else w.heap[b]? := by
  simp only [World.setCell, Array.getElem?_modify]
  split
  · rename_i e; subst e
    simp [hg]
  · rename_i e
    rw [if_neg (fun e' => e (by omega))]
theorem run_stores : ∀ (l : List Value) (i : Nat) (cs : Array Value) (w : World), w.heap[g]? = some (.cells cs ty (0, 0)) → off + i + l.length ≤ cs.size → (∀ v ∈ l, v.oneCell' = true) →
    ∃ w', (storeCells ⟨g, off, none⟩ l i).run P w = .ok () w' ∧ w'.os = w.os ∧ w'.tape = w.tape ∧ w'.output = w.output ∧ w'.heap.size = w.heap.size ∧
      (∀ b, w'.heap[b]? = if b = g then some (.cells (wr cs (off + i) l) ty (0, 0)) else w.heap[b]?)
  | [], i, cs, w, hg, _, _ => ⟨w, by simp [storeCells], rfl, rfl, rfl, rfl, fun b => by
      split
      · rename_i e; subst e; exact hg
      · rfl⟩
  | v :: l, i, cs, w, hg, hl, h1 => by
    simp only [List.length_cons] at hl
    have hlt : off + i < cs.size := by omega
    have hs : (store ((⟨g, off, none⟩ : Addr).add i) v).run P w = .ok () (w.setCell ⟨g, off + i, none⟩ v) := by
      rw [Addr.add_mid]
      exact oneCell_run (h1 v (List.mem_cons_self ..)) (x := cs[off + i]) (by rw [cell_own hg]; simp [hlt]) (by simp [World.frozen?, hg])
    have hb := heap_setCell (off := off + i) hg v
    obtain ⟨w', hrun, r1, r2, r3, r4, r5⟩ := run_stores l (i + 1) (cs.setIfInBounds (off + i) v) (w.setCell ⟨g, off + i, none⟩ v) (by rw [hb g]; simp) (by simp; omega) (fun u hu => h1 u (List.mem_cons_of_mem _ hu))
    refine ⟨w', by simp [storeCells, hs, hrun], r1, r2, r3, by rw [r4]; simp [World.setCell], fun b => ?_⟩
    rw [r5 b]
    split
    · rfl
    · rename_i e; rw [hb b, if_neg e]
theorem St.wrote {k0 : Nat} {cs' : Array Value} {w' : World} (h : St E H L w) (hk : L[k0]? = some (.obj g (.cells cs ty (0, 0)))) (h1 : w'.os = w.os) (h2 : w'.tape = w.tape) (h3 : w'.output = w.output)
    (hb : ∀ b, w'.heap[b]? = if b = g then some (.cells cs' ty (0, 0)) else w.heap[b]?) : St E H (L.set k0 (.obj g (.cells cs' ty (0, 0)))) w' :=
  h.set hk (by simp [It.holds, hb]) (fun x hx => .inl hx) h1 h2 h3 (fun b _ hn => by rw [hb b, if_neg (fun e => hn (by simp [It.own, e]))])
/-- A store into a cell of an own block. -/
theorem st (k0 : Nat) {L' : List It} (ht : ty1 P t = true) (h : S E H N D F L a w) (k : ∀ a w, S E H N D F L' a w → γ.G rest a w)
    (ho : o.op = .store t x y := by rfl) (hx : ev F x = some (.pointer (some ⟨g, off, none⟩)) := by rfl) (hy : ev F y = some v := by rfl)
    (hk : L[k0]? = some (.obj g (.cells cs ty (0, 0))) := by rfl) (hL : L.set k0 (.obj g (.cells (cs.setIfInBounds off v) ty (0, 0))) = L' := by rfl) (hv : Nat.blt off cs.size = true := by rfl) (h1 : v.oneCell' = true := by rfl)
    (hw : wn ops F o = some true := by rfl) (hd : o.dst = none := by rfl) (hE : γ.isE rest.length = true := by rfl) (hS : γ.isN rest.length = true → ∀ w, St E H L' w → γ.S w := by first | exact fun e => Bool.noConfusion (show false = true from e) | exact fun _ _ hw => hw.sees' LE.rfl (by simp) | exact fun _ _ hw => hw.sees' (by assumption) (by simp)) : γ.G (o :: rest) a w := by
  obtain ⟨w', hrun, r1, r2, r3, r4, r5⟩ := run_stores (P := P) (g := g) (off := off) (ty := ty) [v] 0 cs w (item_at h.st.sees hk) (by simp [Nat.blt_eq] at hv; simp; omega) (by simpa using h1)
  subst hL
  refine unit_ h hw hd hE hS (w' := w') ?_ (h.st.wrote hk r1 r2 r3 (by simpa [wr] using r5)) k
  obtain ⟨_, hu, hnr, i, hi, hs⟩ := und_of1 ht
  have hcells : v.cells = #[v] := by cases v <;> simp_all [Value.cells, Value.oneCell']
  simp [execOp, ho, h.ag.ev hx, h.ag.ev hy, Instr.storeAt, Instr.sureAddr, storeVar, sizeOf, typeInfo, hi, hs, hcells, hrun]
/-- A whole struct, stored into an own block of its own. -/
theorem stW (k0 : Nat) {n : Nat} {vs : Array Value} {L' : List It} (ht : tyN P t n = true) (h : S E H N D F L a w) (k : ∀ a w, S E H N D F L' a w → γ.G rest a w)
    (ho : o.op = .store t x y := by rfl) (hx : ev F x = some (.pointer (some ⟨g, 0, none⟩)) := by rfl) (hy : ev F y = some (.agg vs) := by rfl)
    (hk : L[k0]? = some (.obj g (.cells cs ty (0, 0))) := by rfl) (hL : L.set k0 (.obj g (.cells vs ty (0, 0))) = L' := by rfl) (hn : vs.size = n := by rfl) (hn' : cs.size = n := by rfl) (h1 : vs.toList.all (·.oneCell') = true := by rfl)
    (hw : wn ops F o = some true := by rfl) (hd : o.dst = none := by rfl) (hE : γ.isE rest.length = true := by rfl) (hS : γ.isN rest.length = true → ∀ w, St E H L' w → γ.S w := by first | exact fun e => Bool.noConfusion (show false = true from e) | exact fun _ _ hw => hw.sees' LE.rfl (by simp) | exact fun _ _ hw => hw.sees' (by assumption) (by simp)) : γ.G (o :: rest) a w := by
  subst hL
  obtain ⟨d', hu, hr, hi⟩ := und_ofN ht
  have hg : w.heap[g]? = some (.cells cs ty (0, 0)) := item_at h.st.sees hk
  have hrun := run_storeVar_row (P := P) w g ty t cs vs hg (by rw [hi, hn]) (by rw [hn, hn']) (by rw [← Array.all_toList]; exact h1)
  refine unit_ h hw hd hE hS (w' := w.setRow g vs) (by simp [execOp, ho, h.ag.ev hx, h.ag.ev hy, Instr.storeAt, Instr.sureAddr, hrun]) (h.st.wrote hk rfl rfl rfl (fun b => ?_)) k
  simp only [World.setRow, Array.getElem?_modify]
  split
  · rename_i e; subst e; simp [hg]
  · rename_i e; rw [if_neg (fun e' => e (by omega))]
theorem st0 {l : List Value} (ht : ty1 P t = true) (h : S E H N D F (.obj g (.cells cs ty (0, 0)) :: L) a w) (k : ∀ a w, S E H N D F (.obj g (.cells l.toArray ty (0, 0)) :: L) a w → γ.G rest a w)
    (ho : o.op = .store t x y := by rfl) (hx : ev F x = some (.pointer (some ⟨g, off, none⟩)) := by rfl) (hy : ev F y = some v := by rfl)
    (hc : cs.toList.set off v = l := by rfl) (hv : Nat.blt off cs.size = true := by rfl) (h1 : v.oneCell' = true := by rfl)
    (hw : wn ops F o = some true := by rfl) (hd : o.dst = none := by rfl) (hE : γ.isE rest.length = true := by rfl) (hS : γ.isN rest.length = true → ∀ w, St E H (.obj g (.cells l.toArray ty (0, 0)) :: L) w → γ.S w := by first | exact fun e => Bool.noConfusion (show false = true from e) | exact fun _ _ hw => hw.sees' LE.rfl (by simp) | exact fun _ _ hw => hw.sees' (by assumption) (by simp)) : γ.G (o :: rest) a w := st 0 ht h k ho hx hy rfl (by subst hc; simp only [List.set_cons_zero, List.set_cons_succ]; congr; simp [← Array.toList_setIfInBounds]) hv h1 hw hd hE hS
theorem sw0 {n : Nat} {vs : Array Value} (ht : tyN P t n = true) (h : S E H N D F (.obj g (.cells cs ty (0, 0)) :: L) a w) (k : ∀ a w, S E H N D F (.obj g (.cells vs ty (0, 0)) :: L) a w → γ.G rest a w)
    (ho : o.op = .store t x y := by rfl) (hx : ev F x = some (.pointer (some ⟨g, 0, none⟩)) := by rfl) (hy : ev F y = some (.agg vs) := by rfl)
    (hn : vs.size = n := by rfl) (hn' : cs.size = n := by rfl) (h1 : vs.toList.all (·.oneCell') = true := by rfl)
    (hw : wn ops F o = some true := by rfl) (hd : o.dst = none := by rfl) (hE : γ.isE rest.length = true := by rfl) (hS : γ.isN rest.length = true → ∀ w, St E H (.obj g (.cells vs ty (0, 0)) :: L) w → γ.S w := by first | exact fun e => Bool.noConfusion (show false = true from e) | exact fun _ _ hw => hw.sees' LE.rfl (by simp) | exact fun _ _ hw => hw.sees' (by assumption) (by simp)) : γ.G (o :: rest) a w := stW 0 ht h k ho hx hy rfl rfl hn hn' h1 hw hd hE hS
theorem st1 {i0 : It} {l : List Value} (ht : ty1 P t = true) (h : S E H N D F (i0 :: .obj g (.cells cs ty (0, 0)) :: L) a w) (k : ∀ a w, S E H N D F (i0 :: .obj g (.cells l.toArray ty (0, 0)) :: L) a w → γ.G rest a w)
    (ho : o.op = .store t x y := by rfl) (hx : ev F x = some (.pointer (some ⟨g, off, none⟩)) := by rfl) (hy : ev F y = some v := by rfl)
    (hc : cs.toList.set off v = l := by rfl) (hv : Nat.blt off cs.size = true := by rfl) (h1 : v.oneCell' = true := by rfl)
    (hw : wn ops F o = some true := by rfl) (hd : o.dst = none := by rfl) (hE : γ.isE rest.length = true := by rfl) (hS : γ.isN rest.length = true → ∀ w, St E H (i0 :: .obj g (.cells l.toArray ty (0, 0)) :: L) w → γ.S w := by first | exact fun e => Bool.noConfusion (show false = true from e) | exact fun _ _ hw => hw.sees' LE.rfl (by simp) | exact fun _ _ hw => hw.sees' (by assumption) (by simp)) : γ.G (o :: rest) a w := st 1 ht h k ho hx hy rfl (by subst hc; simp only [List.set_cons_zero, List.set_cons_succ]; congr; simp [← Array.toList_setIfInBounds]) hv h1 hw hd hE hS
theorem sw1 {i0 : It} {n : Nat} {vs : Array Value} (ht : tyN P t n = true) (h : S E H N D F (i0 :: .obj g (.cells cs ty (0, 0)) :: L) a w) (k : ∀ a w, S E H N D F (i0 :: .obj g (.cells vs ty (0, 0)) :: L) a w → γ.G rest a w)
    (ho : o.op = .store t x y := by rfl) (hx : ev F x = some (.pointer (some ⟨g, 0, none⟩)) := by rfl) (hy : ev F y = some (.agg vs) := by rfl)
    (hn : vs.size = n := by rfl) (hn' : cs.size = n := by rfl) (h1 : vs.toList.all (·.oneCell') = true := by rfl)
    (hw : wn ops F o = some true := by rfl) (hd : o.dst = none := by rfl) (hE : γ.isE rest.length = true := by rfl) (hS : γ.isN rest.length = true → ∀ w, St E H (i0 :: .obj g (.cells vs ty (0, 0)) :: L) w → γ.S w := by first | exact fun e => Bool.noConfusion (show false = true from e) | exact fun _ _ hw => hw.sees' LE.rfl (by simp) | exact fun _ _ hw => hw.sees' (by assumption) (by simp)) : γ.G (o :: rest) a w := stW 1 ht h k ho hx hy rfl rfl hn hn' h1 hw hd hE hS
theorem st2 {i0 i1 : It} {l : List Value} (ht : ty1 P t = true) (h : S E H N D F (i0 :: i1 :: .obj g (.cells cs ty (0, 0)) :: L) a w) (k : ∀ a w, S E H N D F (i0 :: i1 :: .obj g (.cells l.toArray ty (0, 0)) :: L) a w → γ.G rest a w)
    (ho : o.op = .store t x y := by rfl) (hx : ev F x = some (.pointer (some ⟨g, off, none⟩)) := by rfl) (hy : ev F y = some v := by rfl)
    (hc : cs.toList.set off v = l := by rfl) (hv : Nat.blt off cs.size = true := by rfl) (h1 : v.oneCell' = true := by rfl)
    (hw : wn ops F o = some true := by rfl) (hd : o.dst = none := by rfl) (hE : γ.isE rest.length = true := by rfl) (hS : γ.isN rest.length = true → ∀ w, St E H (i0 :: i1 :: .obj g (.cells l.toArray ty (0, 0)) :: L) w → γ.S w := by first | exact fun e => Bool.noConfusion (show false = true from e) | exact fun _ _ hw => hw.sees' LE.rfl (by simp) | exact fun _ _ hw => hw.sees' (by assumption) (by simp)) : γ.G (o :: rest) a w := st 2 ht h k ho hx hy rfl (by subst hc; simp only [List.set_cons_zero, List.set_cons_succ]; congr; simp [← Array.toList_setIfInBounds]) hv h1 hw hd hE hS
theorem sw2 {i0 i1 : It} {n : Nat} {vs : Array Value} (ht : tyN P t n = true) (h : S E H N D F (i0 :: i1 :: .obj g (.cells cs ty (0, 0)) :: L) a w) (k : ∀ a w, S E H N D F (i0 :: i1 :: .obj g (.cells vs ty (0, 0)) :: L) a w → γ.G rest a w)
    (ho : o.op = .store t x y := by rfl) (hx : ev F x = some (.pointer (some ⟨g, 0, none⟩)) := by rfl) (hy : ev F y = some (.agg vs) := by rfl)
    (hn : vs.size = n := by rfl) (hn' : cs.size = n := by rfl) (h1 : vs.toList.all (·.oneCell') = true := by rfl)
    (hw : wn ops F o = some true := by rfl) (hd : o.dst = none := by rfl) (hE : γ.isE rest.length = true := by rfl) (hS : γ.isN rest.length = true → ∀ w, St E H (i0 :: i1 :: .obj g (.cells vs ty (0, 0)) :: L) w → γ.S w := by first | exact fun e => Bool.noConfusion (show false = true from e) | exact fun _ _ hw => hw.sees' LE.rfl (by simp) | exact fun _ _ hw => hw.sees' (by assumption) (by simp)) : γ.G (o :: rest) a w := stW 2 ht h k ho hx hy rfl rfl hn hn' h1 hw hd hE hS
theorem st3 {i0 i1 i2 : It} {l : List Value} (ht : ty1 P t = true) (h : S E H N D F (i0 :: i1 :: i2 :: .obj g (.cells cs ty (0, 0)) :: L) a w) (k : ∀ a w, S E H N D F (i0 :: i1 :: i2 :: .obj g (.cells l.toArray ty (0, 0)) :: L) a w → γ.G rest a w)
    (ho : o.op = .store t x y := by rfl) (hx : ev F x = some (.pointer (some ⟨g, off, none⟩)) := by rfl) (hy : ev F y = some v := by rfl)
    (hc : cs.toList.set off v = l := by rfl) (hv : Nat.blt off cs.size = true := by rfl) (h1 : v.oneCell' = true := by rfl)
    (hw : wn ops F o = some true := by rfl) (hd : o.dst = none := by rfl) (hE : γ.isE rest.length = true := by rfl) (hS : γ.isN rest.length = true → ∀ w, St E H (i0 :: i1 :: i2 :: .obj g (.cells l.toArray ty (0, 0)) :: L) w → γ.S w := by first | exact fun e => Bool.noConfusion (show false = true from e) | exact fun _ _ hw => hw.sees' LE.rfl (by simp) | exact fun _ _ hw => hw.sees' (by assumption) (by simp)) : γ.G (o :: rest) a w := st 3 ht h k ho hx hy rfl (by subst hc; simp only [List.set_cons_zero, List.set_cons_succ]; congr; simp [← Array.toList_setIfInBounds]) hv h1 hw hd hE hS
theorem sw3 {i0 i1 i2 : It} {n : Nat} {vs : Array Value} (ht : tyN P t n = true) (h : S E H N D F (i0 :: i1 :: i2 :: .obj g (.cells cs ty (0, 0)) :: L) a w) (k : ∀ a w, S E H N D F (i0 :: i1 :: i2 :: .obj g (.cells vs ty (0, 0)) :: L) a w → γ.G rest a w)
    (ho : o.op = .store t x y := by rfl) (hx : ev F x = some (.pointer (some ⟨g, 0, none⟩)) := by rfl) (hy : ev F y = some (.agg vs) := by rfl)
    (hn : vs.size = n := by rfl) (hn' : cs.size = n := by rfl) (h1 : vs.toList.all (·.oneCell') = true := by rfl)
    (hw : wn ops F o = some true := by rfl) (hd : o.dst = none := by rfl) (hE : γ.isE rest.length = true := by rfl) (hS : γ.isN rest.length = true → ∀ w, St E H (i0 :: i1 :: i2 :: .obj g (.cells vs ty (0, 0)) :: L) w → γ.S w := by first | exact fun e => Bool.noConfusion (show false = true from e) | exact fun _ _ hw => hw.sees' LE.rfl (by simp) | exact fun _ _ hw => hw.sees' (by assumption) (by simp)) : γ.G (o :: rest) a w := stW 3 ht h k ho hx hy rfl rfl hn hn' h1 hw hd hE hS
theorem st4 {i0 i1 i2 i3 : It} {l : List Value} (ht : ty1 P t = true) (h : S E H N D F (i0 :: i1 :: i2 :: i3 :: .obj g (.cells cs ty (0, 0)) :: L) a w) (k : ∀ a w, S E H N D F (i0 :: i1 :: i2 :: i3 :: .obj g (.cells l.toArray ty (0, 0)) :: L) a w → γ.G rest a w)
    (ho : o.op = .store t x y := by rfl) (hx : ev F x = some (.pointer (some ⟨g, off, none⟩)) := by rfl) (hy : ev F y = some v := by rfl)
    (hc : cs.toList.set off v = l := by rfl) (hv : Nat.blt off cs.size = true := by rfl) (h1 : v.oneCell' = true := by rfl)
    (hw : wn ops F o = some true := by rfl) (hd : o.dst = none := by rfl) (hE : γ.isE rest.length = true := by rfl) (hS : γ.isN rest.length = true → ∀ w, St E H (i0 :: i1 :: i2 :: i3 :: .obj g (.cells l.toArray ty (0, 0)) :: L) w → γ.S w := by first | exact fun e => Bool.noConfusion (show false = true from e) | exact fun _ _ hw => hw.sees' LE.rfl (by simp) | exact fun _ _ hw => hw.sees' (by assumption) (by simp)) : γ.G (o :: rest) a w := st 4 ht h k ho hx hy rfl (by subst hc; simp only [List.set_cons_zero, List.set_cons_succ]; congr; simp [← Array.toList_setIfInBounds]) hv h1 hw hd hE hS
theorem sw4 {i0 i1 i2 i3 : It} {n : Nat} {vs : Array Value} (ht : tyN P t n = true) (h : S E H N D F (i0 :: i1 :: i2 :: i3 :: .obj g (.cells cs ty (0, 0)) :: L) a w) (k : ∀ a w, S E H N D F (i0 :: i1 :: i2 :: i3 :: .obj g (.cells vs ty (0, 0)) :: L) a w → γ.G rest a w)
    (ho : o.op = .store t x y := by rfl) (hx : ev F x = some (.pointer (some ⟨g, 0, none⟩)) := by rfl) (hy : ev F y = some (.agg vs) := by rfl)
    (hn : vs.size = n := by rfl) (hn' : cs.size = n := by rfl) (h1 : vs.toList.all (·.oneCell') = true := by rfl)
    (hw : wn ops F o = some true := by rfl) (hd : o.dst = none := by rfl) (hE : γ.isE rest.length = true := by rfl) (hS : γ.isN rest.length = true → ∀ w, St E H (i0 :: i1 :: i2 :: i3 :: .obj g (.cells vs ty (0, 0)) :: L) w → γ.S w := by first | exact fun e => Bool.noConfusion (show false = true from e) | exact fun _ _ hw => hw.sees' LE.rfl (by simp) | exact fun _ _ hw => hw.sees' (by assumption) (by simp)) : γ.G (o :: rest) a w := stW 4 ht h k ho hx hy rfl rfl hn hn' h1 hw hd hE hS
theorem st5 {i0 i1 i2 i3 i4 : It} {l : List Value} (ht : ty1 P t = true) (h : S E H N D F (i0 :: i1 :: i2 :: i3 :: i4 :: .obj g (.cells cs ty (0, 0)) :: L) a w) (k : ∀ a w, S E H N D F (i0 :: i1 :: i2 :: i3 :: i4 :: .obj g (.cells l.toArray ty (0, 0)) :: L) a w → γ.G rest a w)
    (ho : o.op = .store t x y := by rfl) (hx : ev F x = some (.pointer (some ⟨g, off, none⟩)) := by rfl) (hy : ev F y = some v := by rfl)
    (hc : cs.toList.set off v = l := by rfl) (hv : Nat.blt off cs.size = true := by rfl) (h1 : v.oneCell' = true := by rfl)
    (hw : wn ops F o = some true := by rfl) (hd : o.dst = none := by rfl) (hE : γ.isE rest.length = true := by rfl) (hS : γ.isN rest.length = true → ∀ w, St E H (i0 :: i1 :: i2 :: i3 :: i4 :: .obj g (.cells l.toArray ty (0, 0)) :: L) w → γ.S w := by first | exact fun e => Bool.noConfusion (show false = true from e) | exact fun _ _ hw => hw.sees' LE.rfl (by simp) | exact fun _ _ hw => hw.sees' (by assumption) (by simp)) : γ.G (o :: rest) a w := st 5 ht h k ho hx hy rfl (by subst hc; simp only [List.set_cons_zero, List.set_cons_succ]; congr; simp [← Array.toList_setIfInBounds]) hv h1 hw hd hE hS
theorem sw5 {i0 i1 i2 i3 i4 : It} {n : Nat} {vs : Array Value} (ht : tyN P t n = true) (h : S E H N D F (i0 :: i1 :: i2 :: i3 :: i4 :: .obj g (.cells cs ty (0, 0)) :: L) a w) (k : ∀ a w, S E H N D F (i0 :: i1 :: i2 :: i3 :: i4 :: .obj g (.cells vs ty (0, 0)) :: L) a w → γ.G rest a w)
    (ho : o.op = .store t x y := by rfl) (hx : ev F x = some (.pointer (some ⟨g, 0, none⟩)) := by rfl) (hy : ev F y = some (.agg vs) := by rfl)
    (hn : vs.size = n := by rfl) (hn' : cs.size = n := by rfl) (h1 : vs.toList.all (·.oneCell') = true := by rfl)
    (hw : wn ops F o = some true := by rfl) (hd : o.dst = none := by rfl) (hE : γ.isE rest.length = true := by rfl) (hS : γ.isN rest.length = true → ∀ w, St E H (i0 :: i1 :: i2 :: i3 :: i4 :: .obj g (.cells vs ty (0, 0)) :: L) w → γ.S w := by first | exact fun e => Bool.noConfusion (show false = true from e) | exact fun _ _ hw => hw.sees' LE.rfl (by simp) | exact fun _ _ hw => hw.sees' (by assumption) (by simp)) : γ.G (o :: rest) a w := stW 5 ht h k ho hx hy rfl rfl hn hn' h1 hw hd hE hS
theorem st6 {i0 i1 i2 i3 i4 i5 : It} {l : List Value} (ht : ty1 P t = true) (h : S E H N D F (i0 :: i1 :: i2 :: i3 :: i4 :: i5 :: .obj g (.cells cs ty (0, 0)) :: L) a w) (k : ∀ a w, S E H N D F (i0 :: i1 :: i2 :: i3 :: i4 :: i5 :: .obj g (.cells l.toArray ty (0, 0)) :: L) a w → γ.G rest a w)
    (ho : o.op = .store t x y := by rfl) (hx : ev F x = some (.pointer (some ⟨g, off, none⟩)) := by rfl) (hy : ev F y = some v := by rfl)
    (hc : cs.toList.set off v = l := by rfl) (hv : Nat.blt off cs.size = true := by rfl) (h1 : v.oneCell' = true := by rfl)
    (hw : wn ops F o = some true := by rfl) (hd : o.dst = none := by rfl) (hE : γ.isE rest.length = true := by rfl) (hS : γ.isN rest.length = true → ∀ w, St E H (i0 :: i1 :: i2 :: i3 :: i4 :: i5 :: .obj g (.cells l.toArray ty (0, 0)) :: L) w → γ.S w := by first | exact fun e => Bool.noConfusion (show false = true from e) | exact fun _ _ hw => hw.sees' LE.rfl (by simp) | exact fun _ _ hw => hw.sees' (by assumption) (by simp)) : γ.G (o :: rest) a w := st 6 ht h k ho hx hy rfl (by subst hc; simp only [List.set_cons_zero, List.set_cons_succ]; congr; simp [← Array.toList_setIfInBounds]) hv h1 hw hd hE hS
theorem sw6 {i0 i1 i2 i3 i4 i5 : It} {n : Nat} {vs : Array Value} (ht : tyN P t n = true) (h : S E H N D F (i0 :: i1 :: i2 :: i3 :: i4 :: i5 :: .obj g (.cells cs ty (0, 0)) :: L) a w) (k : ∀ a w, S E H N D F (i0 :: i1 :: i2 :: i3 :: i4 :: i5 :: .obj g (.cells vs ty (0, 0)) :: L) a w → γ.G rest a w)
    (ho : o.op = .store t x y := by rfl) (hx : ev F x = some (.pointer (some ⟨g, 0, none⟩)) := by rfl) (hy : ev F y = some (.agg vs) := by rfl)
    (hn : vs.size = n := by rfl) (hn' : cs.size = n := by rfl) (h1 : vs.toList.all (·.oneCell') = true := by rfl)
    (hw : wn ops F o = some true := by rfl) (hd : o.dst = none := by rfl) (hE : γ.isE rest.length = true := by rfl) (hS : γ.isN rest.length = true → ∀ w, St E H (i0 :: i1 :: i2 :: i3 :: i4 :: i5 :: .obj g (.cells vs ty (0, 0)) :: L) w → γ.S w := by first | exact fun e => Bool.noConfusion (show false = true from e) | exact fun _ _ hw => hw.sees' LE.rfl (by simp) | exact fun _ _ hw => hw.sees' (by assumption) (by simp)) : γ.G (o :: rest) a w := stW 6 ht h k ho hx hy rfl rfl hn hn' h1 hw hd hE hS
end
end Go.Proofs.YtindlieilabgfaaGreatDoor.X
