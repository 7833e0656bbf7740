/- Package-level tables, slices of texts, contracts of the library. -/
import Derived.Test.YtindlieilabgfaaGreatDoorX7
set_option linter.unusedVariables false
set_option linter.unusedSectionVars false
set_option linter.unusedSimpArgs false
set_option linter.unusedSimpArgs false
set_option autoImplicit false
set_option relaxedAutoImplicit false
namespace Go.Proofs.YtindlieilabgfaaGreatDoor.X
open Go Go.RowKit

theorem St.below {E w w' : World} {H : GH} {L : List It} (h : St E H L w) (hb : Below w.heap.size w w') : St E H L w' :=
  ⟨hb.os.trans h.os, hb.tape.trans h.tape, hb.output.trans h.output, fun b o e => (hb.block b (h.size_le e)).trans (h.fro b o e),
   fun i hi => It.kept (h.holds i hi) (fun g hg => hb.block g (It.lt (h.holds i hi) hg)), h.off, h.apart⟩
/-- A contract that leaves all that was there as it was. -/
theorem Ok.of_below {P : Program} {f : FuncId} {args : Array Value} {E : World} {H : GH} {L : List It} {v : Value}
    (h : ∀ w, St E H L w → Calls P f args w fun e w' => e = .returned v ∧ Below w.heap.size w w') : Ok P f args E H L fun r H' L' => r = v ∧ H = H' ∧ L = L' := fun w hw =>
  (h w hw).mono fun e w' ⟨he, hb⟩ => ⟨v, H, L, he, LE.rfl, hw.below hb, rfl, rfl, rfl⟩
section
variable {P : Program} {ops : Array Oper} {Q : Exit → Act → World → Prop} {γ : Gd P ops Q} {rest : List Oper} {o : Oper} {E w : World} {H : GH} {N : Nat} {D : List Deferred} {F : List (Nat × Value)} {L : List It} {a : Act}
variable {t u : TypeId} {x y : Operand} {d : Nat} {v : Value} {g off : Nat} {cs : Array Value} {ty : TypeId}
def arrT (P : Program) (t : TypeId) : Option (Nat × TypeId) := match P.underlying t with
  | some (.array n e) => some (n, e)
  | _ => none
theorem und_arr {n e : Nat} (h : arrT P t = some (n, e)) : P.underlying t = some (.array n e) := by
  unfold arrT at h; split at h
  · rename_i k e hu; simp at h; obtain ⟨rfl, rfl⟩ := h; exact hu
  · cases h
theorem szT_of {sz : Nat} (hz : szT P t sz = true) : ∃ i, P.info? t = some i ∧ i.size = sz := by
  unfold szT at hz; split at hz
  · rename_i i hi; exact ⟨i, hi, by simpa using hz⟩
  · cases hz
/-- A whole array as a slice. -/
theorem sla {n e sz : Nat} (hs : arrT P t = some (n, e)) (hz : szT P e sz = true) (h : S E H N D F L a w) (k : ∀ a w, S E H N D ((d, .slice (some ⟨g, off, none⟩) n n) :: F) L a w → γ.G rest a w)
    (ho : o.op = .slice t x none none none := by rfl) (hx : ev F x = some (.pointer (some ⟨g, off, none⟩)) := by rfl)
    (hw : wn ops F o = some true := by rfl) (hd : o.dst = some d := by rfl) (hN : Nat.blt d N = true := by rfl) : γ.G (o :: rest) a w := by
  obtain ⟨i, hi, hsz⟩ := szT_of hz
  exact pv h (fun w => by
    simp [execOp, ho, h.ag.ev hx, Instr.sliceAt, run_underlying (und_arr hs), Instr.sureAddr, Instr.sliceBounds, sizeOf, typeInfo, hi, hsz, Addr.add]) k hw hd hN
theorem iaA {n e sz j : Nat} {i : Int} {q : IntKind} (hs : arrT P t = some (n, e)) (hz : szT P e sz = true) (hi : i = j) (hj : j < n) (h : S E H N D F L a w)
    (k : ∀ a w, S E H N D ((d, .pointer (some ⟨g, off + j * sz, none⟩)) :: F) L a w → γ.G rest a w)
    (ho : o.op = .indexAddr t x y := by rfl) (hx : ev F x = some (.pointer (some ⟨g, off, none⟩)) := by rfl) (hy : ev F y = some (.int q i) := by rfl)
    (hw : wn ops F o = some true := by rfl) (hd : o.dst = some d := by rfl) (hN : Nat.blt d N = true := by rfl) : γ.G (o :: rest) a w := by
  subst hi
  obtain ⟨i, hi, hsz⟩ := szT_of hz
  exact pv h (fun w => by
    simp [execOp, ho, h.ag.ev hx, h.ag.ev hy, Instr.indexAt, asIntOf, run_underlying (und_arr hs), Instr.sureAddr, sizeOf, typeInfo, hi, hsz, hj, Addr.add_mid]) k hw hd hN
/-- 's[lo:hi:max]', 's[lo:hi]', .. of a slice: what is cut. -/
theorem sl {lo hi mx : Option Operand} {e sz n c l h' m : Nat} {A : Option Addr} (hs : sliT P t = some e) (hz : szT P e sz = true) (hb : ∀ w, (Instr.sliceBounds true n c (lo.map a.eval) (hi.map a.eval) (mx.map a.eval)).run P w = .ok (l, h', m) w) (h : S E H N D F L a w)
    (k : ∀ a w, S E H N D ((d, .slice (if m = l then A else A.map (·.add (l * sz))) (h' - l) (m - l)) :: F) L a w → γ.G rest a w)
    (ho : o.op = .slice t x lo hi mx := by rfl) (hx : ev F x = some (.slice A n c) := by rfl)
    (hw : wn ops F o = some true := by rfl) (hd : o.dst = some d := by rfl) (hN : Nat.blt d N = true := by rfl) : γ.G (o :: rest) a w := by
  have hu : P.underlying t = some (.slice e) := by
    unfold sliT at hs; split at hs
    · rename_i e' he; cases hs; exact he
    · cases hs
  obtain ⟨i, hi', hsz⟩ := szT_of hz
  exact pv h (fun w => by
    simp [execOp, ho, h.ag.ev hx, Instr.sliceAt, run_underlying hu, Instr.slice, hb, sizeOf, typeInfo, hi', hsz]) k hw hd hN
end

/-! ### Slices of texts -/
def RStr (_H : GH) (cs : List Value) (s : List UInt8) : Prop := cs = [.string ⟨s.toArray⟩]
abbrev SS (H : GH) (A : Option Addr) (c : Nat) (ss : List (List UInt8)) : Prop := RS RStr 1 H (.slice A ss.length c) ss
theorem SS.up {H H' : GH} {A : Option Addr} {c : Nat} {ss : List (List UInt8)} (h : SS H A c ss) (hl : LE H H') : SS H' A c ss := RS.mono h hl fun _ _ _ h => h
theorem SS.get {H : GH} {A : Option Addr} {c : Nat} {ss : List (List UInt8)} (h : SS H A c ss) {j : Nat} (hj : j < ss.length) :
    ∃ g off, A = some ⟨g, off, none⟩ ∧ Hc H g (off + j * 1) (.string ⟨ss[j].toArray⟩) := by
  obtain ⟨g, off, cs, hA, hl, hr, hc⟩ := RS.at_ h (List.getElem?_eq_getElem hj)
  unfold RStr at hr; subst hr
  exact ⟨g, off, hA, by simpa using hc 0 _ rfl⟩
theorem rstr_one {H : GH} {ss : List (List UInt8)} : ∀ cs y, y ∈ ss → RStr H cs y → ∀ u ∈ cs, u.oneCell' = true := by
  intro cs y _ h u hu
  unfold RStr at h; subst h
  simp at hu; subst hu; rfl
end Go.Proofs.YtindlieilabgfaaGreatDoor.X
