/- Operations on maps, bytes of a text, deferred calls, rows that are frozen, cuts. -/
import Derived.Test.YtindlieilabgfaaGreatDoorX6
set_option linter.unusedVariables false
set_option linter.unusedSectionVars false
set_option linter.unusedSimpArgs false
set_option linter.unusedSimpArgs false
set_option autoImplicit false
set_option relaxedAutoImplicit false
namespace Go.Proofs.YtindlieilabgfaaGreatDoor.X
open Go

section
variable {P : Program} {ops : Array Oper} {Q : Exit → Act → World → Prop} {γ : Gd P ops Q} {rest : List Oper} {o : Oper} {E w : World} {H : GH} {N : Nat} {D : List Deferred} {F : List (Nat × Value)} {L : List It} {a : Act}
variable {t u : TypeId} {x y : Operand} {d : Nat} {v : Value} {g off : Nat} {cs : Array Value} {ty : TypeId}
variable {κ : Type} [DecidableEq κ] {kt et : TypeId} {enc : κ → Value} {kind : TypeDesc} {f : κ → Option Value}

/-! ### Maps -/
def mapT (P : Program) (t : TypeId) : Option (TypeId × TypeId) := match P.underlying t with
  | some (.map k e) => some (k, e)
  | _ => none
theorem und_map (h : mapT P t = some (kt, et)) : P.underlying t = some (.map kt et) := by
  unfold mapT at h; split at h
  · rename_i k e hu; simp at h; obtain ⟨rfl, rfl⟩ := h; exact hu
  · cases h
theorem mk0 (h : S E H N D F L a w) (k : ∀ g a w, S E H N D ((d, .map (some g)) :: F) (.blk g (IsMap enc (fun _ => none)) :: L) a w → γ.G rest a w)
    (ho : o.op = .makeMap t none := by rfl) (hw : wn ops F o = some true := by rfl) (hd : o.dst = some d := by rfl) (hN : Nat.blt d N = true := by rfl)
    (hE : γ.isE rest.length = true := by rfl) (hS : γ.isN rest.length = true → ∀ g w, St E H (.blk g (IsMap enc (fun _ => none)) :: L) w → γ.S w := by first | exact fun e => Bool.noConfusion (show false = true from e) | exact fun _ _ _ hw => hw.sees' LE.rfl (by simp) | exact fun _ _ _ hw => hw.sees' (by assumption) (by simp)) : γ.G (o :: rest) a w := by
  have h1 := h.st.alloc (.map #[] 0)
  have h2 : St E H (.blk w.heap.size (IsMap enc (fun _ => none)) :: L) (w.alloc (.map #[] 0)) :=
    h1.set (k := 0) (i := .obj w.heap.size (.map #[] 0)) rfl ⟨_, h1.holds _ (List.mem_cons_self ..), isMap_empty enc⟩ (fun x hx => .inl hx) rfl rfl rfl (fun _ _ _ => rfl)
  refine val h hw hd hN hE (fun e => hS e _) (w' := w.alloc (.map #[] 0)) ?_ h2 (k _)
  simp [execOp, ho, Instr.makeMap, newObj, Sem.run, World.alloc_eq]
theorem lkX {H1 : GH} {L1 : List It} (k0 : Nat) {z : Value} {q : κ} (K : KeyLaw P kt enc kind) (ht : mapT P t = some (kt, et)) (hz : zrT P et = some z) (h : S E H N D F L a w)
    (hR : γ.isR rest.length = true) (hSw : γ.S w) (hW : ∀ w', γ.W w w' → Sees H1 L1 w') (k : ∀ a w, S E H N D ((d, .tuple #[(f q).getD z, .bool (f q).isSome]) :: F) L a w → γ.G rest a w)
    (ho : o.op = .lookup t x y true) (hx : ev F x = some (.map (some g))) (hy : ev F y = some (enc q)) (hk : L1[k0]? = some (.blk g (IsMap enc f)))
    (hw : wn ops F o = some true) (hd : o.dst = some d) (hN : Nat.blt d N = true) : γ.G (o :: rest) a w :=
  rdv h hR hSw (fun w' hw' => by
    obtain ⟨o', hg, hm⟩ := item_at (hW w' hw') hk
    have := run_lookup K (und_map ht) hz hg hm q true
    simp only [if_true] at this
    simp [execOp, ho, h.ag.ev hx, h.ag.ev hy, this]) k hw hd hN
theorem lk (k0 : Nat) {z : Value} {q : κ} (K : KeyLaw P kt enc kind) (ht : mapT P t = some (kt, et)) (hz : zrT P et = some z) (h : S E H N D F L a w)
    (k : ∀ a w, S E H N D ((d, .tuple #[(f q).getD z, .bool (f q).isSome]) :: F) L a w → (gl P ops Q).G rest a w)
    (ho : o.op = .lookup t x y true := by rfl) (hx : ev F x = some (.map (some g)) := by rfl) (hy : ev F y = some (enc q) := by rfl) (hk : L[k0]? = some (.blk g (IsMap enc f)) := by rfl)
    (hw : wn ops F o = some true := by rfl) (hd : o.dst = some d := by rfl) (hN : Nat.blt d N = true := by rfl) : (gl P ops Q).G (o :: rest) a w :=
  lkX k0 K ht hz h rfl trivial (fun w' e => e ▸ h.st.sees) k ho hx hy hk hw hd hN
theorem lkD {H1 : GH} {L1 : List It} {eff rd : List Nat} {nS : Nat} (k0 : Nat) {z : Value} {q : κ} (K : KeyLaw P kt enc kind) (ht : mapT P t = some (kt, et)) (hz : zrT P et = some z) (h : S E H N D F L a w)
    (k : ∀ a w, S E H N D ((d, .tuple #[(f q).getD z, .bool (f q).isSome]) :: F) L a w → (gd P ops Q (Sees H1 L1) eff rd nS).G rest a w)
    (ho : o.op = .lookup t x y true := by rfl) (hx : ev F x = some (.map (some g)) := by rfl) (hy : ev F y = some (enc q) := by rfl) (hk : L1[k0]? = some (.blk g (IsMap enc f)) := by rfl)
    (hw : wn ops F o = some true := by rfl) (hd : o.dst = some d := by rfl) (hN : Nat.blt d N = true := by rfl)
    (hR : (gd P ops Q (Sees H1 L1) eff rd nS).isR rest.length = true := by rfl) (hSub : ∀ i ∈ L1, i ∈ L := by simp) (hLe : LE H1 H := by first | exact LE.rfl | assumption) : (gd P ops Q (Sees H1 L1) eff rd nS).G (o :: rest) a w :=
  lkX k0 K ht hz h hR (h.st.sees' hLe hSub) (fun w' e => e) k ho hx hy hk hw hd hN
theorem lk1X {H1 : GH} {L1 : List It} (k0 : Nat) {z : Value} {q : κ} (K : KeyLaw P kt enc kind) (ht : mapT P t = some (kt, et)) (hz : zrT P et = some z) (h : S E H N D F L a w)
    (hR : γ.isR rest.length = true) (hSw : γ.S w) (hW : ∀ w', γ.W w w' → Sees H1 L1 w') (k : ∀ a w, S E H N D ((d, (f q).getD z) :: F) L a w → γ.G rest a w)
    (ho : o.op = .lookup t x y false) (hx : ev F x = some (.map (some g))) (hy : ev F y = some (enc q)) (hk : L1[k0]? = some (.blk g (IsMap enc f)))
    (hw : wn ops F o = some true) (hd : o.dst = some d) (hN : Nat.blt d N = true) : γ.G (o :: rest) a w :=
  rdv h hR hSw (fun w' hw' => by
    obtain ⟨o', hg, hm⟩ := item_at (hW w' hw') hk
    have := run_lookup K (und_map ht) hz hg hm q false
    simp only [Bool.false_eq_true, if_false] at this
    simp [execOp, ho, h.ag.ev hx, h.ag.ev hy, this]) k hw hd hN
/-- A look into a map, for the value alone. -/
theorem lk1 (k0 : Nat) {z : Value} {q : κ} (K : KeyLaw P kt enc kind) (ht : mapT P t = some (kt, et)) (hz : zrT P et = some z) (h : S E H N D F L a w)
    (k : ∀ a w, S E H N D ((d, (f q).getD z) :: F) L a w → (gl P ops Q).G rest a w)
    (ho : o.op = .lookup t x y false := by rfl) (hx : ev F x = some (.map (some g)) := by rfl) (hy : ev F y = some (enc q) := by rfl) (hk : L[k0]? = some (.blk g (IsMap enc f)) := by rfl)
    (hw : wn ops F o = some true := by rfl) (hd : o.dst = some d := by rfl) (hN : Nat.blt d N = true := by rfl) : (gl P ops Q).G (o :: rest) a w :=
  lk1X k0 K ht hz h rfl trivial (fun w' e => e ▸ h.st.sees) k ho hx hy hk hw hd hN
theorem St.setMap {k0 : Nat} {o' : Obj} {p p' : Obj → Prop} (h : St E H L w) (hk : L[k0]? = some (.blk g p)) (hp : p' o') : St E H (L.set k0 (.blk g p')) { w with heap := w.heap.setIfInBounds g o' } := by
  obtain ⟨o0, hg, _⟩ := h.holds _ (List.mem_of_getElem? hk)
  have hlt : g < w.heap.size := (Array.getElem?_eq_some_iff.1 hg).1
  refine h.set hk ⟨o', by simp [hlt], hp⟩ (fun x hx => .inl hx) rfl rfl rfl (fun b _ hn => ?_)
  have : g ≠ b := fun e => hn (by simp [It.own, e])
  simp [Array.getElem?_setIfInBounds, this]
theorem mu (k0 : Nat) {z : Operand} {q : κ} (K : KeyLaw P kt enc kind) (ht : mapT P t = some (kt, et)) (h : S E H N D F L a w)
    (k : ∀ a w, S E H N D F (L.set k0 (.blk g (IsMap enc (upd f q (some v))))) a w → γ.G rest a w)
    (ho : o.op = .mapUpdate t x y z := by rfl) (hx : ev F x = some (.map (some g)) := by rfl) (hy : ev F y = some (enc q) := by rfl) (hv : ev F z = some v := by rfl) (hk : L[k0]? = some (.blk g (IsMap enc f)) := by rfl)
    (hw : wn ops F o = some true := by rfl) (hd : o.dst = none := by rfl)
    (hE : γ.isE rest.length = true := by rfl) (hS : γ.isN rest.length = true → ∀ w, St E H (L.set k0 (.blk g (IsMap enc (upd f q (some v))))) w → γ.S w := by first | exact fun e => Bool.noConfusion (show false = true from e) | exact fun _ _ hw => hw.sees' LE.rfl (by simp) | exact fun _ _ hw => hw.sees' (by assumption) (by simp)) : γ.G (o :: rest) a w := by
  obtain ⟨o0, hg, hm⟩ := h.st.holds _ (List.mem_of_getElem? hk)
  obtain ⟨o', hrun, hm'⟩ := run_update K (und_map ht) hg hm q v
  exact unit_ h hw hd hE hS (by simp [execOp, ho, h.ag.ev hx, h.ag.ev hy, h.ag.ev hv, hrun]) (h.st.setMap hk hm') k
theorem dl (k0 : Nat) {q : κ} {t2 : TypeId} (K : KeyLaw P kt enc kind) (ht : mapT P t = some (kt, et)) (h : S E H N D F L a w)
    (k : ∀ a w, S E H N D F (L.set k0 (.blk g (IsMap enc (upd f q none)))) a w → γ.G rest a w)
    (ho : o.op = .call { callee := .builtin .delete, args := #[x, y], argTypes := #[t, t2] } := by rfl) (hx : ev F x = some (.map (some g)) := by rfl) (hy : ev F y = some (enc q) := by rfl) (hk : L[k0]? = some (.blk g (IsMap enc f)) := by rfl)
    (hw : wn ops F o = some true := by rfl) (hd : o.dst = none := by rfl)
    (hE : γ.isE rest.length = true := by rfl) (hS : γ.isN rest.length = true → ∀ w, St E H (L.set k0 (.blk g (IsMap enc (upd f q none)))) w → γ.S w := by first | exact fun e => Bool.noConfusion (show false = true from e) | exact fun _ _ hw => hw.sees' LE.rfl (by simp) | exact fun _ _ hw => hw.sees' (by assumption) (by simp)) : γ.G (o :: rest) a w := by
  obtain ⟨o0, hg, hm⟩ := h.st.holds _ (List.mem_of_getElem? hk)
  obtain ⟨o', hrun, hm'⟩ := run_delete (ty := o.type) (ts := #[t, t2]) K rfl (und_map ht) hg hm q
  refine γ.eff hE (wanted_of h.ag hw) ?_
  unfold Oper.wp
  have hr : (execOp a.eval o).run P w = .ok (.value (.tuple #[])) { w with heap := w.heap.setIfInBounds g o' } := by
    simp [execOp, ho, resolve, invoke, builtin, h.ag.ev hx, h.ag.ev hy, hrun]
  rw [hr, Oper.upon_value, hd]
  exact ⟨fun e => hS e _ (h.st.setMap hk hm'), k _ _ ⟨h.ag, h.st.setMap hk hm'⟩⟩

/-! ### Texts -/
/-- A text's byte. -/
theorem ix {s : List UInt8} {j : Nat} {i : Int} {c : UInt8} {q : IntKind} (hs : strT P t = true) (hi : i = j) (hc : s[j]? = some c) (h : S E H N D F L a w) (k : ∀ a w, S E H N D ((d, .int .u8 (c.toNat : Int)) :: F) L a w → γ.G rest a w)
    (ho : o.op = .index t x y := by rfl) (hx : ev F x = some (.string ⟨s.toArray⟩) := by rfl) (hy : ev F y = some (.int q i) := by rfl)
    (hw : wn ops F o = some true := by rfl) (hd : o.dst = some d := by rfl) (hN : Nat.blt d N = true := by rfl) : γ.G (o :: rest) a w := by
  subst hi
  refine pv h (fun w => ?_) k hw hd hN
  have hlt : j < s.length := (List.getElem?_eq_some_iff.1 hc).1
  have hb : (⟨s.toArray⟩ : ByteArray)[j]? = some c := by
    have h2 : j < (⟨s.toArray⟩ : ByteArray).size := by simpa [ByteArray.size] using hlt
    rw [getElem?_pos (⟨s.toArray⟩ : ByteArray) j h2]
    have : s[j] = c := by rw [List.getElem?_eq_getElem hlt] at hc; exact Option.some.inj hc
    rw [← this]; rfl
  simp [execOp, ho, h.ag.ev hx, h.ag.ev hy, Instr.index, asIntOf, run_underlying (und_str hs), hb]
theorem orb {c c' : UInt8} (h : S E H N D F L a w) (k : ∀ a w, S E H N D ((d, .int .u8 ((c ||| c').toNat : Int)) :: F) L a w → γ.G rest a w)
    (ho : o.op = .binOp .or t x y u := by rfl) (hx : ev F x = some (.int .u8 (c.toNat : Int)) := by rfl) (hy : ev F y = some (.int .u8 (c'.toNat : Int)) := by rfl)
    (hw : wn ops F o = some true := by rfl) (hd : o.dst = some d := by rfl) (hN : Nat.blt d N = true := by rfl) : γ.G (o :: rest) a w :=
  bo (run_int _ _ (fun w => by
    have h1 := c.toNat_lt
    have h2 := c'.toNat_lt
    simp [binOp, Op.intBits, IntKind.wrap, IntKind.bits, IntKind.signed]
    have e : (c.toBitVec ||| c'.toBitVec).toNat = c.toNat ||| c'.toNat := BitVec.toNat_or ..
    have h3 : c.toNat ||| c'.toNat < 2 ^ 8 := Nat.or_lt_two_pow h1 h2
    change ((((c.toBitVec ||| c'.toBitVec).toNat : Nat) : Int) % 256 = _)
    rw [e]
    omega)) h k ho hx hy hw hd hN
theorem cat {s s' : List UInt8} (h : S E H N D F L a w) (k : ∀ a w, S E H N D ((d, .string ⟨(s ++ s').toArray⟩) :: F) L a w → γ.G rest a w)
    (hl : s.length + s'.length ≤ 100000000000000)
    (ho : o.op = .binOp .add t x y u := by rfl) (hx : ev F x = some (.string ⟨s.toArray⟩) := by rfl) (hy : ev F y = some (.string ⟨s'.toArray⟩) := by rfl)
    (hw : wn ops F o = some true := by rfl) (hd : o.dst = some d := by rfl) (hN : Nat.blt d N = true := by rfl) : γ.G (o :: rest) a w :=
  bo (run_str _ _ (fun w => by
    have e : (⟨s.toArray⟩ : ByteArray) ++ ⟨s'.toArray⟩ = ⟨(s ++ s').toArray⟩ := by
      apply ByteArray.ext; simp
    have hn : ¬ ((((⟨s.toArray⟩ : ByteArray).size + (⟨s'.toArray⟩ : ByteArray).size : Nat) : Int) > IntKind.i64.max) := by
      have e1 : (⟨s.toArray⟩ : ByteArray).size = s.length := by simp [ByteArray.size]
      have e2 : (⟨s'.toArray⟩ : ByteArray).size = s'.length := by simp [ByteArray.size]
      rw [e1, e2]; simp [IntKind.max, IntKind.signed, IntKind.bits]; omega
    simp only [binOp, Op.stringOp]
    rw [if_neg hn, e]; rfl)) h k ho hx hy hw hd hN

/-! ### Rows that are frozen -/
/-- The cells of a row: each element's, as R says. -/
def RowR {α : Type} (R : GH → List Value → α → Prop) (sz : Nat) (H : GH) (xs : List Value) (ys : List α) : Prop :=
  ∃ css : List (List Value), css.length = ys.length ∧ xs = css.flatten ∧ ∀ (j : Nat) (cs : List Value) (y : α), css[j]? = some cs → ys[j]? = some y → cs.length = sz ∧ R H cs y
section
variable {α : Type} {R : GH → List Value → α → Prop} {sz : Nat} {xs zs : List Value} {ys us : List α}
theorem RowR.nil : RowR R sz H [] ([] : List α) := ⟨[], rfl, rfl, fun j cs y h => by simp at h⟩
theorem RowR.one {cs : List Value} {y : α} (hl : cs.length = sz) (hr : R H cs y) : RowR R sz H cs [y] := ⟨[cs], rfl, by simp, fun j c z h1 h2 => by
  cases j with
  | zero => simp at h1 h2; subst h1; subst h2; exact ⟨hl, hr⟩
  | succ j => simp at h1⟩
theorem RowR.app (h : RowR R sz H xs ys) (k : RowR R sz H zs us) : RowR R sz H (xs ++ zs) (ys ++ us) := by
  obtain ⟨c1, l1, e1, p1⟩ := h
  obtain ⟨c2, l2, e2, p2⟩ := k
  refine ⟨c1 ++ c2, by simp [l1, l2], by simp [e1, e2], fun j cs y h1 h2 => ?_⟩
  by_cases hj : j < c1.length
  · rw [List.getElem?_append_left hj] at h1
    rw [List.getElem?_append_left (by omega)] at h2
    exact p1 j cs y h1 h2
  · rw [List.getElem?_append_right (by omega)] at h1
    rw [List.getElem?_append_right (by omega), ← l1] at h2
    exact p2 _ cs y h1 h2
theorem RowR.snoc {cs : List Value} {y : α} (h : RowR R sz H xs ys) (hl : cs.length = sz) (hr : R H cs y) : RowR R sz H (xs ++ cs) (ys ++ [y]) := h.app (.one hl hr)
theorem RowR.mono {H' : GH} (h : RowR R sz H xs ys) (hR : ∀ cs y, y ∈ ys → R H cs y → R H' cs y) : RowR R sz H' xs ys := by
  obtain ⟨c1, l1, e1, p1⟩ := h
  exact ⟨c1, l1, e1, fun j cs y h1 h2 => ⟨(p1 j cs y h1 h2).1, hR cs y (List.mem_of_getElem? h2) (p1 j cs y h1 h2).2⟩⟩
theorem flatten_at {css : List (List Value)} (hl : ∀ cs ∈ css, cs.length = sz) : ∀ {j i : Nat} {cs : List Value}, css[j]? = some cs → i < sz → css.flatten[j * sz + i]? = cs[i]? := by
  induction css with
  | nil => intro j i cs h; simp at h
  | cons c css ih =>
    intro j i cs h hi
    have hc := hl c (List.mem_cons_self ..)
    cases j with
    | zero => simp at h; subst h; simp [List.getElem?_append_left, hc, hi]
    | succ j =>
      simp at h
      have := ih (fun x hx => hl x (List.mem_cons_of_mem _ hx)) h hi
      rw [List.flatten_cons, List.getElem?_append_right (by rw [hc, Nat.succ_mul]; omega), hc]
      rw [← this]; congr 1; rw [Nat.succ_mul]; omega
theorem RowR.len (h : RowR R sz H xs ys) : xs.length = ys.length * sz := by
  obtain ⟨css, l1, rfl, p1⟩ := h
  induction css generalizing ys with
  | nil => simp at l1; simp [← l1]
  | cons c css ih =>
    cases ys with
    | nil => simp at l1
    | cons y ys =>
      simp at l1
      have h0 := p1 0 c y rfl rfl
      have := ih l1 (fun j cs z h1 h2 => p1 (j + 1) cs z (by simpa using h1) (by simpa using h2))
      simp only [List.flatten_cons, List.length_append, this, h0.1, List.length_cons, Nat.succ_mul]; omega
/-- A row that nobody writes any more. -/
theorem S.frow {v : Value} {e n : Nat} (h : S E H N D F (.row v e sz n xs :: L) a w) (hr : RowR R sz H xs ys) (hn : n = ys.length) (hR : ∀ H', LE H H' → ∀ cs y, y ∈ ys → R H cs y → R H' cs y) :
    ∃ H', LE H H' ∧ S E H' N D F L a w ∧ RS R sz H' v ys := by
  have hown : w.ownsRow 0 e sz v n xs := h.st.holds _ (List.mem_cons_self ..)
  obtain ⟨css, l1, rfl, p1⟩ := hr
  rcases hown.2 with ⟨rfl, h0⟩ | ⟨g, cap, cur, rfl, _, hg, hnc, _, hsz, htk⟩
  · have hys : ys = [] := List.eq_nil_of_length_eq_zero (by omega)
    subst hys
    exact ⟨H, LE.rfl, ⟨h.ag, h.st.drop 1⟩, RS.nil R sz H⟩
  · have hst : St E H (.obj g (.cells cur e (0, 0)) :: L) w :=
      h.st.set (k := 0) (i := .row (.slice (some ⟨g, 0, none⟩) n cap) e sz n css.flatten) (j := .obj g (.cells cur e (0, 0))) rfl hg (fun x hx => .inl (by simpa [It.own, Value.ownBlock] using hx)) rfl rfl rfl (fun _ _ _ => rfl)
    obtain ⟨hle, hst'⟩ := hst.freeze
    refine ⟨_, hle, ⟨h.ag, hst'⟩, some ⟨g, 0, none⟩, cap, by rw [hn], by omega, fun j y hy => ?_⟩
    have hj : j < css.length := by have := (List.getElem?_eq_some_iff.1 hy).1; omega
    obtain ⟨h1, h2⟩ := p1 j css[j] y (List.getElem?_eq_getElem hj) hy
    refine ⟨g, 0, css[j], rfl, h1, hR _ hle _ y (List.mem_of_getElem? hy) h2, fun i u hu => ⟨cur, e, (0, 0), put_same H g _, ?_⟩⟩
    have hi : i < sz := by have := (List.getElem?_eq_some_iff.1 hu).1; omega
    have hall : ∀ cs ∈ css, cs.length = sz := fun cs hcs => by
      obtain ⟨q, hq, rfl⟩ := List.getElem_of_mem hcs
      exact (p1 q css[q] (ys[q]'(by omega)) (List.getElem?_eq_getElem hq) (List.getElem?_eq_getElem (by omega))).1
    have hf := flatten_at hall (List.getElem?_eq_getElem hj) hi
    rw [hu, ← htk, List.getElem?_take] at hf
    split at hf
    · simpa using hf
    · cases hf
end
/-- append, the source a slice that is frozen. -/
theorem apS {α : Type} {R : GH → List Value → α → Prop} {e sz by_ n c k0 : Nat} {v : Value} {xs : List Value} {ys : List α} {A : Option Addr} {L' : It → List It} (hL : ∀ i, L.set k0 i = L' i) (ht : rowT P t e sz by_ = true) (hs : RS R sz H (.slice A ys.length c) ys) (hone : ∀ cs y, y ∈ ys → R H cs y → ∀ u ∈ cs, u.oneCell' = true)
    (h : S E H N D F L a w) (hk : L[k0]? = some (.row v e sz n xs)) (hb : (n + ys.length) * by_ ≤ 140737488355328) (h63 : n + ys.length ≤ 4611686018427387904)
    (k : ∀ v' news a w, v'.oneCell' = true → RowR R sz H news ys → S E H N D ((d, v') :: F) (L' (.row v' e sz (n + ys.length) (xs ++ news))) a w → γ.G rest a w)
    (ho : o.op = .call { callee := .builtin .append, args := #[x, y], argTypes := #[t, t] } := by rfl) (hx : ev F x = some v := by rfl) (hy : ev F y = some (.slice A ys.length c) := by rfl)
    (hw : wn ops F o = some true := by rfl) (hd : o.dst = some d := by rfl) (hN : Nat.blt d N = true := by rfl)
    (hE : γ.isE rest.length = true := by rfl) (hS : γ.isN rest.length = true → ∀ v' news w, St E H (L' (.row v' e sz (n + ys.length) (xs ++ news))) w → γ.S w := by first | exact fun e => Bool.noConfusion (show false = true from e) | exact fun _ _ _ _ hw => hw.sees' LE.rfl (by simp) | exact fun _ _ _ _ hw => hw.sees' (by assumption) (by simp)) : γ.G (o :: rest) a w := by
  obtain ⟨A', c', e1, hle, hat⟩ := hs
  cases e1
  obtain ⟨hu, i, z, hi, hz, hsz, hby, hzs, h0⟩ := row_of ht
  have hown : w.ownsRow 0 e sz v n xs := item_at h.st.sees hk
  rcases Nat.eq_zero_or_pos ys.length with h00 | hpos
  · -- nothing is put behind it
    have hys : ys = [] := List.eq_nil_of_length_eq_zero h00
    subst hys
    have hrun : (Builtin.append_ #[t, t] o.type #[v, .slice A 0 c]).run P w = .ok v w ∧ v.oneCell' = true := by
      rcases hown.2 with ⟨rfl, hn0⟩ | ⟨g, cap, cur, rfl, _, _, hnc, _⟩
      · cases A <;> simp [Builtin.append_, run_underlying hu, sizeOf, typeInfo, hi, Builtin.lenOf, Builtin.firstCells, loadCells, loadCellsFrom, Value.oneCell']
      · cases A <;> simp [Builtin.append_, run_underlying hu, sizeOf, typeInfo, hi, Builtin.lenOf, Builtin.firstCells, hnc, storeCells, loadCells, loadCellsFrom, Value.oneCell']
    have hst : St E H (L' (.row v e sz (n + 0) (xs ++ []))) w := by
      rw [← hL, Nat.add_zero, List.append_nil]
      exact h.st.set hk hown (fun x hx => .inl hx) rfl rfl rfl (fun _ _ _ => rfl)
    exact val h hw hd hN hE (fun e => hS e v []) (by have hr := hrun.1; simp [execOp, ho, resolve, invoke, builtin, h.ag.ev hx, h.ag.ev hy, hr]) hst (fun a w hS' => k v [] a w hrun.2 .nil hS')
  · obtain ⟨g, off, cs0, rfl, _⟩ := hat 0 ys[0] (List.getElem?_eq_getElem hpos)
    -- the cells
    have hex : ∀ q, q ≤ ys.length → ∃ news : List Value, RowR R sz H news (ys.take q) ∧ (∀ j u, news[j]? = some u → Hc H g (off + j) u) ∧ ∀ u ∈ news, u.oneCell' = true := by
      intro q
      induction q with
      | zero => intro _; exact ⟨[], by simpa using RowR.nil, fun j u hu => by simp at hu, fun u hu => by cases hu⟩
      | succ q ih =>
        intro hq
        obtain ⟨news, hr, hc, h1⟩ := ih (by omega)
        obtain ⟨g', off', cs, e2, hl, hR, hcell⟩ := hat q ys[q] (List.getElem?_eq_getElem (by omega))
        cases e2
        refine ⟨news ++ cs, ?_, ?_, ?_⟩
        · rw [List.take_succ_eq_append_getElem (by omega)]; exact hr.snoc hl hR
        · intro j u hu
          have hlen := hr.len
          rw [List.length_take, Nat.min_eq_left (by omega)] at hlen
          by_cases hj : j < news.length
          · rw [List.getElem?_append_left hj] at hu; exact hc j u hu
          · rw [List.getElem?_append_right (by omega)] at hu
            have := hcell _ u hu
            rw [hlen] at this
            rwa [show off + q * sz + (j - q * sz) = off + j by omega] at this
        · intro u hu
          rcases List.mem_append.1 hu with hu | hu
          · exact h1 u hu
          · exact hone cs ys[q] (List.getElem_mem _) hR u hu
    obtain ⟨news, hr, hc, h1⟩ := hex ys.length (Nat.le_refl _)
    rw [List.take_length] at hr
    have hl := hr.len
    obtain ⟨v', w', hrun, ho', hg, _, hv⟩ := run_append_own_at (P := P) w 0 t o.type e i z sz by_ hu hi hz hsz hby hzs h0 v n xs hown ⟨g, off, none⟩ ys.length c news hl (fun j u hj => by rw [Addr.add_mid]; exact (hc j u hj).cell h.st.sees) h1 (by simp only [maxLen]; omega) hb (Nat.zero_le _)
    have hst : St E H (L' (.row v' e sz (n + ys.length) (xs ++ news))) w' := by rw [← hL]; exact h.st.row hk ho' hg hv
    refine val h hw hd hN hE (fun e => hS e v' news) (w' := w') ?_ hst (fun a w hS' => k v' news a w ?_ hr hS')
    · simp [execOp, ho, resolve, invoke, builtin, h.ag.ev hx, h.ag.ev hy, hrun]
    · rcases ho'.2 with ⟨e, _⟩ | ⟨g', cap, cur, e, _⟩ <;> rw [e] <;> rfl

/-! ### Deferred calls -/
def OkD (P : Program) (f : FuncId) (args : Array Value) (E : World) (H : GH) (L : List It) (R : Value → GH → List It → Prop) : Prop :=
  ∀ w, St E H L w → ∀ u, CallsD P f args u w fun e u' w' => u' = u ∧ ∃ r H' L', e = .returned r ∧ LE H H' ∧ St E H' L' w' ∧ R r H' L'
theorem enterR {f : FuncId} {fn : Func} {c : Code} {args : List Value} {R : Value → GH → List It → Prop} (F : List (Nat × Value)) (hf : P.funcs[f]? = some fn) (hb : fn.body = some c) (hn : fn.ntmps = N)
    (hF : F.map (fun p => args.toArray[p.1]?) = F.map (fun p => some p.2)) (hs : Nat.ble args.length N = true) (h : ∀ a w, S E H N [] F L a w → c.wp P (Fin P fn E H R) a w) : OkD P f args.toArray E H L R := fun w hw u =>
  callsD_of_wp hf hb (h _ _ ⟨by rw [hn]; exact ag_enter N args.toArray (by simpa using hs) F hF, hw⟩)
def FinD (P : Program) (fn : Func) (E : World) (H : GH) (R : Value → GH → List It → Prop) : Exit → Act → World → Prop :=
  bodyPostD P fn fun e w' => ∃ r H' L', e = .returned r ∧ LE H H' ∧ St E H' L' w' ∧ R r H' L'
theorem enterD {f : FuncId} {fn : Func} {c : Code} {args : List Value} {R : Value → GH → List It → Prop} (F : List (Nat × Value)) (hf : P.funcs[f]? = some fn) (hb : fn.body = some c) (hn : fn.ntmps = N)
    (hF : F.map (fun p => args.toArray[p.1]?) = F.map (fun p => some p.2)) (hs : Nat.ble args.length N = true) (h : ∀ a w, S E H N [] F L a w → c.wp P (FinD P fn E H R) a w) : Ok P f args.toArray E H L R := fun w hw =>
  calls_of_wp_defers hf hb (h _ _ ⟨by rw [hn]; exact ag_enter N args.toArray (by simpa using hs) F hF, hw⟩)
theorem df {f : FuncId} {first caps : Array Value} {as : List Operand} {vs : List Value} {ts : Array TypeId} (h : S E H N D F L a w)
    (k : ∀ a w, S E H N ({ target := .fn (.func f) caps, args := first ++ vs.toArray } :: D) F L a w → γ.G rest a w)
    (ho : o.op = .defer { callee := .value x, args := as.toArray, argTypes := ts } := by rfl) (hx : ev F x = some (.func (.func f) first caps) := by rfl) (has : evs F as = some vs := by rfl)
    (hw : wn ops F o = some true := by rfl) (hd : o.dst = none := by rfl) (hE : γ.isE rest.length = true := by rfl) (hS : γ.isN rest.length = true → ∀ w, St E H L w → γ.S w := by first | exact fun e => Bool.noConfusion (show false = true from e) | exact fun _ _ hw => hw.sees' LE.rfl (by simp)) : γ.G (o :: rest) a w := by
  refine γ.eff hE (wanted_of h.ag hw) ?_
  have hrun : (execOp a.eval o).run P w = .ok (.defer { target := .fn (.func f) caps, args := first ++ vs.toArray }) w := by
    have h1 := h.ag.ev hx
    have h2 := h.ag.evs has
    simp [execOp, ho, resolve, h1, h2, Deferred.ofValue]
  unfold Oper.wp
  rw [hrun, Oper.upon_defer, hd]
  exact ⟨fun e => hS e _ h.st, k _ _ ⟨⟨h.ag.size, by simp [Act.put, h.ag.defers], h.ag.get⟩, h.st⟩⟩
/-- One deferred call, which returns. -/
theorem finD {fn : Func} {R R1 : Value → GH → List It → Prop} {H0 : GH} {f : FuncId} {caps dargs args : Array Value} (h : S E H N [{ target := .fn (.func f) caps, args := dargs }] F L a w) (hb : bodT P f = true) (hc : OkD P f args E H L R1) (hle : LE H0 H)
    (k : ∀ r H' L' w', LE H H' → R1 r H' L' → S E H' N [{ target := .fn (.func f) caps, args := dargs }] F L' a w' → ∃ v H'' L'', (results fn a.tmps).run P w' = .ok v w' ∧ LE H0 H'' ∧ St E H'' L'' w' ∧ R v H'' L'') (hA : dargs ++ caps = args := by rfl) : FinD P fn E H0 R .ret a w := by
  subst hA
  show Leaves P fn a.tmps _ a.defers .returning w
  rw [h.ag.defers]
  refine leaves_cons (f := f) (args := dargs ++ caps) (by simp) (by simp [invoke, run_callFunc hb]) ?_
  refine (hc w h.st .returning).mono ?_
  rintro e u' w' ⟨rfl, r, H', L', rfl, hl, hst, hr⟩
  obtain ⟨v, H'', L'', h1, h2, h3, h4⟩ := k r H' L' w' hl hr ⟨h.ag, hst⟩
  exact ⟨v, h1, v, H'', L'', rfl, h2, h3, h4⟩
end
end Go.Proofs.YtindlieilabgfaaGreatDoor.X
