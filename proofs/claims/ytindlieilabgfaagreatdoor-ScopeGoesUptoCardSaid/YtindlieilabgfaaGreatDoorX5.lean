/- Structs and slices that are built, rows that grow, strings. -/
import Derived.Test.YtindlieilabgfaaGreatDoorX4
import Derived.Laws.Strings
set_option linter.unusedVariables false
set_option linter.unusedSectionVars false
set_option linter.unusedSimpArgs false
set_option linter.unusedSimpArgs false
set_option autoImplicit false
set_option relaxedAutoImplicit false
namespace Go.Proofs.YtindlieilabgfaaGreatDoor.X
open Go

section
variable {P : Program} {ops : Array Oper} {Q : Exit → Act → World → Prop} {γ : Gd P ops Q} {rest : List Oper} {o : Oper} {E w : World} {H : GH} {N : Nat} {D : List Deferred} {F : List (Nat × Value)} {L : List It} {a : Act}
variable {t u : TypeId} {x y : Operand} {d : Nat} {v : Value} {g off : Nat} {cs : Array Value} {ty : TypeId}

/-! ### Building -/
def pevs (F : List (Nat × Value)) : List (Nat × Operand) → Option (List (Nat × Value))
  | [] => some []
  | (i, x) :: l => match ev F x, pevs F l with
    | some v, some vs => some ((i, v) :: vs)
    | _, _ => none
theorem Ag.pevs (h : Ag N D F a) : ∀ {l : List (Nat × Operand)} {vs : List (Nat × Value)}, X.pevs F l = some vs → l.map (fun p => (p.1, a.eval p.2)) = vs
  | [], vs, e => by simp [X.pevs] at e; subst e; rfl
  | (i, x) :: l, vs, e => by
    simp only [X.pevs] at e
    split at e
    · rename_i v us hv hus
      cases e
      simp [h.ev hv, Ag.pevs h hus]
    · cases e
theorem run_mapM_opt {α β : Type} {f : α → Option β} {g : α → Sem β} (hfg : ∀ x y, f x = some y → ∀ w, (g x).run P w = .ok y w) :
    ∀ (l : List α) (ys : List β), l.mapM f = some ys → ∀ w, (l.mapM (m := Sem) g).run P w = .ok ys w
  | [], ys, h, w => by simp at h; subst h; simp
  | x :: l, ys, h, w => by
    simp only [List.mapM_cons, Option.bind_eq_bind, Option.bind_eq_some_iff, Option.pure_def, Option.some.injEq] at h
    obtain ⟨y, hy, zs, hz, rfl⟩ := h
    simp only [List.mapM_cons, Sem.run_bind, hfg x y hy, Result.andThen_ok, run_mapM_opt hfg l zs hz, Sem.run_pure]
theorem bd {places : Array (Nat × Nat)} {zv : Value} {ps : List (Nat × Operand)} {vs : List (Nat × Value)} (hl : layT P t = some places) (hz : zrT P t = some zv) (cells : Array Value) (h : S E H N D F L a w)
    (k : ∀ a w, S E H N D ((d, .agg cells) :: F) L a w → γ.G rest a w)
    (ho : o.op = .build t ps.toArray := by rfl) (hx : pevs F ps = some vs := by rfl) (hf : Instr.fill (places[·]?) zv.cells vs = some cells := by rfl)
    (hw : wn ops F o = some true := by rfl) (hd : o.dst = some d := by rfl) (hN : Nat.blt d N = true := by rfl) : γ.G (o :: rest) a w := by
  refine pv h (fun w => ?_) k hw hd hN
  have hzero : ∀ w, (zeroValue t).run P w = .ok zv w := fun w => by
    unfold zrT at hz
    split at hz
    · rename_i i hi; simp [zeroValue, typeInfo, hi, hz]
    · cases hz
  unfold layT at hl
  split at hl
  · rename_i fs hu
    obtain ⟨ps', hps, rfl⟩ : ∃ l, fs.toList.mapM (fun f => match P.info? f.type with | some j => some (f.offset, j.size) | none => none) = some l ∧ l.toArray = places := by
      rw [← Array.toArray_toList (xs := fs), List.mapM_toArray] at hl
      simp only [Option.map_eq_map, Option.map_eq_some_iff] at hl
      exact hl
    have hm := fun w => run_mapM_opt (P := P) (g := fun (f : Field) => do pure (f.offset, ← sizeOf f.type)) (fun f y hy w => by
      split at hy
      · rename_i j hj; cases hy; simp [sizeOf, typeInfo, hj]
      · cases hy) fs.toList ps' hps w
    have hm' : ∀ w, (fs.mapM (m := Sem) fun f => do pure (f.offset, ← sizeOf f.type)).run P w = .ok ps'.toArray w := fun w => by
      conv => lhs; arg 2; rw [← Array.toArray_toList (xs := fs), List.mapM_toArray]
      have := hm w
      simp
      erw [this]
      simp
    have hp := h.ag.pevs hx
    have hr : (Instr.build t ((ps.map fun p => (p.1, a.eval p.2)).toArray)).run P w = .ok (.agg cells) w := by
      rw [hp]
      unfold Instr.build
      simp only [Sem.run_bind, hzero, Result.andThen_ok, run_underlying hu, hm', hf]
      simp
    simp only [execOp, ho]
    have e : (ps.toArray.map fun (i, x) => (i, a.eval x)) = ((ps.map fun p => (p.1, a.eval p.2)).toArray) := by simp
    rw [e]
    simp only [Sem.run_bind, hr, Result.andThen_ok, Sem.run_pure]
  · cases hl
/-- What a slice's literal is made of. -/
def bsT (P : Program) (t : TypeId) : Option (TypeId × Nat × Array Value) := match P.underlying t with
  | some (.slice e) => match P.info? e with
    | some i => match i.zero with
      | some z => if z.cells.size == i.size && (0 < i.size && i.size ≤ 1024) then some (e, i.size, z.cells) else none
      | none => none
    | none => none
  | _ => none
theorem bs {e sz n : Nat} {z : Array Value} {ps : List (Nat × Operand)} {vs : List (Nat × Value)} (hl : bsT P t = some (e, sz, z)) (cells : Array Value) (h : S E H N D F L a w)
    (k : ∀ g a w, S E H N D ((d, .slice (some ⟨g, 0, none⟩) n n) :: F) (.obj g (.cells cells e (0, 0)) :: L) a w → γ.G rest a w)
    (ho : o.op = .buildSlice t n ps.toArray := by rfl) (hx : pevs F ps = some vs := by rfl)
    (hf : Instr.fill (fun i => some (i * sz, sz)) ((Array.range (n * sz)).map (z[· % z.size]!)) vs = some cells := by rfl) (hn : Nat.ble n 1024 = true := by rfl) (hn0 : Nat.blt 0 n = true := by rfl)
    (hw : wn ops F o = some true := by rfl) (hd : o.dst = some d := by rfl) (hN : Nat.blt d N = true := by rfl) (hE : γ.isE rest.length = true := by rfl) (hS : γ.isN rest.length = true → ∀ g w, St E H (.obj g (.cells cells e (0, 0)) :: L) w → γ.S w := by first | exact fun e => Bool.noConfusion (show false = true from e) | exact fun _ _ _ hw => hw.sees' LE.rfl (by simp) | exact fun _ _ _ hw => hw.sees' (by assumption) (by simp)) : γ.G (o :: rest) a w := by
  refine val h hw hd hN hE (fun e => hS e _) (w' := w.alloc (.cells cells e)) ?_ (h.st.alloc _) (k _)
  unfold bsT at hl
  split at hl
  · rename_i e' hu
    split at hl
    · rename_i i hi
      split at hl
      · rename_i zv hz
        split at hl
        · rename_i hs
          simp only [Option.some.injEq, Prod.mk.injEq] at hl
          obtain ⟨rfl, rfl, rfl⟩ := hl
          simp only [Bool.and_eq_true, beq_iff_eq, decide_eq_true_eq] at hs
          have hle : n ≤ 1024 := by simpa [Nat.ble_eq] using hn
          have h0 : 0 < n := by simpa [Nat.blt_eq] using hn0
          have h1 : ¬ (n * i.size > 2 ^ 24) := by have := Nat.mul_le_mul hle hs.2.2; omega
          have h2 : ¬ (n * i.size = 0) := by have := Nat.mul_pos h0 hs.2.1; omega
          have hzero : (zeroValue e').run P w = .ok zv w := by simp [zeroValue, typeInfo, hi, hz]
          have hp := h.ag.pevs hx
          have hr : (Instr.buildSlice t n ((ps.map fun p => (p.1, a.eval p.2)).toArray)).run P w = .ok (.slice (some ⟨w.heap.size, 0, none⟩) n n) (w.alloc (.cells cells e')) := by
            rw [hp]
            unfold Instr.buildSlice
            simp only [Sem.run_bind, run_underlying hu, Result.andThen_ok, sizeOf, typeInfo, program, Sem.run, hi, h1, if_false, h2, hzero, hf, Sem.run_pure, newRow, newObj, World.alloc_eq]
          simp only [execOp, ho]
          have e : (ps.toArray.map fun (i, x) => (i, a.eval x)) = ((ps.map fun p => (p.1, a.eval p.2)).toArray) := by simp
          rw [e]
          simp only [Sem.run_bind, hr, Result.andThen_ok, Sem.run_pure]
        · cases hl
      · cases hl
    · cases hl
  · cases hl

/-! ### Strings -/
def strT (P : Program) (t : TypeId) : Bool := match P.underlying t with
  | some .string => true
  | _ => false
theorem und_str (h : strT P t = true) : P.underlying t = some .string := by
  unfold strT at h; split at h
  · assumption
  · cases h
variable {s s' : ByteArray}
theorem run_str (op : BinOp) (v : Value) (hv : ∀ w, (binOp op t (.string s) (.string s')).run P w = .ok v w) (w : World) :
    (do eqGuard op t x y (.string s) (.string s'); binOp op t (.string s) (.string s') : Sem Value).run P w = .ok v w := by
  unfold eqGuard
  cases op <;> simp [hv]
theorem beq_bytes (s s' : ByteArray) : (s.toList == s'.toList) = decide (s = s') := by
  rw [ByteArray.toList_eq, ByteArray.toList_eq]
  by_cases h : s = s'
  · subst h; simp
  · have : s.data.toList ≠ s'.data.toList := fun e => h (by
      obtain ⟨⟨l⟩⟩ := s; obtain ⟨⟨l'⟩⟩ := s'; simp at e; subst e; rfl)
    rw [decide_eq_false h]; exact beq_eq_false_iff_ne.2 this
theorem eqs (h : S E H N D F L a w) (k : ∀ a w, S E H N D ((d, .bool (decide (s = s'))) :: F) L a w → γ.G rest a w)
    (ho : o.op = .binOp .eql t x y u := by rfl) (hx : ev F x = some (.string s) := by rfl) (hy : ev F y = some (.string s') := by rfl)
    (hw : wn ops F o = some true := by rfl) (hd : o.dst = some d := by rfl) (hN : Nat.blt d N = true := by rfl) : γ.G (o :: rest) a w :=
  bo (run_str _ _ (fun w => by simp [binOp, Op.stringOp, beq_bytes])) h k ho hx hy hw hd hN
theorem nes (h : S E H N D F L a w) (k : ∀ a w, S E H N D ((d, .bool (!decide (s = s'))) :: F) L a w → γ.G rest a w)
    (ho : o.op = .binOp .neq t x y u := by rfl) (hx : ev F x = some (.string s) := by rfl) (hy : ev F y = some (.string s') := by rfl)
    (hw : wn ops F o = some true := by rfl) (hd : o.dst = some d := by rfl) (hN : Nat.blt d N = true := by rfl) : γ.G (o :: rest) a w :=
  bo (run_str _ _ (fun w => by simp [binOp, Op.stringOp, beq_bytes])) h k ho hx hy hw hd hN
theorem str_inj {l m : List UInt8} : (⟨l.toArray⟩ : ByteArray) = ⟨m.toArray⟩ ↔ l = m := by
  constructor
  · intro h; injection h with h; simpa using congrArg Array.toList h
  · rintro rfl; rfl
theorem eqb {l m : List UInt8} (h : S E H N D F L a w) (k : ∀ a w, S E H N D ((d, .bool (decide (l = m))) :: F) L a w → γ.G rest a w)
    (ho : o.op = .binOp .eql t x y u := by rfl) (hx : ev F x = some (.string ⟨l.toArray⟩) := by rfl) (hy : ev F y = some (.string ⟨m.toArray⟩) := by rfl)
    (hw : wn ops F o = some true := by rfl) (hd : o.dst = some d := by rfl) (hN : Nat.blt d N = true := by rfl) : γ.G (o :: rest) a w :=
  eqs h (fun a w h => k a w (by rw [decide_eq_decide.2 str_inj] at h; exact h)) ho hx hy hw hd hN
theorem neb {l m : List UInt8} (h : S E H N D F L a w) (k : ∀ a w, S E H N D ((d, .bool (!decide (l = m))) :: F) L a w → γ.G rest a w)
    (ho : o.op = .binOp .neq t x y u := by rfl) (hx : ev F x = some (.string ⟨l.toArray⟩) := by rfl) (hy : ev F y = some (.string ⟨m.toArray⟩) := by rfl)
    (hw : wn ops F o = some true := by rfl) (hd : o.dst = some d := by rfl) (hN : Nat.blt d N = true := by rfl) : γ.G (o :: rest) a w :=
  nes h (fun a w h => k a w (by rw [decide_eq_decide.2 str_inj] at h; exact h)) ho hx hy hw hd hN
theorem nt {b : Bool} (h : S E H N D F L a w) (k : ∀ a w, S E H N D ((d, .bool (!b)) :: F) L a w → γ.G rest a w)
    (ho : o.op = .unOp .not t x := by rfl) (hx : ev F x = some (.bool b) := by rfl)
    (hw : wn ops F o = some true := by rfl) (hd : o.dst = some d := by rfl) (hN : Nat.blt d N = true := by rfl) : γ.G (o :: rest) a w :=
  pv h (fun w => by simp [execOp, ho, h.ag.ev hx, Op.unary]) k hw hd hN
theorem lns (hs : strT P t = true) (h : S E H N D F L a w) (k : ∀ a w, S E H N D ((d, .int .i64 (s.size : Int)) :: F) L a w → γ.G rest a w)
    (ho : o.op = .call { callee := .builtin .len, args := #[x], argTypes := #[t] } := by rfl) (hx : ev F x = some (.string s) := by rfl)
    (hw : wn ops F o = some true := by rfl) (hd : o.dst = some d := by rfl) (hN : Nat.blt d N = true := by rfl) : γ.G (o :: rest) a w :=
  pv h (fun w => by simp [execOp, ho, resolve, invoke, builtin, Builtin.len_, h.ag.ev hx, run_underlying (und_str hs), goInt]) k hw hd hN

theorem lnb {l : List UInt8} (hs : strT P t = true) (h : S E H N D F L a w) (k : ∀ a w, S E H N D ((d, .int .i64 (l.length : Int)) :: F) L a w → γ.G rest a w)
    (ho : o.op = .call { callee := .builtin .len, args := #[x], argTypes := #[t] } := by rfl) (hx : ev F x = some (.string ⟨l.toArray⟩) := by rfl)
    (hw : wn ops F o = some true := by rfl) (hd : o.dst = some d := by rfl) (hN : Nat.blt d N = true := by rfl) : γ.G (o :: rest) a w :=
  lns hs h (fun a w h => k a w (by simpa [ByteArray.size] using h)) ho hx hw hd hN
/-! ### Rows that grow -/
def rowT (P : Program) (t e sz by_ : Nat) : Bool := match P.underlying t with
  | some (.slice e') => e' == e && match P.info? e with
    | some i => i.size == sz && i.bytes == by_ && (Nat.blt 0 sz) && match i.zero with
      | some z => z.cells.size == sz
      | none => false
    | none => false
  | _ => false
theorem row_of {e sz by_ : Nat} (h : rowT P t e sz by_ = true) : P.underlying t = some (.slice e) ∧ ∃ i z, P.info? e = some i ∧ i.zero = some z ∧ i.size = sz ∧ i.bytes = by_ ∧ z.cells.size = sz ∧ 0 < sz := by
  unfold rowT at h
  split at h
  · rename_i e' hu
    simp only [Bool.and_eq_true, beq_iff_eq] at h
    obtain ⟨rfl, h⟩ := h
    refine ⟨hu, ?_⟩
    split at h
    · rename_i i hi
      simp only [Bool.and_eq_true, beq_iff_eq] at h
      obtain ⟨⟨⟨h1, h2⟩, h3⟩, h4⟩ := h
      split at h4
      · rename_i z hz
        exact ⟨i, z, hi, hz, h1, h2, by simpa using h4, by simpa [Nat.blt_eq] using h3⟩
      · cases h4
    · cases h
  · cases h
theorem St.row {k0 : Nat} {v v' : Value} {e sz n n' : Nat} {xs xs' : List Value} {w' : World} (h : St E H L w) (hk : L[k0]? = some (.row v e sz n xs)) (hown : w'.ownsRow 0 e sz v' n' xs') (hg : w.grownBy w' v.ownBlock)
    (hv : v'.ownBlock = v.ownBlock ∨ v'.ownBlock = some w.heap.size) : St E H (L.set k0 (.row v' e sz n' xs')) w' :=
  h.set hk hown (fun x hx => by
    simp only [It.own] at hx ⊢
    rcases hv with e | e
    · rw [e] at hx; exact .inl hx
    · rw [e] at hx; simp at hx; exact .inr (by omega)) hg.os hg.tape hg.output (fun b hb hn => hg.block b hb (fun e => hn (by simp [It.own, ← e])))
theorem ap {e sz by_ n m c k0 : Nat} {v : Value} {xs news : List Value} (ht : rowT P t e sz by_ = true) (h : S E H N D F L a w) (hk : L[k0]? = some (.row v e sz n xs))
    (hl : news.length = m * sz) (hnews : ∀ j u, news[j]? = some u → w.cell? ⟨g, off + j, none⟩ = some u) (h1 : ∀ u ∈ news, u.oneCell' = true) (hb : (n + m) * by_ ≤ 140737488355328) (h63 : n + m ≤ 4611686018427387904)
    (k : ∀ v' a w, v'.oneCell' = true → S E H N D ((d, v') :: F) (L.set k0 (.row v' e sz (n + m) (xs ++ news))) a w → γ.G rest a w)
    (ho : o.op = .call { callee := .builtin .append, args := #[x, y], argTypes := #[t, t] }) (hx : ev F x = some v) (hy : ev F y = some (.slice (some ⟨g, off, none⟩) m c))
    (hw : wn ops F o = some true) (hd : o.dst = some d) (hN : Nat.blt d N = true) (hE : γ.isE rest.length = true) (hS : γ.isN rest.length = true → ∀ v' w, St E H (L.set k0 (.row v' e sz (n + m) (xs ++ news))) w → γ.S w) : γ.G (o :: rest) a w := by
  obtain ⟨hu, i, z, hi, hz, hs, hby, hzs, h0⟩ := row_of ht
  have hown : w.ownsRow 0 e sz v n xs := item_at h.st.sees hk
  obtain ⟨v', w', hrun, ho', hg, _, hat⟩ := run_append_own_at (P := P) w 0 t o.type e i z sz by_ hu hi hz hs hby hzs h0 v n xs hown ⟨g, off, none⟩ m c news hl (fun j u hj => by rw [Addr.add_mid]; exact hnews j u hj) h1 (by simp only [maxLen]; omega) hb (Nat.zero_le _)
  refine val h hw hd hN hE (fun e => hS e v') (w' := w') ?_ (h.st.row hk ho' hg hat) (fun a w hS => k v' a w ?_ hS)
  · simp [execOp, ho, resolve, invoke, builtin, h.ag.ev hx, h.ag.ev hy, hrun]
  · rcases ho'.2 with ⟨e, _⟩ | ⟨g', cap, cur, e, _⟩ <;> rw [e] <;> rfl
/-- A row that is nil. -/
theorem S.row {e sz : Nat} (h : S E H N D F L a w) : S E H N D F (.row (.slice none 0 0) e sz 0 [] :: L) a w :=
  ⟨h.ag, h.st.os, h.st.tape, h.st.output, h.st.fro, fun i hi => by
    cases hi with
    | head => exact World.ownsRow_nil _ _ _ _
    | tail _ hi => exact h.st.holds i hi, fun i hi g hg => by
    cases hi with
    | head => simp [It.own, Value.ownBlock] at hg
    | tail _ hi => exact h.st.off i hi g hg, List.pairwise_cons.2 ⟨fun i hi g hg => by simp [It.own, Value.ownBlock] at hg, h.st.apart⟩⟩
/-- append, the source an own block that a literal has just made; the row is item 0 behind it. The block is dropped. -/
theorem ap0 {e sz by_ n m : Nat} {v : Value} {xs : List Value} {ty' : TypeId} {z : Nat × Nat} (news : List Value) (ht : rowT P t e sz by_ = true) (h : S E H N D F (.obj g (.cells news.toArray ty' z) :: .row v e sz n xs :: L) a w)
    (hb : (n + m) * by_ ≤ 140737488355328) (h63 : n + m ≤ 4611686018427387904)
    (k : ∀ v' a w, v'.oneCell' = true → S E H N D ((d, v') :: F) (.row v' e sz (n + m) (xs ++ news) :: L) a w → γ.G rest a w)
    (hl : news.length = m * sz := by rfl) (h1 : news.all (·.oneCell') = true := by rfl)
    (ho : o.op = .call { callee := .builtin .append, args := #[x, y], argTypes := #[t, t] } := by rfl) (hx : ev F x = some v := by rfl) (hy : ev F y = some (.slice (some ⟨g, 0, none⟩) m m) := by rfl)
    (hw : wn ops F o = some true := by rfl) (hd : o.dst = some d := by rfl) (hN : Nat.blt d N = true := by rfl) (hE : γ.isE rest.length = true := by rfl) (hS : γ.isN rest.length = true → ∀ v' w, St E H (.obj g (.cells news.toArray ty' z) :: .row v' e sz (n + m) (xs ++ news) :: L) w → γ.S w := by first | exact fun e => Bool.noConfusion (show false = true from e) | exact fun _ _ _ hw => hw.sees' LE.rfl (by simp) | exact fun _ _ _ hw => hw.sees' (by assumption) (by simp)) : γ.G (o :: rest) a w :=
  ap (k0 := 1) ht h rfl hl (fun j u hj => by rw [Nat.zero_add, cell_own (item_at (k := 0) h.st.sees rfl) j]; simpa using hj) (fun u hu => List.all_eq_true.1 h1 u hu) hb h63
    (fun v' a w hv hS => k v' a w hv ⟨hS.ag, hS.st.drop 1⟩) ho hx hy hw hd hN hE hS
/-- append, the source an own block that a literal has just made; the row is item 1 behind it. The block is dropped. -/
theorem ap1 {i0 : It} {e sz by_ n m : Nat} {v : Value} {xs : List Value} {ty' : TypeId} {z : Nat × Nat} (news : List Value) (ht : rowT P t e sz by_ = true) (h : S E H N D F (.obj g (.cells news.toArray ty' z) :: i0 :: .row v e sz n xs :: L) a w)
    (hb : (n + m) * by_ ≤ 140737488355328) (h63 : n + m ≤ 4611686018427387904)
    (k : ∀ v' a w, v'.oneCell' = true → S E H N D ((d, v') :: F) (i0 :: .row v' e sz (n + m) (xs ++ news) :: L) a w → γ.G rest a w)
    (hl : news.length = m * sz := by rfl) (h1 : news.all (·.oneCell') = true := by rfl)
    (ho : o.op = .call { callee := .builtin .append, args := #[x, y], argTypes := #[t, t] } := by rfl) (hx : ev F x = some v := by rfl) (hy : ev F y = some (.slice (some ⟨g, 0, none⟩) m m) := by rfl)
    (hw : wn ops F o = some true := by rfl) (hd : o.dst = some d := by rfl) (hN : Nat.blt d N = true := by rfl) (hE : γ.isE rest.length = true := by rfl) (hS : γ.isN rest.length = true → ∀ v' w, St E H (.obj g (.cells news.toArray ty' z) :: i0 :: .row v' e sz (n + m) (xs ++ news) :: L) w → γ.S w := by first | exact fun e => Bool.noConfusion (show false = true from e) | exact fun _ _ _ hw => hw.sees' LE.rfl (by simp) | exact fun _ _ _ hw => hw.sees' (by assumption) (by simp)) : γ.G (o :: rest) a w :=
  ap (k0 := 2) ht h rfl hl (fun j u hj => by rw [Nat.zero_add, cell_own (item_at (k := 0) h.st.sees rfl) j]; simpa using hj) (fun u hu => List.all_eq_true.1 h1 u hu) hb h63
    (fun v' a w hv hS => k v' a w hv ⟨hS.ag, hS.st.drop 1⟩) ho hx hy hw hd hN hE hS
/-- append, the source an own block that a literal has just made; the row is item 2 behind it. The block is dropped. -/
theorem ap2 {i0 i1 : It} {e sz by_ n m : Nat} {v : Value} {xs : List Value} {ty' : TypeId} {z : Nat × Nat} (news : List Value) (ht : rowT P t e sz by_ = true) (h : S E H N D F (.obj g (.cells news.toArray ty' z) :: i0 :: i1 :: .row v e sz n xs :: L) a w)
    (hb : (n + m) * by_ ≤ 140737488355328) (h63 : n + m ≤ 4611686018427387904)
    (k : ∀ v' a w, v'.oneCell' = true → S E H N D ((d, v') :: F) (i0 :: i1 :: .row v' e sz (n + m) (xs ++ news) :: L) a w → γ.G rest a w)
    (hl : news.length = m * sz := by rfl) (h1 : news.all (·.oneCell') = true := by rfl)
    (ho : o.op = .call { callee := .builtin .append, args := #[x, y], argTypes := #[t, t] } := by rfl) (hx : ev F x = some v := by rfl) (hy : ev F y = some (.slice (some ⟨g, 0, none⟩) m m) := by rfl)
    (hw : wn ops F o = some true := by rfl) (hd : o.dst = some d := by rfl) (hN : Nat.blt d N = true := by rfl) (hE : γ.isE rest.length = true := by rfl) (hS : γ.isN rest.length = true → ∀ v' w, St E H (.obj g (.cells news.toArray ty' z) :: i0 :: i1 :: .row v' e sz (n + m) (xs ++ news) :: L) w → γ.S w := by first | exact fun e => Bool.noConfusion (show false = true from e) | exact fun _ _ _ hw => hw.sees' LE.rfl (by simp) | exact fun _ _ _ hw => hw.sees' (by assumption) (by simp)) : γ.G (o :: rest) a w :=
  ap (k0 := 3) ht h rfl hl (fun j u hj => by rw [Nat.zero_add, cell_own (item_at (k := 0) h.st.sees rfl) j]; simpa using hj) (fun u hu => List.all_eq_true.1 h1 u hu) hb h63
    (fun v' a w hv hS => k v' a w hv ⟨hS.ag, hS.st.drop 1⟩) ho hx hy hw hd hN hE hS
/-- append, the source an own block that a literal has just made; the row is item 3 behind it. The block is dropped. -/
theorem ap3 {i0 i1 i2 : It} {e sz by_ n m : Nat} {v : Value} {xs : List Value} {ty' : TypeId} {z : Nat × Nat} (news : List Value) (ht : rowT P t e sz by_ = true) (h : S E H N D F (.obj g (.cells news.toArray ty' z) :: i0 :: i1 :: i2 :: .row v e sz n xs :: L) a w)
    (hb : (n + m) * by_ ≤ 140737488355328) (h63 : n + m ≤ 4611686018427387904)
    (k : ∀ v' a w, v'.oneCell' = true → S E H N D ((d, v') :: F) (i0 :: i1 :: i2 :: .row v' e sz (n + m) (xs ++ news) :: L) a w → γ.G rest a w)
    (hl : news.length = m * sz := by rfl) (h1 : news.all (·.oneCell') = true := by rfl)
    (ho : o.op = .call { callee := .builtin .append, args := #[x, y], argTypes := #[t, t] } := by rfl) (hx : ev F x = some v := by rfl) (hy : ev F y = some (.slice (some ⟨g, 0, none⟩) m m) := by rfl)
    (hw : wn ops F o = some true := by rfl) (hd : o.dst = some d := by rfl) (hN : Nat.blt d N = true := by rfl) (hE : γ.isE rest.length = true := by rfl) (hS : γ.isN rest.length = true → ∀ v' w, St E H (.obj g (.cells news.toArray ty' z) :: i0 :: i1 :: i2 :: .row v' e sz (n + m) (xs ++ news) :: L) w → γ.S w := by first | exact fun e => Bool.noConfusion (show false = true from e) | exact fun _ _ _ hw => hw.sees' LE.rfl (by simp) | exact fun _ _ _ hw => hw.sees' (by assumption) (by simp)) : γ.G (o :: rest) a w :=
  ap (k0 := 4) ht h rfl hl (fun j u hj => by rw [Nat.zero_add, cell_own (item_at (k := 0) h.st.sees rfl) j]; simpa using hj) (fun u hu => List.all_eq_true.1 h1 u hu) hb h63
    (fun v' a w hv hS => k v' a w hv ⟨hS.ag, hS.st.drop 1⟩) ho hx hy hw hd hN hE hS
theorem w64 {z : Int} (h : -9223372036854775808 ≤ z) (h' : z ≤ 9223372036854775807) : IntKind.i64.wrap z = z := by
  simp [IntKind.wrap, IntKind.bits, IntKind.signed]; omega
/-- A counter goes up by one. -/
theorem inc {j : Nat} (hj : j < 4611686018427387904) (h : S E H N D F L a w) (k : ∀ a w, S E H N D ((d, .int .i64 ((j + 1 : Nat) : Int)) :: F) L a w → γ.G rest a w)
    (ho : o.op = .binOp .add t x y u := by rfl) (hx : ev F x = some (.int .i64 (j : Int)) := by rfl) (hy : ev F y = some (.int .i64 1) := by rfl)
    (hw : wn ops F o = some true := by rfl) (hd : o.dst = some d := by rfl) (hN : Nat.blt d N = true := by rfl) : γ.G (o :: rest) a w :=
  add h (fun a w h => k a w (by rw [w64 (by omega) (by omega)] at h; exact h)) ho hx hy hw hd hN
/-- A sum, with what it comes to. -/
theorem adr {kd : IntKind} {m n : Int} (r : Int) (hr : kd.wrap (m + n) = r) (h : S E H N D F L a w) (k : ∀ a w, S E H N D ((d, .int kd r) :: F) L a w → γ.G rest a w)
    (ho : o.op = .binOp .add t x y u := by rfl) (hx : ev F x = some (.int kd m) := by rfl) (hy : ev F y = some (.int kd n) := by rfl)
    (hw : wn ops F o = some true := by rfl) (hd : o.dst = some d := by rfl) (hN : Nat.blt d N = true := by rfl) : γ.G (o :: rest) a w := by
  subst hr; exact add h k ho hx hy hw hd hN
theorem sbr {kd : IntKind} {m n : Int} (r : Int) (hr : kd.wrap (m - n) = r) (h : S E H N D F L a w) (k : ∀ a w, S E H N D ((d, .int kd r) :: F) L a w → γ.G rest a w)
    (ho : o.op = .binOp .sub t x y u := by rfl) (hx : ev F x = some (.int kd m) := by rfl) (hy : ev F y = some (.int kd n) := by rfl)
    (hw : wn ops F o = some true := by rfl) (hd : o.dst = some d := by rfl) (hN : Nat.blt d N = true := by rfl) : γ.G (o :: rest) a w := by
  subst hr; exact sb h k ho hx hy hw hd hN
/-- max of two ints. -/
theorem mx {t2 : Array TypeId} {m n : Int} (h : S E H N D F L a w) (k : ∀ a w, S E H N D ((d, .int .i64 (if m < n then n else m)) :: F) L a w → γ.G rest a w)
    (ho : o.op = .call { callee := .builtin .max, args := #[x, y], argTypes := t2 } := by rfl) (hx : ev F x = some (.int .i64 m) := by rfl) (hy : ev F y = some (.int .i64 n) := by rfl)
    (hw : wn ops F o = some true := by rfl) (hd : o.dst = some d := by rfl) (hN : Nat.blt d N = true := by rfl) : γ.G (o :: rest) a w :=
  pv h (fun w => by
    simp [execOp, ho, resolve, invoke, builtin, h.ag.ev hx, h.ag.ev hy, Builtin.max_, Builtin.max2]) k hw hd hN
end
end Go.Proofs.YtindlieilabgfaaGreatDoor.X
