/- One lemma an operation: each takes the state of the walk to the next one. -/
import Derived.Test.YtindlieilabgfaaGreatDoorX1
set_option linter.unusedVariables false
set_option linter.unusedSectionVars false
set_option linter.unusedSimpArgs false
set_option linter.unusedSimpArgs false
set_option autoImplicit false
set_option relaxedAutoImplicit false
namespace Go.Proofs.YtindlieilabgfaaGreatDoor.X
open Go

/-! ### Types -/
def ty1 (P : Program) (t : TypeId) : Bool := match P.underlying t with
  | some (.struct _) | some (.array _ _) => false
  | some _ => match P.info? t with
    | some i => i.size == 1
    | none => false
  | none => false
def tyN (P : Program) (t : TypeId) (n : Nat) : Bool := match P.underlying t with
  | some (.struct _) | some (.array _ _) => match P.info? t with
    | some i => i.size == n
    | none => false
  | _ => false
def szT (P : Program) (t : TypeId) (n : Nat) : Bool := match P.info? t with
  | some i => i.size == n
  | none => false
def zrT (P : Program) (t : TypeId) : Option Value := match P.info? t with
  | some i => i.zero
  | none => none
/-- Where field i of struct t lies. -/
def fldT (P : Program) (t : TypeId) (i : Nat) : Option Nat := match P.underlying t with
  | some (.struct fs) => match fs[i]? with
    | some f => match P.info? f.type with
      | some j => if j.size = 0 then none else some f.offset
      | none => none
    | none => none
  | _ => none
def layT (P : Program) (t : TypeId) : Option (Array (Nat × Nat)) := match P.underlying t with
  | some (.struct fs) => fs.mapM fun f => match P.info? f.type with
    | some j => some (f.offset, j.size)
    | none => none
  | _ => none
def sliT (P : Program) (t : TypeId) : Option TypeId := match P.underlying t with
  | some (.slice e) => some e
  | _ => none
def bodT (P : Program) (f : FuncId) : Bool := match P.funcs[f]? with
  | some fn => fn.name != "runtime.NumGoroutine" && fn.body.isSome
  | none => false
def oneC (v : Value) : Bool := v.oneCell'

section
variable {P : Program} {w : World}
theorem und_of1 {t : TypeId} (h : ty1 P t = true) : ∃ d, P.underlying t = some d ∧ d.isRow = false ∧ ∃ i, P.info? t = some i ∧ i.size = 1 := by
  unfold ty1 at h
  split at h
  · cases h
  · cases h
  · rename_i d h1 h2 hd
    refine ⟨_, hd, ?_, ?_⟩
    · cases d <;> simp_all
    · split at h
      · rename_i i hi; exact ⟨i, hi, by simpa using h⟩
      · cases h
  · cases h
theorem und_ofN {t : TypeId} {n : Nat} (h : tyN P t n = true) : ∃ d, P.underlying t = some d ∧ d.isRow = true ∧ (P.info? t).map (·.size) = some n := by
  unfold tyN at h
  split at h
  · rename_i d hd
    refine ⟨_, hd, rfl, ?_⟩
    split at h
    · rename_i i hi; simp [hi]; simpa using h
    · cases h
  · rename_i d e hd
    refine ⟨_, hd, rfl, ?_⟩
    split at h
    · rename_i i hi; simp [hi]; simpa using h
    · cases h
  · cases h
theorem run_load1 {t : TypeId} (h : ty1 P t = true) (a : Addr) (v : Value) (hc : w.cell? a = some v) : (loadVar t a).run P w = .ok v w := by
  obtain ⟨d, hd, hr, _⟩ := und_of1 h
  have : (isAgg t).run P w = .ok false w := by
    unfold isAgg
    rw [Sem.run_bind, run_underlying hd]
    cases d <;> first | rfl | cases hr
  unfold loadVar
  simp [this, load, Sem.run, hc]
theorem run_loadN {t : TypeId} {n : Nat} (h : tyN P t n = true) (g o : Nat) (cs : List Value) (hl : cs.length = n)
    (hc : ∀ j v, cs[j]? = some v → w.cell? ⟨g, o + j, none⟩ = some v) : (loadVar t ⟨g, o, none⟩).run P w = .ok (.agg cs.toArray) w := by
  obtain ⟨d, hd, hr, hi⟩ := und_ofN h
  exact run_loadVar_mid w g o t cs d hc hd hr (by rw [hi, hl])
theorem oneCell_run {a : Addr} {v x : Value} (hv : v.oneCell' = true) (hc : w.cell? a = some x) (hf : w.frozen? a = false) :
    (store a v).run P w = .ok () (w.setCell a v) := by
  cases v <;> simp_all [store, Sem.run, Value.oneCell']
end

/-! ### Guards -/
def wn (ops : Array Oper) (F : List (Nat × Value)) (o : Oper) : Option Bool := match o.guard with
  | none => some true
  | some (j, want) => match (ops[j]?).bind (·.dst) with
    | some d => match F.lookup d with
      | some (.bool b) => some (b == want)
      | some (.tuple _) => some false
      | _ => none
    | none => none
theorem wanted_of {N : Nat} {D : List Deferred} {F : List (Nat × Value)} {a : Act} {ops : Array Oper} {o : Oper} {t : Bool} (h : Ag N D F a) (hw : wn ops F o = some t) :
    Region.wanted o (yielded ops a.tmps) = t := by
  unfold wn at hw
  unfold Region.wanted
  split at hw
  · rename_i hg; rw [hg]; simpa using hw
  · rename_i j want hg
    rw [hg]
    split at hw
    · rename_i d hd
      split at hw
      · rename_i b hb
        have := h.get d _ hb
        have hlt : a.tmps[d]? = some (.bool b) := by
          rw [Array.getD_eq_getD_getElem?] at this
          cases hx : a.tmps[d]? with
          | none => rw [hx] at this; simp [undef] at this
          | some y => rw [hx] at this; simpa using this
        simp only [yielded, hd, Option.bind_some, hlt]
        simp at hw
        cases b <;> cases want <;> simp_all
      · rename_i vs hb
        have := h.get d _ hb
        have hy : yielded ops a.tmps j = none := by
          simp only [yielded, hd, Option.bind_some]
          rw [Array.getD_eq_getD_getElem?] at this
          cases hx : a.tmps[d]? with
          | none => rfl
          | some y => rw [hx] at this; simp at this; subst this; rfl
        simp only [hy]
        simp at hw
        rw [hw]; rfl
      · cases hw
    · cases hw

/-! ### What is behind an operation: a region in the text's order, or one that draws it -/
/-- What is there to be read: what is frozen, and some of what is one's own. -/
structure Sees (H : GH) (L : List It) (w : World) : Prop where
  fro : ∀ b o, H b = some o → w.heap[b]? = some o
  holds : ∀ i ∈ L, i.holds w
theorem St.sees {E w : World} {H : GH} {L : List It} (h : St E H L w) : Sees H L w := ⟨h.fro, h.holds⟩
theorem St.sees' {E w : World} {H H0 : GH} {L L0 : List It} (h : St E H L w) (hl : LE H0 H) (hs : ∀ i ∈ L0, i ∈ L) : Sees H0 L0 w := ⟨fun b o e => h.fro b o (hl b o e), fun i hi => h.holds i (hs i hi)⟩
structure Gd (P : Program) (ops : Array Oper) (Q : Exit → Act → World → Prop) where
  G : List Oper → Act → World → Prop
  /-- What the region's reads look at. -/
  S : World → Prop
  /-- May an operation with so many behind it have an effect? May a read come up behind it? -/
  isE : Nat → Bool
  isN : Nat → Bool
  /-- May it read? -/
  isR : Nat → Bool
  /-- The worlds in which a read has to yield the same. -/
  W : World → World → Prop
  nil : ∀ {a w}, Q .normal a w → G [] a w
  skip : ∀ {o rest a w}, Region.wanted o (yielded ops a.tmps) = false → G rest (a.put o.dst undef) w → G (o :: rest) a w
  pure_ : ∀ {o rest a w v}, Region.wanted o (yielded ops a.tmps) = true → (∀ w', (execOp a.eval o).run P w' = .ok (.value v) w') → G rest (a.put o.dst v) w → G (o :: rest) a w
  quiet : ∀ {o rest a w v}, isR rest.length = true → S w → Region.wanted o (yielded ops a.tmps) = true → (∀ w', W w w' → (execOp a.eval o).run P w' = .ok (.value v) w') → G rest (a.put o.dst v) w → G (o :: rest) a w
  eff : ∀ {o rest a w}, isE rest.length = true → Region.wanted o (yielded ops a.tmps) = true → o.wp P a w (fun a' w' => (isN rest.length = true → S w') ∧ G rest a' w') Q → G (o :: rest) a w
theorem Oper.wp_mono' {P : Program} {o : Oper} {a : Act} {w : World} {K K' : Act → World → Prop} {Q : Exit → Act → World → Prop} (h : o.wp P a w K Q) (hk : ∀ a w, K a w → K' a w) : o.wp P a w K' Q := by
  unfold Oper.wp at *
  generalize (execOp a.eval o).run P w = r at *
  cases r with
  | ok n w' =>
    cases n <;> simp only [Oper.upon] at h ⊢
    case value u => exact hk _ _ h
    case skip => exact hk _ _ h
    case defer d => exact hk _ _ h
    case enter f args =>
      refine Calls.mono h fun e w'' he => ?_
      cases e with
      | returned u => exact hk _ _ he
      | panicked c => exact he
      | outgrown => exact he
    case row row args => exact Rows.mono h fun u w'' he => hk _ _ he
  | halt x w' => cases x <;> simp only [Oper.upon] at h ⊢ <;> exact h
/-- The text's order. -/
def gl (P : Program) (ops : Array Oper) (Q : Exit → Act → World → Prop) : Gd P ops Q where
  G := wpList P ops Q
  S := fun _ => True
  isE := fun _ => true
  isN := fun _ => false
  isR := fun _ => true
  W := fun w w' => w' = w
  nil h := h
  skip hw h := by unfold wpList; rw [if_neg (by rw [hw]; simp)]; exact h
  pure_ hw hr h := by
    unfold wpList; rw [if_pos hw]
    refine .inl ?_
    unfold Oper.wp
    rw [hr _, Oper.upon_value]; exact h
  quiet _ _ hw hr h := by
    unfold wpList; rw [if_pos hw]
    refine .inl ?_
    unfold Oper.wp
    rw [hr _ rfl, Oper.upon_value]; exact h
  eff _ hw h := by
    unfold wpList; rw [if_pos hw]
    exact .inl (Oper.wp_mono' h fun _ _ h => h.2)

/-! A region that draws its order, walked in the text's: 'eff': the effects (nothing else may come up when one does), each by how many operations stand behind it; 'rd': the operations that read. An effect that does not wait for all that read leaves S as it is. -/
def needs (ops : Array Oper) (rd : List Nat) (j : Nat) : Bool := rd.any fun i => i != j && !((ops[j]?).map (·.after.any fun e => Region.binds .any e && e.on == i)).getD false
def wpR (P : Program) (ops : Array Oper) (Q : Exit → Act → World → Prop) (S : World → Prop) (rd : List Nat) : Nat → Array Bool → Act → World → Prop
  | 0, listed, a, w => Region.ready .any ops listed = [] ∧ Q .normal a w
  | fuel + 1, listed, a, w => (Region.ready .any ops listed = [] → Q .normal a w) ∧
    ∀ i ∈ Region.ready .any ops listed, wpOp P ops Q i (fun a' w' => (needs ops rd i = true → S w → S w') ∧ wpR P ops Q S rd fuel (listed.setIfInBounds i true) a' w') a w
section
variable {P : Program} {ops : Array Oper} {Q : Exit → Act → World → Prop} {S : World → Prop} {rd : List Nat}
theorem wpR_any : ∀ (fuel : Nat) (listed : Array Bool) (a : Act) (w : World), wpR P ops Q S rd fuel listed a w → wpAny P .any ops Q fuel listed a w
  | 0, _, _, _, h => h
  | fuel + 1, _, _, _, h => ⟨h.1, fun i hi => wpOp_mono (fun a' w' k => wpR_any fuel _ a' w' k.2) (h.2 i hi)⟩
/-- An operation that yields the same in every world that meets T is taken first. -/
theorem wpR_take {T : World → Prop} {i : Nat} {oi : Oper} {v : Value} (hi : ops[i]? = some oi) (hns : Region.noSelect ops = true) (hQ : ∀ c a a' w, a.defers = a'.defers → Q (.panic c) a w → Q (.panic c) a' w)
    (hT : (∀ w, T w) ∨ i ∈ rd ∧ T = S) : ∀ (fuel : Nat) (listed : Array Bool) (a : Act) (w : World),
      (∀ j oj, ops[j]? = some oj → j ≠ i → listed.getD j true = false → (∀ e ∈ oj.after, Region.binds .any e = true → e.on ≠ i) → oi.apart ops oj = true) →
      i ∈ Region.ready .any ops listed → YieldsIf P ops T oi v a → T w →
      wpR P ops Q S rd fuel (listed.setIfInBounds i true) (a.put oi.dst v) w → wpR P ops Q S rd (fuel + 1) listed a w := by
  have hsel := Region.noSelect_spec hns
  intro fuel
  induction fuel with
  | zero =>
    intro listed a w _ hr hy hTw hk
    refine ⟨(fun e => by rw [e] at hr; cases hr), fun j hj => ?_⟩
    by_cases e : j = i
    · subst e
      exact hy.wpOp hi hTw ⟨fun _ h => h, hk⟩
    · have := ready_mono hj e
      rw [hk.1] at this; cases this
  | succ fuel ih =>
    intro listed a w hfree hr hy hTw hk
    refine ⟨(fun e => by rw [e] at hr; cases hr), fun j hj => ?_⟩
    by_cases e : j = i
    · subst e
      exact hy.wpOp hi hTw ⟨fun _ h => h, hk⟩
    · obtain ⟨hjun, oj, hoj, hall⟩ := mem_ready.1 hj
      have hiun := (mem_ready.1 hr).1
      have hnot : ∀ e ∈ oj.after, Region.binds .any e = true → e.on ≠ i := fun e' he hb heq => by
        have h1 := hall e' he hb
        rw [heq] at h1
        rw [Array.getD_eq_getD_getElem?] at h1 hiun
        cases hx : listed[i]? with
        | none => rw [hx] at h1; simp at h1
        | some q => rw [hx] at h1 hiun; simp at h1 hiun; rw [h1] at hiun; cases hiun
      have hstep := wpOp_putIf hoj (hfree j oj hoj e hjun hnot) (fun cs b => hsel i oi cs b hi) (fun cs b => hsel j oj cs b hoj) (fun c a w h => hQ c (a.put oi.dst v) a w (by cases oi.dst <;> rfl) h) hy (hk.2 j (ready_mono hj e))
      refine wpOp_mono (fun a' w' ⟨hy', hS', hk'⟩ => ?_) hstep
      have hTw' : T w' := by
        rcases hT with hT | ⟨hrd, rfl⟩
        · exact hT w'
        · refine hS' ?_ hTw
          unfold needs
          rw [List.any_eq_true]
          refine ⟨i, hrd, ?_⟩
          rw [hoj]
          simp only [Option.map_some, Option.getD_some, Bool.and_eq_true, bne_iff_ne, ne_eq, Bool.not_eq_true']
          refine ⟨fun h => e h.symm, ?_⟩
          rw [Array.any_eq_false']
          intro e' he
          have := hnot e' he
          simp only [Bool.and_eq_true, beq_iff_eq, not_and]
          exact this
      refine ⟨hS', ih _ a' w' (fun q oq hq hqi hun hno => hfree q oq hq hqi ?_ hno) (ready_mono hr (Ne.symm e)) hy' hTw' ?_⟩
      · by_cases hjq : j = q
        · subst hjq; exact hjun
        · rw [getD_set_ne true hjq] at hun; exact hun
      · rw [Array.setIfInBounds_comm _ _ e]; exact hk'
end
def gdw (P : Program) (ops : Array Oper) (Q : Exit → Act → World → Prop) (S : World → Prop) (eff rd : List Nat) (nS : Nat) : List Oper → Act → World → Prop
  | [], a, w => Q .normal a w
  | o :: rest, a, w =>
    if eff.contains rest.length then
      if Region.wanted o (yielded ops a.tmps) = true then o.wp P a w (fun a' w' => (nS ≤ rest.length → S w') ∧ gdw P ops Q S eff rd nS rest a' w') Q else gdw P ops Q S eff rd nS rest (a.put o.dst undef) w
    else ∃ v, (YieldsIf P ops (fun _ => True) o v a ∨ (rd.contains (ops.size - (rest.length + 1)) = true ∧ nS ≤ rest.length + 1 ∧ YieldsIf P ops S o v a)) ∧ gdw P ops Q S eff rd nS rest (a.put o.dst v) w
def gd (P : Program) (ops : Array Oper) (Q : Exit → Act → World → Prop) (S : World → Prop) (eff rd : List Nat) (nS : Nat) : Gd P ops Q where
  G := fun l a w => (nS ≤ l.length → S w) → gdw P ops Q S eff rd nS l a w
  S := S
  isE := fun n => eff.contains n
  isN := fun n => Nat.ble nS n
  isR := fun n => rd.contains (ops.size - (n + 1)) && Nat.ble nS (n + 1)
  W := fun _ w' => S w'
  nil h _ := h
  skip hw h hS := by
    have h' := h (fun e => hS (Nat.le_succ_of_le e))
    unfold gdw
    split
    · rw [if_neg (by rw [hw]; simp)]; exact h'
    · exact ⟨undef, .inl (.inr ⟨hw, rfl⟩), h'⟩
  pure_ hw hr h hS := by
    have h' := h (fun e => hS (Nat.le_succ_of_le e))
    unfold gdw
    split
    · first | rw [if_pos hw] | skip
      unfold Oper.wp
      rw [hr _, Oper.upon_value]; exact ⟨fun e => hS (Nat.le_succ_of_le e), h'⟩
    · exact ⟨_, .inl (.inl ⟨hw, fun w _ => hr w⟩), h'⟩
  quiet hR _ hw hr h hS := by
    have h' := h (fun e => hS (Nat.le_succ_of_le e))
    simp only [Bool.and_eq_true, Nat.ble_eq] at hR
    unfold gdw
    split
    · first | rw [if_pos hw] | skip
      unfold Oper.wp
      rw [hr _ (hS hR.2), Oper.upon_value]; exact ⟨fun e => hS (Nat.le_succ_of_le e), h'⟩
    · exact ⟨_, .inr ⟨hR.1, hR.2, .inl ⟨hw, hr⟩⟩, h'⟩
  eff he hw h hS := by
    unfold gdw
    rw [if_pos he, if_pos hw]
    exact Oper.wp_mono' h fun _ _ h => ⟨fun e => h.1 (by simpa [Nat.ble_eq] using e), h.2 fun e => h.1 (by simpa [Nat.ble_eq] using e)⟩
/-- May a region be walked in the text's order, these being its effects, and what reads? -/
def drawOk (ops : Array Oper) (eff rd : List Nat) (nS : Nat) : Bool :=
  Region.noSelect ops && (List.range ops.size).all fun i =>
    let listed := (Array.replicate i true) ++ (Array.replicate (ops.size - i) false)
    (Nat.ble nS (ops.size - (i + 1)) || !needs ops rd i) &&
    if eff.contains (ops.size - (i + 1)) then Region.ready .any ops listed == [i] else Region.free .any ops listed i && (Region.ready .any ops listed).contains i
theorem lst_set (n i : Nat) (h : i < n) : ((Array.replicate i true) ++ (Array.replicate (n - i) false)).setIfInBounds i true = (Array.replicate (i + 1) true) ++ (Array.replicate (n - (i + 1)) false) := by
  obtain ⟨m, rfl⟩ : ∃ m, n = i + 1 + m := ⟨n - (i + 1), by omega⟩
  apply Array.ext'
  have e1 : i + 1 + m - i = m + 1 := by omega
  have e2 : i + 1 + m - (i + 1) = m := by omega
  rw [e1, e2]
  simp [List.set_append, List.replicate_succ]
  clear h e1 e2
  induction i with
  | zero => simp
  | succ i ih => simp [List.replicate_succ, ih]
theorem gdw_sound {P : Program} {ops : Array Oper} {Q : Exit → Act → World → Prop} {S : World → Prop} {eff rd : List Nat} {nS : Nat} (hD : drawOk ops eff rd nS = true)
    (hQ : ∀ c a a' w, a.defers = a'.defers → Q (.panic c) a w → Q (.panic c) a' w) : ∀ (l : List Oper) (i : Nat) (a : Act) (w : World), i + l.length = ops.size → l = ops.toList.drop i → (nS ≤ l.length → S w) → gdw P ops Q S eff rd nS l a w →
      wpR P ops Q S rd (ops.size - i) ((Array.replicate i true) ++ (Array.replicate (ops.size - i) false)) a w := by
  unfold drawOk at hD
  rw [Bool.and_eq_true, List.all_eq_true] at hD
  obtain ⟨hns, hall⟩ := hD
  intro l
  induction l with
  | nil =>
    intro i a w hi hl hS h
    simp at hi; subst hi
    have hr : Region.ready .any ops ((Array.replicate ops.size true) ++ (Array.replicate (ops.size - ops.size) false)) = [] := by
      simp [Region.ready, List.filter_eq_nil_iff]
      intro j hj hc
      simp [hj] at hc
    rw [Nat.sub_self] at *
    exact ⟨hr, h⟩
  | cons o rest ih =>
    intro i a w hi hl hS h
    simp only [List.length_cons] at hi hS
    have hlt : i < ops.size := by omega
    have ho : ops[i]? = some o := by
      have : (ops.toList.drop i)[0]? = some o := by rw [← hl]; rfl
      simpa using this
    have hrest : rest = ops.toList.drop (i + 1) := by
      have : (ops.toList.drop i).tail = rest := by rw [← hl]; rfl
      rw [← this]; simp
    have hlen : rest.length = ops.size - (i + 1) := by omega
    have hix : ops.size - (rest.length + 1) = i := by omega
    have hc := hall i (List.mem_range.2 hlt)
    have hfu : ops.size - i = (ops.size - (i + 1)) + 1 := by omega
    have hls := lst_set ops.size i hlt
    simp only [Bool.and_eq_true, Bool.or_eq_true, Nat.ble_eq, Bool.not_eq_true'] at hc
    obtain ⟨hnd, hc⟩ := hc
    unfold gdw at h
    rw [hix, hlen] at h
    by_cases he : eff.contains (ops.size - (i + 1)) = true
    · rw [if_pos he] at h hc
      have hr := eq_of_beq hc
      suffices key : wpR P ops Q S rd ((ops.size - (i + 1)) + 1) ((Array.replicate i true) ++ (Array.replicate (ops.size - i) false)) a w by
        rwa [← hfu] at key
      refine ⟨(fun e => by rw [e] at hr; cases hr), fun j hj => ?_⟩
      rw [hr] at hj
      simp at hj; subst hj
      unfold wpOp
      simp only [ho]
      split
      · rename_i hw
        rw [if_pos hw] at h
        refine .inl (Oper.wp_mono' h fun a' w' h' => ⟨fun hn _ => ?_, ?_⟩)
        · rcases hnd with hnd | hnd
          · exact h'.1 hnd
          · rw [hnd] at hn; cases hn
        · rw [hls]
          exact ih (j + 1) a' w' (by omega) hrest (by rw [hlen]; exact h'.1) h'.2
      · rename_i hw
        rw [if_neg hw] at h
        refine ⟨fun _ h => h, ?_⟩
        rw [hls]
        exact ih (j + 1) _ w (by omega) hrest (fun e => hS (by omega)) h
    · rw [if_neg he] at h
      rw [if_neg he, Bool.and_eq_true] at hc
      obtain ⟨v, hy, h⟩ := h
      suffices key : wpR P ops Q S rd ((ops.size - (i + 1)) + 1) ((Array.replicate i true) ++ (Array.replicate (ops.size - i) false)) a w by
        rwa [← hfu] at key
      have hk := ih (i + 1) _ w (by omega) hrest (fun e => hS (by omega)) h
      rw [← hls] at hk
      have hf := Region.free_spec ho hc.1
      rcases hy with hy | ⟨hrd, hn, hy⟩
      · exact wpR_take ho hns hQ (.inl fun _ => trivial) _ _ a w hf (by simpa using hc.2) hy trivial hk
      · exact wpR_take ho hns hQ (.inr ⟨by simpa using hrd, rfl⟩) _ _ a w hf (by simpa using hc.2) hy (hS (by rw [hlen]; exact hn)) hk

section
variable {P : Program} {ops : Array Oper} {Q : Exit → Act → World → Prop} {γ : Gd P ops Q} {rest : List Oper} {o : Oper} {E w : World} {H : GH} {N : Nat} {D : List Deferred} {F : List (Nat × Value)} {L : List It} {a : Act}

/-- An operation that yields a value. -/
theorem val {v : Value} {w' : World} {H' : GH} {L' : List It} {d : Nat} (h : S E H N D F L a w) (hw : wn ops F o = some true) (hd : o.dst = some d) (hN : Nat.blt d N = true)
    (hE : γ.isE rest.length = true) (hS : γ.isN rest.length = true → ∀ w, St E H' L' w → γ.S w)
    (hrun : (execOp a.eval o).run P w = .ok (.value v) w') (hst : St E H' L' w') (k : ∀ a w, S E H' N D ((d, v) :: F) L' a w → γ.G rest a w) : γ.G (o :: rest) a w := by
  refine γ.eff hE (wanted_of h.ag hw) ?_
  unfold Oper.wp
  rw [hrun, Oper.upon_value, hd]
  exact ⟨fun e => hS e _ hst, k _ _ ⟨h.ag.put (by simpa [Nat.blt_eq] using hN) v, hst⟩⟩
theorem unit_ {w' : World} {H' : GH} {L' : List It} (h : S E H N D F L a w) (hw : wn ops F o = some true) (hd : o.dst = none)
    (hE : γ.isE rest.length = true) (hS : γ.isN rest.length = true → ∀ w, St E H' L' w → γ.S w)
    (hrun : (execOp a.eval o).run P w = .ok .skip w') (hst : St E H' L' w') (k : ∀ a w, S E H' N D F L' a w → γ.G rest a w) : γ.G (o :: rest) a w := by
  refine γ.eff hE (wanted_of h.ag hw) ?_
  unfold Oper.wp
  rw [hrun, Oper.upon_skip, hd]
  exact ⟨fun e => hS e _ hst, k _ _ ⟨h.ag, hst⟩⟩
/-- The guard says no. -/
theorem sk {d : Nat} (h : S E H N D F L a w) (k : ∀ a w, S E H N D ((d, undef) :: F) L a w → γ.G rest a w) (hw : wn ops F o = some false := by rfl) (hd : o.dst = some d := by rfl) (hN : Nat.blt d N = true := by rfl) : γ.G (o :: rest) a w := by
  refine γ.skip (wanted_of h.ag hw) ?_
  rw [hd]
  exact k _ _ ⟨h.ag.put (by simpa [Nat.blt_eq] using hN) undef, h.st⟩
theorem sk0 (h : S E H N D F L a w) (k : ∀ a w, S E H N D F L a w → γ.G rest a w) (hw : wn ops F o = some false := by rfl) (hd : o.dst = none := by rfl) : γ.G (o :: rest) a w := by
  refine γ.skip (wanted_of h.ag hw) ?_
  rw [hd]
  exact k _ _ h
/-- Which of the two is it? -/
theorem S.spl {b : Bool} {d : Nat} {G : Prop} (h : S E H N D ((d, .bool b) :: F) L a w) (kT : b = true → S E H N D ((d, .bool true) :: F) L a w → G) (kF : b = false → S E H N D ((d, .bool false) :: F) L a w → G) : G := by
  cases b
  · exact kF rfl h
  · exact kT rfl h
theorem nl0 (h : Q .normal a w) : γ.G [] a w := γ.nil h
/-- A read. -/
theorem rdv {v : Value} {d : Nat} (h : S E H N D F L a w) (hR : γ.isR rest.length = true) (hS : γ.S w) (hrun : ∀ w', γ.W w w' → (execOp a.eval o).run P w' = .ok (.value v) w') (k : ∀ a w, S E H N D ((d, v) :: F) L a w → γ.G rest a w)
    (hw : wn ops F o = some true) (hd : o.dst = some d) (hN : Nat.blt d N = true) : γ.G (o :: rest) a w := by
  refine γ.quiet hR hS (wanted_of h.ag hw) hrun ?_
  rw [hd]
  exact k _ _ ⟨h.ag.put (by simpa [Nat.blt_eq] using hN) v, h.st⟩
/-- A value that hangs on no memory. -/
theorem pv {v : Value} {d : Nat} (h : S E H N D F L a w) (hrun : ∀ w, (execOp a.eval o).run P w = .ok (.value v) w) (k : ∀ a w, S E H N D ((d, v) :: F) L a w → γ.G rest a w)
    (hw : wn ops F o = some true := by rfl) (hd : o.dst = some d := by rfl) (hN : Nat.blt d N = true := by rfl) : γ.G (o :: rest) a w := by
  refine γ.pure_ (wanted_of h.ag hw) hrun ?_
  rw [hd]
  exact k _ _ ⟨h.ag.put (by simpa [Nat.blt_eq] using hN) v, h.st⟩

theorem mv {v : Value} {d : Nat} {x : Operand} (h : S E H N D F L a w) (k : ∀ a w, S E H N D ((d, v) :: F) L a w → γ.G rest a w)
    (ho : o.op = .move x := by rfl) (hx : ev F x = some v := by rfl)
    (hw : wn ops F o = some true := by rfl) (hd : o.dst = some d := by rfl) (hN : Nat.blt d N = true := by rfl) : γ.G (o :: rest) a w :=
  pv h (fun w => by simp [execOp, ho, h.ag.ev hx]) k hw hd hN
theorem as_ {v : Value} {d : Nat} {x : Operand} (h : S E H N D F L a w) (k : ∀ a w, S E H N D ((d, v) :: F) L a w → γ.G rest a w)
    (ho : o.op = .assign x := by rfl) (hx : ev F x = some v := by rfl)
    (hw : wn ops F o = some true := by rfl) (hd : o.dst = some d := by rfl) (hN : Nat.blt d N = true := by rfl) : γ.G (o :: rest) a w :=
  pv h (fun w => by simp [execOp, ho, h.ag.ev hx]) k hw hd hN
theorem pkT {v : Value} {d : Nat} {c x y : Operand} (h : S E H N D F L a w) (k : ∀ a w, S E H N D ((d, v) :: F) L a w → γ.G rest a w)
    (ho : o.op = .pick c x y := by rfl) (hc : ev F c = some (.bool true) := by rfl) (hx : ev F x = some v := by rfl)
    (hw : wn ops F o = some true := by rfl) (hd : o.dst = some d := by rfl) (hN : Nat.blt d N = true := by rfl) : γ.G (o :: rest) a w :=
  pv h (fun w => by simp [execOp, ho, h.ag.ev hc, h.ag.ev hx, asBool]) k hw hd hN
theorem pkF {v : Value} {d : Nat} {c x y : Operand} (h : S E H N D F L a w) (k : ∀ a w, S E H N D ((d, v) :: F) L a w → γ.G rest a w)
    (ho : o.op = .pick c x y := by rfl) (hc : ev F c = some (.bool false) := by rfl) (hx : ev F y = some v := by rfl)
    (hw : wn ops F o = some true := by rfl) (hd : o.dst = some d := by rfl) (hN : Nat.blt d N = true := by rfl) : γ.G (o :: rest) a w :=
  pv h (fun w => by simp [execOp, ho, h.ag.ev hc, h.ag.ev hx, asBool]) k hw hd hN
theorem nc {p : Addr} {d : Nat} {x : Operand} (h : S E H N D F L a w) (k : ∀ a w, S E H N D ((d, .pointer (some p)) :: F) L a w → γ.G rest a w)
    (ho : o.op = .nilCheck x := by rfl) (hx : ev F x = some (.pointer (some p)) := by rfl)
    (hw : wn ops F o = some true := by rfl) (hd : o.dst = some d := by rfl) (hN : Nat.blt d N = true := by rfl) : γ.G (o :: rest) a w :=
  pv h (fun w => by simp [execOp, ho, h.ag.ev hx]) k hw hd hN
theorem ex {vs : Array Value} {v : Value} {d i : Nat} {x : Operand} (h : S E H N D F L a w) (k : ∀ a w, S E H N D ((d, v) :: F) L a w → γ.G rest a w)
    (ho : o.op = .extract x i := by rfl) (hx : ev F x = some (.tuple vs) := by rfl) (hv : vs.toList[i]? = some v := by rfl)
    (hw : wn ops F o = some true := by rfl) (hd : o.dst = some d := by rfl) (hN : Nat.blt d N = true := by rfl) : γ.G (o :: rest) a w :=
  pv h (fun w => by simp [execOp, ho, h.ag.ev hx, Instr.extract, (Array.getElem?_toList ..).symm.trans hv]) k hw hd hN
def evs (F : List (Nat × Value)) : List Operand → Option (List Value)
  | [] => some []
  | x :: l => match ev F x, evs F l with
    | some v, some vs => some (v :: vs)
    | _, _ => none
theorem Ag.evs {F : List (Nat × Value)} (h : Ag N D F a) : ∀ {l : List Operand} {vs : List Value}, X.evs F l = some vs → l.map a.eval = vs
  | [], vs, e => by simp [X.evs] at e; subst e; rfl
  | x :: l, vs, e => by
    simp only [X.evs] at e
    split at e
    · rename_i v us hv hus
      cases e
      simp [h.ev hv, Ag.evs h hus]
    · cases e
theorem mf {cs : List Operand} {fn : Fn} {vs : List Value} {d : Nat} (h : S E H N D F L a w) (k : ∀ a w, S E H N D ((d, .func fn #[] vs.toArray) :: F) L a w → γ.G rest a w)
    (ho : o.op = .makeFunc fn #[] cs.toArray := by rfl) (hx : evs F cs = some vs := by rfl)
    (hw : wn ops F o = some true := by rfl) (hd : o.dst = some d := by rfl) (hN : Nat.blt d N = true := by rfl) : γ.G (o :: rest) a w :=
  pv h (fun w => by simp [execOp, ho, Instr.makeFunc, h.ag.evs hx]) k hw hd hN

/-! #### numbers -/
theorem bo {op : BinOp} {t u : TypeId} {x y : Operand} {v vx vy : Value} {d : Nat} (hr : ∀ w, (do eqGuard op t x y vx vy; binOp op t vx vy : Sem Value).run P w = .ok v w) (h : S E H N D F L a w)
    (k : ∀ a w, S E H N D ((d, v) :: F) L a w → γ.G rest a w)
    (ho : o.op = .binOp op t x y u := by rfl) (hx : ev F x = some vx := by rfl) (hy : ev F y = some vy := by rfl)
    (hw : wn ops F o = some true := by rfl) (hd : o.dst = some d := by rfl) (hN : Nat.blt d N = true := by rfl) : γ.G (o :: rest) a w :=
  pv h (fun w => by
    have := hr w
    simp [execOp, ho, h.ag.ev hx, h.ag.ev hy] at this ⊢
    generalize Sem.run P (eqGuard op t x y vx vy) w = r at this ⊢
    cases r with
    | ok p w' => simp at this ⊢; rw [this]; rfl
    | halt e w' => simp at this) k hw hd hN
variable {t u : TypeId} {x y : Operand} {d : Nat} {kd : IntKind} {m n : Int}
theorem run_int (op : BinOp) (v : Value) (hv : ∀ w, (binOp op t (.int kd m) (.int kd n)).run P w = .ok v w) (w : World) :
    (do eqGuard op t x y (.int kd m) (.int kd n); binOp op t (.int kd m) (.int kd n) : Sem Value).run P w = .ok v w := by
  unfold eqGuard
  cases op <;> simp [hv]
theorem add (h : S E H N D F L a w) (k : ∀ a w, S E H N D ((d, .int kd (kd.wrap (m + n))) :: F) L a w → γ.G rest a w)
    (ho : o.op = .binOp .add t x y u := by rfl) (hx : ev F x = some (.int kd m) := by rfl) (hy : ev F y = some (.int kd n) := by rfl)
    (hw : wn ops F o = some true := by rfl) (hd : o.dst = some d := by rfl) (hN : Nat.blt d N = true := by rfl) : γ.G (o :: rest) a w :=
  bo (run_int _ _ (fun w => by simp [binOp, Op.intArith])) h k ho hx hy hw hd hN
theorem sb (h : S E H N D F L a w) (k : ∀ a w, S E H N D ((d, .int kd (kd.wrap (m - n))) :: F) L a w → γ.G rest a w)
    (ho : o.op = .binOp .sub t x y u := by rfl) (hx : ev F x = some (.int kd m) := by rfl) (hy : ev F y = some (.int kd n) := by rfl)
    (hw : wn ops F o = some true := by rfl) (hd : o.dst = some d := by rfl) (hN : Nat.blt d N = true := by rfl) : γ.G (o :: rest) a w :=
  bo (run_int _ _ (fun w => by simp [binOp, Op.intArith])) h k ho hx hy hw hd hN
theorem eqi (h : S E H N D F L a w) (k : ∀ a w, S E H N D ((d, .bool (m == n)) :: F) L a w → γ.G rest a w)
    (ho : o.op = .binOp .eql t x y u := by rfl) (hx : ev F x = some (.int kd m) := by rfl) (hy : ev F y = some (.int kd n) := by rfl)
    (hw : wn ops F o = some true := by rfl) (hd : o.dst = some d := by rfl) (hN : Nat.blt d N = true := by rfl) : γ.G (o :: rest) a w :=
  bo (run_int _ _ (fun w => by simp [binOp, Op.intCmp])) h k ho hx hy hw hd hN
theorem nei (h : S E H N D F L a w) (k : ∀ a w, S E H N D ((d, .bool (m != n)) :: F) L a w → γ.G rest a w)
    (ho : o.op = .binOp .neq t x y u := by rfl) (hx : ev F x = some (.int kd m) := by rfl) (hy : ev F y = some (.int kd n) := by rfl)
    (hw : wn ops F o = some true := by rfl) (hd : o.dst = some d := by rfl) (hN : Nat.blt d N = true := by rfl) : γ.G (o :: rest) a w :=
  bo (run_int _ _ (fun w => by simp [binOp, Op.intCmp])) h k ho hx hy hw hd hN
theorem lt (h : S E H N D F L a w) (k : ∀ a w, S E H N D ((d, .bool (decide (m < n))) :: F) L a w → γ.G rest a w)
    (ho : o.op = .binOp .lss t x y u := by rfl) (hx : ev F x = some (.int kd m) := by rfl) (hy : ev F y = some (.int kd n) := by rfl)
    (hw : wn ops F o = some true := by rfl) (hd : o.dst = some d := by rfl) (hN : Nat.blt d N = true := by rfl) : γ.G (o :: rest) a w :=
  bo (run_int _ _ (fun w => by simp [binOp, Op.intCmp])) h k ho hx hy hw hd hN
theorem le (h : S E H N D F L a w) (k : ∀ a w, S E H N D ((d, .bool (decide (m ≤ n))) :: F) L a w → γ.G rest a w)
    (ho : o.op = .binOp .leq t x y u := by rfl) (hx : ev F x = some (.int kd m) := by rfl) (hy : ev F y = some (.int kd n) := by rfl)
    (hw : wn ops F o = some true := by rfl) (hd : o.dst = some d := by rfl) (hN : Nat.blt d N = true := by rfl) : γ.G (o :: rest) a w :=
  bo (run_int _ _ (fun w => by simp [binOp, Op.intCmp])) h k ho hx hy hw hd hN
theorem gt (h : S E H N D F L a w) (k : ∀ a w, S E H N D ((d, .bool (decide (n < m))) :: F) L a w → γ.G rest a w)
    (ho : o.op = .binOp .gtr t x y u := by rfl) (hx : ev F x = some (.int kd m) := by rfl) (hy : ev F y = some (.int kd n) := by rfl)
    (hw : wn ops F o = some true := by rfl) (hd : o.dst = some d := by rfl) (hN : Nat.blt d N = true := by rfl) : γ.G (o :: rest) a w :=
  bo (run_int _ _ (fun w => by simp [binOp, Op.intCmp])) h k ho hx hy hw hd hN
theorem ge (h : S E H N D F L a w) (k : ∀ a w, S E H N D ((d, .bool (decide (n ≤ m))) :: F) L a w → γ.G rest a w)
    (ho : o.op = .binOp .geq t x y u := by rfl) (hx : ev F x = some (.int kd m) := by rfl) (hy : ev F y = some (.int kd n) := by rfl)
    (hw : wn ops F o = some true := by rfl) (hd : o.dst = some d := by rfl) (hN : Nat.blt d N = true := by rfl) : γ.G (o :: rest) a w :=
  bo (run_int _ _ (fun w => by simp [binOp, Op.intCmp])) h k ho hx hy hw hd hN
end
end Go.Proofs.YtindlieilabgfaaGreatDoor.X
