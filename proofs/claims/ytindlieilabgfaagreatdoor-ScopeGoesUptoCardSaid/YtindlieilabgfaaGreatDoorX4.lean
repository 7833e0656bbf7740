/- Control, calls, what is frozen, rows that grow. -/
import Derived.Test.YtindlieilabgfaaGreatDoorX3
set_option linter.unusedVariables false
set_option linter.unusedSectionVars false
set_option linter.unusedSimpArgs false
set_option linter.unusedSimpArgs false
set_option autoImplicit false
set_option relaxedAutoImplicit false
namespace Go.Proofs.YtindlieilabgfaaGreatDoor.X
open Go

/-! ### Control -/
section
variable {P : Program} {Q : Exit → Act → World → Prop} {E w : World} {H : GH} {N : Nat} {D : List Deferred} {F : List (Nat × Value)} {L : List It} {a : Act}
theorem sk_ (h : Q .normal a w) : Code.skip.wp P Q a w := wp_skip h
/-- A cut: what holds behind the first part. -/
theorem sqc {c d : Code} (I : Act → World → Prop) (h : c.wp P (Exit.then I Q) a w) (k : ∀ a w, I a w → d.wp P Q a w) : (Code.seq c d).wp P Q a w :=
  wp_seq (Code.wp_mono (fun e a w q => by cases e <;> first | exact k _ _ q | exact q) h)
theorem rg0 {id : Nat} {l : List Oper} (h : (gl P l.toArray Q).G l a w) : (Code.region id l.toArray false).wp P Q a w := wp_region_lit h
/-- A region that draws its order: L1 is what its reads look at, eff how many operations stand behind each effect. -/
theorem mem_pick {L L1 : List It} {ks : List Nat} (h : ks.map (fun k => L[k]?) = L1.map some) : ∀ i ∈ L1, i ∈ L := by
  intro i hi
  have : some i ∈ L1.map some := List.mem_map.2 ⟨i, hi, rfl⟩
  rw [← h] at this
  obtain ⟨k, _, hk⟩ := List.mem_map.1 this
  exact List.mem_of_getElem? hk
theorem rgd {id : Nat} {l : List Oper} (ks : List Nat) (L1 : List It) (eff rd : List Nat) (nS : Nat) (hm : P.follows .mixedOrders = true) (hD : drawOk l.toArray eff rd nS = true) (h : S E H N D F L a w)
    (k : ∀ a w, S E H N D F L a w → (gd P l.toArray Q (Sees H L1) eff rd nS).G l a w) (hk : ks.map (fun k => L[k]?) = L1.map some := by rfl) (hQ : ∀ c a a' w, a.defers = a'.defers → Q (.panic c) a w → Q (.panic c) a' w := by exact fun _ _ _ _ e h => ⟨e ▸ h.1, h.2⟩) : (Code.region id l.toArray true).wp P Q a w := by
  have hs := mem_pick hk
  have h1 : S E H N D F L a { w with drawn := w.drawn + 1 } := ⟨h.ag, h.st.drew _⟩
  have hS : Sees H L1 { w with drawn := w.drawn + 1 } := h1.st.sees' LE.rfl hs
  have hk := gdw_sound (P := P) hD hQ l 0 a _ (by simp) (by simp) (fun _ => hS) (k a _ h1 (fun _ => hS))
  refine wp_region_any hm (wpR_any (S := Sees H L1) (rd := rd) _ _ _ _ ?_)
  simpa using hk
theorem sq {c d : Code} (h : c.wp P (Exit.then (d.wp P Q) Q) a w) : (Code.seq c d).wp P Q a w := wp_seq h
theorem skp {K : Act → World → Prop} (h : K a w) : Code.skip.wp P (Exit.then K Q) a w := wp_skip h
theorem cdT {c : Operand} {x y : Code} (h : S E H N D F L a w) (k : x.wp P Q a w) (hc : ev F c = some (.bool true) := by rfl) : (Code.cond c x y).wp P Q a w := wp_cond_true (h.ag.ev hc) k
theorem cdF {c : Operand} {x y : Code} (h : S E H N D F L a w) (k : y.wp P Q a w) (hc : ev F c = some (.bool false) := by rfl) : (Code.cond c x y).wp P Q a w := wp_cond_false (h.ag.ev hc) k
theorem cdB {b : Bool} {c : Operand} {x y : Code} (h : S E H N D F L a w) (k : b = true → x.wp P Q a w) (k' : b = false → y.wp P Q a w) (hc : ev F c = some (.bool b) := by rfl) :
    (Code.cond c x y).wp P Q a w := wp_cond_split (h.ag.ev hc) k k'
theorem blk {id : Nat} {c : Code} (h : c.wp P (Exit.inBlock id Q) a w) : (Code.block id c).wp P Q a w := wp_block h
theorem blkS {id : Nat} {c d : Code} (h : c.wp P (Exit.inBlock id (Exit.then (d.wp P Q) Q)) a w) : (Code.seq (.block id c) d).wp P Q a w := wp_seq (wp_block h)
theorem thN {K : Act → World → Prop} (h : K a w) : Exit.then K Q .normal a w := h
theorem thE {K : Act → World → Prop} {i : Nat} (h : Q (.exit i) a w) : Exit.then K Q (.exit i) a w := h
theorem thR {K : Act → World → Prop} (h : Q .ret a w) : Exit.then K Q .ret a w := h
theorem thP {K : Act → World → Prop} {c : List PanicEntry} (h : Q (.panic c) a w) : Exit.then K Q (.panic c) a w := h
theorem ibN {id : Nat} (h : Q .normal a w) : Exit.inBlock id Q .normal a w := h
theorem ibR {id : Nat} (h : Q .ret a w) : Exit.inBlock id Q .ret a w := h
theorem ibP {id : Nat} {c : List PanicEntry} (h : Q (.panic c) a w) : Exit.inBlock id Q (.panic c) a w := h
theorem ibH {id : Nat} (h : Q .normal a w) : Exit.inBlock id Q (.exit id) a w := by simp [Exit.inBlock]; exact h
theorem ibO {id i : Nat} (h : Q (.exit i) a w) (hn : Nat.beq i id = false := by rfl) : Exit.inBlock id Q (.exit i) a w := by
  have : i ≠ id := fun e => by subst e; simp at hn
  simp [Exit.inBlock, this]; exact h
theorem exit_ {id : Nat} (h : Q (.exit id) a w) : (Code.exit id).wp P Q a w := wp_exit h
theorem ret_ (h : Q .ret a w) : Code.ret.wp P Q a w := wp_ret h
/-- A loop: what holds at the head of a round is a family over a ghost, whose measure each round lowers. -/
theorem lp {β : Type} {c : Code} (I : β → Act → World → Prop) (m : β → Nat) (x : β) (h : I x a w)
    (round : ∀ x a w, I x a w → c.wp P (Exit.then (fun a' w' => ∃ x', I x' a' w' ∧ m x' < m x) Q) a w) : (Code.loop c).wp P Q a w := by
  intro b k cs
  have key : ∀ n x a w, m x = n → I x a w →
      ∃ e a' w', Q e a' w' ∧ Arrives P (lone (b.at a (.code c :: .inLoop c :: k)) cs w) b k cs e a' w' := by
    intro n
    induction n using Nat.strongRecOn with
    | _ n ih =>
      intro x a w hn hI
      obtain ⟨e, a₁, w₁, hq, harr⟩ := round x a w hI b (.inLoop c :: k) cs
      cases e with
      | normal =>
        obtain ⟨x₁, hI₁, hlt⟩ := hq
        obtain ⟨e₂, a₂, w₂, hq₂, harr₂⟩ := ih (m x₁) (hn ▸ hlt) x₁ a₁ w₁ rfl hI₁
        exact ⟨e₂, a₂, w₂, hq₂, .of_steps (Steps.trans harr (.one step_inLoop)) harr₂⟩
      | exit id => exact ⟨_, a₁, w₁, hq, .pass (x := .inLoop c) rfl (fun _ _ => .inl (by simp)) harr⟩
      | goto l => exact ⟨_, a₁, w₁, hq, .pass (x := .inLoop c) rfl (fun _ _ => .inl (by simp)) harr⟩
      | ret => exact ⟨_, a₁, w₁, hq, .pass (x := .inLoop c) rfl (fun _ _ => .inl (by simp)) harr⟩
      | panic ch => exact ⟨_, a₁, w₁, hq, .pass (x := .inLoop c) rfl (fun _ _ => .inl (by simp)) harr⟩
      | outgrown => exact ⟨_, a₁, w₁, hq, .pass (x := .inLoop c) rfl (fun _ _ => .inl (by simp)) harr⟩
  obtain ⟨e, a', w', hq, harr⟩ := key _ x a w rfl h
  exact ⟨e, a', w', hq, .of_steps (.one step_loop) harr⟩
end

/-! ### Calls -/
/-- Called with these arguments the function returns, and keeps to what it was given. -/
def Ok (P : Program) (f : FuncId) (args : Array Value) (E : World) (H : GH) (L : List It) (R : Value → GH → List It → Prop) : Prop :=
  ∀ w, St E H L w → Calls P f args w fun e w' => ∃ r H' L', e = .returned r ∧ LE H H' ∧ St E H' L' w' ∧ R r H' L'
theorem Ok.mono {P : Program} {f : FuncId} {args : Array Value} {E : World} {H : GH} {L : List It} {R R' : Value → GH → List It → Prop} (h : Ok P f args E H L R)
    (hr : ∀ r H' L', LE H H' → R r H' L' → R' r H' L') : Ok P f args E H L R' := fun w hw =>
  (h w hw).mono fun e w' ⟨r, H', L', h1, h2, h3, h4⟩ => ⟨r, H', L', h1, h2, h3, hr r H' L' h2 h4⟩
section
variable {P : Program} {ops : Array Oper} {Q : Exit → Act → World → Prop} {γ : Gd P ops Q} {rest : List Oper} {o : Oper} {E w : World} {H : GH} {N : Nat} {D : List Deferred} {F : List (Nat × Value)} {L : List It} {a : Act}
variable {t u : TypeId} {x y : Operand} {d : Nat} {v : Value} {g off : Nat} {cs : Array Value} {ty : TypeId}
theorem run_callFunc {f : FuncId} (hb : bodT P f = true) (args : Array Value) (w : World) : (callFunc f args).run P w = .ok (.enter f args) w := by
  unfold bodT at hb
  split at hb
  · rename_i fn hf
    simp only [Bool.and_eq_true, bne_iff_ne, ne_eq] at hb
    obtain ⟨c, hc⟩ : ∃ c, fn.body = some c := by cases hx : fn.body <;> simp_all
    simp [callFunc, program, Sem.run, hf, hb.1, hc]
  · cases hb
theorem cl {f : FuncId} {args first caps : Array Value} {as : List Operand} {vs : List Value} {ts : Array TypeId} {R : Value → GH → List It → Prop}
    (hb : bodT P f = true) (hc : Ok P f args E H L R) (h : S E H N D F L a w)
    (k : ∀ r H' L' a w, LE H H' → R r H' L' → S E H' N D ((d, r) :: F) L' a w → γ.G rest a w)
    (ho : o.op = .call { callee := .value x, args := as.toArray, argTypes := ts } := by rfl) (hx : ev F x = some (.func (.func f) first caps) := by rfl) (has : evs F as = some vs := by rfl)
    (hA : first ++ vs.toArray ++ caps = args := by rfl)
    (hw : wn ops F o = some true := by rfl) (hd : o.dst = some d := by rfl) (hN : Nat.blt d N = true := by rfl) (hE : γ.isE rest.length = true := by rfl) (hS : γ.isN rest.length = true → ∀ r H' L' w, LE H H' → R r H' L' → St E H' L' w → γ.S w := by first | exact fun e => Bool.noConfusion (show false = true from e) | (rintro _ _ _ _ _ le ⟨rfl, rfl, rfl⟩ hw; exact hw.sees' le (by simp)) | (rintro _ _ _ _ _ le ⟨rfl, rfl⟩ hw; exact hw.sees' le (by simp)) | (rintro _ _ _ _ _ le ⟨_, rfl, rfl⟩ hw; exact hw.sees' (by first | exact le | exact LE.trans (by assumption) le) (by simp)) | (rintro _ _ _ _ _ le ⟨_, _, _, _, rfl, _⟩ hw; exact hw.sees' (by first | exact le | exact LE.trans (by assumption) le) (by simp))) : γ.G (o :: rest) a w := by
  subst hA
  refine γ.eff hE (wanted_of h.ag hw) ?_
  have hrun : (execOp a.eval o).run P w = .ok (.enter f (first ++ vs.toArray ++ caps)) w := by
    have h1 := h.ag.ev hx
    have h2 := h.ag.evs has
    simp [execOp, ho, resolve, h1, h2, Deferred.ofValue, invoke, run_callFunc hb]
  unfold Oper.wp
  rw [hrun, Oper.upon_enter]
  refine (hc w h.st).mono fun e w' ⟨r, H', L', h1, h2, h3, h4⟩ => ?_
  subst h1
  simp only [hd]
  exact ⟨fun e => hS e _ _ _ _ h2 h4 h3, k r H' L' _ _ h2 h4 ⟨h.ag.put (by simpa [Nat.blt_eq] using hN) r, h3⟩⟩
/-- A call for its effects alone. -/
theorem cl0 {f : FuncId} {args first caps : Array Value} {as : List Operand} {vs : List Value} {ts : Array TypeId} {R : Value → GH → List It → Prop}
    (hb : bodT P f = true) (hc : Ok P f args E H L R) (h : S E H N D F L a w)
    (k : ∀ r H' L' a w, LE H H' → R r H' L' → S E H' N D F L' a w → γ.G rest a w)
    (ho : o.op = .call { callee := .value x, args := as.toArray, argTypes := ts } := by rfl) (hx : ev F x = some (.func (.func f) first caps) := by rfl) (has : evs F as = some vs := by rfl)
    (hA : first ++ vs.toArray ++ caps = args := by rfl)
    (hw : wn ops F o = some true := by rfl) (hd : o.dst = none := by rfl) (hE : γ.isE rest.length = true := by rfl) (hS : γ.isN rest.length = true → ∀ r H' L' w, LE H H' → R r H' L' → St E H' L' w → γ.S w := by first | exact fun e => Bool.noConfusion (show false = true from e) | (rintro _ _ _ _ _ le ⟨rfl, rfl, rfl⟩ hw; exact hw.sees' le (by simp)) | (rintro _ _ _ _ _ le ⟨rfl, rfl⟩ hw; exact hw.sees' le (by simp)) | (rintro _ _ _ _ _ le ⟨_, rfl, rfl⟩ hw; exact hw.sees' (by first | exact le | exact LE.trans (by assumption) le) (by simp)) | (rintro _ _ _ _ _ le ⟨_, _, _, _, rfl, _⟩ hw; exact hw.sees' (by first | exact le | exact LE.trans (by assumption) le) (by simp))) : γ.G (o :: rest) a w := by
  subst hA
  refine γ.eff hE (wanted_of h.ag hw) ?_
  have hrun : (execOp a.eval o).run P w = .ok (.enter f (first ++ vs.toArray ++ caps)) w := by
    have h1 := h.ag.ev hx
    have h2 := h.ag.evs has
    simp [execOp, ho, resolve, h1, h2, Deferred.ofValue, invoke, run_callFunc hb]
  unfold Oper.wp
  rw [hrun, Oper.upon_enter]
  refine (hc w h.st).mono fun e w' ⟨r, H', L', h1, h2, h3, h4⟩ => ?_
  subst h1
  simp only [hd]
  exact ⟨fun e => hS e _ _ _ _ h2 h4 h3, k r H' L' _ _ h2 h4 ⟨h.ag, h3⟩⟩
/-- A function's own walk. -/
def Fin (P : Program) (fn : Func) (E : World) (H : GH) (R : Value → GH → List It → Prop) : Exit → Act → World → Prop :=
  bodyPost P fn fun e w' => ∃ r H' L', e = .returned r ∧ LE H H' ∧ St E H' L' w' ∧ R r H' L'
theorem enter {f : FuncId} {fn : Func} {c : Code} {args : List Value} {R : Value → GH → List It → Prop} (F : List (Nat × Value)) (hf : P.funcs[f]? = some fn) (hb : fn.body = some c) (hn : fn.ntmps = N)
    (hF : F.map (fun p => args.toArray[p.1]?) = F.map (fun p => some p.2)) (hs : Nat.ble args.length N = true) (h : ∀ a w, S E H N [] F L a w → c.wp P (Fin P fn E H R) a w) : Ok P f args.toArray E H L R := fun w hw =>
  calls_of_wp hf hb (h _ _ ⟨by rw [hn]; exact ag_enter N args.toArray (by simpa using hs) F hF, hw⟩)
theorem S.to {E w : World} {H : GH} {N : Nat} {D : List Deferred} {F : List (Nat × Value)} {L L' : List It} {a : Act} (h : S E H N D F L a w) (n : Nat) (F' : List (Nat × Value))
    (hs : F'.map (fun p => F.lookup p.1) = F'.map (fun p => some p.2) := by rfl) (hL : L.drop n = L' := by rfl) : S E H N D F' L' a w := by
  subst hL; exact ⟨h.ag.sub hs, h.st.drop n⟩
theorem fin1 {fn : Func} {R : Value → GH → List It → Prop} {H0 : GH} {L' : List It} (i n : Nat) (h : S E H N [] F L a w) (hle : LE H0 H) (hR : R v H L') (hr : fn.results = #[.tmp i] := by rfl) (hv : F.lookup i = some v := by rfl) (hL : L.drop n = L' := by rfl) : Fin P fn E H0 R .ret a w := by
  subst hL
  exact ⟨h.ag.defers, v, by rw [results_tmp hr, h.ag.get i v hv], v, H, _, rfl, hle, h.st.drop n, hR⟩
theorem finN {fn : Func} {R : Value → GH → List It → Prop} {H0 : GH} {L' : List It} (i n : Nat) (h : S E H N [] F L a w) (hle : LE H0 H) (hR : R v H L') (hr : fn.results = #[.tmp i] := by rfl) (hv : F.lookup i = some v := by rfl) (hL : L.drop n = L' := by rfl) : Fin P fn E H0 R .normal a w := by
  subst hL
  exact ⟨h.ag.defers, v, by rw [results_tmp hr, h.ag.get i v hv], v, H, _, rfl, hle, h.st.drop n, hR⟩
theorem fin0 {fn : Func} {R : Value → GH → List It → Prop} {H0 : GH} {L' : List It} (n : Nat) (h : S E H N [] F L a w) (hle : LE H0 H) (hR : R (.tuple #[]) H L') (hr : fn.results = #[] := by rfl) (hL : L.drop n = L' := by rfl) : Fin P fn E H0 R .ret a w := by
  subst hL
  exact ⟨h.ag.defers, _, results_none hr _ _ _, _, H, _, rfl, hle, h.st.drop n, hR⟩
theorem finN0 {fn : Func} {R : Value → GH → List It → Prop} {H0 : GH} {L' : List It} (n : Nat) (h : S E H N [] F L a w) (hle : LE H0 H) (hR : R (.tuple #[]) H L') (hr : fn.results = #[] := by rfl) (hL : L.drop n = L' := by rfl) : Fin P fn E H0 R .normal a w := by
  subst hL
  exact ⟨h.ag.defers, _, results_none hr _ _ _, _, H, _, rfl, hle, h.st.drop n, hR⟩
/-- Results of any number and kind. -/
inductive Vals (P : Program) (F : List (Nat × Value)) (L : List It) : List ResultVar → List Value → Prop where
  | nil : Vals P F L [] []
  | tmp {i : Nat} {v : Value} {rs : List ResultVar} {vs : List Value} (h : F.lookup i = some v) (k : Vals P F L rs vs) : Vals P F L (.tmp i :: rs) (v :: vs)
  | one {i t g k0 : Nat} {ty : TypeId} {cs : Array Value} {z : Nat × Nat} {v : Value} {rs : List ResultVar} {vs : List Value} (ht : ty1 P t = true) (h : F.lookup i = some (.pointer (some ⟨g, 0, none⟩)))
      (hk : L[k0]? = some (.obj g (.cells cs ty z))) (hv : cs.toList[0]? = some v) (k : Vals P F L rs vs) : Vals P F L (.cell i t :: rs) (v :: vs)
  | agg {i t g k0 n : Nat} {ty : TypeId} {cs : Array Value} {z : Nat × Nat} {rs : List ResultVar} {vs : List Value} (ht : tyN P t n = true) (h : F.lookup i = some (.pointer (some ⟨g, 0, none⟩)))
      (hk : L[k0]? = some (.obj g (.cells cs ty z))) (hn : cs.size = n) (k : Vals P F L rs vs) : Vals P F L (.cell i t :: rs) (.agg cs :: vs)
theorem run_asAddr (p : Addr) (w : World) : (asAddr (.pointer (some p))).run P w = .ok p w := by simp [asAddr]
theorem Vals.run {rs : List ResultVar} {vs : List Value} (hv : Vals P F L rs vs) (h : S E H N D F L a w) :
    (rs.mapM (m := Sem) fun (r : ResultVar) => match r with | .tmp t => pure (a.tmps.getD t undef) | .cell b t => do loadVar t (← asAddr (a.tmps.getD b undef)) : Sem (List Value)).run P w = .ok vs w := by
  induction hv with
  | nil => simp
  | tmp hl _ ih => simp only [List.mapM_cons, Sem.run_bind, h.ag.get _ _ hl, Sem.run_pure, Result.andThen_ok, ih]
  | one ht hl hk hv _ ih =>
    have hc := run_load1 (P := P) (w := w) ht ⟨_, 0, none⟩ _ ((cell_own (item_at h.st.sees hk) 0).trans ((Array.getElem?_toList ..).symm.trans hv))
    simp only [List.mapM_cons, Sem.run_bind, h.ag.get _ _ hl, Sem.run_pure, Result.andThen_ok, run_asAddr, hc, ih]
  | agg ht hl hk hn _ ih =>
    rename_i cs _ _ _ _
    have hc := run_loadN (P := P) (w := w) ht _ 0 cs.toList (by simpa using hn) (fun j v hv => by rw [Nat.zero_add, cell_own (item_at h.st.sees hk) j]; simpa using hv)
    simp at hc
    simp only [List.mapM_cons, Sem.run_bind, h.ag.get _ _ hl, Sem.run_pure, Result.andThen_ok, run_asAddr, hc, ih]
theorem run_results {fn : Func} {rs : List ResultVar} {vs : List Value} (hr : fn.results = rs.toArray) (hv : Vals P F L rs vs) (h : S E H N D F L a w) :
    (results fn a.tmps).run P w = .ok (if hs : vs.length = 1 then vs[0] else .tuple vs.toArray) w := by
  have := hv.run h
  unfold results
  rw [hr, List.mapM_toArray]
  simp only [Array.getD_eq_getD_getElem?] at this
  simp
  erw [this]
  simp
theorem fin {fn : Func} {R : Value → GH → List It → Prop} {H0 : GH} {rs : List ResultVar} {vs : List Value} (h : S E H N [] F L a w) (hr : fn.results = rs.toArray) (hv : Vals P F L rs vs)
    (hvv : (if hs : vs.length = 1 then vs[0] else .tuple vs.toArray) = v) (hle : LE H0 H) {H' : GH} {L' : List It} (hst : LE H H' ∧ St E H' L' w) (hR : R v H' L') : Fin P fn E H0 R .ret a w :=
  ⟨h.ag.defers, v, by rw [run_results hr hv h, hvv], v, H', L', rfl, hle.trans hst.1, hst.2, hR⟩

/-! ### What is frozen -/
def Hc (H : GH) (g i : Nat) (v : Value) : Prop := ∃ c e z, H g = some (.cells c e z) ∧ c[i]? = some v
theorem Hc.mono {H' : GH} {i : Nat} (h : Hc H g i v) (hl : LE H H') : Hc H' g i v := let ⟨c, e, z, h1, h2⟩ := h; ⟨c, e, z, hl _ _ h1, h2⟩
theorem Hc.cell {i : Nat} (h : Hc H g i v) (hs : Sees H L w) : w.cell? ⟨g, i, none⟩ = some v := by
  obtain ⟨c, e, z, h1, h2⟩ := h
  rw [cell_own (hs.fro _ _ h1), h2]
/-- A slice that is frozen: its elements' cells, as R says. -/
def RS {α : Type} (R : GH → List Value → α → Prop) (sz : Nat) (H : GH) (v : Value) (xs : List α) : Prop :=
  ∃ A c, v = .slice A xs.length c ∧ xs.length ≤ c ∧ ∀ j x, xs[j]? = some x → ∃ g off cs, A = some ⟨g, off, none⟩ ∧ cs.length = sz ∧ R H cs x ∧ ∀ i u, cs[i]? = some u → Hc H g (off + j * sz + i) u
theorem RS.mono {α : Type} {R : GH → List Value → α → Prop} {sz : Nat} {H' : GH} {xs : List α} (h : RS R sz H v xs) (hl : LE H H') (hR : ∀ cs x, x ∈ xs → R H cs x → R H' cs x) : RS R sz H' v xs := by
  obtain ⟨A, c, h1, h2, h3⟩ := h
  refine ⟨A, c, h1, h2, fun j x hx => ?_⟩
  obtain ⟨g, off, cs, h4, h5, h6, h7⟩ := h3 j x hx
  exact ⟨g, off, cs, h4, h5, hR cs x (List.mem_of_getElem? hx) h6, fun i u hu => (h7 i u hu).mono hl⟩
theorem RS.nil {α : Type} (R : GH → List Value → α → Prop) (sz : Nat) (H : GH) : RS R sz H (.slice none 0 0) ([] : List α) := ⟨none, 0, rfl, Nat.le_refl _, fun j x hx => by simp at hx⟩
theorem RS.at_ {α : Type} {R : GH → List Value → α → Prop} {sz : Nat} {A : Option Addr} {n c : Nat} {xs : List α} (h : RS R sz H (.slice A n c) xs) {j : Nat} {x : α} (hx : xs[j]? = some x) :
    ∃ g off cs, A = some ⟨g, off, none⟩ ∧ cs.length = sz ∧ R H cs x ∧ ∀ i u, cs[i]? = some u → Hc H g (off + j * sz + i) u := by
  obtain ⟨A', c', h1, h2, h3⟩ := h
  cases h1
  exact h3 j x hx
theorem ldHX {L1 : List It} {H1 : GH} (ht : ty1 P t = true) (hc : Hc H1 g off v) (h : S E H N D F L a w) (hR : γ.isR rest.length = true) (hSw : γ.S w) (hW : ∀ w', γ.W w w' → Sees H1 L1 w') (k : ∀ a w, S E H N D ((d, v) :: F) L a w → γ.G rest a w)
    (ho : o.op = .load t x ) (hx : ev F x = some (.pointer (some ⟨g, off, none⟩)) )
    (hw : wn ops F o = some true ) (hd : o.dst = some d ) (hN : Nat.blt d N = true ) : γ.G (o :: rest) a w :=
  rdv h hR hSw (fun w' hw' => by simp [execOp, ho, h.ag.ev hx, run_loadAt1 (P := P) ht (hc.cell (hW w' hw'))]) k hw hd hN
theorem ldH (ht : ty1 P t = true) (hc : Hc H g off v) (h : S E H N D F L a w) (k : ∀ a w, S E H N D ((d, v) :: F) L a w → (gl P ops Q).G rest a w)
    (ho : o.op = .load t x := by rfl) (hx : ev F x = some (.pointer (some ⟨g, off, none⟩)) := by rfl)
    (hw : wn ops F o = some true := by rfl) (hd : o.dst = some d := by rfl) (hN : Nat.blt d N = true := by rfl) : (gl P ops Q).G (o :: rest) a w :=
  ldHX ht hc h rfl trivial (fun w' e => e ▸ h.st.sees) k ho hx hw hd hN
theorem ldHD {H1 : GH} {L1 : List It} {eff rd : List Nat} {nS : Nat} (ht : ty1 P t = true) (hc : Hc H1 g off v) (h : S E H N D F L a w) (k : ∀ a w, S E H N D ((d, v) :: F) L a w → (gd P ops Q (Sees H1 L1) eff rd nS).G rest a w)
    (ho : o.op = .load t x := by rfl) (hx : ev F x = some (.pointer (some ⟨g, off, none⟩)) := by rfl)
    (hw : wn ops F o = some true := by rfl) (hd : o.dst = some d := by rfl) (hN : Nat.blt d N = true := by rfl) (hR : (gd P ops Q (Sees H1 L1) eff rd nS).isR rest.length = true := by rfl) (hSub : ∀ i ∈ L1, i ∈ L := by simp) (hLe : LE H1 H := by first | exact LE.rfl | assumption) : (gd P ops Q (Sees H1 L1) eff rd nS).G (o :: rest) a w :=
  ldHX ht hc h hR (h.st.sees' hLe hSub) (fun w' e => e) k ho hx hw hd hN
theorem ldHNX {L1 : List It} {H1 : GH} {n : Nat} {l : List Value} (ht : tyN P t n = true) (hl : l.length = n) (hc : ∀ i u, l[i]? = some u → Hc H1 g (off + i) u) (h : S E H N D F L a w) (hR : γ.isR rest.length = true) (hSw : γ.S w) (hW : ∀ w', γ.W w w' → Sees H1 L1 w') (k : ∀ a w, S E H N D ((d, .agg l.toArray) :: F) L a w → γ.G rest a w)
    (ho : o.op = .load t x ) (hx : ev F x = some (.pointer (some ⟨g, off, none⟩)) )
    (hw : wn ops F o = some true ) (hd : o.dst = some d ) (hN : Nat.blt d N = true ) : γ.G (o :: rest) a w :=
  rdv h hR hSw (fun w' hw' => by simp [execOp, ho, h.ag.ev hx, run_loadAtN (P := P) ht hl (fun j u hu => (hc j u hu).cell (hW w' hw'))]) k hw hd hN
theorem ldHN {n : Nat} {l : List Value} (ht : tyN P t n = true) (hl : l.length = n) (hc : ∀ i u, l[i]? = some u → Hc H g (off + i) u) (h : S E H N D F L a w) (k : ∀ a w, S E H N D ((d, .agg l.toArray) :: F) L a w → (gl P ops Q).G rest a w)
    (ho : o.op = .load t x := by rfl) (hx : ev F x = some (.pointer (some ⟨g, off, none⟩)) := by rfl)
    (hw : wn ops F o = some true := by rfl) (hd : o.dst = some d := by rfl) (hN : Nat.blt d N = true := by rfl) : (gl P ops Q).G (o :: rest) a w :=
  ldHNX ht hl hc h rfl trivial (fun w' e => e ▸ h.st.sees) k ho hx hw hd hN
theorem ldHND {H1 : GH} {L1 : List It} {eff rd : List Nat} {nS : Nat} {n : Nat} {l : List Value} (ht : tyN P t n = true) (hl : l.length = n) (hc : ∀ i u, l[i]? = some u → Hc H1 g (off + i) u) (h : S E H N D F L a w) (k : ∀ a w, S E H N D ((d, .agg l.toArray) :: F) L a w → (gd P ops Q (Sees H1 L1) eff rd nS).G rest a w)
    (ho : o.op = .load t x := by rfl) (hx : ev F x = some (.pointer (some ⟨g, off, none⟩)) := by rfl)
    (hw : wn ops F o = some true := by rfl) (hd : o.dst = some d := by rfl) (hN : Nat.blt d N = true := by rfl) (hR : (gd P ops Q (Sees H1 L1) eff rd nS).isR rest.length = true := by rfl) (hSub : ∀ i ∈ L1, i ∈ L := by simp) (hLe : LE H1 H := by first | exact LE.rfl | assumption) : (gd P ops Q (Sees H1 L1) eff rd nS).G (o :: rest) a w :=
  ldHNX ht hl hc h hR (h.st.sees' hLe hSub) (fun w' e => e) k ho hx hw hd hN
/-- The address of an element. -/
theorem ia {e sz n c j : Nat} {i : Int} {kd : IntKind} (hs : sliT P t = some e) (hz : szT P e sz = true) (hi : i = j) (hj : j < n) (h : S E H N D F L a w)
    (k : ∀ a w, S E H N D ((d, .pointer (some ⟨g, off + j * sz, none⟩)) :: F) L a w → γ.G rest a w)
    (ho : o.op = .indexAddr t x y := by rfl) (hx : ev F x = some (.slice (some ⟨g, off, none⟩) n c) := by rfl) (hy : ev F y = some (.int kd i) := by rfl)
    (hw : wn ops F o = some true := by rfl) (hd : o.dst = some d := by rfl) (hN : Nat.blt d N = true := by rfl) : γ.G (o :: rest) a w := by
  subst hi
  refine pv h (fun w => ?_) k hw hd hN
  have hu : P.underlying t = some (.slice e) := by
    unfold sliT at hs; split at hs
    · rename_i e' he; cases hs; exact he
    · cases hs
  obtain ⟨i, hi, hsz⟩ : ∃ i, P.info? e = some i ∧ i.size = sz := by
    unfold szT at hz; split at hz
    · rename_i i hi; exact ⟨i, hi, by simpa using hz⟩
    · cases hz
  simp [execOp, ho, h.ag.ev hx, h.ag.ev hy, Instr.indexAt, asIntOf, run_underlying hu, sizeOf, typeInfo, hi, hsz, hj, Addr.add_mid]
/-- len of a slice. -/
theorem ln {e n c : Nat} {A : Option Addr} (hs : sliT P t = some e) (h : S E H N D F L a w) (k : ∀ a w, S E H N D ((d, .int .i64 (n : Int)) :: F) L a w → γ.G rest a w)
    (ho : o.op = .call { callee := .builtin .len, args := #[x], argTypes := #[t] } := by rfl) (hx : ev F x = some (.slice A n c) := by rfl)
    (hw : wn ops F o = some true := by rfl) (hd : o.dst = some d := by rfl) (hN : Nat.blt d N = true := by rfl) : γ.G (o :: rest) a w := by
  have hu : P.underlying t = some (.slice e) := by
    unfold sliT at hs; split at hs
    · rename_i e' he; cases hs; exact he
    · cases hs
  exact pv h (fun w => by simp [execOp, ho, resolve, invoke, builtin, Builtin.len_, h.ag.ev hx, run_underlying hu, goInt]) k hw hd hN
end
end Go.Proofs.YtindlieilabgfaaGreatDoor.X
