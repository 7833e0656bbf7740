/- Interfaces; what is frozen at any place. -/
import Derived.Test.YtindlieilabgfaaGreatDoorX10
set_option linter.unusedVariables false
set_option linter.unusedSectionVars false
set_option linter.unusedSimpArgs false
set_option linter.unusedSimpArgs false
set_option autoImplicit false
set_option relaxedAutoImplicit false
namespace Go.Proofs.YtindlieilabgfaaGreatDoor.X
open Go

section
variable {P : Program} {ops : Array Oper} {Q : Exit → Act → World → Prop} {γ : Gd P ops Q} {rest : List Oper} {o : Oper} {E w : World} {H : GH} {N : Nat} {D : List Deferred} {F : List (Nat × Value)} {L : List It} {a : Act}
variable {t u t' : TypeId} {x y : Operand} {d : Nat} {v : Value} {g off : Nat} {cs : Array Value} {ty : TypeId}
/-- Is a type no interface? -/
def cncT (P : Program) (t : TypeId) : Bool := match P.underlying t with
  | some (.interface _) => false
  | some _ => true
  | none => false
theorem und_cnc (h : cncT P t = true) : ∃ k, P.underlying t = some k ∧ ∀ m, k ≠ .interface m := by
  unfold cncT at h
  split at h
  · cases h
  · rename_i k h1 h2; exact ⟨_, h2, fun m e => h1 m e⟩
  · cases h
theorem mi (ht : cncT P t = true) (h : S E H N D F L a w) (k : ∀ a w, S E H N D ((d, .iface t v) :: F) L a w → γ.G rest a w)
    (ho : o.op = .makeInterface t x := by rfl) (hx : ev F x = some v := by rfl)
    (hw : wn ops F o = some true := by rfl) (hd : o.dst = some d := by rfl) (hN : Nat.blt d N = true := by rfl) : γ.G (o :: rest) a w := by
  obtain ⟨kd, hu, hne⟩ := und_cnc ht
  refine pv h (fun w => ?_) k hw hd hN
  have : (Instr.makeInterface t v).run P w = .ok (.iface t v) w := by
    unfold Instr.makeInterface
    rw [Sem.run_bind, run_underlying hu]
    cases kd <;> first | rfl | exact absurd rfl (hne _)
  simp [execOp, ho, h.ag.ev hx, this]
theorem taT (ht : cncT P t = true) (h : S E H N D F L a w) (k : ∀ a w, S E H N D ((d, .tuple #[v, .bool true]) :: F) L a w → γ.G rest a w)
    (ho : o.op = .typeAssert x u t true := by rfl) (hx : ev F x = some (.iface t v) := by rfl)
    (hw : wn ops F o = some true := by rfl) (hd : o.dst = some d := by rfl) (hN : Nat.blt d N = true := by rfl) : γ.G (o :: rest) a w := by
  obtain ⟨kd, hu, hne⟩ := und_cnc ht
  refine pv h (fun w => ?_) k hw hd hN
  have : (Instr.typeAssert (.iface t v) u t true).run P w = .ok (.tuple #[v, .bool true]) w := by
    unfold Instr.typeAssert
    simp only [Sem.run_bind, run_underlying hu, Result.andThen_ok]
    cases kd <;> first | exact absurd rfl (hne _) | simp
  simp [execOp, ho, h.ag.ev hx, this]
theorem taF {z : Value} (ht : cncT P t = true) (hz : zrT P t = some z) (h : S E H N D F L a w) (k : ∀ a w, S E H N D ((d, .tuple #[z, .bool false]) :: F) L a w → γ.G rest a w)
    (ho : o.op = .typeAssert x u t true := by rfl) (hx : ev F x = some (.iface t' v) := by rfl) (hne : Nat.beq t' t = false := by rfl)
    (hw : wn ops F o = some true := by rfl) (hd : o.dst = some d := by rfl) (hN : Nat.blt d N = true := by rfl) : γ.G (o :: rest) a w := by
  obtain ⟨kd, hu, hnk⟩ := und_cnc ht
  refine pv h (fun w => ?_) k hw hd hN
  have hn : t' ≠ t := fun e => by subst e; simp at hne
  have hzero : ∀ w, (zeroValue t).run P w = .ok z w := fun w => by
    unfold zrT at hz
    split at hz
    · rename_i i hi; simp [zeroValue, typeInfo, hi, hz]
    · cases hz
  have : (Instr.typeAssert (.iface t' v) u t true).run P w = .ok (.tuple #[z, .bool false]) w := by
    unfold Instr.typeAssert
    simp only [Sem.run_bind, run_underlying hu, Result.andThen_ok]
    cases kd <;> first | exact absurd rfl (hnk _) | simp [hn, hzero]
  simp [execOp, ho, h.ag.ev hx, this]
end
section
variable {E w : World} {H : GH} {N : Nat} {D : List Deferred} {F : List (Nat × Value)} {L : List It} {a : Act}
variable {α : Type} {R : GH → List Value → α → Prop} {sz : Nat} {xs zs : List Value} {ys us : List α}
theorem RowR.cons {cs : List Value} {y : α} (hl : cs.length = sz) (hr : R H cs y) (h : RowR R sz H xs ys) : RowR R sz H (cs ++ xs) (y :: ys) := (RowR.one hl hr).app h
theorem RowR.cons1 {v : Value} {y : α} (hr : R H [v] y) (h : RowR R 1 H xs ys) : RowR R 1 H (v :: xs) (y :: ys) := (RowR.one (sz := 1) rfl hr).app h
theorem S.pull (k0 : Nat) {i : It} {L' : List It} (h : S E H N D F L a w) (hk : L[k0]? = some i) (hL : L.eraseIdx k0 = L') : S E H N D F (i :: L') a w := by
  subst hL
  have hlt : k0 < L.length := (List.getElem?_eq_some_iff.1 hk).1
  have he : L[k0] = i := by rw [List.getElem?_eq_getElem hlt] at hk; exact Option.some.inj hk
  exact ⟨h.ag, h.st.perm (by rw [← he]; exact perm_erase hlt)⟩
/-- A row at any place that nobody writes any more. -/
theorem S.frw (k0 : Nat) {v : Value} {e n : Nat} {L' : List It} (h : S E H N D F L a w) (hr : RowR R sz H xs ys) (hn : n = ys.length) (hR : ∀ H', LE H H' → ∀ cs y, y ∈ ys → R H cs y → R H' cs y) (hk : L[k0]? = some (.row v e sz n xs) := by rfl) (hL : L.eraseIdx k0 = L' := by rfl) :
    ∃ H', LE H H' ∧ S E H' N D F L' a w ∧ RS R sz H' v ys := (h.pull k0 hk hL).frow hr hn hR
/-- An own block that is a slice, frozen. -/
theorem S.fsl (k0 : Nat) {g : Nat} {cells : Array Value} {e : TypeId} {z : Nat × Nat} {L' : List It} (h : S E H N D F L a w) (hr : RowR R sz H cells.toList ys) (hR : ∀ H', LE H H' → ∀ cs y, y ∈ ys → R H cs y → R H' cs y) (hk : L[k0]? = some (.obj g (.cells cells e z)) := by rfl) (hL : L.eraseIdx k0 = L' := by rfl) :
    ∃ H', LE H H' ∧ S E H' N D F L' a w ∧ RS R sz H' (.slice (some ⟨g, 0, none⟩) ys.length ys.length) ys := by
  obtain ⟨H', hle, h', hg⟩ := h.frz k0 hk hL
  refine ⟨H', hle, h', some ⟨g, 0, none⟩, ys.length, rfl, Nat.le_refl _, fun j y hy => ?_⟩
  obtain ⟨css, l1, e1, p1⟩ := hr
  have hj : j < css.length := by have := (List.getElem?_eq_some_iff.1 hy).1; omega
  obtain ⟨h1, h2⟩ := p1 j css[j] y (List.getElem?_eq_getElem hj) hy
  refine ⟨g, 0, css[j], rfl, h1, hR _ hle _ y (List.mem_of_getElem? hy) h2, fun i u hu => ⟨cells, e, z, hg, ?_⟩⟩
  have hi : i < sz := by have := (List.getElem?_eq_some_iff.1 hu).1; omega
  have hall : ∀ cs ∈ css, cs.length = sz := fun cs hcs => by
    obtain ⟨q, hq, rfl⟩ := List.getElem_of_mem hcs
    exact (p1 q css[q] (ys[q]'(by omega)) (List.getElem?_eq_getElem hq) (List.getElem?_eq_getElem (by omega))).1
  have hf := flatten_at hall (List.getElem?_eq_getElem hj) hi
  rw [hu, ← e1] at hf
  rw [Nat.zero_add, ← Array.getElem?_toList]; exact hf
end
section
variable {P : Program} {ops : Array Oper} {Q : Exit → Act → World → Prop} {γ : Gd P ops Q} {rest : List Oper} {o : Oper} {E w : World} {H : GH} {N : Nat} {D : List Deferred} {F : List (Nat × Value)} {L : List It} {a : Act}
variable {t u t' : TypeId} {x y : Operand} {d : Nat} {v : Value} {g off : Nat} {cs : Array Value} {ty : TypeId}
theorem S.del (k0 : Nat) {L' : List It} (h : S E H N D F L a w) (hL : L.eraseIdx k0 = L' := by rfl) : S E H N D F L' a w := by
  subst hL; exact ⟨h.ag, h.st.sub (List.eraseIdx_sublist ..)⟩
/-- A literal's block is a row from now on. -/
theorem S.asRow {sz n : Nat} {cells : Array Value} {e : TypeId} (h : S E H N D F (.obj g (.cells cells e (0, 0)) :: L) a w) (hn : Nat.ble n 1024 = true := by rfl) (hs : cells.size = n * sz := by rfl) :
    S E H N D F (.row (.slice (some ⟨g, 0, none⟩) n n) e sz n cells.toList :: L) a w := by
  have hg : w.heap[g]? = some (.cells cells e (0, 0)) := h.st.holds _ (List.mem_cons_self ..)
  have hle : n ≤ 1024 := by simpa [Nat.ble_eq] using hn
  refine ⟨h.ag, h.st.set (k := 0) (i := .obj g (.cells cells e (0, 0))) (j := .row (.slice (some ⟨g, 0, none⟩) n n) e sz n cells.toList) rfl ?_ (fun x hx => .inl (by simpa [It.own, Value.ownBlock] using hx)) rfl rfl rfl (fun _ _ _ => rfl)⟩
  refine ⟨by simp [hs], .inr ⟨g, n, cells, rfl, Nat.zero_le _, hg, Nat.le_refl _, by simp only [maxLen]; omega, hs, ?_⟩⟩
  rw [List.take_of_length_le]
  simp [hs]
/-- append: the row is item kr, the source a literal's block, item kb. -/
theorem apb (kr kb : Nat) {e sz by_ n m : Nat} {xs : List Value} {ty' : TypeId} {z : Nat × Nat} {L' : It → List It} (news : List Value) (ht : rowT P t e sz by_ = true) (h : S E H N D F L a w)
    (hb : (n + m) * by_ ≤ 140737488355328) (h63 : n + m ≤ 4611686018427387904)
    (k : ∀ v' a w, v'.oneCell' = true → S E H N D ((d, v') :: F) (L' (.row v' e sz (n + m) (xs ++ news))) a w → γ.G rest a w)
    (hL : ∀ i, L.set kr i = L' i := by intro _; rfl) (hkr : L[kr]? = some (.row v e sz n xs) := by rfl) (hkb : L[kb]? = some (.obj g (.cells news.toArray ty' z)) := by rfl)
    (hl : news.length = m * sz := by rfl) (h1 : news.all (·.oneCell') = true := by rfl)
    (ho : o.op = .call { callee := .builtin .append, args := #[x, y], argTypes := #[t, t] } := by rfl) (hx : ev F x = some v := by rfl) (hy : ev F y = some (.slice (some ⟨g, 0, none⟩) m m) := by rfl)
    (hw : wn ops F o = some true := by rfl) (hd : o.dst = some d := by rfl) (hN : Nat.blt d N = true := by rfl) (hE : γ.isE rest.length = true := by rfl) (hS : γ.isN rest.length = true → ∀ v' w, St E H (L' (.row v' e sz (n + m) (xs ++ news))) w → γ.S w := by first | exact fun e => Bool.noConfusion (show false = true from e) | exact fun _ _ _ hw => hw.sees' LE.rfl (by simp) | exact fun _ _ _ hw => hw.sees' (by assumption) (by simp)) : γ.G (o :: rest) a w :=
  ap (k0 := kr) ht h hkr hl (fun j u hj => by rw [Nat.zero_add, cell_own (item_at h.st.sees hkb) j]; simpa using hj) (fun u hu => List.all_eq_true.1 h1 u hu) hb h63
    (fun v' a w hv hS => k v' a w hv (by rw [← hL]; exact hS)) ho hx hy hw hd hN hE (fun e v' w hw => hS e v' w (by rw [← hL]; exact hw))
/-- append, the source a slice that is frozen. -/
theorem aps {α : Type} {R : GH → List Value → α → Prop} (kr : Nat) {e sz by_ n : Nat} {xs : List Value} {ys : List α} {vy : Value} {L' : It → List It} (ht : rowT P t e sz by_ = true) (hs : RS R sz H vy ys) (hone : ∀ cs y, y ∈ ys → R H cs y → ∀ u ∈ cs, u.oneCell' = true)
    (h : S E H N D F L a w) (hb : (n + ys.length) * by_ ≤ 140737488355328) (h63 : n + ys.length ≤ 4611686018427387904)
    (k : ∀ v' news a w, v'.oneCell' = true → RowR R sz H news ys → S E H N D ((d, v') :: F) (L' (.row v' e sz (n + ys.length) (xs ++ news))) a w → γ.G rest a w)
    (hL : ∀ i, L.set kr i = L' i := by intro _; rfl) (hkr : L[kr]? = some (.row v e sz n xs) := by rfl)
    (ho : o.op = .call { callee := .builtin .append, args := #[x, y], argTypes := #[t, t] } := by rfl) (hx : ev F x = some v := by rfl) (hy : ev F y = some vy := by rfl)
    (hw : wn ops F o = some true := by rfl) (hd : o.dst = some d := by rfl) (hN : Nat.blt d N = true := by rfl)
    (hE : γ.isE rest.length = true := by rfl) (hS : γ.isN rest.length = true → ∀ v' news w, St E H (L' (.row v' e sz (n + ys.length) (xs ++ news))) w → γ.S w := by first | exact fun e => Bool.noConfusion (show false = true from e) | exact fun _ _ _ _ hw => hw.sees' LE.rfl (by simp) | exact fun _ _ _ _ hw => hw.sees' (by assumption) (by simp)) : γ.G (o :: rest) a w := by
  obtain ⟨A', c', rfl, h2, h3⟩ := id hs
  exact apS hL ht hs hone h hkr hb h63 k ho hx hy hw hd hN hE hS
end
section
variable {P : Program} {Q : Exit → Act → World → Prop} {S0 : World → Prop} {rd : List Nat} {n : Nat} {listed : Array Bool} {l : List Oper}
theorem tkl (i : Nat) {o : Oper} (b : Bool) {a : Act} {w : World} (hok : tkOk l.toArray listed i = true) (h : (gtk P l.toArray Q S0 b (wpR P l.toArray Q S0 rd n (listed.setIfInBounds i true))).G [o] a w)
    (hb : rd.contains i = b := by rfl) (hi : l[i]? = some o := by rfl) (hQ : ∀ c a a' w, a.defers = a'.defers → Q (.panic c) a w → Q (.panic c) a' w := by exact fun _ _ _ _ e h => ⟨e ▸ h.1, h.2⟩) : wpR P l.toArray Q S0 rd (n + 1) listed a w :=
  tk i b hb (by simpa using hi) hok hQ h
theorem brl1 (i : Nat) {o : Oper} (nd : Bool) {a : Act} {w : World} (hr : Region.ready .any l.toArray listed = [i]) (hnd : needs l.toArray rd i = nd) (hS : nd = true → S0 w)
    (h : (gb P l.toArray Q S0 nd (Nx P l.toArray Q S0 rd n listed i)).G [o] a w) (hi : l[i]? = some o := by rfl) : wpR P l.toArray Q S0 rd (n + 1) listed a w := br1 i nd hr (by simpa using hi) hnd hS h
theorem brl2 (i j : Nat) {o o' : Oper} (nd nd' : Bool) {a : Act} {w : World} (hr : Region.ready .any l.toArray listed = [i, j]) (hnd : needs l.toArray rd i = nd) (hnd' : needs l.toArray rd j = nd') (hS : (nd || nd') = true → S0 w)
    (h : (gb P l.toArray Q S0 nd (Nx P l.toArray Q S0 rd n listed i)).G [o] a w) (h' : (gb P l.toArray Q S0 nd' (Nx P l.toArray Q S0 rd n listed j)).G [o'] a w) (hi : l[i]? = some o := by rfl) (hj : l[j]? = some o' := by rfl) : wpR P l.toArray Q S0 rd (n + 1) listed a w :=
  br2 i j nd nd' hr (by simpa using hi) (by simpa using hj) hnd hnd' hS h h'
end
end Go.Proofs.YtindlieilabgfaaGreatDoor.X
