/- A region that draws its order, walked in any order in which what has an effect may come up. -/
import Derived.Test.YtindlieilabgfaaGreatDoorX9
set_option linter.unusedVariables false
set_option linter.unusedSectionVars false
set_option linter.unusedSimpArgs false
set_option linter.unusedSimpArgs false
set_option autoImplicit false
set_option relaxedAutoImplicit false
namespace Go.Proofs.YtindlieilabgfaaGreatDoor.X
open Go

section
variable {P : Program} {ops : Array Oper} {Q : Exit → Act → World → Prop} {S0 : World → Prop} {rd : List Nat} {n : Nat} {listed : Array Bool}
/-- One operation that has no effect, taken first. -/
def gtw (P : Program) (ops : Array Oper) (S0 : World → Prop) (b : Bool) (K : Act → World → Prop) : List Oper → Act → World → Prop
  | [], a, w => K a w
  | o :: rest, a, w => ∃ v, (YieldsIf P ops (fun _ => True) o v a ∨ (b = true ∧ S0 w ∧ YieldsIf P ops S0 o v a)) ∧ gtw P ops S0 b K rest (a.put o.dst v) w
def gtk (P : Program) (ops : Array Oper) (Q : Exit → Act → World → Prop) (S0 : World → Prop) (b : Bool) (K : Act → World → Prop) : Gd P ops (Exit.then K Q) where
  G := gtw P ops S0 b K
  S := S0
  isE := fun _ => false
  isN := fun _ => false
  isR := fun _ => b
  W := fun _ w' => S0 w'
  nil h := h
  skip hw h := ⟨undef, .inl (.inr ⟨hw, rfl⟩), h⟩
  pure_ hw hr h := ⟨_, .inl (.inl ⟨hw, fun w _ => hr w⟩), h⟩
  quiet hR hS hw hr h := ⟨_, .inr ⟨hR, hS, .inl ⟨hw, hr⟩⟩, h⟩
  eff h := by cases h
/-- One operation that may have one. -/
def gbw (P : Program) (ops : Array Oper) (Q : Exit → Act → World → Prop) (S0 : World → Prop) (nd : Bool) (K : Act → World → Prop) : List Oper → Act → World → Prop
  | [], a, w => K a w
  | o :: rest, a, w => if Region.wanted o (yielded ops a.tmps) = true then o.wp P a w (fun a' w' => (nd = true → S0 w') ∧ gbw P ops Q S0 nd K rest a' w') Q else gbw P ops Q S0 nd K rest (a.put o.dst undef) w
def gb (P : Program) (ops : Array Oper) (Q : Exit → Act → World → Prop) (S0 : World → Prop) (nd : Bool) (K : Act → World → Prop) : Gd P ops (Exit.then K Q) where
  G := fun l a w => (nd = true → S0 w) → gbw P ops Q S0 nd K l a w
  S := S0
  isE := fun _ => true
  isN := fun _ => nd
  isR := fun _ => true
  W := fun w w' => w' = w
  nil h _ := h
  skip hw h hS := by
    unfold gbw; rw [if_neg (by rw [hw]; simp)]; exact h hS
  pure_ hw hr h hS := by
    unfold gbw; rw [if_pos hw]; unfold Oper.wp; rw [hr _, Oper.upon_value]; exact ⟨hS, h hS⟩
  quiet _ _ hw hr h hS := by
    unfold gbw; rw [if_pos hw]; unfold Oper.wp; rw [hr _ rfl, Oper.upon_value]; exact ⟨hS, h hS⟩
  eff _ hw h hS := by
    unfold gbw; rw [if_pos hw]
    unfold Oper.wp at h ⊢
    generalize (execOp _ _).run P _ = r at *
    cases r with
    | ok n w' =>
      cases n <;> simp only [Oper.upon] at h ⊢
      case value u => exact ⟨h.1, h.2 h.1⟩
      case skip => exact ⟨h.1, h.2 h.1⟩
      case defer d => exact ⟨h.1, h.2 h.1⟩
      case enter f args =>
        refine Calls.mono h fun e w'' he => ?_
        cases e with
        | returned u => exact ⟨he.1, he.2 he.1⟩
        | panicked c => exact he
        | outgrown => exact he
      case row row args => exact Rows.mono h fun u w'' he => ⟨he.1, he.2 he.1⟩
    | halt x w' => cases x <;> simp only [Oper.upon] at h ⊢ <;> exact h
def tkOk (ops : Array Oper) (listed : Array Bool) (i : Nat) : Bool :=
  Region.noSelect ops && ((List.range ops.size).all (fun j => match ops[j]?, ops[i]? with
    | some oj, some oi => j == i || listed.getD j true || (oj.after.any fun e => Region.binds .any e && e.on == i) || oi.apart ops oj
    | _, _ => false) && (Region.ready .any ops listed).contains i)
theorem tk (i : Nat) {o : Oper} (b : Bool) (hb : rd.contains i = b) (hi : ops[i]? = some o) (hok : tkOk ops listed i = true) {a : Act} {w : World}
    (hQ : ∀ c a a' w, a.defers = a'.defers → Q (.panic c) a w → Q (.panic c) a' w)
    (h : (gtk P ops Q S0 b (wpR P ops Q S0 rd n (listed.setIfInBounds i true))).G [o] a w) : wpR P ops Q S0 rd (n + 1) listed a w := by
  unfold tkOk at hok
  simp only [Bool.and_eq_true, List.all_eq_true, List.mem_range, List.contains_iff_mem] at hok
  obtain ⟨hns, hall, hr⟩ := hok
  obtain ⟨v, hy, hk⟩ := h
  have hf : ∀ j oj, ops[j]? = some oj → j ≠ i → listed.getD j true = false → (∀ e ∈ oj.after, Region.binds .any e = true → e.on ≠ i) → o.apart ops oj = true := by
    intro j oj hj hne hl hno
    have := hall j (Array.getElem?_eq_some_iff.1 hj).1
    rw [hj, hi] at this
    simp only [Bool.or_eq_true, beq_iff_eq, hne, hl, false_or, Bool.false_eq_true] at this
    rcases this with this | this
    · rw [Array.any_eq_true'] at this
      obtain ⟨e, he, h2⟩ := this
      simp only [Bool.and_eq_true, beq_iff_eq] at h2
      exact absurd h2.2 (hno e he h2.1)
    · exact this
  rcases hy with hy | ⟨h1, h2, hy⟩
  · exact wpR_take hi hns hQ (.inl fun _ => trivial) _ _ a w hf hr hy trivial hk
  · exact wpR_take hi hns hQ (.inr ⟨by rw [h1] at hb; simpa using hb, rfl⟩) _ _ a w hf hr hy h2 hk
theorem wpOp_gb {i : Nat} {o : Oper} {nd : Bool} {K : Act → World → Prop} {a : Act} {w : World} (hi : ops[i]? = some o) (hnd : needs ops rd i = nd) (h : (S0 w → (gb P ops Q S0 nd K).G [o] a w)) (hS : nd = true → S0 w) (hS' : nd = false → (gb P ops Q S0 nd K).G [o] a w) :
    wpOp P ops Q i (fun a' w' => (needs ops rd i = true → S0 w → S0 w') ∧ K a' w') a w := by
  have hg : gbw P ops Q S0 nd K [o] a w := by
    cases nd with
    | true => exact h (hS rfl) hS
    | false => exact hS' rfl hS
  unfold wpOp
  simp only [hi]
  unfold gbw at hg
  split
  · rename_i hw
    rw [if_pos hw] at hg
    exact .inl (Oper.wp_mono' hg fun a' w' h' => ⟨fun e _ => h'.1 (by rw [← hnd]; exact e), h'.2⟩)
  · rename_i hw
    rw [if_neg hw] at hg
    exact ⟨fun _ h => h, hg⟩
theorem wpOp_b {i : Nat} {o : Oper} {nd : Bool} {K : Act → World → Prop} {a : Act} {w : World} (hi : ops[i]? = some o) (hnd : needs ops rd i = nd) (h : (gb P ops Q S0 nd K).G [o] a w) (hS : nd = true → S0 w) :
    wpOp P ops Q i (fun a' w' => (needs ops rd i = true → S0 w → S0 w') ∧ K a' w') a w := wpOp_gb hi hnd (fun _ => h) hS (fun _ => h)
abbrev Nx (P : Program) (ops : Array Oper) (Q : Exit → Act → World → Prop) (S0 : World → Prop) (rd : List Nat) (n : Nat) (listed : Array Bool) (i : Nat) := wpR P ops Q S0 rd n (listed.setIfInBounds i true)
theorem br1 (i : Nat) {o : Oper} (nd : Bool) {a : Act} {w : World} (hr : Region.ready .any ops listed = [i]) (hi : ops[i]? = some o) (hnd : needs ops rd i = nd) (hS : nd = true → S0 w)
    (h : (gb P ops Q S0 nd (Nx P ops Q S0 rd n listed i)).G [o] a w) : wpR P ops Q S0 rd (n + 1) listed a w := by
  refine ⟨(fun e => by rw [e] at hr; cases hr), fun j hj => ?_⟩
  rw [hr] at hj
  simp at hj; subst hj
  exact wpOp_b hi hnd h hS
theorem br2 (i j : Nat) {o o' : Oper} (nd nd' : Bool) {a : Act} {w : World} (hr : Region.ready .any ops listed = [i, j]) (hi : ops[i]? = some o) (hj : ops[j]? = some o') (hnd : needs ops rd i = nd) (hnd' : needs ops rd j = nd') (hS : (nd || nd') = true → S0 w)
    (h : (gb P ops Q S0 nd (Nx P ops Q S0 rd n listed i)).G [o] a w) (h' : (gb P ops Q S0 nd' (Nx P ops Q S0 rd n listed j)).G [o'] a w) : wpR P ops Q S0 rd (n + 1) listed a w := by
  refine ⟨(fun e => by rw [e] at hr; cases hr), fun k hk => ?_⟩
  rw [hr] at hk
  simp at hk
  rcases hk with rfl | rfl
  · exact wpOp_b hi hnd h (fun e => hS (by rw [e]; rfl))
  · exact wpOp_b hj hnd' h' (fun e => hS (by rw [e]; simp))
theorem br3 (i j l : Nat) {o o' o2 : Oper} (nd nd' nd2 : Bool) {a : Act} {w : World} (hr : Region.ready .any ops listed = [i, j, l]) (hi : ops[i]? = some o) (hj : ops[j]? = some o') (hl : ops[l]? = some o2) (hnd : needs ops rd i = nd) (hnd' : needs ops rd j = nd') (hnd2 : needs ops rd l = nd2)
    (hS : (nd || (nd' || nd2)) = true → S0 w)
    (h : (gb P ops Q S0 nd (Nx P ops Q S0 rd n listed i)).G [o] a w) (h' : (gb P ops Q S0 nd' (Nx P ops Q S0 rd n listed j)).G [o'] a w) (h2 : (gb P ops Q S0 nd2 (Nx P ops Q S0 rd n listed l)).G [o2] a w) : wpR P ops Q S0 rd (n + 1) listed a w := by
  refine ⟨(fun e => by rw [e] at hr; cases hr), fun k hk => ?_⟩
  rw [hr] at hk
  simp at hk
  rcases hk with rfl | rfl | rfl
  · exact wpOp_b hi hnd h (fun e => hS (by rw [e]; rfl))
  · exact wpOp_b hj hnd' h' (fun e => hS (by rw [e]; simp))
  · exact wpOp_b hl hnd2 h2 (fun e => hS (by rw [e]; simp))
/-- The region's end. -/
theorem en {a : Act} {w : World} (hr : Region.ready .any ops listed = []) (h : Q .normal a w) : wpR P ops Q S0 rd 0 listed a w := ⟨hr, h⟩
theorem tk0 {K : Act → World → Prop} {b : Bool} {a : Act} {w : World} (h : K a w) : (gtk P ops Q S0 b K).G [] a w := h
theorem br0 {K : Act → World → Prop} {nd : Bool} {a : Act} {w : World} (h : K a w) : (gb P ops Q S0 nd K).G [] a w := fun _ => h
end
section
variable {P : Program} {Q : Exit → Act → World → Prop} {E w : World} {H : GH} {N : Nat} {D : List Deferred} {F : List (Nat × Value)} {L : List It} {a : Act}
theorem rgx {id : Nat} {l : List Oper} (ks : List Nat) (L1 : List It) (rd : List Nat) (n : Nat) (hm : P.follows .mixedOrders = true) (h : S E H N D F L a w)
    (k : ∀ a w, S E H N D F L a w → wpR P l.toArray Q (Sees H L1) rd n (Array.replicate n false) a w) (hn : l.length = n := by rfl) (hk : ks.map (fun k => L[k]?) = L1.map some := by rfl) : (Code.region id l.toArray true).wp P Q a w := by
  have h1 : S E H N D F L a { w with drawn := w.drawn + 1 } := ⟨h.ag, h.st.drew _⟩
  refine wp_region_any hm (wpR_any (S := Sees H L1) (rd := rd) _ _ _ _ ?_)
  have := k a _ h1
  subst hn
  simpa using this
end
section
variable {P : Program} {ops : Array Oper} {Q : Exit → Act → World → Prop} {rest : List Oper} {o : Oper} {E w : World} {H : GH} {N : Nat} {D : List Deferred} {F : List (Nat × Value)} {L : List It} {a : Act}
variable {t u : TypeId} {x y : Operand} {d : Nat} {v : Value} {g off : Nat} {cs : Array Value} {ty : TypeId}
variable {H1 : GH} {L1 : List It} {K : Act → World → Prop}
theorem ldT (k0 : Nat) {z : Nat × Nat} (ht : ty1 P t = true) (h : S E H N D F L a w) (k : ∀ a w, S E H N D ((d, v) :: F) L a w → (gtk P ops Q (Sees H1 L1) true K).G rest a w)
    (ho : o.op = .load t x := by rfl) (hx : ev F x = some (.pointer (some ⟨g, off, none⟩)) := by rfl) (hk : L1[k0]? = some (.obj g (.cells cs ty z)) := by rfl) (hv : cs.toList[off]? = some v := by rfl)
    (hw : wn ops F o = some true := by rfl) (hd : o.dst = some d := by rfl) (hN : Nat.blt d N = true := by rfl) (hSub : ∀ i ∈ L1, i ∈ L := by simp) (hLe : LE H1 H := by first | exact LE.rfl | assumption) : (gtk P ops Q (Sees H1 L1) true K).G (o :: rest) a w :=
  ldX k0 ht h rfl (h.st.sees' hLe hSub) (fun w' e => e) k ho hx hk hv hw hd hN
theorem ldWT (k0 : Nat) {z : Nat × Nat} {n : Nat} (ht : tyN P t n = true) (h : S E H N D F L a w) (k : ∀ a w, S E H N D ((d, .agg cs) :: F) L a w → (gtk P ops Q (Sees H1 L1) true K).G rest a w)
    (ho : o.op = .load t x := by rfl) (hx : ev F x = some (.pointer (some ⟨g, 0, none⟩)) := by rfl) (hk : L1[k0]? = some (.obj g (.cells cs ty z)) := by rfl) (hn : cs.size = n := by rfl)
    (hw : wn ops F o = some true := by rfl) (hd : o.dst = some d := by rfl) (hN : Nat.blt d N = true := by rfl) (hSub : ∀ i ∈ L1, i ∈ L := by simp) (hLe : LE H1 H := by first | exact LE.rfl | assumption) : (gtk P ops Q (Sees H1 L1) true K).G (o :: rest) a w :=
  ldWX k0 ht h rfl (h.st.sees' hLe hSub) (fun w' e => e) k ho hx hk hn hw hd hN
theorem ldNT (k0 : Nat) {z : Nat × Nat} {n : Nat} {l : List Value} (ht : tyN P t n = true) (h : S E H N D F L a w) (k : ∀ a w, S E H N D ((d, .agg l.toArray) :: F) L a w → (gtk P ops Q (Sees H1 L1) true K).G rest a w)
    (ho : o.op = .load t x := by rfl) (hx : ev F x = some (.pointer (some ⟨g, off, none⟩)) := by rfl) (hk : L1[k0]? = some (.obj g (.cells cs ty z)) := by rfl)
    (hl : (cs.toList.drop off).take n = l := by rfl) (hn : l.length = n := by rfl)
    (hw : wn ops F o = some true := by rfl) (hd : o.dst = some d := by rfl) (hN : Nat.blt d N = true := by rfl) (hSub : ∀ i ∈ L1, i ∈ L := by simp) (hLe : LE H1 H := by first | exact LE.rfl | assumption) : (gtk P ops Q (Sees H1 L1) true K).G (o :: rest) a w :=
  ldNX k0 ht h rfl (h.st.sees' hLe hSub) (fun w' e => e) k ho hx hk hl hn hw hd hN
theorem ldHT (ht : ty1 P t = true) (hc : Hc H1 g off v) (h : S E H N D F L a w) (k : ∀ a w, S E H N D ((d, v) :: F) L a w → (gtk P ops Q (Sees H1 L1) true K).G rest a w)
    (ho : o.op = .load t x := by rfl) (hx : ev F x = some (.pointer (some ⟨g, off, none⟩)) := by rfl)
    (hw : wn ops F o = some true := by rfl) (hd : o.dst = some d := by rfl) (hN : Nat.blt d N = true := by rfl) (hSub : ∀ i ∈ L1, i ∈ L := by simp) (hLe : LE H1 H := by first | exact LE.rfl | assumption) : (gtk P ops Q (Sees H1 L1) true K).G (o :: rest) a w :=
  ldHX ht hc h rfl (h.st.sees' hLe hSub) (fun w' e => e) k ho hx hw hd hN
theorem ldHNT {n : Nat} {l : List Value} (ht : tyN P t n = true) (hl : l.length = n) (hc : ∀ i u, l[i]? = some u → Hc H1 g (off + i) u) (h : S E H N D F L a w) (k : ∀ a w, S E H N D ((d, .agg l.toArray) :: F) L a w → (gtk P ops Q (Sees H1 L1) true K).G rest a w)
    (ho : o.op = .load t x := by rfl) (hx : ev F x = some (.pointer (some ⟨g, off, none⟩)) := by rfl)
    (hw : wn ops F o = some true := by rfl) (hd : o.dst = some d := by rfl) (hN : Nat.blt d N = true := by rfl) (hSub : ∀ i ∈ L1, i ∈ L := by simp) (hLe : LE H1 H := by first | exact LE.rfl | assumption) : (gtk P ops Q (Sees H1 L1) true K).G (o :: rest) a w :=
  ldHNX ht hl hc h rfl (h.st.sees' hLe hSub) (fun w' e => e) k ho hx hw hd hN
variable {κ : Type} [DecidableEq κ] {kt et : TypeId} {enc : κ → Value} {kind : TypeDesc} {f : κ → Option Value}
theorem lkT (k0 : Nat) {z : Value} {q : κ} (K' : KeyLaw P kt enc kind) (ht : mapT P t = some (kt, et)) (hz : zrT P et = some z) (h : S E H N D F L a w)
    (k : ∀ a w, S E H N D ((d, .tuple #[(f q).getD z, .bool (f q).isSome]) :: F) L a w → (gtk P ops Q (Sees H1 L1) true K).G rest a w)
    (ho : o.op = .lookup t x y true := by rfl) (hx : ev F x = some (.map (some g)) := by rfl) (hy : ev F y = some (enc q) := by rfl) (hk : L1[k0]? = some (.blk g (IsMap enc f)) := by rfl)
    (hw : wn ops F o = some true := by rfl) (hd : o.dst = some d := by rfl) (hN : Nat.blt d N = true := by rfl) (hSub : ∀ i ∈ L1, i ∈ L := by simp) (hLe : LE H1 H := by first | exact LE.rfl | assumption) : (gtk P ops Q (Sees H1 L1) true K).G (o :: rest) a w :=
  lkX k0 K' ht hz h rfl (h.st.sees' hLe hSub) (fun w' e => e) k ho hx hy hk hw hd hN
end
end Go.Proofs.YtindlieilabgfaaGreatDoor.X
