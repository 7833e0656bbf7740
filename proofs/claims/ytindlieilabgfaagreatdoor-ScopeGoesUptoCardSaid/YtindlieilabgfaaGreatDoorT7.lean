/- What is lent to be read, and taken back; a program, resolved. -/
import Derived.Test.YtindlieilabgfaaGreatDoorT6
set_option linter.unusedVariables false
set_option linter.unusedSectionVars false
set_option linter.unusedSimpArgs false
set_option linter.unusedSimpArgs false
set_option autoImplicit false
set_option relaxedAutoImplicit false
namespace Go.Proofs.YtindlieilabgfaaGreatDoor
open Go X

section
variable {E w : World} {H : GH} {N : Nat} {D : List Deferred} {F : List (Nat × Value)} {L : List It} {a : Act}
theorem X.St.thaw {H3 : GH} {g : Nat} {o : Obj} {w' : World} {L' : List It} (h : St E H3 L' w') (hg : H3 g = some o) (h0 : H g = none) (hl : LE H H3) : St E H (.obj g o :: L') w' := by
  refine ⟨h.os, h.tape, h.output, fun b x e => h.fro b x (hl b x e), fun i hi => ?_, fun i hi x hx => ?_, List.pairwise_cons.2 ⟨fun i hi x hx hxi => ?_, h.apart⟩⟩
  · cases hi with
    | head => exact h.fro g o hg
    | tail _ hi => exact h.holds i hi
  · cases hi with
    | head => simp [It.own] at hx; subst hx; exact h0
    | tail _ hi =>
      cases hH : H x with
      | none => rfl
      | some y => exact absurd ((hl x y hH).symm.trans (h.off i hi x hx)) (by simp)
  · simp [It.own] at hx; subst hx
    have := h.off i hi x hxi
    rw [hg] at this; cases this
/-- What may be done with what is taken back. -/
def X.Back (E : World) (H H' : GH) (i : It) : Prop := ∀ (N : Nat) (D : List Deferred) (F : List (Nat × Value)) (L' : List It) (a : Act) (w : World) (H3 : GH), LE H' H3 → S E H3 N D F L' a w → S E H N D F (i :: L') a w
theorem X.Back.get {H' H3 : GH} {i : It} (b : Back E H H' i) (hl : LE H' H3) (h : S E H3 N D F L a w) : S E H N D F (i :: L) a w := b _ _ _ _ _ _ _ hl h
/-- An own block is lent: frozen, till it is taken back. -/
theorem X.S.lendO (k0 : Nat) {g : Nat} {o : Obj} {L' : List It} (h : S E H N D F L a w) (hk : L[k0]? = some (.obj g o) := by rfl) (hL : L.eraseIdx k0 = L' := by rfl) :
    ∃ H', LE H H' ∧ S E H' N D F L' a w ∧ H' g = some o ∧ Back E H H' (.obj g o) := by
  have h0 : H g = none := h.st.off _ (List.mem_of_getElem? hk) g (by simp [It.own])
  obtain ⟨H', hle, h', hg⟩ := h.frz k0 hk hL
  exact ⟨H', hle, h', hg, fun _ _ _ _ _ _ H3 hl hs => ⟨hs.ag, hs.st.thaw (hl g o hg) h0 (hle.trans hl)⟩⟩
/-- A row is lent. -/
theorem X.S.lendR {α : Type} {R : GH → List Value → α → Prop} {sz : Nat} {xs : List Value} {ys : List α} (k0 : Nat) {v : Value} {e n : Nat} {L' : List It} (h : S E H N D F L a w) (hr : RowR R sz H xs ys) (hn : n = ys.length) (hR : ∀ H', LE H H' → ∀ cs y, y ∈ ys → R H cs y → R H' cs y)
    (hk : L[k0]? = some (.row v e sz n xs) := by rfl) (hL : L.eraseIdx k0 = L' := by rfl) :
    ∃ H', LE H H' ∧ S E H' N D F L' a w ∧ RS R sz H' v ys ∧ Back E H H' (.row v e sz n xs) := by
  have hp := h.pull k0 hk hL
  have hown : w.ownsRow 0 e sz v n xs := hp.st.holds _ (List.mem_cons_self ..)
  rcases hown.2 with ⟨rfl, h0⟩ | ⟨g, cap, cur, rfl, h1, hg, h2, h3, h4, h5⟩
  · have hys : ys = [] := List.eq_nil_of_length_eq_zero (by omega)
    have hxs : xs = [] := List.eq_nil_of_length_eq_zero (by rw [hown.1, h0, Nat.zero_mul])
    subst hys; subst hxs; subst h0
    exact ⟨H, LE.rfl, hp.del 0, RS.nil R sz H, fun _ _ _ _ _ _ H3 hl hs => (hs.less hl).row⟩
  · have hst : St E H (.obj g (.cells cur e (0, 0)) :: L') w :=
      hp.st.set (k := 0) (i := .row (.slice (some ⟨g, 0, none⟩) n cap) e sz n xs) (j := .obj g (.cells cur e (0, 0))) rfl hg (fun x hx => .inl (by simpa [It.own, Value.ownBlock] using hx)) rfl rfl rfl (fun _ _ _ => rfl)
    have h0 : H g = none := hst.off _ (List.mem_cons_self ..) g (by simp [It.own])
    have hs : S E H N D F (.obj g (.cells cur e (0, 0)) :: L') a w := ⟨h.ag, hst⟩
    obtain ⟨H', hle, h', hg'⟩ := hs.frz 0
    obtain ⟨css, l1, e1, p1⟩ := hr
    refine ⟨H', hle, h', ⟨some ⟨g, 0, none⟩, cap, by rw [hn], by omega, fun j y hy => ?_⟩, fun _ _ _ L2 _ w2 H3 hl hs2 => ⟨hs2.ag, ?_⟩⟩
    · have hj : j < css.length := by have := (List.getElem?_eq_some_iff.1 hy).1; omega
      obtain ⟨q1, q2⟩ := p1 j css[j] y (List.getElem?_eq_getElem hj) hy
      refine ⟨g, 0, css[j], rfl, q1, hR _ hle _ y (List.mem_of_getElem? hy) q2, fun i u hu => ⟨cur, e, (0, 0), hg', ?_⟩⟩
      have hi : i < sz := by have := (List.getElem?_eq_some_iff.1 hu).1; omega
      have hall : ∀ cs ∈ css, cs.length = sz := fun cs hcs => by
        obtain ⟨q, hq, rfl⟩ := List.getElem_of_mem hcs
        exact (p1 q css[q] (ys[q]'(by omega)) (List.getElem?_eq_getElem hq) (List.getElem?_eq_getElem (by omega))).1
      have hf := flatten_at hall (List.getElem?_eq_getElem hj) hi
      rw [hu, ← e1, ← h5, List.getElem?_take] at hf
      split at hf
      · simpa using hf
      · cases hf
    · have ht := hs2.st.thaw (hl g _ hg') h0 (hle.trans hl)
      refine ht.set (k := 0) (i := .obj g (.cells cur e (0, 0))) (j := .row (.slice (some ⟨g, 0, none⟩) n cap) e sz n xs) rfl ?_ (fun x hx => .inl (by simpa [It.own, Value.ownBlock] using hx)) rfl rfl rfl (fun _ _ _ => rfl)
      exact ⟨hown.1, .inr ⟨g, cap, cur, rfl, Nat.zero_le _, ht.holds _ (List.mem_cons_self ..), h2, h3, h4, h5⟩⟩
end
section
variable {P : Program} {ops : Array Oper} {Q : Exit → Act → World → Prop} {γ : Gd P ops Q} {rest : List Oper} {o : Oper} {E w : World} {H : GH} {N : Nat} {D : List Deferred} {F : List (Nat × Value)} {L : List It} {a : Act}
variable {t u t' : TypeId} {x y : Operand} {d : Nat} {g : Nat}
/-- append to a slice that is full and frozen: a new row; the source is a literal's block, item kb. -/
theorem X.apc {α : Type} {R : GH → List Value → α → Prop} (kb : Nat) {e sz by_ : Nat} {ys : List α} {A : Option Addr} {ty' : TypeId} {z : Nat × Nat} (news : List Value) (ht : rowT P t e sz by_ = true) (hs : RS R sz H (.slice A ys.length ys.length) ys) (h : S E H N D F L a w)
    (hb : (ys.length + 1) * by_ ≤ 140737488355328) (h63 : ys.length + 1 ≤ 4611686018427387904)
    (k : ∀ A' c' olds a w, RowR R sz H olds ys → S E H N D ((d, .slice A' (ys.length + 1) c') :: F) (.row (.slice A' (ys.length + 1) c') e sz (ys.length + 1) (olds ++ news) :: L) a w → γ.G rest a w)
    (hkb : L[kb]? = some (.obj g (.cells news.toArray ty' z)) := by rfl) (hl : news.length = sz := by rfl)
    (ho : o.op = .call { callee := .builtin .append, args := #[x, y], argTypes := #[t, t] } := by rfl) (hx : ev F x = some (.slice A ys.length ys.length) := by rfl) (hy : ev F y = some (.slice (some ⟨g, 0, none⟩) 1 1) := by rfl)
    (hw : wn ops F o = some true := by rfl) (hd : o.dst = some d := by rfl) (hN : Nat.blt d N = true := by rfl) (hE : γ.isE rest.length = true := by rfl)
    (hS : γ.isN rest.length = true → ∀ A' c' olds w, St E H (.row (.slice A' (ys.length + 1) c') e sz (ys.length + 1) (olds ++ news) :: L) w → γ.S w := by first | exact fun e => Bool.noConfusion (show false = true from e) | exact fun _ _ _ _ _ hw => hw.sees' LE.rfl (by simp) | exact fun _ _ _ _ _ hw => hw.sees' (by assumption) (by simp)) : γ.G (o :: rest) a w := by
  obtain ⟨hu, i, zv, hi, hz, hsz, hby, hzs, h0⟩ := row_of ht
  -- the old cells
  have hex : ∀ q, q ≤ ys.length → ∃ olds : List Value, RowR R sz H olds (ys.take q) ∧ ∀ b, A = some b → ∀ j u, olds[j]? = some u → w.cell? (b.add j) = some u := by
    intro q
    induction q with
    | zero => intro _; exact ⟨[], by simpa using RowR.nil, fun b _ j u hu => by simp at hu⟩
    | succ q ih =>
      intro hq
      obtain ⟨olds, hr, hc⟩ := ih (by omega)
      obtain ⟨g', off', cs, e2, hl', hR, hcell⟩ := RS.at_ hs (List.getElem?_eq_getElem (show q < ys.length by omega))
      subst e2
      refine ⟨olds ++ cs, by rw [List.take_succ_eq_append_getElem (by omega)]; exact hr.snoc hl' hR, fun b hbb j u hu' => ?_⟩
      cases hbb
      have hlen := hr.len
      rw [List.length_take, Nat.min_eq_left (by omega)] at hlen
      by_cases hj : j < olds.length
      · rw [List.getElem?_append_left hj] at hu'; exact hc _ rfl j u hu'
      · rw [List.getElem?_append_right (by omega)] at hu'
        have := (hcell _ u hu').cell h.st.sees
        rw [hlen] at this
        rw [Addr.add_mid]
        rwa [show off' + q * sz + (j - q * sz) = off' + j by omega] at this
  obtain ⟨olds, hr, hc⟩ := hex ys.length (Nat.le_refl _)
  rw [List.take_length] at hr
  have hol := hr.len
  have hnews : ∀ j v, news[j]? = some v → w.cell? ((⟨g, 0, none⟩ : Addr).add j) = some v := fun j v hj => by
    rw [Addr.add_mid, Nat.zero_add, cell_own (item_at h.st.sees hkb) j]; simpa using hj
  have hrun : ∃ c', ys.length + 1 ≤ c' ∧ c' ≤ maxLen ∧ (Builtin.append_ #[t, t] o.type #[.slice A ys.length ys.length, .slice (some ⟨g, 0, none⟩) 1 1]).run P w =
      .ok (.slice (some ⟨w.heap.size, 0, none⟩) (ys.length + 1) c') (w.drew.alloc (.cells (olds.toArray ++ news.toArray ++ Builtin.zeroCells zv.cells (c' - (ys.length + 1))) e)) := by
    refine ⟨grownCap w (ys.length + 1) ys.length e, grownCap_ge .., grownCap_le_maxLen _ _ _ _ (by simp only [maxLen]; omega), ?_⟩
    cases A with
    | none =>
      have hy0 : ys = [] := by
        cases ys with
        | nil => rfl
        | cons y0 l => obtain ⟨_, _, _, e3, _⟩ := RS.at_ hs (j := 0) rfl; cases e3
      subst hy0
      have ho0 : olds = [] := List.eq_nil_of_length_eq_zero (by simpa using hol)
      subst ho0
      have := run_append_nil (P := P) w t o.type e i zv hu hi hz ⟨g, 0, none⟩ 1 1 news (by rw [hsz, hl, Nat.one_mul]) hnews (by omega) (by omega) (by rw [hby]; simp at hb; omega)
      simpa using this
    | some b =>
      exact run_append_grow (P := P) w t o.type e i zv hu hi hz b ys.length ys.length olds (by rw [hsz]; exact hol) (hc b rfl) ⟨g, 0, none⟩ 1 1 news (by rw [hsz, hl, Nat.one_mul]) hnews (by omega) (by omega) (growslice_fits (by omega) (by rw [hby]; exact hb))
  obtain ⟨c', hge, hle, hrun⟩ := hrun
  have hd0 : St E H L w.drew := h.st.drew _
  have hst : St E H (.row (.slice (some ⟨w.heap.size, 0, none⟩) (ys.length + 1) c') e sz (ys.length + 1) (olds ++ news) :: L) (w.drew.alloc (.cells (olds.toArray ++ news.toArray ++ Builtin.zeroCells zv.cells (c' - (ys.length + 1))) e)) := by
    refine (hd0.alloc _).set (k := 0) (i := .obj _ _) (j := .row (.slice (some ⟨w.heap.size, 0, none⟩) (ys.length + 1) c') e sz (ys.length + 1) (olds ++ news)) rfl ?_ (fun x hx => .inl (by simpa [It.own, Value.ownBlock] using hx)) rfl rfl rfl (fun _ _ _ => rfl)
    refine ⟨by rw [List.length_append, hol, hl, Nat.succ_mul], .inr ⟨w.heap.size, _, _, rfl, Nat.zero_le _, (hd0.alloc _).holds _ (List.mem_cons_self ..), hge, hle, ?_, ?_⟩⟩
    · have : ys.length * sz + sz + (c' - (ys.length + 1)) * sz = c' * sz := by
        rw [← Nat.succ_mul, ← Nat.add_mul]; congr 1; omega
      simp only [Array.size_append, size_zeroCells, hzs, List.size_toArray, hol, hl]
      exact this
    · rw [Array.toList_append, Array.toList_append]
      simp only []
      rw [List.take_append_of_le_length (by rw [List.length_append, hol, hl, Nat.succ_mul]; exact Nat.le_refl _)]
      rw [List.take_of_length_le (by rw [List.length_append, hol, hl, Nat.succ_mul]; exact Nat.le_refl _)]
  exact val h hw hd hN hE (fun e => hS e _ _ _) (by simp [execOp, ho, resolve, invoke, builtin, h.ag.ev hx, h.ag.ev hy, hrun]) hst (k _ _ olds · · hr)
end
/-- Is a free name of a term not known? -/
def Tm.strange (known : List Bs) (t : Tm) : Bool := t.names.any fun x => t.fr none0 x && !known.contains x
theorem strange_of {t : Tm} {ss known : List Bs} (h : IsSet ss (t.fr none0)) : (ss.any fun s => !known.contains s) = t.strange known := by
  rw [Bool.eq_iff_iff, List.any_eq_true]
  unfold Tm.strange
  rw [List.any_eq_true]
  constructor
  · rintro ⟨x, hx, hk⟩
    have hf := (h.2.1 x).1 hx
    exact ⟨x, fr_names t _ x hf, by rw [hf, hk]; rfl⟩
  · rintro ⟨x, hx, hk⟩
    rw [Bool.and_eq_true] at hk
    exact ⟨x, (h.2.1 x).2 hk.1, hk.2⟩
def Pg.zero : Pg := ⟨[], [], [], .mk 0 [] 0 []⟩
def Pg.known (p : Pg) (k : Nat) : List Bs := (p.inputs ++ p.cells).map (·.name) ++ (p.defs.take k).map (·.name)
/-- Is a name declared twice? -/
def Pg.twice (p : Pg) : Bool := (List.range (p.known p.defs.length).length).any fun k => decide (indexL (p.known p.defs.length) ((p.known p.defs.length).getD k []) < (k : Int))
/-- The first k definitions, renamed; none if one is strange. -/
def Pg.go (p : Pg) : Nat → Option (List Df × Int)
  | 0 => some ([], 1)
  | k + 1 => match p.go k, p.defs[k]? with
    | some (ds, n), some d => if d.t.strange (p.known k) then none else some (ds ++ [⟨d.name, (d.t.ren (fun _ => none) n).1⟩], (d.t.ren (fun _ => none) n).2)
    | _, _ => none
def Pg.resolve (p : Pg) : Pg × Int :=
  if !p.right then (Pg.zero, 11)
  else if p.twice then (Pg.zero, 6)
  else match p.go p.defs.length with
    | none => (Pg.zero, 5)
    | some (ds, n) => if p.body.strange (p.known p.defs.length) then (Pg.zero, 5) else (⟨p.inputs, p.cells, ds, (p.body.ren (fun _ => none) n).1⟩, 0)
end Go.Proofs.YtindlieilabgfaaGreatDoor
