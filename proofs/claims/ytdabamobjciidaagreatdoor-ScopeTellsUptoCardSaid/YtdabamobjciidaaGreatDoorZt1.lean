/- Parts of the proof: X1, X2, X3, X4, X5, X6, X7, X8, X9, X10, X11, X12, X19, X20, T1, P1, T2, T3, T4. -/
import Derived.Tactics
import Derived.Defers
import Derived.Deep.MidRow
import Derived.Maps.AppendAt
import Derived.Below
import Derived.OrdersHeld
import Derived.KernelRfl
import Derived.Laws.Strings
import Derived.MapKept
import Derived.Shelf.Strconv.Itoa4
import Derived.Shelf.Strings.OnBuilder
import Derived.Lib.ItoaLen
set_option autoImplicit false
set_option linter.unnecessarySimpa false
set_option linter.unusedSectionVars false
set_option linter.unusedSimpArgs false
set_option linter.unusedVariables false
set_option maxHeartbeats 8000000
set_option maxRecDepth 100000
set_option relaxedAutoImplicit false
namespace Go.Proofs.YtdabamobjciidaaGreatDoor.X
open Go
/-! ### 1. Memory -/
abbrev GH := Nat → Option Obj
def LE (H H1 : GH) : Prop := ∀ b o, H b = some o → H1 b = some o
theorem LE.rfl {H : GH} : LE H H := fun _ _ h => h
theorem LE.trans {H H1 H2 : GH} (h : LE H H1) (k : LE H1 H2) : LE H H2 := fun b o e => k b o (h b o e)
inductive It where
 | obj (g : Nat) (o : Obj)
 | blk (g : Nat) (p : Obj → Prop)
 | row (v : Value) (e sz n : Nat) (xs : List Value)
def It.holds (w : World) : It → Prop
 | .obj g o => w.heap[g]? = some o
 | .blk g p => ∃ o, w.heap[g]? = some o ∧ p o
 | .row v e sz n xs => w.ownsRow 0 e sz v n xs
def It.own : It → List Nat
 | .obj g _ => [g]
 | .blk g _ => [g]
 | .row v _ _ _ _ => v.ownBlock.toList
def Apart (i j : It) : Prop := ∀ g ∈ i.own, g ∉ j.own
theorem Apart.symm {i j : It} (h : Apart i j) : Apart j i := fun g hg hi => h g hi hg
structure St (E : World) (H : GH) (L : List It) (w : World) : Prop where
 os : w.os = E.os
 tape : w.tape = E.tape
 output : w.output = E.output
 fro : ∀ b o, H b = some o → w.heap[b]? = some o
 holds : ∀ i ∈ L, i.holds w
 off : ∀ i ∈ L, ∀ g ∈ i.own, H g = none
 apart : L.Pairwise Apart
theorem It.lt {w : World} {i : It} (h : i.holds w) {g : Nat} (hg : g ∈ i.own) : g < w.heap.size := by
 cases i with
 | obj g' o =>
   simp [It.own] at hg; subst hg
   simp [It.holds] at h
   exact (Array.getElem?_eq_some_iff.1 h).1
 | blk g' p =>
   simp [It.own] at hg; subst hg
   obtain ⟨o, ho, _⟩ := h
   exact (Array.getElem?_eq_some_iff.1 ho).1
 | row v e sz n xs =>
   simp [It.own] at hg
   exact (h.lt g hg).2
theorem It.kept {w w' : World} {i : It} (h : i.holds w) (hk : ∀ g ∈ i.own, w'.heap[g]? = w.heap[g]?) : i.holds w' := by
 cases i with
 | obj g o => simp only [It.holds] at *; rw [hk g (by simp [It.own])]; exact h
 | blk g p => simp only [It.holds] at *; rw [hk g (by simp [It.own])]; exact h
 | row v e sz n xs =>
   simp only [It.holds] at *
   refine ⟨h.1, ?_⟩
   rcases h.2 with h2 | ⟨g, cap, cur, rfl, h3, h4, h5⟩
   · exact .inl h2
   · exact .inr ⟨g, cap, cur, rfl, h3, by rw [hk g (by simp [It.own, Value.ownBlock])]; exact h4, h5⟩
theorem St.size_le {E w : World} {H : GH} {L : List It} (h : St E H L w) {b : Nat} {o : Obj} (hb : H b = some o) : b < w.heap.size :=
 (Array.getElem?_eq_some_iff.1 (h.fro b o hb)).1
theorem St.drew {E w : World} {H : GH} {L : List It} (h : St E H L w) (n : Nat) : St E H L { w with drawn := n } :=
 ⟨h.os, h.tape, h.output, h.fro, fun i hi => It.kept (h.holds i hi) (fun _ _ => rfl), h.off, h.apart⟩
theorem St.alloc {E w : World} {H : GH} {L : List It} (h : St E H L w) (o : Obj) : St E H (.obj w.heap.size o :: L) (w.alloc o) := by
 have old : ∀ b, b < w.heap.size → (w.alloc o).heap[b]? = w.heap[b]? := fun b hb => by
   show (w.heap.push o)[b]? = _
   simp [Array.getElem?_push, Nat.ne_of_lt hb]
 refine ⟨h.os, h.tape, h.output, fun b x hb => (old b (h.size_le hb)).trans (h.fro b x hb), ?_, ?_, ?_⟩
 · intro i hi
   cases hi with
   | head =>
     show (w.heap.push o)[w.heap.size]? = some o
     simp
   | tail _ hi => exact It.kept (h.holds i hi) (fun g hg => old g (It.lt (h.holds i hi) hg))
 · intro i hi g hg
   cases hi with
   | head =>
     simp [It.own] at hg; subst hg
     cases hH : H w.heap.size with
     | none => rfl
     | some x => exact absurd (h.size_le hH) (by omega)
   | tail _ hi => exact h.off i hi g hg
 · refine List.pairwise_cons.2 ⟨fun i hi g hg hgi => ?_, h.apart⟩
   simp [It.own] at hg; subst hg
   exact absurd (It.lt (h.holds i hi) hgi) (by omega)
theorem St.set {E w w' : World} {H : GH} {L : List It} (h : St E H L w) {k : Nat} {i j : It} (hk : L[k]? = some i) (hj : j.holds w')
   (hown : ∀ g ∈ j.own, g ∈ i.own ∨ w.heap.size ≤ g) (hos : w'.os = w.os) (htape : w'.tape = w.tape) (hout : w'.output = w.output)
   (hfr : ∀ b, b < w.heap.size → b ∉ i.own → w'.heap[b]? = w.heap[b]?) : St E H (L.set k j) w' := by
 have hki : i ∈ L := List.mem_of_getElem? hk
 have hklt : k < L.length := (List.getElem?_eq_some_iff.1 hk).1
 have hkeq : L[k] = i := (List.getElem?_eq_some_iff.1 hk).2
 have hpw := List.pairwise_iff_getElem.1 h.apart
 have other : ∀ m (hm : m < L.length), m ≠ k → Apart i L[m] := fun m hm hne => by
   rcases Nat.lt_or_gt_of_ne hne with hlt | hgt
   · have := hpw m k hm hklt hlt; rw [hkeq] at this; exact this.symm
   · have := hpw k m hklt hm hgt; rw [hkeq] at this; exact this
 have keepit : ∀ m (hm : m < L.length), m ≠ k → (L[m]).holds w' := fun m hm hne =>
   It.kept (h.holds _ (List.getElem_mem hm)) (fun g hg => hfr g (It.lt (h.holds _ (List.getElem_mem hm)) hg) (fun hgi => other m hm hne g hgi hg))
 have apj : ∀ m (hm : m < L.length), m ≠ k → Apart j L[m] := fun m hm hne g hg hgm => by
   rcases hown g hg with hgi | hge
   · exact other m hm hne g hgi hgm
   · exact absurd (It.lt (h.holds _ (List.getElem_mem hm)) hgm) (by omega)
 refine ⟨hos.trans h.os, htape.trans h.tape, hout.trans h.output, fun b o hb => ?_, ?_, ?_, ?_⟩
 · rw [hfr b (h.size_le hb) (fun hbi => by have := h.off i hki b hbi; rw [hb] at this; cases this)]
   exact h.fro b o hb
 · intro x hx
   obtain ⟨m, hm, rfl⟩ := List.getElem_of_mem hx
   rw [List.getElem_set]
   split
   · exact hj
   · exact keepit m (by simpa using hm) (fun e => by omega)
 · intro x hx g hg
   obtain ⟨m, hm, rfl⟩ := List.getElem_of_mem hx
   rw [List.getElem_set] at hg
   split at hg
   · rcases hown g hg with hgi | hge
     · exact h.off i hki g hgi
     · cases hH : H g with
       | none => rfl
       | some o => exact absurd (h.size_le hH) (by omega)
   · exact h.off _ (List.getElem_mem (by simpa using hm)) g hg
 · refine List.pairwise_iff_getElem.2 fun m n hm hn hmn => ?_
   simp only [List.length_set] at hm hn
   rw [List.getElem_set, List.getElem_set]
   split
   · split
     · omega
     · exact apj n hn (by omega)
   · split
     · exact (apj m hm (by omega)).symm
     · exact hpw m n hm hn hmn
theorem St.sub {E w : World} {H : GH} {L L' : List It} (h : St E H L w) (hs : L'.Sublist L) : St E H L' w :=
 ⟨h.os, h.tape, h.output, h.fro, fun i hi => h.holds i (hs.mem hi), fun i hi => h.off i (hs.mem hi), h.apart.sublist hs⟩
theorem St.drop {E w : World} {H : GH} {L : List It} (h : St E H L w) (n : Nat) : St E H (L.drop n) w := h.sub (List.drop_sublist n L)
theorem St.perm {E w : World} {H : GH} {L L' : List It} (h : St E H L w) (hp : L'.Perm L) : St E H L' w :=
 ⟨h.os, h.tape, h.output, h.fro, fun i hi => h.holds i (hp.mem_iff.1 hi), fun i hi => h.off i (hp.mem_iff.1 hi), (hp.pairwise_iff Apart.symm).2 h.apart⟩
def put (H : GH) (g : Nat) (o : Obj) : GH := fun b => if b = g then some o else H b
theorem put_same (H : GH) (g : Nat) (o : Obj) : put H g o g = some o := by simp [put]
theorem LE.put {H : GH} {g : Nat} {o : Obj} (h : H g = none) : LE H (put H g o) := fun b x hb => by
 unfold X.put
 split
 · rename_i e; subst e; rw [h] at hb; cases hb
 · exact hb
theorem St.freeze {E w : World} {H : GH} {L : List It} {g : Nat} {o : Obj} (h : St E H (.obj g o :: L) w) : LE H (put H g o) ∧ St E (put H g o) L w := by
 have hg : H g = none := h.off _ (List.mem_cons_self ..) g (by simp [It.own])
 refine ⟨LE.put hg, h.os, h.tape, h.output, fun b x hb => ?_, fun i hi => h.holds i (List.mem_cons_of_mem _ hi), fun i hi b hb => ?_, (List.pairwise_cons.1 h.apart).2⟩
 · unfold X.put at hb
   split at hb
   · rename_i e; subst e; cases hb; exact h.holds (.obj b o) (List.mem_cons_self ..)
   · exact h.fro b x hb
 · have ha := (List.pairwise_cons.1 h.apart).1 i hi g (by simp [It.own])
   unfold X.put
   rw [if_neg (fun e => by subst e; exact ha hb)]
   exact h.off i (List.mem_cons_of_mem _ hi) b hb
/-! ### 2. The frame -/
structure Ag (N : Nat) (D : List Deferred) (F : List (Nat × Value)) (a : Act) : Prop where
 size : a.tmps.size = N
 defers : a.defers = D
 get : ∀ i v, F.lookup i = some v → a.tmps.getD i undef = v
def ev (F : List (Nat × Value)) : Operand → Option Value
 | .tmp t => F.lookup t
 | .const v => some v
 | .global g => some (.pointer (some ⟨g, 0, none⟩))
 | .func f => some (.func (.func f) #[] #[])
theorem Ag.ev {N : Nat} {D : List Deferred} {F : List (Nat × Value)} {a : Act} (h : Ag N D F a) {x : Operand} {v : Value} (hx : X.ev F x = some v) : a.eval x = v := by
 cases x with
 | tmp t => exact h.get t v hx
 | const c => simpa [X.ev, Act.eval] using hx
 | global g => simpa [X.ev, Act.eval] using hx
 | func f => simpa [X.ev, Act.eval] using hx
theorem Ag.put {N : Nat} {D : List Deferred} {F : List (Nat × Value)} {a : Act} (h : Ag N D F a) {d : Nat} (hd : d < N) (v : Value) : Ag N D ((d, v) :: F) (a.put (some d) v) := by
 refine ⟨by simp [Act.put, h.size], h.defers, fun i u hu => ?_⟩
 simp only [List.lookup] at hu
 by_cases hi : i = d
 · subst hi
   simp at hu; subst hu
   simp [Act.put, Array.getD_eq_getD_getElem?, Array.getElem?_setIfInBounds, h.size, hd]
 · have : (i == d) = false := by simpa using hi
   rw [this] at hu
   have := h.get i u hu
   simpa [Act.put, Array.getD_eq_getD_getElem?, Array.getElem?_setIfInBounds, Ne.symm hi] using this
theorem Ag.sub {N : Nat} {D : List Deferred} {F F' : List (Nat × Value)} {a : Act} (h : Ag N D F a) (hs : F'.map (fun p => F.lookup p.1) = F'.map (fun p => some p.2)) : Ag N D F' a := by
 refine ⟨h.size, h.defers, fun i v hv => h.get i v ?_⟩
 clear h
 induction F' with
 | nil => cases hv
 | cons p F' ih =>
   obtain ⟨k, u⟩ := p
   simp only [List.map_cons, List.cons.injEq] at hs
   simp only [List.lookup] at hv
   by_cases hi : i = k
   · subst hi; simp at hv; subst hv; exact hs.1
   · have : (i == k) = false := by simpa using hi
     rw [this] at hv
     exact ih hs.2 hv
theorem ag_enter (N : Nat) (args : Array Value) (hs : args.size ≤ N) (F : List (Nat × Value)) (hF : F.map (fun p => args[p.1]?) = F.map (fun p => some p.2)) :
   Ag N [] F { tmps := args ++ Array.replicate (N - args.size) undef, defers := [] } := by
 refine ⟨by simp; omega, rfl, fun i v hv => ?_⟩
 have : args[i]? = some v := by
   induction F with
   | nil => cases hv
   | cons p F ih =>
     obtain ⟨k, u⟩ := p
     simp only [List.map_cons, List.cons.injEq] at hF
     simp only [List.lookup] at hv
     by_cases hi : i = k
     · subst hi; simp at hv; subst hv; exact hF.1
     · have : (i == k) = false := by simpa using hi
       rw [this] at hv
       exact ih hF.2 hv
 have hlt : i < args.size := (Array.getElem?_eq_some_iff.1 this).1
 simp only [Array.getD_eq_getD_getElem?]
 rw [Array.getElem?_append_left hlt, this]; rfl
structure S (E : World) (H : GH) (N : Nat) (D : List Deferred) (F : List (Nat × Value)) (L : List It) (a : Act) (w : World) : Prop where
 ag : Ag N D F a
 st : St E H L w
/-! ### Types -/
def ty1 (P : Program) (t : TypeId) : Bool := match P.underlying t with
 | some (.struct _) | some (.array _ _) => false
 | some _ => match P.info? t with
   | some i => i.size == 1
   | none => false
 | none => false
def tyN (P : Program) (t : TypeId) (n : Nat) : Bool := match P.underlying t with
 | some (.struct _) | some (.array _ _) => match P.info? t with
   | some i => i.size == n
   | none => false
 | _ => false
def szT (P : Program) (t : TypeId) (n : Nat) : Bool := match P.info? t with
 | some i => i.size == n
 | none => false
def zrT (P : Program) (t : TypeId) : Option Value := match P.info? t with
 | some i => i.zero
 | none => none
def fldT (P : Program) (t : TypeId) (i : Nat) : Option Nat := match P.underlying t with
 | some (.struct fs) => match fs[i]? with
   | some f => match P.info? f.type with
     | some j => if j.size = 0 then none else some f.offset
     | none => none
   | none => none
 | _ => none
def layT (P : Program) (t : TypeId) : Option (Array (Nat × Nat)) := match P.underlying t with
 | some (.struct fs) => fs.mapM fun f => match P.info? f.type with
   | some j => some (f.offset, j.size)
   | none => none
 | _ => none
def sliT (P : Program) (t : TypeId) : Option TypeId := match P.underlying t with
 | some (.slice e) => some e
 | _ => none
def bodT (P : Program) (f : FuncId) : Bool := match P.funcs[f]? with
 | some fn => fn.name != "runtime.NumGoroutine" && fn.body.isSome
 | none => false
section
variable {P : Program} {w : World}
theorem und_of1 {t : TypeId} (h : ty1 P t = true) : ∃ d, P.underlying t = some d ∧ d.isRow = false ∧ ∃ i, P.info? t = some i ∧ i.size = 1 := by
 unfold ty1 at h
 split at h
 · cases h
 · cases h
 · rename_i d h1 h2 hd
   refine ⟨_, hd, ?_, ?_⟩
   · cases d <;> simp_all
   · split at h
     · rename_i i hi; exact ⟨i, hi, by simpa using h⟩
     · cases h
 · cases h
theorem und_ofN {t : TypeId} {n : Nat} (h : tyN P t n = true) : ∃ d, P.underlying t = some d ∧ d.isRow = true ∧ (P.info? t).map (·.size) = some n := by
 unfold tyN at h
 split at h
 · rename_i d hd
   refine ⟨_, hd, rfl, ?_⟩
   split at h
   · rename_i i hi; simp [hi]; simpa using h
   · cases h
 · rename_i d e hd
   refine ⟨_, hd, rfl, ?_⟩
   split at h
   · rename_i i hi; simp [hi]; simpa using h
   · cases h
 · cases h
theorem run_load1 {t : TypeId} (h : ty1 P t = true) (a : Addr) (v : Value) (hc : w.cell? a = some v) : (loadVar t a).run P w = .ok v w := by
 obtain ⟨d, hd, hr, _⟩ := und_of1 h
 have : (isAgg t).run P w = .ok false w := by
   unfold isAgg
   rw [Sem.run_bind, run_underlying hd]
   cases d <;> first | rfl | cases hr
 unfold loadVar
 simp [this, load, Sem.run, hc]
theorem run_loadN {t : TypeId} {n : Nat} (h : tyN P t n = true) (g o : Nat) (cs : List Value) (hl : cs.length = n)
   (hc : ∀ j v, cs[j]? = some v → w.cell? ⟨g, o + j, none⟩ = some v) : (loadVar t ⟨g, o, none⟩).run P w = .ok (.agg cs.toArray) w := by
 obtain ⟨d, hd, hr, hi⟩ := und_ofN h
 exact run_loadVar_mid w g o t cs d hc hd hr (by rw [hi, hl])
theorem oneCell_run {a : Addr} {v x : Value} (hv : v.oneCell' = true) (hc : w.cell? a = some x) (hf : w.frozen? a = false) :
   (store a v).run P w = .ok () (w.setCell a v) := by
 cases v <;> simp_all [store, Sem.run, Value.oneCell']
end
/-! ### Guards -/
def wn (ops : Array Oper) (F : List (Nat × Value)) (o : Oper) : Option Bool := match o.guard with
 | none => some true
 | some (j, want) => match (ops[j]?).bind (·.dst) with
   | some d => match F.lookup d with
     | some (.bool b) => some (b == want)
     | some (.tuple _) => some false
     | _ => none
   | none => none
theorem wanted_of {N : Nat} {D : List Deferred} {F : List (Nat × Value)} {a : Act} {ops : Array Oper} {o : Oper} {t : Bool} (h : Ag N D F a) (hw : wn ops F o = some t) :
   Region.wanted o (yielded ops a.tmps) = t := by
 unfold wn at hw
 unfold Region.wanted
 split at hw
 · rename_i hg; rw [hg]; simpa using hw
 · rename_i j want hg
   rw [hg]
   split at hw
   · rename_i d hd
     split at hw
     · rename_i b hb
       have := h.get d _ hb
       have hlt : a.tmps[d]? = some (.bool b) := by
         rw [Array.getD_eq_getD_getElem?] at this
         cases hx : a.tmps[d]? with
         | none => rw [hx] at this; simp [undef] at this
         | some y => rw [hx] at this; simpa using this
       simp only [yielded, hd, Option.bind_some, hlt]
       simp at hw
       cases b <;> cases want <;> simp_all
     · rename_i vs hb
       have := h.get d _ hb
       have hy : yielded ops a.tmps j = none := by
         simp only [yielded, hd, Option.bind_some]
         rw [Array.getD_eq_getD_getElem?] at this
         cases hx : a.tmps[d]? with
         | none => rfl
         | some y => rw [hx] at this; simp at this; subst this; rfl
       simp only [hy]
       simp at hw
       rw [hw]; rfl
     · cases hw
   · cases hw
/-! ### What is behind an operation: a region in the text's order, or one that draws it -/
structure Sees (H : GH) (L : List It) (w : World) : Prop where
 fro : ∀ b o, H b = some o → w.heap[b]? = some o
 holds : ∀ i ∈ L, i.holds w
theorem St.sees {E w : World} {H : GH} {L : List It} (h : St E H L w) : Sees H L w := ⟨h.fro, h.holds⟩
theorem St.sees' {E w : World} {H H0 : GH} {L L0 : List It} (h : St E H L w) (hl : LE H0 H) (hs : ∀ i ∈ L0, i ∈ L) : Sees H0 L0 w := ⟨fun b o e => h.fro b o (hl b o e), fun i hi => h.holds i (hs i hi)⟩
structure Gd (P : Program) (ops : Array Oper) (Q : Exit → Act → World → Prop) where
 G : List Oper → Act → World → Prop
 /-- What the region's reads look at. -/
 S : World → Prop
 /-- May an operation with so many behind it have an effect? May a read come up behind it? -/
 isE : Nat → Bool
 isN : Nat → Bool
 /-- May it read? -/
 isR : Nat → Bool
 /-- The worlds in which a read has to yield the same. -/
 W : World → World → Prop
 nil : ∀ {a w}, Q .normal a w → G [] a w
 skip : ∀ {o rest a w}, Region.wanted o (yielded ops a.tmps) = false → G rest (a.put o.dst undef) w → G (o :: rest) a w
 pure_ : ∀ {o rest a w v}, Region.wanted o (yielded ops a.tmps) = true → (∀ w', (execOp a.eval o).run P w' = .ok (.value v) w') → G rest (a.put o.dst v) w → G (o :: rest) a w
 quiet : ∀ {o rest a w v}, isR rest.length = true → S w → Region.wanted o (yielded ops a.tmps) = true → (∀ w', W w w' → (execOp a.eval o).run P w' = .ok (.value v) w') → G rest (a.put o.dst v) w → G (o :: rest) a w
 eff : ∀ {o rest a w}, isE rest.length = true → Region.wanted o (yielded ops a.tmps) = true → o.wp P a w (fun a' w' => (isN rest.length = true → S w') ∧ G rest a' w') Q → G (o :: rest) a w
theorem Oper.wp_mono' {P : Program} {o : Oper} {a : Act} {w : World} {K K' : Act → World → Prop} {Q : Exit → Act → World → Prop} (h : o.wp P a w K Q) (hk : ∀ a w, K a w → K' a w) : o.wp P a w K' Q := by
 unfold Oper.wp at *
 generalize (execOp a.eval o).run P w = r at *
 cases r with
 | ok n w' =>
   cases n <;> simp only [Oper.upon] at h ⊢
   case value u => exact hk _ _ h
   case skip => exact hk _ _ h
   case defer d => exact hk _ _ h
   case enter f args =>
     refine Calls.mono h fun e w'' he => ?_
     cases e with
     | returned u => exact hk _ _ he
     | panicked c => exact he
     | outgrown => exact he
   case row row args => exact Rows.mono h fun u w'' he => hk _ _ he
 | halt x w' => cases x <;> simp only [Oper.upon] at h ⊢ <;> exact h
def gl (P : Program) (ops : Array Oper) (Q : Exit → Act → World → Prop) : Gd P ops Q where
 G := wpList P ops Q
 S := fun _ => True
 isE := fun _ => true
 isN := fun _ => false
 isR := fun _ => true
 W := fun w w' => w' = w
 nil h := h
 skip hw h := by unfold wpList; rw [if_neg (by rw [hw]; simp)]; exact h
 pure_ hw hr h := by
   unfold wpList; rw [if_pos hw]
   refine .inl ?_
   unfold Oper.wp
   rw [hr _, Oper.upon_value]; exact h
 quiet _ _ hw hr h := by
   unfold wpList; rw [if_pos hw]
   refine .inl ?_
   unfold Oper.wp
   rw [hr _ rfl, Oper.upon_value]; exact h
 eff _ hw h := by
   unfold wpList; rw [if_pos hw]
   exact .inl (Oper.wp_mono' h fun _ _ h => h.2)
/-! A region that draws its order, walked in the text's: 'eff': the effects (nothing else may come up when one does), each by how many operations stand behind it; 'rd': the operations that read. An effect that does not wait for all that read leaves S as it is. -/
def needs (ops : Array Oper) (rd : List Nat) (j : Nat) : Bool := rd.any fun i => i != j && !((ops[j]?).map (·.after.any fun e => Region.binds .any e && e.on == i)).getD false
def wpR (P : Program) (ops : Array Oper) (Q : Exit → Act → World → Prop) (S : World → Prop) (rd : List Nat) : Nat → Array Bool → Act → World → Prop
 | 0, listed, a, w => Region.ready .any ops listed = [] ∧ Q .normal a w
 | fuel + 1, listed, a, w => (Region.ready .any ops listed = [] → Q .normal a w) ∧
   ∀ i ∈ Region.ready .any ops listed, wpOp P ops Q i (fun a' w' => (needs ops rd i = true → S w → S w') ∧ wpR P ops Q S rd fuel (listed.setIfInBounds i true) a' w') a w
section
variable {P : Program} {ops : Array Oper} {Q : Exit → Act → World → Prop} {S : World → Prop} {rd : List Nat}
theorem wpR_any : ∀ (fuel : Nat) (listed : Array Bool) (a : Act) (w : World), wpR P ops Q S rd fuel listed a w → wpAny P .any ops Q fuel listed a w
 | 0, _, _, _, h => h
 | fuel + 1, _, _, _, h => ⟨h.1, fun i hi => wpOp_mono (fun a' w' k => wpR_any fuel _ a' w' k.2) (h.2 i hi)⟩
theorem wpR_take {T : World → Prop} {i : Nat} {oi : Oper} {v : Value} (hi : ops[i]? = some oi) (hns : Region.noSelect ops = true) (hQ : ∀ c a a' w, a.defers = a'.defers → Q (.panic c) a w → Q (.panic c) a' w)
   (hT : (∀ w, T w) ∨ i ∈ rd ∧ T = S) : ∀ (fuel : Nat) (listed : Array Bool) (a : Act) (w : World),
     (∀ j oj, ops[j]? = some oj → j ≠ i → listed.getD j true = false → (∀ e ∈ oj.after, Region.binds .any e = true → e.on ≠ i) → oi.apart ops oj = true) →
     i ∈ Region.ready .any ops listed → YieldsIf P ops T oi v a → T w →
     wpR P ops Q S rd fuel (listed.setIfInBounds i true) (a.put oi.dst v) w → wpR P ops Q S rd (fuel + 1) listed a w := by
 have hsel := Region.noSelect_spec hns
 intro fuel
 induction fuel with
 | zero =>
   intro listed a w _ hr hy hTw hk
   refine ⟨(fun e => by rw [e] at hr; cases hr), fun j hj => ?_⟩
   by_cases e : j = i
   · subst e
     exact hy.wpOp hi hTw ⟨fun _ h => h, hk⟩
   · have := ready_mono hj e
     rw [hk.1] at this; cases this
 | succ fuel ih =>
   intro listed a w hfree hr hy hTw hk
   refine ⟨(fun e => by rw [e] at hr; cases hr), fun j hj => ?_⟩
   by_cases e : j = i
   · subst e
     exact hy.wpOp hi hTw ⟨fun _ h => h, hk⟩
   · obtain ⟨hjun, oj, hoj, hall⟩ := mem_ready.1 hj
     have hiun := (mem_ready.1 hr).1
     have hnot : ∀ e ∈ oj.after, Region.binds .any e = true → e.on ≠ i := fun e' he hb heq => by
       have h1 := hall e' he hb
       rw [heq] at h1
       rw [Array.getD_eq_getD_getElem?] at h1 hiun
       cases hx : listed[i]? with
       | none => rw [hx] at h1; simp at h1
       | some q => rw [hx] at h1 hiun; simp at h1 hiun; rw [h1] at hiun; cases hiun
     have hstep := wpOp_putIf hoj (hfree j oj hoj e hjun hnot) (fun cs b => hsel i oi cs b hi) (fun cs b => hsel j oj cs b hoj) (fun c a w h => hQ c (a.put oi.dst v) a w (by cases oi.dst <;> rfl) h) hy (hk.2 j (ready_mono hj e))
     refine wpOp_mono (fun a' w' ⟨hy', hS', hk'⟩ => ?_) hstep
     have hTw' : T w' := by
       rcases hT with hT | ⟨hrd, rfl⟩
       · exact hT w'
       · refine hS' ?_ hTw
         unfold needs
         rw [List.any_eq_true]
         refine ⟨i, hrd, ?_⟩
         rw [hoj]
         simp only [Option.map_some, Option.getD_some, Bool.and_eq_true, bne_iff_ne, ne_eq, Bool.not_eq_true']
         refine ⟨fun h => e h.symm, ?_⟩
         rw [Array.any_eq_false']
         intro e' he
         have := hnot e' he
         simp only [Bool.and_eq_true, beq_iff_eq, not_and]
         exact this
     refine ⟨hS', ih _ a' w' (fun q oq hq hqi hun hno => hfree q oq hq hqi ?_ hno) (ready_mono hr (Ne.symm e)) hy' hTw' ?_⟩
     · by_cases hjq : j = q
       · subst hjq; exact hjun
       · rw [getD_set_ne true hjq] at hun; exact hun
     · rw [Array.setIfInBounds_comm _ _ e]; exact hk'
end
def gdw (P : Program) (ops : Array Oper) (Q : Exit → Act → World → Prop) (S : World → Prop) (eff rd : List Nat) (nS : Nat) : List Oper → Act → World → Prop
 | [], a, w => Q .normal a w
 | o :: rest, a, w =>
   if eff.contains rest.length then
     if Region.wanted o (yielded ops a.tmps) = true then o.wp P a w (fun a' w' => (nS ≤ rest.length → S w') ∧ gdw P ops Q S eff rd nS rest a' w') Q else gdw P ops Q S eff rd nS rest (a.put o.dst undef) w
   else ∃ v, (YieldsIf P ops (fun _ => True) o v a ∨ (rd.contains (ops.size - (rest.length + 1)) = true ∧ nS ≤ rest.length + 1 ∧ YieldsIf P ops S o v a)) ∧ gdw P ops Q S eff rd nS rest (a.put o.dst v) w
def gd (P : Program) (ops : Array Oper) (Q : Exit → Act → World → Prop) (S : World → Prop) (eff rd : List Nat) (nS : Nat) : Gd P ops Q where
 G := fun l a w => (nS ≤ l.length → S w) → gdw P ops Q S eff rd nS l a w
 S := S
 isE := fun n => eff.contains n
 isN := fun n => Nat.ble nS n
 isR := fun n => rd.contains (ops.size - (n + 1)) && Nat.ble nS (n + 1)
 W := fun _ w' => S w'
 nil h _ := h
 skip hw h hS := by
   have h' := h (fun e => hS (Nat.le_succ_of_le e))
   unfold gdw
   split
   · rw [if_neg (by rw [hw]; simp)]; exact h'
   · exact ⟨undef, .inl (.inr ⟨hw, rfl⟩), h'⟩
 pure_ hw hr h hS := by
   have h' := h (fun e => hS (Nat.le_succ_of_le e))
   unfold gdw
   split
   · first | rw [if_pos hw] | skip
     unfold Oper.wp
     rw [hr _, Oper.upon_value]; exact ⟨fun e => hS (Nat.le_succ_of_le e), h'⟩
   · exact ⟨_, .inl (.inl ⟨hw, fun w _ => hr w⟩), h'⟩
 quiet hR _ hw hr h hS := by
   have h' := h (fun e => hS (Nat.le_succ_of_le e))
   simp only [Bool.and_eq_true, Nat.ble_eq] at hR
   unfold gdw
   split
   · first | rw [if_pos hw] | skip
     unfold Oper.wp
     rw [hr _ (hS hR.2), Oper.upon_value]; exact ⟨fun e => hS (Nat.le_succ_of_le e), h'⟩
   · exact ⟨_, .inr ⟨hR.1, hR.2, .inl ⟨hw, hr⟩⟩, h'⟩
 eff he hw h hS := by
   unfold gdw
   rw [if_pos he, if_pos hw]
   exact Oper.wp_mono' h fun _ _ h => ⟨fun e => h.1 (by simpa [Nat.ble_eq] using e), h.2 fun e => h.1 (by simpa [Nat.ble_eq] using e)⟩
def drawOk (ops : Array Oper) (eff rd : List Nat) (nS : Nat) : Bool :=
 Region.noSelect ops && (List.range ops.size).all fun i =>
   let listed := (Array.replicate i true) ++ (Array.replicate (ops.size - i) false)
   (Nat.ble nS (ops.size - (i + 1)) || !needs ops rd i) &&
   if eff.contains (ops.size - (i + 1)) then Region.ready .any ops listed == [i] else Region.free .any ops listed i && (Region.ready .any ops listed).contains i
theorem lst_set (n i : Nat) (h : i < n) : ((Array.replicate i true) ++ (Array.replicate (n - i) false)).setIfInBounds i true = (Array.replicate (i + 1) true) ++ (Array.replicate (n - (i + 1)) false) := by
 obtain ⟨m, rfl⟩ : ∃ m, n = i + 1 + m := ⟨n - (i + 1), by omega⟩
 apply Array.ext'
 have e1 : i + 1 + m - i = m + 1 := by omega
 have e2 : i + 1 + m - (i + 1) = m := by omega
 rw [e1, e2]
 simp [List.set_append, List.replicate_succ]
 clear h e1 e2
 induction i with
 | zero => simp
 | succ i ih => simp [List.replicate_succ, ih]
theorem gdw_sound {P : Program} {ops : Array Oper} {Q : Exit → Act → World → Prop} {S : World → Prop} {eff rd : List Nat} {nS : Nat} (hD : drawOk ops eff rd nS = true)
   (hQ : ∀ c a a' w, a.defers = a'.defers → Q (.panic c) a w → Q (.panic c) a' w) : ∀ (l : List Oper) (i : Nat) (a : Act) (w : World), i + l.length = ops.size → l = ops.toList.drop i → (nS ≤ l.length → S w) → gdw P ops Q S eff rd nS l a w →
     wpR P ops Q S rd (ops.size - i) ((Array.replicate i true) ++ (Array.replicate (ops.size - i) false)) a w := by
 unfold drawOk at hD
 rw [Bool.and_eq_true, List.all_eq_true] at hD
 obtain ⟨hns, hall⟩ := hD
 intro l
 induction l with
 | nil =>
   intro i a w hi hl hS h
   simp at hi; subst hi
   have hr : Region.ready .any ops ((Array.replicate ops.size true) ++ (Array.replicate (ops.size - ops.size) false)) = [] := by
     simp [Region.ready, List.filter_eq_nil_iff]
     intro j hj hc
     simp [hj] at hc
   rw [Nat.sub_self] at *
   exact ⟨hr, h⟩
 | cons o rest ih =>
   intro i a w hi hl hS h
   simp only [List.length_cons] at hi hS
   have hlt : i < ops.size := by omega
   have ho : ops[i]? = some o := by
     have : (ops.toList.drop i)[0]? = some o := by rw [← hl]; rfl
     simpa using this
   have hrest : rest = ops.toList.drop (i + 1) := by
     have : (ops.toList.drop i).tail = rest := by rw [← hl]; rfl
     rw [← this]; simp
   have hlen : rest.length = ops.size - (i + 1) := by omega
   have hix : ops.size - (rest.length + 1) = i := by omega
   have hc := hall i (List.mem_range.2 hlt)
   have hfu : ops.size - i = (ops.size - (i + 1)) + 1 := by omega
   have hls := lst_set ops.size i hlt
   simp only [Bool.and_eq_true, Bool.or_eq_true, Nat.ble_eq, Bool.not_eq_true'] at hc
   obtain ⟨hnd, hc⟩ := hc
   unfold gdw at h
   rw [hix, hlen] at h
   by_cases he : eff.contains (ops.size - (i + 1)) = true
   · rw [if_pos he] at h hc
     have hr := eq_of_beq hc
     suffices key : wpR P ops Q S rd ((ops.size - (i + 1)) + 1) ((Array.replicate i true) ++ (Array.replicate (ops.size - i) false)) a w by
       rwa [← hfu] at key
     refine ⟨(fun e => by rw [e] at hr; cases hr), fun j hj => ?_⟩
     rw [hr] at hj
     simp at hj; subst hj
     unfold wpOp
     simp only [ho]
     split
     · rename_i hw
       rw [if_pos hw] at h
       refine .inl (Oper.wp_mono' h fun a' w' h' => ⟨fun hn _ => ?_, ?_⟩)
       · rcases hnd with hnd | hnd
         · exact h'.1 hnd
         · rw [hnd] at hn; cases hn
       · rw [hls]
         exact ih (j + 1) a' w' (by omega) hrest (by rw [hlen]; exact h'.1) h'.2
     · rename_i hw
       rw [if_neg hw] at h
       refine ⟨fun _ h => h, ?_⟩
       rw [hls]
       exact ih (j + 1) _ w (by omega) hrest (fun e => hS (by omega)) h
   · rw [if_neg he] at h
     rw [if_neg he, Bool.and_eq_true] at hc
     obtain ⟨v, hy, h⟩ := h
     suffices key : wpR P ops Q S rd ((ops.size - (i + 1)) + 1) ((Array.replicate i true) ++ (Array.replicate (ops.size - i) false)) a w by
       rwa [← hfu] at key
     have hk := ih (i + 1) _ w (by omega) hrest (fun e => hS (by omega)) h
     rw [← hls] at hk
     have hf := Region.free_spec ho hc.1
     rcases hy with hy | ⟨hrd, hn, hy⟩
     · exact wpR_take ho hns hQ (.inl fun _ => trivial) _ _ a w hf (by simpa using hc.2) hy trivial hk
     · exact wpR_take ho hns hQ (.inr ⟨by simpa using hrd, rfl⟩) _ _ a w hf (by simpa using hc.2) hy (hS (by rw [hlen]; exact hn)) hk
section
variable {P : Program} {ops : Array Oper} {Q : Exit → Act → World → Prop} {γ : Gd P ops Q} {rest : List Oper} {o : Oper} {E w : World} {H : GH} {N : Nat} {D : List Deferred} {F : List (Nat × Value)} {L : List It} {a : Act}
theorem val {v : Value} {w' : World} {H' : GH} {L' : List It} {d : Nat} (h : S E H N D F L a w) (hw : wn ops F o = some true) (hd : o.dst = some d) (hN : Nat.blt d N = true)
   (hE : γ.isE rest.length = true) (hS : γ.isN rest.length = true → ∀ w, St E H' L' w → γ.S w)
   (hrun : (execOp a.eval o).run P w = .ok (.value v) w') (hst : St E H' L' w') (k : ∀ a w, S E H' N D ((d, v) :: F) L' a w → γ.G rest a w) : γ.G (o :: rest) a w := by
 refine γ.eff hE (wanted_of h.ag hw) ?_
 unfold Oper.wp
 rw [hrun, Oper.upon_value, hd]
 exact ⟨fun e => hS e _ hst, k _ _ ⟨h.ag.put (by simpa [Nat.blt_eq] using hN) v, hst⟩⟩
theorem unit_ {w' : World} {H' : GH} {L' : List It} (h : S E H N D F L a w) (hw : wn ops F o = some true) (hd : o.dst = none)
   (hE : γ.isE rest.length = true) (hS : γ.isN rest.length = true → ∀ w, St E H' L' w → γ.S w)
   (hrun : (execOp a.eval o).run P w = .ok .skip w') (hst : St E H' L' w') (k : ∀ a w, S E H' N D F L' a w → γ.G rest a w) : γ.G (o :: rest) a w := by
 refine γ.eff hE (wanted_of h.ag hw) ?_
 unfold Oper.wp
 rw [hrun, Oper.upon_skip, hd]
 exact ⟨fun e => hS e _ hst, k _ _ ⟨h.ag, hst⟩⟩
theorem sk {d : Nat} (h : S E H N D F L a w) (k : ∀ a w, S E H N D ((d, undef) :: F) L a w → γ.G rest a w) (hw : wn ops F o = some false := by rfl) (hd : o.dst = some d := by rfl) (hN : Nat.blt d N = true := by rfl) : γ.G (o :: rest) a w := by
 refine γ.skip (wanted_of h.ag hw) ?_
 rw [hd]
 exact k _ _ ⟨h.ag.put (by simpa [Nat.blt_eq] using hN) undef, h.st⟩
theorem sk0 (h : S E H N D F L a w) (k : ∀ a w, S E H N D F L a w → γ.G rest a w) (hw : wn ops F o = some false := by rfl) (hd : o.dst = none := by rfl) : γ.G (o :: rest) a w := by
 refine γ.skip (wanted_of h.ag hw) ?_
 rw [hd]
 exact k _ _ h
theorem S.spl {b : Bool} {d : Nat} {G : Prop} (h : S E H N D ((d, .bool b) :: F) L a w) (kT : b = true → S E H N D ((d, .bool true) :: F) L a w → G) (kF : b = false → S E H N D ((d, .bool false) :: F) L a w → G) : G := by
 cases b
 · exact kF rfl h
 · exact kT rfl h
theorem nl0 (h : Q .normal a w) : γ.G [] a w := γ.nil h
theorem rdv {v : Value} {d : Nat} (h : S E H N D F L a w) (hR : γ.isR rest.length = true) (hS : γ.S w) (hrun : ∀ w', γ.W w w' → (execOp a.eval o).run P w' = .ok (.value v) w') (k : ∀ a w, S E H N D ((d, v) :: F) L a w → γ.G rest a w)
   (hw : wn ops F o = some true) (hd : o.dst = some d) (hN : Nat.blt d N = true) : γ.G (o :: rest) a w := by
 refine γ.quiet hR hS (wanted_of h.ag hw) hrun ?_
 rw [hd]
 exact k _ _ ⟨h.ag.put (by simpa [Nat.blt_eq] using hN) v, h.st⟩
theorem pv {v : Value} {d : Nat} (h : S E H N D F L a w) (hrun : ∀ w, (execOp a.eval o).run P w = .ok (.value v) w) (k : ∀ a w, S E H N D ((d, v) :: F) L a w → γ.G rest a w)
   (hw : wn ops F o = some true := by rfl) (hd : o.dst = some d := by rfl) (hN : Nat.blt d N = true := by rfl) : γ.G (o :: rest) a w := by
 refine γ.pure_ (wanted_of h.ag hw) hrun ?_
 rw [hd]
 exact k _ _ ⟨h.ag.put (by simpa [Nat.blt_eq] using hN) v, h.st⟩
theorem mv {v : Value} {d : Nat} {x : Operand} (h : S E H N D F L a w) (k : ∀ a w, S E H N D ((d, v) :: F) L a w → γ.G rest a w)
   (ho : o.op = .move x := by rfl) (hx : ev F x = some v := by rfl)
   (hw : wn ops F o = some true := by rfl) (hd : o.dst = some d := by rfl) (hN : Nat.blt d N = true := by rfl) : γ.G (o :: rest) a w :=
 pv h (fun w => by simp [execOp, ho, h.ag.ev hx]) k hw hd hN
theorem as_ {v : Value} {d : Nat} {x : Operand} (h : S E H N D F L a w) (k : ∀ a w, S E H N D ((d, v) :: F) L a w → γ.G rest a w)
   (ho : o.op = .assign x := by rfl) (hx : ev F x = some v := by rfl)
   (hw : wn ops F o = some true := by rfl) (hd : o.dst = some d := by rfl) (hN : Nat.blt d N = true := by rfl) : γ.G (o :: rest) a w :=
 pv h (fun w => by simp [execOp, ho, h.ag.ev hx]) k hw hd hN
theorem pkT {v : Value} {d : Nat} {c x y : Operand} (h : S E H N D F L a w) (k : ∀ a w, S E H N D ((d, v) :: F) L a w → γ.G rest a w)
   (ho : o.op = .pick c x y := by rfl) (hc : ev F c = some (.bool true) := by rfl) (hx : ev F x = some v := by rfl)
   (hw : wn ops F o = some true := by rfl) (hd : o.dst = some d := by rfl) (hN : Nat.blt d N = true := by rfl) : γ.G (o :: rest) a w :=
 pv h (fun w => by simp [execOp, ho, h.ag.ev hc, h.ag.ev hx, asBool]) k hw hd hN
theorem pkF {v : Value} {d : Nat} {c x y : Operand} (h : S E H N D F L a w) (k : ∀ a w, S E H N D ((d, v) :: F) L a w → γ.G rest a w)
   (ho : o.op = .pick c x y := by rfl) (hc : ev F c = some (.bool false) := by rfl) (hx : ev F y = some v := by rfl)
   (hw : wn ops F o = some true := by rfl) (hd : o.dst = some d := by rfl) (hN : Nat.blt d N = true := by rfl) : γ.G (o :: rest) a w :=
 pv h (fun w => by simp [execOp, ho, h.ag.ev hc, h.ag.ev hx, asBool]) k hw hd hN
theorem nc {p : Addr} {d : Nat} {x : Operand} (h : S E H N D F L a w) (k : ∀ a w, S E H N D ((d, .pointer (some p)) :: F) L a w → γ.G rest a w)
   (ho : o.op = .nilCheck x := by rfl) (hx : ev F x = some (.pointer (some p)) := by rfl)
   (hw : wn ops F o = some true := by rfl) (hd : o.dst = some d := by rfl) (hN : Nat.blt d N = true := by rfl) : γ.G (o :: rest) a w :=
 pv h (fun w => by simp [execOp, ho, h.ag.ev hx]) k hw hd hN
theorem ex {vs : Array Value} {v : Value} {d i : Nat} {x : Operand} (h : S E H N D F L a w) (k : ∀ a w, S E H N D ((d, v) :: F) L a w → γ.G rest a w)
   (ho : o.op = .extract x i := by rfl) (hx : ev F x = some (.tuple vs) := by rfl) (hv : vs.toList[i]? = some v := by rfl)
   (hw : wn ops F o = some true := by rfl) (hd : o.dst = some d := by rfl) (hN : Nat.blt d N = true := by rfl) : γ.G (o :: rest) a w :=
 pv h (fun w => by simp [execOp, ho, h.ag.ev hx, Instr.extract, (Array.getElem?_toList ..).symm.trans hv]) k hw hd hN
def evs (F : List (Nat × Value)) : List Operand → Option (List Value)
 | [] => some []
 | x :: l => match ev F x, evs F l with
   | some v, some vs => some (v :: vs)
   | _, _ => none
theorem Ag.evs {F : List (Nat × Value)} (h : Ag N D F a) : ∀ {l : List Operand} {vs : List Value}, X.evs F l = some vs → l.map a.eval = vs
 | [], vs, e => by simp [X.evs] at e; subst e; rfl
 | x :: l, vs, e => by
   simp only [X.evs] at e
   split at e
   · rename_i v us hv hus
     cases e
     simp [h.ev hv, Ag.evs h hus]
   · cases e
theorem mf {cs : List Operand} {fn : Fn} {vs : List Value} {d : Nat} (h : S E H N D F L a w) (k : ∀ a w, S E H N D ((d, .func fn #[] vs.toArray) :: F) L a w → γ.G rest a w)
   (ho : o.op = .makeFunc fn #[] cs.toArray := by rfl) (hx : evs F cs = some vs := by rfl)
   (hw : wn ops F o = some true := by rfl) (hd : o.dst = some d := by rfl) (hN : Nat.blt d N = true := by rfl) : γ.G (o :: rest) a w :=
 pv h (fun w => by simp [execOp, ho, Instr.makeFunc, h.ag.evs hx]) k hw hd hN
/-! #### numbers -/
theorem bo {op : BinOp} {t u : TypeId} {x y : Operand} {v vx vy : Value} {d : Nat} (hr : ∀ w, (do eqGuard op t x y vx vy; binOp op t vx vy : Sem Value).run P w = .ok v w) (h : S E H N D F L a w)
   (k : ∀ a w, S E H N D ((d, v) :: F) L a w → γ.G rest a w)
   (ho : o.op = .binOp op t x y u := by rfl) (hx : ev F x = some vx := by rfl) (hy : ev F y = some vy := by rfl)
   (hw : wn ops F o = some true := by rfl) (hd : o.dst = some d := by rfl) (hN : Nat.blt d N = true := by rfl) : γ.G (o :: rest) a w :=
 pv h (fun w => by
   have := hr w
   simp [execOp, ho, h.ag.ev hx, h.ag.ev hy] at this ⊢
   generalize Sem.run P (eqGuard op t x y vx vy) w = r at this ⊢
   cases r with
   | ok p w' => simp at this ⊢; rw [this]; rfl
   | halt e w' => simp at this) k hw hd hN
variable {t u : TypeId} {x y : Operand} {d : Nat} {kd : IntKind} {m n : Int}
theorem run_int (op : BinOp) (v : Value) (hv : ∀ w, (binOp op t (.int kd m) (.int kd n)).run P w = .ok v w) (w : World) :
   (do eqGuard op t x y (.int kd m) (.int kd n); binOp op t (.int kd m) (.int kd n) : Sem Value).run P w = .ok v w := by
 unfold eqGuard
 cases op <;> simp [hv]
theorem add (h : S E H N D F L a w) (k : ∀ a w, S E H N D ((d, .int kd (kd.wrap (m + n))) :: F) L a w → γ.G rest a w)
   (ho : o.op = .binOp .add t x y u := by rfl) (hx : ev F x = some (.int kd m) := by rfl) (hy : ev F y = some (.int kd n) := by rfl)
   (hw : wn ops F o = some true := by rfl) (hd : o.dst = some d := by rfl) (hN : Nat.blt d N = true := by rfl) : γ.G (o :: rest) a w :=
 bo (run_int _ _ (fun w => by simp [binOp, Op.intArith])) h k ho hx hy hw hd hN
theorem sb (h : S E H N D F L a w) (k : ∀ a w, S E H N D ((d, .int kd (kd.wrap (m - n))) :: F) L a w → γ.G rest a w)
   (ho : o.op = .binOp .sub t x y u := by rfl) (hx : ev F x = some (.int kd m) := by rfl) (hy : ev F y = some (.int kd n) := by rfl)
   (hw : wn ops F o = some true := by rfl) (hd : o.dst = some d := by rfl) (hN : Nat.blt d N = true := by rfl) : γ.G (o :: rest) a w :=
 bo (run_int _ _ (fun w => by simp [binOp, Op.intArith])) h k ho hx hy hw hd hN
theorem eqi (h : S E H N D F L a w) (k : ∀ a w, S E H N D ((d, .bool (m == n)) :: F) L a w → γ.G rest a w)
   (ho : o.op = .binOp .eql t x y u := by rfl) (hx : ev F x = some (.int kd m) := by rfl) (hy : ev F y = some (.int kd n) := by rfl)
   (hw : wn ops F o = some true := by rfl) (hd : o.dst = some d := by rfl) (hN : Nat.blt d N = true := by rfl) : γ.G (o :: rest) a w :=
 bo (run_int _ _ (fun w => by simp [binOp, Op.intCmp])) h k ho hx hy hw hd hN
theorem nei (h : S E H N D F L a w) (k : ∀ a w, S E H N D ((d, .bool (m != n)) :: F) L a w → γ.G rest a w)
   (ho : o.op = .binOp .neq t x y u := by rfl) (hx : ev F x = some (.int kd m) := by rfl) (hy : ev F y = some (.int kd n) := by rfl)
   (hw : wn ops F o = some true := by rfl) (hd : o.dst = some d := by rfl) (hN : Nat.blt d N = true := by rfl) : γ.G (o :: rest) a w :=
 bo (run_int _ _ (fun w => by simp [binOp, Op.intCmp])) h k ho hx hy hw hd hN
theorem lt (h : S E H N D F L a w) (k : ∀ a w, S E H N D ((d, .bool (decide (m < n))) :: F) L a w → γ.G rest a w)
   (ho : o.op = .binOp .lss t x y u := by rfl) (hx : ev F x = some (.int kd m) := by rfl) (hy : ev F y = some (.int kd n) := by rfl)
   (hw : wn ops F o = some true := by rfl) (hd : o.dst = some d := by rfl) (hN : Nat.blt d N = true := by rfl) : γ.G (o :: rest) a w :=
 bo (run_int _ _ (fun w => by simp [binOp, Op.intCmp])) h k ho hx hy hw hd hN
theorem le (h : S E H N D F L a w) (k : ∀ a w, S E H N D ((d, .bool (decide (m ≤ n))) :: F) L a w → γ.G rest a w)
   (ho : o.op = .binOp .leq t x y u := by rfl) (hx : ev F x = some (.int kd m) := by rfl) (hy : ev F y = some (.int kd n) := by rfl)
   (hw : wn ops F o = some true := by rfl) (hd : o.dst = some d := by rfl) (hN : Nat.blt d N = true := by rfl) : γ.G (o :: rest) a w :=
 bo (run_int _ _ (fun w => by simp [binOp, Op.intCmp])) h k ho hx hy hw hd hN
theorem gt (h : S E H N D F L a w) (k : ∀ a w, S E H N D ((d, .bool (decide (n < m))) :: F) L a w → γ.G rest a w)
   (ho : o.op = .binOp .gtr t x y u := by rfl) (hx : ev F x = some (.int kd m) := by rfl) (hy : ev F y = some (.int kd n) := by rfl)
   (hw : wn ops F o = some true := by rfl) (hd : o.dst = some d := by rfl) (hN : Nat.blt d N = true := by rfl) : γ.G (o :: rest) a w :=
 bo (run_int _ _ (fun w => by simp [binOp, Op.intCmp])) h k ho hx hy hw hd hN
theorem ge (h : S E H N D F L a w) (k : ∀ a w, S E H N D ((d, .bool (decide (n ≤ m))) :: F) L a w → γ.G rest a w)
   (ho : o.op = .binOp .geq t x y u := by rfl) (hx : ev F x = some (.int kd m) := by rfl) (hy : ev F y = some (.int kd n) := by rfl)
   (hw : wn ops F o = some true := by rfl) (hd : o.dst = some d := by rfl) (hN : Nat.blt d N = true := by rfl) : γ.G (o :: rest) a w :=
 bo (run_int _ _ (fun w => by simp [binOp, Op.intCmp])) h k ho hx hy hw hd hN
end
section
variable {P : Program} {ops : Array Oper} {Q : Exit → Act → World → Prop} {γ : Gd P ops Q} {rest : List Oper} {o : Oper} {E w : World} {H : GH} {N : Nat} {D : List Deferred} {F : List (Nat × Value)} {L : List It} {a : Act}
variable {t u : TypeId} {x y : Operand} {d : Nat} {v : Value} {g off : Nat} {cs : Array Value} {ty : TypeId}
/-! ### Addresses -/
theorem run_field {s f fo : Nat} (hf : fldT P s f = some fo) (g off : Nat) (w : World) :
   (Instr.fieldAt s (.pointer (some ⟨g, off, none⟩)) f).run P w = .ok (.pointer (some ⟨g, off + fo, none⟩)) w := by
 unfold fldT at hf
 split at hf
 · rename_i fs hu
   split at hf
   · rename_i fd hfd
     split at hf
     · rename_i j hj
       split at hf
       · cases hf
       · rename_i hz
         cases hf
         unfold Instr.fieldAt
         rw [Sem.run_bind, run_underlying hu]
         simp [hfd, Instr.sureAddr, fieldPlace, sizeOf, typeInfo, hj, hz, Addr.add_mid]
     · cases hf
   · cases hf
 · cases hf
theorem fa {s f fo r : Nat} (hf : fldT P s f = some fo) (h : S E H N D F L a w) (k : ∀ a w, S E H N D ((d, .pointer (some ⟨g, r, none⟩)) :: F) L a w → γ.G rest a w)
   (ho : o.op = .fieldAddr s x f := by rfl) (hx : ev F x = some (.pointer (some ⟨g, off, none⟩)) := by rfl) (hr : off + fo = r := by rfl)
   (hw : wn ops F o = some true := by rfl) (hd : o.dst = some d := by rfl) (hN : Nat.blt d N = true := by rfl) : γ.G (o :: rest) a w :=
 pv h (fun w => by subst hr; simp [execOp, ho, h.ag.ev hx, run_field hf]) k hw hd hN
/-! ### Own blocks -/
theorem cell_own {z : Nat × Nat} (hg : w.heap[g]? = some (.cells cs ty z)) (i : Nat) : w.cell? ⟨g, i, none⟩ = cs[i]? := by simp [World.cell?, hg]
theorem al {zv : Value} (hz : zrT P t = some zv) (h : S E H N D F L a w) (k : ∀ g a w, S E H N D ((d, .pointer (some ⟨g, 0, none⟩)) :: F) (.obj g (.cells cs t (0, 0)) :: L) a w → γ.G rest a w)
   (ho : o.op = .alloc t := by rfl) (hc : zv.cells = cs := by rfl)
   (hw : wn ops F o = some true := by rfl) (hd : o.dst = some d := by rfl) (hN : Nat.blt d N = true := by rfl) (hE : γ.isE rest.length = true := by rfl) (hS : γ.isN rest.length = true → ∀ g w, St E H (.obj g (.cells cs t (0, 0)) :: L) w → γ.S w := by first | exact fun e => Bool.noConfusion (show false = true from e) | exact fun _ _ _ hw => hw.sees' LE.rfl (by simp) | exact fun _ _ _ hw => hw.sees' (by assumption) (by simp)) : γ.G (o :: rest) a w := by
 subst hc
 refine val h hw hd hN hE (fun e => hS e _) (w' := w.alloc (.cells zv.cells t)) ?_ (h.st.alloc _) (k _)
 unfold zrT at hz
 split at hz
 · rename_i i hi
   simp [execOp, ho, Instr.alloc, zeroValue, typeInfo, hi, hz, newVar, newRow, newObj, Sem.run, World.alloc_eq]
 · cases hz
theorem bx1 (h : S E H N D F L a w) (k : ∀ g a w, S E H N D ((d, .pointer (some ⟨g, 0, none⟩)) :: F) (.obj g (.cells #[v] t (0, 0)) :: L) a w → γ.G rest a w)
   (ho : o.op = .box t x := by rfl) (hx : ev F x = some v := by rfl) (hc : v.cells = #[v] := by rfl)
   (hw : wn ops F o = some true := by rfl) (hd : o.dst = some d := by rfl) (hN : Nat.blt d N = true := by rfl) (hE : γ.isE rest.length = true := by rfl) (hS : γ.isN rest.length = true → ∀ g w, St E H (.obj g (.cells #[v] t (0, 0)) :: L) w → γ.S w := by first | exact fun e => Bool.noConfusion (show false = true from e) | exact fun _ _ _ hw => hw.sees' LE.rfl (by simp) | exact fun _ _ _ hw => hw.sees' (by assumption) (by simp)) : γ.G (o :: rest) a w := by
 refine val h hw hd hN hE (fun e => hS e _) (w' := w.alloc (.cells #[v] t)) ?_ (h.st.alloc _) (k _)
 simp [execOp, ho, h.ag.ev hx, Instr.box, newVar, newRow, newObj, Sem.run, World.alloc_eq, hc]
theorem bxA (h : S E H N D F L a w) (k : ∀ g a w, S E H N D ((d, .pointer (some ⟨g, 0, none⟩)) :: F) (.obj g (.cells cs t (0, 0)) :: L) a w → γ.G rest a w)
   (ho : o.op = .box t x := by rfl) (hx : ev F x = some (.agg cs) := by rfl)
   (hw : wn ops F o = some true := by rfl) (hd : o.dst = some d := by rfl) (hN : Nat.blt d N = true := by rfl) (hE : γ.isE rest.length = true := by rfl) (hS : γ.isN rest.length = true → ∀ g w, St E H (.obj g (.cells cs t (0, 0)) :: L) w → γ.S w := by first | exact fun e => Bool.noConfusion (show false = true from e) | exact fun _ _ _ hw => hw.sees' LE.rfl (by simp) | exact fun _ _ _ hw => hw.sees' (by assumption) (by simp)) : γ.G (o :: rest) a w := by
 refine val h hw hd hN hE (fun e => hS e _) (w' := w.alloc (.cells cs t)) ?_ (h.st.alloc _) (k _)
 simp [execOp, ho, h.ag.ev hx, Instr.box, newVar, newRow, newObj, Sem.run, World.alloc_eq, Value.cells]
theorem item_at {i : It} {k : Nat} (h : Sees H L w) (hk : L[k]? = some i) : i.holds w := h.holds i (List.mem_of_getElem? hk)
theorem run_loadAt1 (ht : ty1 P t = true) (hc : w.cell? ⟨g, off, none⟩ = some v) : (Instr.loadAt t (.pointer (some ⟨g, off, none⟩))).run P w = .ok v w := by
 simp [Instr.loadAt, Instr.sureAddr, run_load1 ht _ v hc]
theorem run_loadAtN {n : Nat} {l : List Value} (ht : tyN P t n = true) (hl : l.length = n) (hc : ∀ j v, l[j]? = some v → w.cell? ⟨g, off + j, none⟩ = some v) :
   (Instr.loadAt t (.pointer (some ⟨g, off, none⟩))).run P w = .ok (.agg l.toArray) w := by
 simp [Instr.loadAt, Instr.sureAddr, run_loadN ht g off l hl hc]
theorem ldX {H1 : GH} {L1 : List It} (k0 : Nat) {z : Nat × Nat} (ht : ty1 P t = true) (h : S E H N D F L a w) (hR : γ.isR rest.length = true) (hSw : γ.S w) (hW : ∀ w', γ.W w w' → Sees H1 L1 w') (k : ∀ a w, S E H N D ((d, v) :: F) L a w → γ.G rest a w)
   (ho : o.op = .load t x ) (hx : ev F x = some (.pointer (some ⟨g, off, none⟩)) ) (hk : L1[k0]? = some (.obj g (.cells cs ty z)) ) (hv : cs.toList[off]? = some v)
   (hw : wn ops F o = some true ) (hd : o.dst = some d ) (hN : Nat.blt d N = true ) : γ.G (o :: rest) a w :=
 rdv h hR hSw (fun w' hw' => by simp [execOp, ho, h.ag.ev hx, run_loadAt1 (P := P) ht ((cell_own (item_at (hW w' hw') hk) off).trans ((Array.getElem?_toList ..).symm.trans hv))]) k hw hd hN
theorem ld (k0 : Nat) {z : Nat × Nat} (ht : ty1 P t = true) (h : S E H N D F L a w) (k : ∀ a w, S E H N D ((d, v) :: F) L a w → (gl P ops Q).G rest a w)
   (ho : o.op = .load t x := by rfl) (hx : ev F x = some (.pointer (some ⟨g, off, none⟩)) := by rfl) (hk : L[k0]? = some (.obj g (.cells cs ty z)) := by rfl) (hv : cs.toList[off]? = some v := by rfl)
   (hw : wn ops F o = some true := by rfl) (hd : o.dst = some d := by rfl) (hN : Nat.blt d N = true := by rfl) : (gl P ops Q).G (o :: rest) a w :=
 ldX k0 ht h rfl trivial (fun w' e => e ▸ h.st.sees) k ho hx hk hv hw hd hN
theorem ldD {H1 : GH} {L1 : List It} {eff rd : List Nat} {nS : Nat} (k0 : Nat) {z : Nat × Nat} (ht : ty1 P t = true) (h : S E H N D F L a w) (k : ∀ a w, S E H N D ((d, v) :: F) L a w → (gd P ops Q (Sees H1 L1) eff rd nS).G rest a w)
   (ho : o.op = .load t x := by rfl) (hx : ev F x = some (.pointer (some ⟨g, off, none⟩)) := by rfl) (hk : L1[k0]? = some (.obj g (.cells cs ty z)) := by rfl) (hv : cs.toList[off]? = some v := by rfl)
   (hw : wn ops F o = some true := by rfl) (hd : o.dst = some d := by rfl) (hN : Nat.blt d N = true := by rfl) (hR : (gd P ops Q (Sees H1 L1) eff rd nS).isR rest.length = true := by rfl) (hSub : ∀ i ∈ L1, i ∈ L := by simp) (hLe : LE H1 H := by first | exact LE.rfl | assumption) : (gd P ops Q (Sees H1 L1) eff rd nS).G (o :: rest) a w :=
 ldX k0 ht h hR (h.st.sees' hLe hSub) (fun w' e => e) k ho hx hk hv hw hd hN
theorem ldWX {H1 : GH} {L1 : List It} (k0 : Nat) {z : Nat × Nat} {n : Nat} (ht : tyN P t n = true) (h : S E H N D F L a w) (hR : γ.isR rest.length = true) (hSw : γ.S w) (hW : ∀ w', γ.W w w' → Sees H1 L1 w') (k : ∀ a w, S E H N D ((d, .agg cs) :: F) L a w → γ.G rest a w)
   (ho : o.op = .load t x ) (hx : ev F x = some (.pointer (some ⟨g, 0, none⟩)) ) (hk : L1[k0]? = some (.obj g (.cells cs ty z)) ) (hn : cs.size = n )
   (hw : wn ops F o = some true ) (hd : o.dst = some d ) (hN : Nat.blt d N = true ) : γ.G (o :: rest) a w := by
 refine rdv h hR hSw (fun w' hw' => ?_) k hw hd hN
 have := run_loadAtN (P := P) (w := w') (g := g) (off := 0) (l := cs.toList) ht (by simpa using hn) (fun j v hv => by
   rw [Nat.zero_add, cell_own (item_at (hW w' hw') hk) j]; simpa using hv)
 simp at this
 simp [execOp, ho, h.ag.ev hx, this]
theorem ldW (k0 : Nat) {z : Nat × Nat} {n : Nat} (ht : tyN P t n = true) (h : S E H N D F L a w) (k : ∀ a w, S E H N D ((d, .agg cs) :: F) L a w → (gl P ops Q).G rest a w)
   (ho : o.op = .load t x := by rfl) (hx : ev F x = some (.pointer (some ⟨g, 0, none⟩)) := by rfl) (hk : L[k0]? = some (.obj g (.cells cs ty z)) := by rfl) (hn : cs.size = n := by rfl)
   (hw : wn ops F o = some true := by rfl) (hd : o.dst = some d := by rfl) (hN : Nat.blt d N = true := by rfl) : (gl P ops Q).G (o :: rest) a w :=
 ldWX k0 ht h rfl trivial (fun w' e => e ▸ h.st.sees) k ho hx hk hn hw hd hN
theorem ldWD {H1 : GH} {L1 : List It} {eff rd : List Nat} {nS : Nat} (k0 : Nat) {z : Nat × Nat} {n : Nat} (ht : tyN P t n = true) (h : S E H N D F L a w) (k : ∀ a w, S E H N D ((d, .agg cs) :: F) L a w → (gd P ops Q (Sees H1 L1) eff rd nS).G rest a w)
   (ho : o.op = .load t x := by rfl) (hx : ev F x = some (.pointer (some ⟨g, 0, none⟩)) := by rfl) (hk : L1[k0]? = some (.obj g (.cells cs ty z)) := by rfl) (hn : cs.size = n := by rfl)
   (hw : wn ops F o = some true := by rfl) (hd : o.dst = some d := by rfl) (hN : Nat.blt d N = true := by rfl) (hR : (gd P ops Q (Sees H1 L1) eff rd nS).isR rest.length = true := by rfl) (hSub : ∀ i ∈ L1, i ∈ L := by simp) (hLe : LE H1 H := by first | exact LE.rfl | assumption) : (gd P ops Q (Sees H1 L1) eff rd nS).G (o :: rest) a w :=
 ldWX k0 ht h hR (h.st.sees' hLe hSub) (fun w' e => e) k ho hx hk hn hw hd hN
theorem ldNX {H1 : GH} {L1 : List It} (k0 : Nat) {z : Nat × Nat} {n : Nat} {l : List Value} (ht : tyN P t n = true) (h : S E H N D F L a w) (hR : γ.isR rest.length = true) (hSw : γ.S w) (hW : ∀ w', γ.W w w' → Sees H1 L1 w') (k : ∀ a w, S E H N D ((d, .agg l.toArray) :: F) L a w → γ.G rest a w)
   (ho : o.op = .load t x ) (hx : ev F x = some (.pointer (some ⟨g, off, none⟩)) ) (hk : L1[k0]? = some (.obj g (.cells cs ty z)) )
   (hl : (cs.toList.drop off).take n = l ) (hn : l.length = n )
   (hw : wn ops F o = some true ) (hd : o.dst = some d ) (hN : Nat.blt d N = true ) : γ.G (o :: rest) a w := by
 refine rdv h hR hSw (fun w' hw' => ?_) k hw hd hN
 have := run_loadAtN (P := P) (w := w') (g := g) (off := off) (l := l) ht hn (fun j v hv => by
   rw [cell_own (item_at (hW w' hw') hk) _]
   subst hl
   rw [List.getElem?_take] at hv
   split at hv
   · simpa using hv
   · cases hv)
 simp [execOp, ho, h.ag.ev hx, this]
theorem ldN (k0 : Nat) {z : Nat × Nat} {n : Nat} {l : List Value} (ht : tyN P t n = true) (h : S E H N D F L a w) (k : ∀ a w, S E H N D ((d, .agg l.toArray) :: F) L a w → (gl P ops Q).G rest a w)
   (ho : o.op = .load t x := by rfl) (hx : ev F x = some (.pointer (some ⟨g, off, none⟩)) := by rfl) (hk : L[k0]? = some (.obj g (.cells cs ty z)) := by rfl)
   (hl : (cs.toList.drop off).take n = l := by rfl) (hn : l.length = n := by rfl)
   (hw : wn ops F o = some true := by rfl) (hd : o.dst = some d := by rfl) (hN : Nat.blt d N = true := by rfl) : (gl P ops Q).G (o :: rest) a w :=
 ldNX k0 ht h rfl trivial (fun w' e => e ▸ h.st.sees) k ho hx hk hl hn hw hd hN
theorem ldND {H1 : GH} {L1 : List It} {eff rd : List Nat} {nS : Nat} (k0 : Nat) {z : Nat × Nat} {n : Nat} {l : List Value} (ht : tyN P t n = true) (h : S E H N D F L a w) (k : ∀ a w, S E H N D ((d, .agg l.toArray) :: F) L a w → (gd P ops Q (Sees H1 L1) eff rd nS).G rest a w)
   (ho : o.op = .load t x := by rfl) (hx : ev F x = some (.pointer (some ⟨g, off, none⟩)) := by rfl) (hk : L1[k0]? = some (.obj g (.cells cs ty z)) := by rfl)
   (hl : (cs.toList.drop off).take n = l := by rfl) (hn : l.length = n := by rfl)
   (hw : wn ops F o = some true := by rfl) (hd : o.dst = some d := by rfl) (hN : Nat.blt d N = true := by rfl) (hR : (gd P ops Q (Sees H1 L1) eff rd nS).isR rest.length = true := by rfl) (hSub : ∀ i ∈ L1, i ∈ L := by simp) (hLe : LE H1 H := by first | exact LE.rfl | assumption) : (gd P ops Q (Sees H1 L1) eff rd nS).G (o :: rest) a w :=
 ldNX k0 ht h hR (h.st.sees' hLe hSub) (fun w' e => e) k ho hx hk hl hn hw hd hN
def wr (cs : Array Value) (o : Nat) : List Value → Array Value
 | [] => cs
 | v :: l => wr (cs.setIfInBounds o v) (o + 1) l
theorem heap_setCell (hg : w.heap[g]? = some (.cells cs ty (0, 0))) (v : Value) (b : Nat) :
   (w.setCell ⟨g, off, none⟩ v).heap[b]? = if b = g then some (.cells (cs.setIfInBounds off v) ty (0, 0)) else w.heap[b]? := by
 simp only [World.setCell, Array.getElem?_modify]
 split
 · rename_i e; subst e
   simp [hg]
 · rename_i e
   rw [if_neg (fun e' => e (by omega))]
theorem run_stores : ∀ (l : List Value) (i : Nat) (cs : Array Value) (w : World), w.heap[g]? = some (.cells cs ty (0, 0)) → off + i + l.length ≤ cs.size → (∀ v ∈ l, v.oneCell' = true) →
   ∃ w', (storeCells ⟨g, off, none⟩ l i).run P w = .ok () w' ∧ w'.os = w.os ∧ w'.tape = w.tape ∧ w'.output = w.output ∧ w'.heap.size = w.heap.size ∧
     (∀ b, w'.heap[b]? = if b = g then some (.cells (wr cs (off + i) l) ty (0, 0)) else w.heap[b]?)
 | [], i, cs, w, hg, _, _ => ⟨w, by simp [storeCells], rfl, rfl, rfl, rfl, fun b => by
     split
     · rename_i e; subst e; exact hg
     · rfl⟩
 | v :: l, i, cs, w, hg, hl, h1 => by
   simp only [List.length_cons] at hl
   have hlt : off + i < cs.size := by omega
   have hs : (store ((⟨g, off, none⟩ : Addr).add i) v).run P w = .ok () (w.setCell ⟨g, off + i, none⟩ v) := by
     rw [Addr.add_mid]
     exact oneCell_run (h1 v (List.mem_cons_self ..)) (x := cs[off + i]) (by rw [cell_own hg]; simp [hlt]) (by simp [World.frozen?, hg])
   have hb := heap_setCell (off := off + i) hg v
   obtain ⟨w', hrun, r1, r2, r3, r4, r5⟩ := run_stores l (i + 1) (cs.setIfInBounds (off + i) v) (w.setCell ⟨g, off + i, none⟩ v) (by rw [hb g]; simp) (by simp; omega) (fun u hu => h1 u (List.mem_cons_of_mem _ hu))
   refine ⟨w', by simp [storeCells, hs, hrun], r1, r2, r3, by rw [r4]; simp [World.setCell], fun b => ?_⟩
   rw [r5 b]
   split
   · rfl
   · rename_i e; rw [hb b, if_neg e]
theorem St.wrote {k0 : Nat} {cs' : Array Value} {w' : World} (h : St E H L w) (hk : L[k0]? = some (.obj g (.cells cs ty (0, 0)))) (h1 : w'.os = w.os) (h2 : w'.tape = w.tape) (h3 : w'.output = w.output)
   (hb : ∀ b, w'.heap[b]? = if b = g then some (.cells cs' ty (0, 0)) else w.heap[b]?) : St E H (L.set k0 (.obj g (.cells cs' ty (0, 0)))) w' :=
 h.set hk (by simp [It.holds, hb]) (fun x hx => .inl hx) h1 h2 h3 (fun b _ hn => by rw [hb b, if_neg (fun e => hn (by simp [It.own, e]))])
theorem st (k0 : Nat) {L' : List It} (ht : ty1 P t = true) (h : S E H N D F L a w) (k : ∀ a w, S E H N D F L' a w → γ.G rest a w)
   (ho : o.op = .store t x y := by rfl) (hx : ev F x = some (.pointer (some ⟨g, off, none⟩)) := by rfl) (hy : ev F y = some v := by rfl)
   (hk : L[k0]? = some (.obj g (.cells cs ty (0, 0))) := by rfl) (hL : L.set k0 (.obj g (.cells (cs.setIfInBounds off v) ty (0, 0))) = L' := by rfl) (hv : Nat.blt off cs.size = true := by rfl) (h1 : v.oneCell' = true := by rfl)
   (hw : wn ops F o = some true := by rfl) (hd : o.dst = none := by rfl) (hE : γ.isE rest.length = true := by rfl) (hS : γ.isN rest.length = true → ∀ w, St E H L' w → γ.S w := by first | exact fun e => Bool.noConfusion (show false = true from e) | exact fun _ _ hw => hw.sees' LE.rfl (by simp) | exact fun _ _ hw => hw.sees' (by assumption) (by simp)) : γ.G (o :: rest) a w := by
 obtain ⟨w', hrun, r1, r2, r3, r4, r5⟩ := run_stores (P := P) (g := g) (off := off) (ty := ty) [v] 0 cs w (item_at h.st.sees hk) (by simp [Nat.blt_eq] at hv; simp; omega) (by simpa using h1)
 subst hL
 refine unit_ h hw hd hE hS (w' := w') ?_ (h.st.wrote hk r1 r2 r3 (by simpa [wr] using r5)) k
 obtain ⟨_, hu, hnr, i, hi, hs⟩ := und_of1 ht
 have hcells : v.cells = #[v] := by cases v <;> simp_all [Value.cells, Value.oneCell']
 simp [execOp, ho, h.ag.ev hx, h.ag.ev hy, Instr.storeAt, Instr.sureAddr, storeVar, sizeOf, typeInfo, hi, hs, hcells, hrun]
theorem stW (k0 : Nat) {n : Nat} {vs : Array Value} {L' : List It} (ht : tyN P t n = true) (h : S E H N D F L a w) (k : ∀ a w, S E H N D F L' a w → γ.G rest a w)
   (ho : o.op = .store t x y := by rfl) (hx : ev F x = some (.pointer (some ⟨g, 0, none⟩)) := by rfl) (hy : ev F y = some (.agg vs) := by rfl)
   (hk : L[k0]? = some (.obj g (.cells cs ty (0, 0))) := by rfl) (hL : L.set k0 (.obj g (.cells vs ty (0, 0))) = L' := by rfl) (hn : vs.size = n := by rfl) (hn' : cs.size = n := by rfl) (h1 : vs.toList.all (·.oneCell') = true := by rfl)
   (hw : wn ops F o = some true := by rfl) (hd : o.dst = none := by rfl) (hE : γ.isE rest.length = true := by rfl) (hS : γ.isN rest.length = true → ∀ w, St E H L' w → γ.S w := by first | exact fun e => Bool.noConfusion (show false = true from e) | exact fun _ _ hw => hw.sees' LE.rfl (by simp) | exact fun _ _ hw => hw.sees' (by assumption) (by simp)) : γ.G (o :: rest) a w := by
 subst hL
 obtain ⟨d', hu, hr, hi⟩ := und_ofN ht
 have hg : w.heap[g]? = some (.cells cs ty (0, 0)) := item_at h.st.sees hk
 have hrun := run_storeVar_row (P := P) w g ty t cs vs hg (by rw [hi, hn]) (by rw [hn, hn']) (by rw [← Array.all_toList]; exact h1)
 refine unit_ h hw hd hE hS (w' := w.setRow g vs) (by simp [execOp, ho, h.ag.ev hx, h.ag.ev hy, Instr.storeAt, Instr.sureAddr, hrun]) (h.st.wrote hk rfl rfl rfl (fun b => ?_)) k
 simp only [World.setRow, Array.getElem?_modify]
 split
 · rename_i e; subst e; simp [hg]
 · rename_i e; rw [if_neg (fun e' => e (by omega))]
theorem st0 {l : List Value} (ht : ty1 P t = true) (h : S E H N D F (.obj g (.cells cs ty (0, 0)) :: L) a w) (k : ∀ a w, S E H N D F (.obj g (.cells l.toArray ty (0, 0)) :: L) a w → γ.G rest a w)
   (ho : o.op = .store t x y := by rfl) (hx : ev F x = some (.pointer (some ⟨g, off, none⟩)) := by rfl) (hy : ev F y = some v := by rfl)
   (hc : cs.toList.set off v = l := by rfl) (hv : Nat.blt off cs.size = true := by rfl) (h1 : v.oneCell' = true := by rfl)
   (hw : wn ops F o = some true := by rfl) (hd : o.dst = none := by rfl) (hE : γ.isE rest.length = true := by rfl) (hS : γ.isN rest.length = true → ∀ w, St E H (.obj g (.cells l.toArray ty (0, 0)) :: L) w → γ.S w := by first | exact fun e => Bool.noConfusion (show false = true from e) | exact fun _ _ hw => hw.sees' LE.rfl (by simp) | exact fun _ _ hw => hw.sees' (by assumption) (by simp)) : γ.G (o :: rest) a w := st 0 ht h k ho hx hy rfl (by subst hc; simp only [List.set_cons_zero, List.set_cons_succ]; congr; simp [← Array.toList_setIfInBounds]) hv h1 hw hd hE hS
theorem sw0 {n : Nat} {vs : Array Value} (ht : tyN P t n = true) (h : S E H N D F (.obj g (.cells cs ty (0, 0)) :: L) a w) (k : ∀ a w, S E H N D F (.obj g (.cells vs ty (0, 0)) :: L) a w → γ.G rest a w)
   (ho : o.op = .store t x y := by rfl) (hx : ev F x = some (.pointer (some ⟨g, 0, none⟩)) := by rfl) (hy : ev F y = some (.agg vs) := by rfl)
   (hn : vs.size = n := by rfl) (hn' : cs.size = n := by rfl) (h1 : vs.toList.all (·.oneCell') = true := by rfl)
   (hw : wn ops F o = some true := by rfl) (hd : o.dst = none := by rfl) (hE : γ.isE rest.length = true := by rfl) (hS : γ.isN rest.length = true → ∀ w, St E H (.obj g (.cells vs ty (0, 0)) :: L) w → γ.S w := by first | exact fun e => Bool.noConfusion (show false = true from e) | exact fun _ _ hw => hw.sees' LE.rfl (by simp) | exact fun _ _ hw => hw.sees' (by assumption) (by simp)) : γ.G (o :: rest) a w := stW 0 ht h k ho hx hy rfl rfl hn hn' h1 hw hd hE hS
theorem st1 {i0 : It} {l : List Value} (ht : ty1 P t = true) (h : S E H N D F (i0 :: .obj g (.cells cs ty (0, 0)) :: L) a w) (k : ∀ a w, S E H N D F (i0 :: .obj g (.cells l.toArray ty (0, 0)) :: L) a w → γ.G rest a w)
   (ho : o.op = .store t x y := by rfl) (hx : ev F x = some (.pointer (some ⟨g, off, none⟩)) := by rfl) (hy : ev F y = some v := by rfl)
   (hc : cs.toList.set off v = l := by rfl) (hv : Nat.blt off cs.size = true := by rfl) (h1 : v.oneCell' = true := by rfl)
   (hw : wn ops F o = some true := by rfl) (hd : o.dst = none := by rfl) (hE : γ.isE rest.length = true := by rfl) (hS : γ.isN rest.length = true → ∀ w, St E H (i0 :: .obj g (.cells l.toArray ty (0, 0)) :: L) w → γ.S w := by first | exact fun e => Bool.noConfusion (show false = true from e) | exact fun _ _ hw => hw.sees' LE.rfl (by simp) | exact fun _ _ hw => hw.sees' (by assumption) (by simp)) : γ.G (o :: rest) a w := st 1 ht h k ho hx hy rfl (by subst hc; simp only [List.set_cons_zero, List.set_cons_succ]; congr; simp [← Array.toList_setIfInBounds]) hv h1 hw hd hE hS
theorem sw1 {i0 : It} {n : Nat} {vs : Array Value} (ht : tyN P t n = true) (h : S E H N D F (i0 :: .obj g (.cells cs ty (0, 0)) :: L) a w) (k : ∀ a w, S E H N D F (i0 :: .obj g (.cells vs ty (0, 0)) :: L) a w → γ.G rest a w)
   (ho : o.op = .store t x y := by rfl) (hx : ev F x = some (.pointer (some ⟨g, 0, none⟩)) := by rfl) (hy : ev F y = some (.agg vs) := by rfl)
   (hn : vs.size = n := by rfl) (hn' : cs.size = n := by rfl) (h1 : vs.toList.all (·.oneCell') = true := by rfl)
   (hw : wn ops F o = some true := by rfl) (hd : o.dst = none := by rfl) (hE : γ.isE rest.length = true := by rfl) (hS : γ.isN rest.length = true → ∀ w, St E H (i0 :: .obj g (.cells vs ty (0, 0)) :: L) w → γ.S w := by first | exact fun e => Bool.noConfusion (show false = true from e) | exact fun _ _ hw => hw.sees' LE.rfl (by simp) | exact fun _ _ hw => hw.sees' (by assumption) (by simp)) : γ.G (o :: rest) a w := stW 1 ht h k ho hx hy rfl rfl hn hn' h1 hw hd hE hS
theorem st2 {i0 i1 : It} {l : List Value} (ht : ty1 P t = true) (h : S E H N D F (i0 :: i1 :: .obj g (.cells cs ty (0, 0)) :: L) a w) (k : ∀ a w, S E H N D F (i0 :: i1 :: .obj g (.cells l.toArray ty (0, 0)) :: L) a w → γ.G rest a w)
   (ho : o.op = .store t x y := by rfl) (hx : ev F x = some (.pointer (some ⟨g, off, none⟩)) := by rfl) (hy : ev F y = some v := by rfl)
   (hc : cs.toList.set off v = l := by rfl) (hv : Nat.blt off cs.size = true := by rfl) (h1 : v.oneCell' = true := by rfl)
   (hw : wn ops F o = some true := by rfl) (hd : o.dst = none := by rfl) (hE : γ.isE rest.length = true := by rfl) (hS : γ.isN rest.length = true → ∀ w, St E H (i0 :: i1 :: .obj g (.cells l.toArray ty (0, 0)) :: L) w → γ.S w := by first | exact fun e => Bool.noConfusion (show false = true from e) | exact fun _ _ hw => hw.sees' LE.rfl (by simp) | exact fun _ _ hw => hw.sees' (by assumption) (by simp)) : γ.G (o :: rest) a w := st 2 ht h k ho hx hy rfl (by subst hc; simp only [List.set_cons_zero, List.set_cons_succ]; congr; simp [← Array.toList_setIfInBounds]) hv h1 hw hd hE hS
theorem sw2 {i0 i1 : It} {n : Nat} {vs : Array Value} (ht : tyN P t n = true) (h : S E H N D F (i0 :: i1 :: .obj g (.cells cs ty (0, 0)) :: L) a w) (k : ∀ a w, S E H N D F (i0 :: i1 :: .obj g (.cells vs ty (0, 0)) :: L) a w → γ.G rest a w)
   (ho : o.op = .store t x y := by rfl) (hx : ev F x = some (.pointer (some ⟨g, 0, none⟩)) := by rfl) (hy : ev F y = some (.agg vs) := by rfl)
   (hn : vs.size = n := by rfl) (hn' : cs.size = n := by rfl) (h1 : vs.toList.all (·.oneCell') = true := by rfl)
   (hw : wn ops F o = some true := by rfl) (hd : o.dst = none := by rfl) (hE : γ.isE rest.length = true := by rfl) (hS : γ.isN rest.length = true → ∀ w, St E H (i0 :: i1 :: .obj g (.cells vs ty (0, 0)) :: L) w → γ.S w := by first | exact fun e => Bool.noConfusion (show false = true from e) | exact fun _ _ hw => hw.sees' LE.rfl (by simp) | exact fun _ _ hw => hw.sees' (by assumption) (by simp)) : γ.G (o :: rest) a w := stW 2 ht h k ho hx hy rfl rfl hn hn' h1 hw hd hE hS
theorem st3 {i0 i1 i2 : It} {l : List Value} (ht : ty1 P t = true) (h : S E H N D F (i0 :: i1 :: i2 :: .obj g (.cells cs ty (0, 0)) :: L) a w) (k : ∀ a w, S E H N D F (i0 :: i1 :: i2 :: .obj g (.cells l.toArray ty (0, 0)) :: L) a w → γ.G rest a w)
   (ho : o.op = .store t x y := by rfl) (hx : ev F x = some (.pointer (some ⟨g, off, none⟩)) := by rfl) (hy : ev F y = some v := by rfl)
   (hc : cs.toList.set off v = l := by rfl) (hv : Nat.blt off cs.size = true := by rfl) (h1 : v.oneCell' = true := by rfl)
   (hw : wn ops F o = some true := by rfl) (hd : o.dst = none := by rfl) (hE : γ.isE rest.length = true := by rfl) (hS : γ.isN rest.length = true → ∀ w, St E H (i0 :: i1 :: i2 :: .obj g (.cells l.toArray ty (0, 0)) :: L) w → γ.S w := by first | exact fun e => Bool.noConfusion (show false = true from e) | exact fun _ _ hw => hw.sees' LE.rfl (by simp) | exact fun _ _ hw => hw.sees' (by assumption) (by simp)) : γ.G (o :: rest) a w := st 3 ht h k ho hx hy rfl (by subst hc; simp only [List.set_cons_zero, List.set_cons_succ]; congr; simp [← Array.toList_setIfInBounds]) hv h1 hw hd hE hS
theorem sw3 {i0 i1 i2 : It} {n : Nat} {vs : Array Value} (ht : tyN P t n = true) (h : S E H N D F (i0 :: i1 :: i2 :: .obj g (.cells cs ty (0, 0)) :: L) a w) (k : ∀ a w, S E H N D F (i0 :: i1 :: i2 :: .obj g (.cells vs ty (0, 0)) :: L) a w → γ.G rest a w)
   (ho : o.op = .store t x y := by rfl) (hx : ev F x = some (.pointer (some ⟨g, 0, none⟩)) := by rfl) (hy : ev F y = some (.agg vs) := by rfl)
   (hn : vs.size = n := by rfl) (hn' : cs.size = n := by rfl) (h1 : vs.toList.all (·.oneCell') = true := by rfl)
   (hw : wn ops F o = some true := by rfl) (hd : o.dst = none := by rfl) (hE : γ.isE rest.length = true := by rfl) (hS : γ.isN rest.length = true → ∀ w, St E H (i0 :: i1 :: i2 :: .obj g (.cells vs ty (0, 0)) :: L) w → γ.S w := by first | exact fun e => Bool.noConfusion (show false = true from e) | exact fun _ _ hw => hw.sees' LE.rfl (by simp) | exact fun _ _ hw => hw.sees' (by assumption) (by simp)) : γ.G (o :: rest) a w := stW 3 ht h k ho hx hy rfl rfl hn hn' h1 hw hd hE hS
theorem st4 {i0 i1 i2 i3 : It} {l : List Value} (ht : ty1 P t = true) (h : S E H N D F (i0 :: i1 :: i2 :: i3 :: .obj g (.cells cs ty (0, 0)) :: L) a w) (k : ∀ a w, S E H N D F (i0 :: i1 :: i2 :: i3 :: .obj g (.cells l.toArray ty (0, 0)) :: L) a w → γ.G rest a w)
   (ho : o.op = .store t x y := by rfl) (hx : ev F x = some (.pointer (some ⟨g, off, none⟩)) := by rfl) (hy : ev F y = some v := by rfl)
   (hc : cs.toList.set off v = l := by rfl) (hv : Nat.blt off cs.size = true := by rfl) (h1 : v.oneCell' = true := by rfl)
   (hw : wn ops F o = some true := by rfl) (hd : o.dst = none := by rfl) (hE : γ.isE rest.length = true := by rfl) (hS : γ.isN rest.length = true → ∀ w, St E H (i0 :: i1 :: i2 :: i3 :: .obj g (.cells l.toArray ty (0, 0)) :: L) w → γ.S w := by first | exact fun e => Bool.noConfusion (show false = true from e) | exact fun _ _ hw => hw.sees' LE.rfl (by simp) | exact fun _ _ hw => hw.sees' (by assumption) (by simp)) : γ.G (o :: rest) a w := st 4 ht h k ho hx hy rfl (by subst hc; simp only [List.set_cons_zero, List.set_cons_succ]; congr; simp [← Array.toList_setIfInBounds]) hv h1 hw hd hE hS
theorem sw4 {i0 i1 i2 i3 : It} {n : Nat} {vs : Array Value} (ht : tyN P t n = true) (h : S E H N D F (i0 :: i1 :: i2 :: i3 :: .obj g (.cells cs ty (0, 0)) :: L) a w) (k : ∀ a w, S E H N D F (i0 :: i1 :: i2 :: i3 :: .obj g (.cells vs ty (0, 0)) :: L) a w → γ.G rest a w)
   (ho : o.op = .store t x y := by rfl) (hx : ev F x = some (.pointer (some ⟨g, 0, none⟩)) := by rfl) (hy : ev F y = some (.agg vs) := by rfl)
   (hn : vs.size = n := by rfl) (hn' : cs.size = n := by rfl) (h1 : vs.toList.all (·.oneCell') = true := by rfl)
   (hw : wn ops F o = some true := by rfl) (hd : o.dst = none := by rfl) (hE : γ.isE rest.length = true := by rfl) (hS : γ.isN rest.length = true → ∀ w, St E H (i0 :: i1 :: i2 :: i3 :: .obj g (.cells vs ty (0, 0)) :: L) w → γ.S w := by first | exact fun e => Bool.noConfusion (show false = true from e) | exact fun _ _ hw => hw.sees' LE.rfl (by simp) | exact fun _ _ hw => hw.sees' (by assumption) (by simp)) : γ.G (o :: rest) a w := stW 4 ht h k ho hx hy rfl rfl hn hn' h1 hw hd hE hS
theorem st5 {i0 i1 i2 i3 i4 : It} {l : List Value} (ht : ty1 P t = true) (h : S E H N D F (i0 :: i1 :: i2 :: i3 :: i4 :: .obj g (.cells cs ty (0, 0)) :: L) a w) (k : ∀ a w, S E H N D F (i0 :: i1 :: i2 :: i3 :: i4 :: .obj g (.cells l.toArray ty (0, 0)) :: L) a w → γ.G rest a w)
   (ho : o.op = .store t x y := by rfl) (hx : ev F x = some (.pointer (some ⟨g, off, none⟩)) := by rfl) (hy : ev F y = some v := by rfl)
   (hc : cs.toList.set off v = l := by rfl) (hv : Nat.blt off cs.size = true := by rfl) (h1 : v.oneCell' = true := by rfl)
   (hw : wn ops F o = some true := by rfl) (hd : o.dst = none := by rfl) (hE : γ.isE rest.length = true := by rfl) (hS : γ.isN rest.length = true → ∀ w, St E H (i0 :: i1 :: i2 :: i3 :: i4 :: .obj g (.cells l.toArray ty (0, 0)) :: L) w → γ.S w := by first | exact fun e => Bool.noConfusion (show false = true from e) | exact fun _ _ hw => hw.sees' LE.rfl (by simp) | exact fun _ _ hw => hw.sees' (by assumption) (by simp)) : γ.G (o :: rest) a w := st 5 ht h k ho hx hy rfl (by subst hc; simp only [List.set_cons_zero, List.set_cons_succ]; congr; simp [← Array.toList_setIfInBounds]) hv h1 hw hd hE hS
theorem sw5 {i0 i1 i2 i3 i4 : It} {n : Nat} {vs : Array Value} (ht : tyN P t n = true) (h : S E H N D F (i0 :: i1 :: i2 :: i3 :: i4 :: .obj g (.cells cs ty (0, 0)) :: L) a w) (k : ∀ a w, S E H N D F (i0 :: i1 :: i2 :: i3 :: i4 :: .obj g (.cells vs ty (0, 0)) :: L) a w → γ.G rest a w)
   (ho : o.op = .store t x y := by rfl) (hx : ev F x = some (.pointer (some ⟨g, 0, none⟩)) := by rfl) (hy : ev F y = some (.agg vs) := by rfl)
   (hn : vs.size = n := by rfl) (hn' : cs.size = n := by rfl) (h1 : vs.toList.all (·.oneCell') = true := by rfl)
   (hw : wn ops F o = some true := by rfl) (hd : o.dst = none := by rfl) (hE : γ.isE rest.length = true := by rfl) (hS : γ.isN rest.length = true → ∀ w, St E H (i0 :: i1 :: i2 :: i3 :: i4 :: .obj g (.cells vs ty (0, 0)) :: L) w → γ.S w := by first | exact fun e => Bool.noConfusion (show false = true from e) | exact fun _ _ hw => hw.sees' LE.rfl (by simp) | exact fun _ _ hw => hw.sees' (by assumption) (by simp)) : γ.G (o :: rest) a w := stW 5 ht h k ho hx hy rfl rfl hn hn' h1 hw hd hE hS
end
/-! ### Control -/
section
variable {P : Program} {Q : Exit → Act → World → Prop} {E w : World} {H : GH} {N : Nat} {D : List Deferred} {F : List (Nat × Value)} {L : List It} {a : Act}
theorem sk_ (h : Q .normal a w) : Code.skip.wp P Q a w := wp_skip h
theorem sqc {c d : Code} (I : Act → World → Prop) (h : c.wp P (Exit.then I Q) a w) (k : ∀ a w, I a w → d.wp P Q a w) : (Code.seq c d).wp P Q a w :=
 wp_seq (Code.wp_mono (fun e a w q => by cases e <;> first | exact k _ _ q | exact q) h)
theorem rg0 {id : Nat} {l : List Oper} (h : (gl P l.toArray Q).G l a w) : (Code.region id l.toArray false).wp P Q a w := wp_region_lit h
theorem mem_pick {L L1 : List It} {ks : List Nat} (h : ks.map (fun k => L[k]?) = L1.map some) : ∀ i ∈ L1, i ∈ L := by
 intro i hi
 have : some i ∈ L1.map some := List.mem_map.2 ⟨i, hi, rfl⟩
 rw [← h] at this
 obtain ⟨k, _, hk⟩ := List.mem_map.1 this
 exact List.mem_of_getElem? hk
theorem rgd {id : Nat} {l : List Oper} (ks : List Nat) (L1 : List It) (eff rd : List Nat) (nS : Nat) (hm : P.follows .mixedOrders = true) (hD : drawOk l.toArray eff rd nS = true) (h : S E H N D F L a w)
   (k : ∀ a w, S E H N D F L a w → (gd P l.toArray Q (Sees H L1) eff rd nS).G l a w) (hk : ks.map (fun k => L[k]?) = L1.map some := by rfl) (hQ : ∀ c a a' w, a.defers = a'.defers → Q (.panic c) a w → Q (.panic c) a' w := by exact fun _ _ _ _ e h => ⟨e ▸ h.1, h.2⟩) : (Code.region id l.toArray true).wp P Q a w := by
 have hs := mem_pick hk
 have h1 : S E H N D F L a { w with drawn := w.drawn + 1 } := ⟨h.ag, h.st.drew _⟩
 have hS : Sees H L1 { w with drawn := w.drawn + 1 } := h1.st.sees' LE.rfl hs
 have hk := gdw_sound (P := P) hD hQ l 0 a _ (by simp) (by simp) (fun _ => hS) (k a _ h1 (fun _ => hS))
 refine wp_region_any hm (wpR_any (S := Sees H L1) (rd := rd) _ _ _ _ ?_)
 simpa using hk
theorem sq {c d : Code} (h : c.wp P (Exit.then (d.wp P Q) Q) a w) : (Code.seq c d).wp P Q a w := wp_seq h
theorem cdT {c : Operand} {x y : Code} (h : S E H N D F L a w) (k : x.wp P Q a w) (hc : ev F c = some (.bool true) := by rfl) : (Code.cond c x y).wp P Q a w := wp_cond_true (h.ag.ev hc) k
theorem cdF {c : Operand} {x y : Code} (h : S E H N D F L a w) (k : y.wp P Q a w) (hc : ev F c = some (.bool false) := by rfl) : (Code.cond c x y).wp P Q a w := wp_cond_false (h.ag.ev hc) k
theorem cdB {b : Bool} {c : Operand} {x y : Code} (h : S E H N D F L a w) (k : b = true → x.wp P Q a w) (k' : b = false → y.wp P Q a w) (hc : ev F c = some (.bool b) := by rfl) :
   (Code.cond c x y).wp P Q a w := wp_cond_split (h.ag.ev hc) k k'
theorem blk {id : Nat} {c : Code} (h : c.wp P (Exit.inBlock id Q) a w) : (Code.block id c).wp P Q a w := wp_block h
theorem thN {K : Act → World → Prop} (h : K a w) : Exit.then K Q .normal a w := h
theorem thE {K : Act → World → Prop} {i : Nat} (h : Q (.exit i) a w) : Exit.then K Q (.exit i) a w := h
theorem thR {K : Act → World → Prop} (h : Q .ret a w) : Exit.then K Q .ret a w := h
theorem ibN {id : Nat} (h : Q .normal a w) : Exit.inBlock id Q .normal a w := h
theorem ibR {id : Nat} (h : Q .ret a w) : Exit.inBlock id Q .ret a w := h
theorem ibH {id : Nat} (h : Q .normal a w) : Exit.inBlock id Q (.exit id) a w := by simp [Exit.inBlock]; exact h
theorem ibO {id i : Nat} (h : Q (.exit i) a w) (hn : Nat.beq i id = false := by rfl) : Exit.inBlock id Q (.exit i) a w := by
 have : i ≠ id := fun e => by subst e; simp at hn
 simp [Exit.inBlock, this]; exact h
theorem exit_ {id : Nat} (h : Q (.exit id) a w) : (Code.exit id).wp P Q a w := wp_exit h
theorem ret_ (h : Q .ret a w) : Code.ret.wp P Q a w := wp_ret h
theorem lp {β : Type} {c : Code} (I : β → Act → World → Prop) (m : β → Nat) (x : β) (h : I x a w)
   (round : ∀ x a w, I x a w → c.wp P (Exit.then (fun a' w' => ∃ x', I x' a' w' ∧ m x' < m x) Q) a w) : (Code.loop c).wp P Q a w := by
 intro b k cs
 have key : ∀ n x a w, m x = n → I x a w →
     ∃ e a' w', Q e a' w' ∧ Arrives P (lone (b.at a (.code c :: .inLoop c :: k)) cs w) b k cs e a' w' := by
   intro n
   induction n using Nat.strongRecOn with
   | _ n ih =>
     intro x a w hn hI
     obtain ⟨e, a₁, w₁, hq, harr⟩ := round x a w hI b (.inLoop c :: k) cs
     cases e with
     | normal =>
       obtain ⟨x₁, hI₁, hlt⟩ := hq
       obtain ⟨e₂, a₂, w₂, hq₂, harr₂⟩ := ih (m x₁) (hn ▸ hlt) x₁ a₁ w₁ rfl hI₁
       exact ⟨e₂, a₂, w₂, hq₂, .of_steps (Steps.trans harr (.one step_inLoop)) harr₂⟩
     | exit id => exact ⟨_, a₁, w₁, hq, .pass (x := .inLoop c) rfl (fun _ _ => .inl (by simp)) harr⟩
     | goto l => exact ⟨_, a₁, w₁, hq, .pass (x := .inLoop c) rfl (fun _ _ => .inl (by simp)) harr⟩
     | ret => exact ⟨_, a₁, w₁, hq, .pass (x := .inLoop c) rfl (fun _ _ => .inl (by simp)) harr⟩
     | panic ch => exact ⟨_, a₁, w₁, hq, .pass (x := .inLoop c) rfl (fun _ _ => .inl (by simp)) harr⟩
     | outgrown => exact ⟨_, a₁, w₁, hq, .pass (x := .inLoop c) rfl (fun _ _ => .inl (by simp)) harr⟩
 obtain ⟨e, a', w', hq, harr⟩ := key _ x a w rfl h
 exact ⟨e, a', w', hq, .of_steps (.one step_loop) harr⟩
end
/-! ### Calls -/
def Ok (P : Program) (f : FuncId) (args : Array Value) (E : World) (H : GH) (L : List It) (R : Value → GH → List It → Prop) : Prop :=
 ∀ w, St E H L w → Calls P f args w fun e w' => ∃ r H' L', e = .returned r ∧ LE H H' ∧ St E H' L' w' ∧ R r H' L'
theorem Ok.mono {P : Program} {f : FuncId} {args : Array Value} {E : World} {H : GH} {L : List It} {R R' : Value → GH → List It → Prop} (h : Ok P f args E H L R)
   (hr : ∀ r H' L', LE H H' → R r H' L' → R' r H' L') : Ok P f args E H L R' := fun w hw =>
 (h w hw).mono fun e w' ⟨r, H', L', h1, h2, h3, h4⟩ => ⟨r, H', L', h1, h2, h3, hr r H' L' h2 h4⟩
section
variable {P : Program} {ops : Array Oper} {Q : Exit → Act → World → Prop} {γ : Gd P ops Q} {rest : List Oper} {o : Oper} {E w : World} {H : GH} {N : Nat} {D : List Deferred} {F : List (Nat × Value)} {L : List It} {a : Act}
variable {t u : TypeId} {x y : Operand} {d : Nat} {v : Value} {g off : Nat} {cs : Array Value} {ty : TypeId}
theorem run_callFunc {f : FuncId} (hb : bodT P f = true) (args : Array Value) (w : World) : (callFunc f args).run P w = .ok (.enter f args) w := by
 unfold bodT at hb
 split at hb
 · rename_i fn hf
   simp only [Bool.and_eq_true, bne_iff_ne, ne_eq] at hb
   obtain ⟨c, hc⟩ : ∃ c, fn.body = some c := by cases hx : fn.body <;> simp_all
   simp [callFunc, program, Sem.run, hf, hb.1, hc]
 · cases hb
theorem cl {f : FuncId} {args first caps : Array Value} {aL : List Operand} {vs : List Value} {ts : Array TypeId} {R : Value → GH → List It → Prop}
   (hb : bodT P f = true) (hc : Ok P f args E H L R) (h : S E H N D F L a w)
   (k : ∀ r H' L' a w, LE H H' → R r H' L' → S E H' N D ((d, r) :: F) L' a w → γ.G rest a w)
   (ho : o.op = .call { callee := .value x, args := aL.toArray, argTypes := ts } := by rfl) (hx : ev F x = some (.func (.func f) first caps) := by rfl) (has : evs F aL = some vs := by rfl)
   (hA : first ++ vs.toArray ++ caps = args := by rfl)
   (hw : wn ops F o = some true := by rfl) (hd : o.dst = some d := by rfl) (hN : Nat.blt d N = true := by rfl) (hE : γ.isE rest.length = true := by rfl) (hS : γ.isN rest.length = true → ∀ r H' L' w, LE H H' → R r H' L' → St E H' L' w → γ.S w := by first | exact fun e => Bool.noConfusion (show false = true from e) | (rintro _ _ _ _ _ le ⟨rfl, rfl, rfl⟩ hw; exact hw.sees' le (by simp)) | (rintro _ _ _ _ _ le ⟨rfl, rfl⟩ hw; exact hw.sees' le (by simp)) | (rintro _ _ _ _ _ le ⟨_, rfl, rfl⟩ hw; exact hw.sees' (by first | exact le | exact LE.trans (by assumption) le) (by simp)) | (rintro _ _ _ _ _ le ⟨_, _, _, _, rfl, _⟩ hw; exact hw.sees' (by first | exact le | exact LE.trans (by assumption) le) (by simp))) : γ.G (o :: rest) a w := by
 subst hA
 refine γ.eff hE (wanted_of h.ag hw) ?_
 have hrun : (execOp a.eval o).run P w = .ok (.enter f (first ++ vs.toArray ++ caps)) w := by
   have h1 := h.ag.ev hx
   have h2 := h.ag.evs has
   simp [execOp, ho, resolve, h1, h2, Deferred.ofValue, invoke, run_callFunc hb]
 unfold Oper.wp
 rw [hrun, Oper.upon_enter]
 refine (hc w h.st).mono fun e w' ⟨r, H', L', h1, h2, h3, h4⟩ => ?_
 subst h1
 simp only [hd]
 exact ⟨fun e => hS e _ _ _ _ h2 h4 h3, k r H' L' _ _ h2 h4 ⟨h.ag.put (by simpa [Nat.blt_eq] using hN) r, h3⟩⟩
def Fin (P : Program) (fn : Func) (E : World) (H : GH) (R : Value → GH → List It → Prop) : Exit → Act → World → Prop :=
 bodyPost P fn fun e w' => ∃ r H' L', e = .returned r ∧ LE H H' ∧ St E H' L' w' ∧ R r H' L'
theorem enter {f : FuncId} {fn : Func} {c : Code} {args : List Value} {R : Value → GH → List It → Prop} (F : List (Nat × Value)) (hf : P.funcs[f]? = some fn) (hb : fn.body = some c) (hn : fn.ntmps = N)
   (hF : F.map (fun p => args.toArray[p.1]?) = F.map (fun p => some p.2)) (hs : Nat.ble args.length N = true) (h : ∀ a w, S E H N [] F L a w → c.wp P (Fin P fn E H R) a w) : Ok P f args.toArray E H L R := fun w hw =>
 calls_of_wp hf hb (h _ _ ⟨by rw [hn]; exact ag_enter N args.toArray (by simpa using hs) F hF, hw⟩)
theorem S.to {E w : World} {H : GH} {N : Nat} {D : List Deferred} {F : List (Nat × Value)} {L L' : List It} {a : Act} (h : S E H N D F L a w) (n : Nat) (F' : List (Nat × Value))
   (hs : F'.map (fun p => F.lookup p.1) = F'.map (fun p => some p.2) := by rfl) (hL : L.drop n = L' := by rfl) : S E H N D F' L' a w := by
 subst hL; exact ⟨h.ag.sub hs, h.st.drop n⟩
theorem fin1 {fn : Func} {R : Value → GH → List It → Prop} {H0 : GH} {L' : List It} (i n : Nat) (h : S E H N [] F L a w) (hle : LE H0 H) (hR : R v H L') (hr : fn.results = #[.tmp i] := by rfl) (hv : F.lookup i = some v := by rfl) (hL : L.drop n = L' := by rfl) : Fin P fn E H0 R .ret a w := by
 subst hL
 exact ⟨h.ag.defers, v, by rw [results_tmp hr, h.ag.get i v hv], v, H, _, rfl, hle, h.st.drop n, hR⟩
theorem finN0 {fn : Func} {R : Value → GH → List It → Prop} {H0 : GH} {L' : List It} (n : Nat) (h : S E H N [] F L a w) (hle : LE H0 H) (hR : R (.tuple #[]) H L') (hr : fn.results = #[] := by rfl) (hL : L.drop n = L' := by rfl) : Fin P fn E H0 R .normal a w := by
 subst hL
 exact ⟨h.ag.defers, _, results_none hr _ _ _, _, H, _, rfl, hle, h.st.drop n, hR⟩
inductive Vals (P : Program) (F : List (Nat × Value)) (L : List It) : List ResultVar → List Value → Prop where
 | nil : Vals P F L [] []
 | tmp {i : Nat} {v : Value} {rs : List ResultVar} {vs : List Value} (h : F.lookup i = some v) (k : Vals P F L rs vs) : Vals P F L (.tmp i :: rs) (v :: vs)
 | one {i t g k0 : Nat} {ty : TypeId} {cs : Array Value} {z : Nat × Nat} {v : Value} {rs : List ResultVar} {vs : List Value} (ht : ty1 P t = true) (h : F.lookup i = some (.pointer (some ⟨g, 0, none⟩)))
     (hk : L[k0]? = some (.obj g (.cells cs ty z))) (hv : cs.toList[0]? = some v) (k : Vals P F L rs vs) : Vals P F L (.cell i t :: rs) (v :: vs)
 | agg {i t g k0 n : Nat} {ty : TypeId} {cs : Array Value} {z : Nat × Nat} {rs : List ResultVar} {vs : List Value} (ht : tyN P t n = true) (h : F.lookup i = some (.pointer (some ⟨g, 0, none⟩)))
     (hk : L[k0]? = some (.obj g (.cells cs ty z))) (hn : cs.size = n) (k : Vals P F L rs vs) : Vals P F L (.cell i t :: rs) (.agg cs :: vs)
theorem run_asAddr (p : Addr) (w : World) : (asAddr (.pointer (some p))).run P w = .ok p w := by simp [asAddr]
theorem Vals.run {rs : List ResultVar} {vs : List Value} (hv : Vals P F L rs vs) (h : S E H N D F L a w) :
   (rs.mapM (m := Sem) fun (r : ResultVar) => match r with | .tmp t => pure (a.tmps.getD t undef) | .cell b t => do loadVar t (← asAddr (a.tmps.getD b undef)) : Sem (List Value)).run P w = .ok vs w := by
 induction hv with
 | nil => simp
 | tmp hl _ ih => simp only [List.mapM_cons, Sem.run_bind, h.ag.get _ _ hl, Sem.run_pure, Result.andThen_ok, ih]
 | one ht hl hk hv _ ih =>
   have hc := run_load1 (P := P) (w := w) ht ⟨_, 0, none⟩ _ ((cell_own (item_at h.st.sees hk) 0).trans ((Array.getElem?_toList ..).symm.trans hv))
   simp only [List.mapM_cons, Sem.run_bind, h.ag.get _ _ hl, Sem.run_pure, Result.andThen_ok, run_asAddr, hc, ih]
 | agg ht hl hk hn _ ih =>
   rename_i cs _ _ _ _
   have hc := run_loadN (P := P) (w := w) ht _ 0 cs.toList (by simpa using hn) (fun j v hv => by rw [Nat.zero_add, cell_own (item_at h.st.sees hk) j]; simpa using hv)
   simp at hc
   simp only [List.mapM_cons, Sem.run_bind, h.ag.get _ _ hl, Sem.run_pure, Result.andThen_ok, run_asAddr, hc, ih]
theorem run_results {fn : Func} {rs : List ResultVar} {vs : List Value} (hr : fn.results = rs.toArray) (hv : Vals P F L rs vs) (h : S E H N D F L a w) :
   (results fn a.tmps).run P w = .ok (if hs : vs.length = 1 then vs[0] else .tuple vs.toArray) w := by
 have := hv.run h
 unfold results
 rw [hr, List.mapM_toArray]
 simp only [Array.getD_eq_getD_getElem?] at this
 simp
 erw [this]
 simp
theorem fin {fn : Func} {R : Value → GH → List It → Prop} {H0 : GH} {rs : List ResultVar} {vs : List Value} (h : S E H N [] F L a w) (hr : fn.results = rs.toArray) (hv : Vals P F L rs vs)
   (hvv : (if hs : vs.length = 1 then vs[0] else .tuple vs.toArray) = v) (hle : LE H0 H) {H' : GH} {L' : List It} (hst : LE H H' ∧ St E H' L' w) (hR : R v H' L') : Fin P fn E H0 R .ret a w :=
 ⟨h.ag.defers, v, by rw [run_results hr hv h, hvv], v, H', L', rfl, hle.trans hst.1, hst.2, hR⟩
/-! ### Steps that come together -/
theorem nlt {K : Act → World → Prop} {ops : Array Oper} {γ : Gd P ops (Exit.then K Q)} (h : K a w) : γ.G [] a w := γ.nil h
theorem sqr {id : Nat} {l : List Oper} {d : Code} (h : (gl P l.toArray (Exit.then (d.wp P Q) Q)).G l a w) : (Code.seq (.region id l.toArray false) d).wp P Q a w := sq (rg0 h)
theorem nsr {id : Nat} {l : List Oper} {d : Code} {Q' : Exit → Act → World → Prop} {ops : Array Oper} {γ : Gd P ops (Exit.then ((Code.seq (.region id l.toArray false) d).wp P Q) Q')} (h : (gl P l.toArray (Exit.then (d.wp P Q) Q)).G l a w) : γ.G [] a w := γ.nil (sq (rg0 h))
/-! ### What is frozen -/
def Hc (H : GH) (g i : Nat) (v : Value) : Prop := ∃ c e z, H g = some (.cells c e z) ∧ c[i]? = some v
theorem Hc.mono {H' : GH} {i : Nat} (h : Hc H g i v) (hl : LE H H') : Hc H' g i v := let ⟨c, e, z, h1, h2⟩ := h; ⟨c, e, z, hl _ _ h1, h2⟩
theorem Hc.cell {i : Nat} (h : Hc H g i v) (hs : Sees H L w) : w.cell? ⟨g, i, none⟩ = some v := by
 obtain ⟨c, e, z, h1, h2⟩ := h
 rw [cell_own (hs.fro _ _ h1), h2]
def RS {α : Type} (R : GH → List Value → α → Prop) (sz : Nat) (H : GH) (v : Value) (xs : List α) : Prop :=
 ∃ A c, v = .slice A xs.length c ∧ xs.length ≤ c ∧ ∀ j x, xs[j]? = some x → ∃ g off cs, A = some ⟨g, off, none⟩ ∧ cs.length = sz ∧ R H cs x ∧ ∀ i u, cs[i]? = some u → Hc H g (off + j * sz + i) u
theorem RS.mono {α : Type} {R : GH → List Value → α → Prop} {sz : Nat} {H' : GH} {xs : List α} (h : RS R sz H v xs) (hl : LE H H') (hR : ∀ cs x, x ∈ xs → R H cs x → R H' cs x) : RS R sz H' v xs := by
 obtain ⟨A, c, h1, h2, h3⟩ := h
 refine ⟨A, c, h1, h2, fun j x hx => ?_⟩
 obtain ⟨g, off, cs, h4, h5, h6, h7⟩ := h3 j x hx
 exact ⟨g, off, cs, h4, h5, hR cs x (List.mem_of_getElem? hx) h6, fun i u hu => (h7 i u hu).mono hl⟩
theorem RS.nil {α : Type} (R : GH → List Value → α → Prop) (sz : Nat) (H : GH) : RS R sz H (.slice none 0 0) ([] : List α) := ⟨none, 0, rfl, Nat.le_refl _, fun j x hx => by simp at hx⟩
theorem RS.at_ {α : Type} {R : GH → List Value → α → Prop} {sz : Nat} {A : Option Addr} {n c : Nat} {xs : List α} (h : RS R sz H (.slice A n c) xs) {j : Nat} {x : α} (hx : xs[j]? = some x) :
   ∃ g off cs, A = some ⟨g, off, none⟩ ∧ cs.length = sz ∧ R H cs x ∧ ∀ i u, cs[i]? = some u → Hc H g (off + j * sz + i) u := by
 obtain ⟨A', c', h1, h2, h3⟩ := h
 cases h1
 exact h3 j x hx
theorem ldHX {L1 : List It} {H1 : GH} (ht : ty1 P t = true) (hc : Hc H1 g off v) (h : S E H N D F L a w) (hR : γ.isR rest.length = true) (hSw : γ.S w) (hW : ∀ w', γ.W w w' → Sees H1 L1 w') (k : ∀ a w, S E H N D ((d, v) :: F) L a w → γ.G rest a w)
   (ho : o.op = .load t x ) (hx : ev F x = some (.pointer (some ⟨g, off, none⟩)) )
   (hw : wn ops F o = some true ) (hd : o.dst = some d ) (hN : Nat.blt d N = true ) : γ.G (o :: rest) a w :=
 rdv h hR hSw (fun w' hw' => by simp [execOp, ho, h.ag.ev hx, run_loadAt1 (P := P) ht (hc.cell (hW w' hw'))]) k hw hd hN
theorem ldH (ht : ty1 P t = true) (hc : Hc H g off v) (h : S E H N D F L a w) (k : ∀ a w, S E H N D ((d, v) :: F) L a w → (gl P ops Q).G rest a w)
   (ho : o.op = .load t x := by rfl) (hx : ev F x = some (.pointer (some ⟨g, off, none⟩)) := by rfl)
   (hw : wn ops F o = some true := by rfl) (hd : o.dst = some d := by rfl) (hN : Nat.blt d N = true := by rfl) : (gl P ops Q).G (o :: rest) a w :=
 ldHX ht hc h rfl trivial (fun w' e => e ▸ h.st.sees) k ho hx hw hd hN
theorem ldHD {H1 : GH} {L1 : List It} {eff rd : List Nat} {nS : Nat} (ht : ty1 P t = true) (hc : Hc H1 g off v) (h : S E H N D F L a w) (k : ∀ a w, S E H N D ((d, v) :: F) L a w → (gd P ops Q (Sees H1 L1) eff rd nS).G rest a w)
   (ho : o.op = .load t x := by rfl) (hx : ev F x = some (.pointer (some ⟨g, off, none⟩)) := by rfl)
   (hw : wn ops F o = some true := by rfl) (hd : o.dst = some d := by rfl) (hN : Nat.blt d N = true := by rfl) (hR : (gd P ops Q (Sees H1 L1) eff rd nS).isR rest.length = true := by rfl) (hSub : ∀ i ∈ L1, i ∈ L := by simp) (hLe : LE H1 H := by first | exact LE.rfl | assumption) : (gd P ops Q (Sees H1 L1) eff rd nS).G (o :: rest) a w :=
 ldHX ht hc h hR (h.st.sees' hLe hSub) (fun w' e => e) k ho hx hw hd hN
theorem ldHNX {L1 : List It} {H1 : GH} {n : Nat} {l : List Value} (ht : tyN P t n = true) (hl : l.length = n) (hc : ∀ i u, l[i]? = some u → Hc H1 g (off + i) u) (h : S E H N D F L a w) (hR : γ.isR rest.length = true) (hSw : γ.S w) (hW : ∀ w', γ.W w w' → Sees H1 L1 w') (k : ∀ a w, S E H N D ((d, .agg l.toArray) :: F) L a w → γ.G rest a w)
   (ho : o.op = .load t x ) (hx : ev F x = some (.pointer (some ⟨g, off, none⟩)) )
   (hw : wn ops F o = some true ) (hd : o.dst = some d ) (hN : Nat.blt d N = true ) : γ.G (o :: rest) a w :=
 rdv h hR hSw (fun w' hw' => by simp [execOp, ho, h.ag.ev hx, run_loadAtN (P := P) ht hl (fun j u hu => (hc j u hu).cell (hW w' hw'))]) k hw hd hN
theorem ldHN {n : Nat} {l : List Value} (ht : tyN P t n = true) (hl : l.length = n) (hc : ∀ i u, l[i]? = some u → Hc H g (off + i) u) (h : S E H N D F L a w) (k : ∀ a w, S E H N D ((d, .agg l.toArray) :: F) L a w → (gl P ops Q).G rest a w)
   (ho : o.op = .load t x := by rfl) (hx : ev F x = some (.pointer (some ⟨g, off, none⟩)) := by rfl)
   (hw : wn ops F o = some true := by rfl) (hd : o.dst = some d := by rfl) (hN : Nat.blt d N = true := by rfl) : (gl P ops Q).G (o :: rest) a w :=
 ldHNX ht hl hc h rfl trivial (fun w' e => e ▸ h.st.sees) k ho hx hw hd hN
theorem ldHND {H1 : GH} {L1 : List It} {eff rd : List Nat} {nS : Nat} {n : Nat} {l : List Value} (ht : tyN P t n = true) (hl : l.length = n) (hc : ∀ i u, l[i]? = some u → Hc H1 g (off + i) u) (h : S E H N D F L a w) (k : ∀ a w, S E H N D ((d, .agg l.toArray) :: F) L a w → (gd P ops Q (Sees H1 L1) eff rd nS).G rest a w)
   (ho : o.op = .load t x := by rfl) (hx : ev F x = some (.pointer (some ⟨g, off, none⟩)) := by rfl)
   (hw : wn ops F o = some true := by rfl) (hd : o.dst = some d := by rfl) (hN : Nat.blt d N = true := by rfl) (hR : (gd P ops Q (Sees H1 L1) eff rd nS).isR rest.length = true := by rfl) (hSub : ∀ i ∈ L1, i ∈ L := by simp) (hLe : LE H1 H := by first | exact LE.rfl | assumption) : (gd P ops Q (Sees H1 L1) eff rd nS).G (o :: rest) a w :=
 ldHNX ht hl hc h hR (h.st.sees' hLe hSub) (fun w' e => e) k ho hx hw hd hN
theorem ia {e sz n c j : Nat} {i : Int} {kd : IntKind} (hs : sliT P t = some e) (hz : szT P e sz = true) (hi : i = j) (hj : j < n) (h : S E H N D F L a w)
   (k : ∀ a w, S E H N D ((d, .pointer (some ⟨g, off + j * sz, none⟩)) :: F) L a w → γ.G rest a w)
   (ho : o.op = .indexAddr t x y := by rfl) (hx : ev F x = some (.slice (some ⟨g, off, none⟩) n c) := by rfl) (hy : ev F y = some (.int kd i) := by rfl)
   (hw : wn ops F o = some true := by rfl) (hd : o.dst = some d := by rfl) (hN : Nat.blt d N = true := by rfl) : γ.G (o :: rest) a w := by
 subst hi
 refine pv h (fun w => ?_) k hw hd hN
 have hu : P.underlying t = some (.slice e) := by
   unfold sliT at hs; split at hs
   · rename_i e' he; cases hs; exact he
   · cases hs
 obtain ⟨i, hi, hsz⟩ : ∃ i, P.info? e = some i ∧ i.size = sz := by
   unfold szT at hz; split at hz
   · rename_i i hi; exact ⟨i, hi, by simpa using hz⟩
   · cases hz
 simp [execOp, ho, h.ag.ev hx, h.ag.ev hy, Instr.indexAt, asIntOf, run_underlying hu, sizeOf, typeInfo, hi, hsz, hj, Addr.add_mid]
theorem ln {e n c : Nat} {A : Option Addr} (hs : sliT P t = some e) (h : S E H N D F L a w) (k : ∀ a w, S E H N D ((d, .int .i64 (n : Int)) :: F) L a w → γ.G rest a w)
   (ho : o.op = .call { callee := .builtin .len, args := #[x], argTypes := #[t] } := by rfl) (hx : ev F x = some (.slice A n c) := by rfl)
   (hw : wn ops F o = some true := by rfl) (hd : o.dst = some d := by rfl) (hN : Nat.blt d N = true := by rfl) : γ.G (o :: rest) a w := by
 have hu : P.underlying t = some (.slice e) := by
   unfold sliT at hs; split at hs
   · rename_i e' he; cases hs; exact he
   · cases hs
 exact pv h (fun w => by simp [execOp, ho, resolve, invoke, builtin, Builtin.len_, h.ag.ev hx, run_underlying hu, goInt]) k hw hd hN
end
section
variable {P : Program} {ops : Array Oper} {Q : Exit → Act → World → Prop} {γ : Gd P ops Q} {rest : List Oper} {o : Oper} {E w : World} {H : GH} {N : Nat} {D : List Deferred} {F : List (Nat × Value)} {L : List It} {a : Act}
variable {t u : TypeId} {x y : Operand} {d : Nat} {v : Value} {g off : Nat} {cs : Array Value} {ty : TypeId}
/-! ### Building -/
def pevs (F : List (Nat × Value)) : List (Nat × Operand) → Option (List (Nat × Value))
 | [] => some []
 | (i, x) :: l => match ev F x, pevs F l with
   | some v, some vs => some ((i, v) :: vs)
   | _, _ => none
theorem Ag.pevs (h : Ag N D F a) : ∀ {l : List (Nat × Operand)} {vs : List (Nat × Value)}, X.pevs F l = some vs → l.map (fun p => (p.1, a.eval p.2)) = vs
 | [], vs, e => by simp [X.pevs] at e; subst e; rfl
 | (i, x) :: l, vs, e => by
   simp only [X.pevs] at e
   split at e
   · rename_i v us hv hus
     cases e
     simp [h.ev hv, Ag.pevs h hus]
   · cases e
theorem run_mapM_opt {α β : Type} {f : α → Option β} {g : α → Sem β} (hfg : ∀ x y, f x = some y → ∀ w, (g x).run P w = .ok y w) :
   ∀ (l : List α) (ys : List β), l.mapM f = some ys → ∀ w, (l.mapM (m := Sem) g).run P w = .ok ys w
 | [], ys, h, w => by simp at h; subst h; simp
 | x :: l, ys, h, w => by
   simp only [List.mapM_cons, Option.bind_eq_bind, Option.bind_eq_some_iff, Option.pure_def, Option.some.injEq] at h
   obtain ⟨y, hy, zs, hz, rfl⟩ := h
   simp only [List.mapM_cons, Sem.run_bind, hfg x y hy, Result.andThen_ok, run_mapM_opt hfg l zs hz, Sem.run_pure]
theorem bd {places : Array (Nat × Nat)} {zv : Value} {ps : List (Nat × Operand)} {vs : List (Nat × Value)} (hl : layT P t = some places) (hz : zrT P t = some zv) (cells : Array Value) (h : S E H N D F L a w)
   (k : ∀ a w, S E H N D ((d, .agg cells) :: F) L a w → γ.G rest a w)
   (ho : o.op = .build t ps.toArray := by rfl) (hx : pevs F ps = some vs := by rfl) (hf : Instr.fill (places[·]?) zv.cells vs = some cells := by rfl)
   (hw : wn ops F o = some true := by rfl) (hd : o.dst = some d := by rfl) (hN : Nat.blt d N = true := by rfl) : γ.G (o :: rest) a w := by
 refine pv h (fun w => ?_) k hw hd hN
 have hzero : ∀ w, (zeroValue t).run P w = .ok zv w := fun w => by
   unfold zrT at hz
   split at hz
   · rename_i i hi; simp [zeroValue, typeInfo, hi, hz]
   · cases hz
 unfold layT at hl
 split at hl
 · rename_i fs hu
   obtain ⟨ps', hps, rfl⟩ : ∃ l, fs.toList.mapM (fun f => match P.info? f.type with | some j => some (f.offset, j.size) | none => none) = some l ∧ l.toArray = places := by
     rw [← Array.toArray_toList (xs := fs), List.mapM_toArray] at hl
     simp only [Option.map_eq_map, Option.map_eq_some_iff] at hl
     exact hl
   have hm := fun w => run_mapM_opt (P := P) (g := fun (f : Field) => do pure (f.offset, ← sizeOf f.type)) (fun f y hy w => by
     split at hy
     · rename_i j hj; cases hy; simp [sizeOf, typeInfo, hj]
     · cases hy) fs.toList ps' hps w
   have hm' : ∀ w, (fs.mapM (m := Sem) fun f => do pure (f.offset, ← sizeOf f.type)).run P w = .ok ps'.toArray w := fun w => by
     conv => lhs; arg 2; rw [← Array.toArray_toList (xs := fs), List.mapM_toArray]
     have := hm w
     simp
     erw [this]
     simp
   have hp := h.ag.pevs hx
   have hr : (Instr.build t ((ps.map fun p => (p.1, a.eval p.2)).toArray)).run P w = .ok (.agg cells) w := by
     rw [hp]
     unfold Instr.build
     simp only [Sem.run_bind, hzero, Result.andThen_ok, run_underlying hu, hm', hf]
     simp
   simp only [execOp, ho]
   have e : (ps.toArray.map fun (i, x) => (i, a.eval x)) = ((ps.map fun p => (p.1, a.eval p.2)).toArray) := by simp
   rw [e]
   simp only [Sem.run_bind, hr, Result.andThen_ok, Sem.run_pure]
 · cases hl
def bsT (P : Program) (t : TypeId) : Option (TypeId × Nat × Array Value) := match P.underlying t with
 | some (.slice e) => match P.info? e with
   | some i => match i.zero with
     | some z => if z.cells.size == i.size && (0 < i.size && i.size ≤ 1024) then some (e, i.size, z.cells) else none
     | none => none
   | none => none
 | _ => none
theorem bs {e sz n : Nat} {z : Array Value} {ps : List (Nat × Operand)} {vs : List (Nat × Value)} (hl : bsT P t = some (e, sz, z)) (cells : Array Value) (h : S E H N D F L a w)
   (k : ∀ g a w, S E H N D ((d, .slice (some ⟨g, 0, none⟩) n n) :: F) (.obj g (.cells cells e (0, 0)) :: L) a w → γ.G rest a w)
   (ho : o.op = .buildSlice t n ps.toArray := by rfl) (hx : pevs F ps = some vs := by rfl)
   (hf : Instr.fill (fun i => some (i * sz, sz)) ((Array.range (n * sz)).map (z[· % z.size]!)) vs = some cells := by rfl) (hn : Nat.ble n 1024 = true := by rfl) (hn0 : Nat.blt 0 n = true := by rfl)
   (hw : wn ops F o = some true := by rfl) (hd : o.dst = some d := by rfl) (hN : Nat.blt d N = true := by rfl) (hE : γ.isE rest.length = true := by rfl) (hS : γ.isN rest.length = true → ∀ g w, St E H (.obj g (.cells cells e (0, 0)) :: L) w → γ.S w := by first | exact fun e => Bool.noConfusion (show false = true from e) | exact fun _ _ _ hw => hw.sees' LE.rfl (by simp) | exact fun _ _ _ hw => hw.sees' (by assumption) (by simp)) : γ.G (o :: rest) a w := by
 refine val h hw hd hN hE (fun e => hS e _) (w' := w.alloc (.cells cells e)) ?_ (h.st.alloc _) (k _)
 unfold bsT at hl
 split at hl
 · rename_i e' hu
   split at hl
   · rename_i i hi
     split at hl
     · rename_i zv hz
       split at hl
       · rename_i hs
         simp only [Option.some.injEq, Prod.mk.injEq] at hl
         obtain ⟨rfl, rfl, rfl⟩ := hl
         simp only [Bool.and_eq_true, beq_iff_eq, decide_eq_true_eq] at hs
         have hle : n ≤ 1024 := by simpa [Nat.ble_eq] using hn
         have h0 : 0 < n := by simpa [Nat.blt_eq] using hn0
         have h1 : ¬ (n * i.size > 2 ^ 24) := by have := Nat.mul_le_mul hle hs.2.2; omega
         have h2 : ¬ (n * i.size = 0) := by have := Nat.mul_pos h0 hs.2.1; omega
         have hzero : (zeroValue e').run P w = .ok zv w := by simp [zeroValue, typeInfo, hi, hz]
         have hp := h.ag.pevs hx
         have hr : (Instr.buildSlice t n ((ps.map fun p => (p.1, a.eval p.2)).toArray)).run P w = .ok (.slice (some ⟨w.heap.size, 0, none⟩) n n) (w.alloc (.cells cells e')) := by
           rw [hp]
           unfold Instr.buildSlice
           simp only [Sem.run_bind, run_underlying hu, Result.andThen_ok, sizeOf, typeInfo, program, Sem.run, hi, h1, if_false, h2, hzero, hf, Sem.run_pure, newRow, newObj, World.alloc_eq]
         simp only [execOp, ho]
         have e : (ps.toArray.map fun (i, x) => (i, a.eval x)) = ((ps.map fun p => (p.1, a.eval p.2)).toArray) := by simp
         rw [e]
         simp only [Sem.run_bind, hr, Result.andThen_ok, Sem.run_pure]
       · cases hl
     · cases hl
   · cases hl
 · cases hl
/-! ### Strings -/
def strT (P : Program) (t : TypeId) : Bool := match P.underlying t with
 | some .string => true
 | _ => false
theorem und_str (h : strT P t = true) : P.underlying t = some .string := by
 unfold strT at h; split at h
 · assumption
 · cases h
variable {s s' : ByteArray}
theorem run_str (op : BinOp) (v : Value) (hv : ∀ w, (binOp op t (.string s) (.string s')).run P w = .ok v w) (w : World) :
   (do eqGuard op t x y (.string s) (.string s'); binOp op t (.string s) (.string s') : Sem Value).run P w = .ok v w := by
 unfold eqGuard
 cases op <;> simp [hv]
theorem beq_bytes (s s' : ByteArray) : (s.toList == s'.toList) = decide (s = s') := by
 rw [ByteArray.toList_eq, ByteArray.toList_eq]
 by_cases h : s = s'
 · subst h; simp
 · have : s.data.toList ≠ s'.data.toList := fun e => h (by
     obtain ⟨⟨l⟩⟩ := s; obtain ⟨⟨l'⟩⟩ := s'; simp at e; subst e; rfl)
   rw [decide_eq_false h]; exact beq_eq_false_iff_ne.2 this
theorem eqs (h : S E H N D F L a w) (k : ∀ a w, S E H N D ((d, .bool (decide (s = s'))) :: F) L a w → γ.G rest a w)
   (ho : o.op = .binOp .eql t x y u := by rfl) (hx : ev F x = some (.string s) := by rfl) (hy : ev F y = some (.string s') := by rfl)
   (hw : wn ops F o = some true := by rfl) (hd : o.dst = some d := by rfl) (hN : Nat.blt d N = true := by rfl) : γ.G (o :: rest) a w :=
 bo (run_str _ _ (fun w => by simp [binOp, Op.stringOp, beq_bytes])) h k ho hx hy hw hd hN
theorem nes (h : S E H N D F L a w) (k : ∀ a w, S E H N D ((d, .bool (!decide (s = s'))) :: F) L a w → γ.G rest a w)
   (ho : o.op = .binOp .neq t x y u := by rfl) (hx : ev F x = some (.string s) := by rfl) (hy : ev F y = some (.string s') := by rfl)
   (hw : wn ops F o = some true := by rfl) (hd : o.dst = some d := by rfl) (hN : Nat.blt d N = true := by rfl) : γ.G (o :: rest) a w :=
 bo (run_str _ _ (fun w => by simp [binOp, Op.stringOp, beq_bytes])) h k ho hx hy hw hd hN
theorem str_inj {l m : List UInt8} : (⟨l.toArray⟩ : ByteArray) = ⟨m.toArray⟩ ↔ l = m := by
 constructor
 · intro h; injection h with h; simpa using congrArg Array.toList h
 · rintro rfl; rfl
theorem eqb {l m : List UInt8} (h : S E H N D F L a w) (k : ∀ a w, S E H N D ((d, .bool (decide (l = m))) :: F) L a w → γ.G rest a w)
   (ho : o.op = .binOp .eql t x y u := by rfl) (hx : ev F x = some (.string ⟨l.toArray⟩) := by rfl) (hy : ev F y = some (.string ⟨m.toArray⟩) := by rfl)
   (hw : wn ops F o = some true := by rfl) (hd : o.dst = some d := by rfl) (hN : Nat.blt d N = true := by rfl) : γ.G (o :: rest) a w :=
 eqs h (fun a w h => k a w (by rw [decide_eq_decide.2 str_inj] at h; exact h)) ho hx hy hw hd hN
theorem neb {l m : List UInt8} (h : S E H N D F L a w) (k : ∀ a w, S E H N D ((d, .bool (!decide (l = m))) :: F) L a w → γ.G rest a w)
   (ho : o.op = .binOp .neq t x y u := by rfl) (hx : ev F x = some (.string ⟨l.toArray⟩) := by rfl) (hy : ev F y = some (.string ⟨m.toArray⟩) := by rfl)
   (hw : wn ops F o = some true := by rfl) (hd : o.dst = some d := by rfl) (hN : Nat.blt d N = true := by rfl) : γ.G (o :: rest) a w :=
 nes h (fun a w h => k a w (by rw [decide_eq_decide.2 str_inj] at h; exact h)) ho hx hy hw hd hN
theorem nt {b : Bool} (h : S E H N D F L a w) (k : ∀ a w, S E H N D ((d, .bool (!b)) :: F) L a w → γ.G rest a w)
   (ho : o.op = .unOp .not t x := by rfl) (hx : ev F x = some (.bool b) := by rfl)
   (hw : wn ops F o = some true := by rfl) (hd : o.dst = some d := by rfl) (hN : Nat.blt d N = true := by rfl) : γ.G (o :: rest) a w :=
 pv h (fun w => by simp [execOp, ho, h.ag.ev hx, Op.unary]) k hw hd hN
theorem lns (hs : strT P t = true) (h : S E H N D F L a w) (k : ∀ a w, S E H N D ((d, .int .i64 (s.size : Int)) :: F) L a w → γ.G rest a w)
   (ho : o.op = .call { callee := .builtin .len, args := #[x], argTypes := #[t] } := by rfl) (hx : ev F x = some (.string s) := by rfl)
   (hw : wn ops F o = some true := by rfl) (hd : o.dst = some d := by rfl) (hN : Nat.blt d N = true := by rfl) : γ.G (o :: rest) a w :=
 pv h (fun w => by simp [execOp, ho, resolve, invoke, builtin, Builtin.len_, h.ag.ev hx, run_underlying (und_str hs), goInt]) k hw hd hN
theorem lnb {l : List UInt8} (hs : strT P t = true) (h : S E H N D F L a w) (k : ∀ a w, S E H N D ((d, .int .i64 (l.length : Int)) :: F) L a w → γ.G rest a w)
   (ho : o.op = .call { callee := .builtin .len, args := #[x], argTypes := #[t] } := by rfl) (hx : ev F x = some (.string ⟨l.toArray⟩) := by rfl)
   (hw : wn ops F o = some true := by rfl) (hd : o.dst = some d := by rfl) (hN : Nat.blt d N = true := by rfl) : γ.G (o :: rest) a w :=
 lns hs h (fun a w h => k a w (by simpa [ByteArray.size] using h)) ho hx hw hd hN
/-! ### Rows that grow -/
def rowT (P : Program) (t e sz by_ : Nat) : Bool := match P.underlying t with
 | some (.slice e') => e' == e && match P.info? e with
   | some i => i.size == sz && i.bytes == by_ && (Nat.blt 0 sz) && match i.zero with
     | some z => z.cells.size == sz
     | none => false
   | none => false
 | _ => false
theorem row_of {e sz by_ : Nat} (h : rowT P t e sz by_ = true) : P.underlying t = some (.slice e) ∧ ∃ i z, P.info? e = some i ∧ i.zero = some z ∧ i.size = sz ∧ i.bytes = by_ ∧ z.cells.size = sz ∧ 0 < sz := by
 unfold rowT at h
 split at h
 · rename_i e' hu
   simp only [Bool.and_eq_true, beq_iff_eq] at h
   obtain ⟨rfl, h⟩ := h
   refine ⟨hu, ?_⟩
   split at h
   · rename_i i hi
     simp only [Bool.and_eq_true, beq_iff_eq] at h
     obtain ⟨⟨⟨h1, h2⟩, h3⟩, h4⟩ := h
     split at h4
     · rename_i z hz
       exact ⟨i, z, hi, hz, h1, h2, by simpa using h4, by simpa [Nat.blt_eq] using h3⟩
     · cases h4
   · cases h
 · cases h
theorem St.row {k0 : Nat} {v v' : Value} {e sz n n' : Nat} {xs xs' : List Value} {w' : World} (h : St E H L w) (hk : L[k0]? = some (.row v e sz n xs)) (hown : w'.ownsRow 0 e sz v' n' xs') (hg : w.grownBy w' v.ownBlock)
   (hv : v'.ownBlock = v.ownBlock ∨ v'.ownBlock = some w.heap.size) : St E H (L.set k0 (.row v' e sz n' xs')) w' :=
 h.set hk hown (fun x hx => by
   simp only [It.own] at hx ⊢
   rcases hv with e | e
   · rw [e] at hx; exact .inl hx
   · rw [e] at hx; simp at hx; exact .inr (by omega)) hg.os hg.tape hg.output (fun b hb hn => hg.block b hb (fun e => hn (by simp [It.own, ← e])))
theorem ap {e sz by_ n m c k0 : Nat} {v : Value} {xs news : List Value} (ht : rowT P t e sz by_ = true) (h : S E H N D F L a w) (hk : L[k0]? = some (.row v e sz n xs))
   (hl : news.length = m * sz) (hnews : ∀ j u, news[j]? = some u → w.cell? ⟨g, off + j, none⟩ = some u) (h1 : ∀ u ∈ news, u.oneCell' = true) (hb : (n + m) * by_ ≤ 140737488355328) (h63 : n + m ≤ 4611686018427387904)
   (k : ∀ v' a w, v'.oneCell' = true → S E H N D ((d, v') :: F) (L.set k0 (.row v' e sz (n + m) (xs ++ news))) a w → γ.G rest a w)
   (ho : o.op = .call { callee := .builtin .append, args := #[x, y], argTypes := #[t, t] }) (hx : ev F x = some v) (hy : ev F y = some (.slice (some ⟨g, off, none⟩) m c))
   (hw : wn ops F o = some true) (hd : o.dst = some d) (hN : Nat.blt d N = true) (hE : γ.isE rest.length = true) (hS : γ.isN rest.length = true → ∀ v' w, St E H (L.set k0 (.row v' e sz (n + m) (xs ++ news))) w → γ.S w) : γ.G (o :: rest) a w := by
 obtain ⟨hu, i, z, hi, hz, hs, hby, hzs, h0⟩ := row_of ht
 have hown : w.ownsRow 0 e sz v n xs := item_at h.st.sees hk
 obtain ⟨v', w', hrun, ho', hg, _, hat⟩ := run_append_own_at (P := P) w 0 t o.type e i z sz by_ hu hi hz hs hby hzs h0 v n xs hown ⟨g, off, none⟩ m c news hl (fun j u hj => by rw [Addr.add_mid]; exact hnews j u hj) h1 (by simp only [maxLen]; omega) hb (Nat.zero_le _)
 refine val h hw hd hN hE (fun e => hS e v') (w' := w') ?_ (h.st.row hk ho' hg hat) (fun a w hS => k v' a w ?_ hS)
 · simp [execOp, ho, resolve, invoke, builtin, h.ag.ev hx, h.ag.ev hy, hrun]
 · rcases ho'.2 with ⟨e, _⟩ | ⟨g', cap, cur, e, _⟩ <;> rw [e] <;> rfl
theorem S.row {e sz : Nat} (h : S E H N D F L a w) : S E H N D F (.row (.slice none 0 0) e sz 0 [] :: L) a w :=
 ⟨h.ag, h.st.os, h.st.tape, h.st.output, h.st.fro, fun i hi => by
   cases hi with
   | head => exact World.ownsRow_nil _ _ _ _
   | tail _ hi => exact h.st.holds i hi, fun i hi g hg => by
   cases hi with
   | head => simp [It.own, Value.ownBlock] at hg
   | tail _ hi => exact h.st.off i hi g hg, List.pairwise_cons.2 ⟨fun i hi g hg => by simp [It.own, Value.ownBlock] at hg, h.st.apart⟩⟩
theorem w64 {z : Int} (h : -9223372036854775808 ≤ z) (h' : z ≤ 9223372036854775807) : IntKind.i64.wrap z = z := by
 simp [IntKind.wrap, IntKind.bits, IntKind.signed]; omega
theorem inc {j : Nat} (hj : j < 4611686018427387904) (h : S E H N D F L a w) (k : ∀ a w, S E H N D ((d, .int .i64 ((j + 1 : Nat) : Int)) :: F) L a w → γ.G rest a w)
   (ho : o.op = .binOp .add t x y u := by rfl) (hx : ev F x = some (.int .i64 (j : Int)) := by rfl) (hy : ev F y = some (.int .i64 1) := by rfl)
   (hw : wn ops F o = some true := by rfl) (hd : o.dst = some d := by rfl) (hN : Nat.blt d N = true := by rfl) : γ.G (o :: rest) a w :=
 add h (fun a w h => k a w (by rw [w64 (by omega) (by omega)] at h; exact h)) ho hx hy hw hd hN
theorem adr {kd : IntKind} {m n : Int} (r : Int) (hr : kd.wrap (m + n) = r) (h : S E H N D F L a w) (k : ∀ a w, S E H N D ((d, .int kd r) :: F) L a w → γ.G rest a w)
   (ho : o.op = .binOp .add t x y u := by rfl) (hx : ev F x = some (.int kd m) := by rfl) (hy : ev F y = some (.int kd n) := by rfl)
   (hw : wn ops F o = some true := by rfl) (hd : o.dst = some d := by rfl) (hN : Nat.blt d N = true := by rfl) : γ.G (o :: rest) a w := by
 subst hr; exact add h k ho hx hy hw hd hN
theorem sbr {kd : IntKind} {m n : Int} (r : Int) (hr : kd.wrap (m - n) = r) (h : S E H N D F L a w) (k : ∀ a w, S E H N D ((d, .int kd r) :: F) L a w → γ.G rest a w)
   (ho : o.op = .binOp .sub t x y u := by rfl) (hx : ev F x = some (.int kd m) := by rfl) (hy : ev F y = some (.int kd n) := by rfl)
   (hw : wn ops F o = some true := by rfl) (hd : o.dst = some d := by rfl) (hN : Nat.blt d N = true := by rfl) : γ.G (o :: rest) a w := by
 subst hr; exact sb h k ho hx hy hw hd hN
theorem mx {t2 : Array TypeId} {m n : Int} (h : S E H N D F L a w) (k : ∀ a w, S E H N D ((d, .int .i64 (if m < n then n else m)) :: F) L a w → γ.G rest a w)
   (ho : o.op = .call { callee := .builtin .max, args := #[x, y], argTypes := t2 } := by rfl) (hx : ev F x = some (.int .i64 m) := by rfl) (hy : ev F y = some (.int .i64 n) := by rfl)
   (hw : wn ops F o = some true := by rfl) (hd : o.dst = some d := by rfl) (hN : Nat.blt d N = true := by rfl) : γ.G (o :: rest) a w :=
 pv h (fun w => by
   simp [execOp, ho, resolve, invoke, builtin, h.ag.ev hx, h.ag.ev hy, Builtin.max_, Builtin.max2]) k hw hd hN
end
structure KeyLaw (P : Program) (kt : TypeId) {κ : Type} [DecidableEq κ] (enc : κ → Value) (kind : TypeDesc) : Prop where
 und : P.underlying kt = some kind
 check : ∀ b a w, (Instr.checkKey b 10000 kt (enc a)).run P w = .ok () w
 now : ∀ a b, Instr.sameNow kind (enc a) (enc b) = some (decide (a = b))
 bits : ∀ a, Instr.sameBits 10000 (enc a) (enc a) = true
theorem KeyLaw.inj {P : Program} {kt : TypeId} {κ : Type} [DecidableEq κ] {enc : κ → Value} {kind : TypeDesc} (K : KeyLaw P kt enc kind) {a b : κ} (h : enc a = enc b) : a = b := by
 have h1 := K.now a b
 rw [h, K.now b b] at h1
 simpa using h1
theorem ba_beq (x y : ByteArray) : (x == y) = decide (x = y) := by
 obtain ⟨⟨x⟩⟩ := x; obtain ⟨⟨y⟩⟩ := y
 rw [Bool.eq_iff_iff]
 have : (({ data := ⟨x⟩ } : ByteArray) == { data := ⟨y⟩ }) = ((⟨x⟩ : Array UInt8) == ⟨y⟩) := rfl
 rw [this]
 simp
theorem keyStr {P : Program} {kt : TypeId} (h : P.underlying kt = some .string) : KeyLaw P kt (fun s : List UInt8 => Value.string ⟨s.toArray⟩) .string where
 und := h
 check b a w := by
   rw [show (10000 : Nat) = 9999 + 1 from rfl]
   unfold Instr.checkKey
   rw [Sem.run_bind, run_underlying h]; rfl
 now a b := by
   simp only [Instr.sameNow, ba_beq]
   by_cases e : a = b
   · subst e; simp
   · have : (⟨a.toArray⟩ : ByteArray) ≠ ⟨b.toArray⟩ := fun h => e (str_inj.1 h)
     simp [e, this]
 bits a := by simp [Instr.sameBits, ba_beq]
section
variable {κ : Type} [DecidableEq κ]
def fnd (k : κ) : List (κ × Value) → Nat → Option (Nat × Value)
 | [], _ => none
 | p :: l, i => if p.1 = k then some (i, p.2) else fnd k l (i + 1)
theorem fnd_lookup (k : κ) : ∀ (m : List (κ × Value)) (i : Nat), (fnd k m i).map (·.2) = m.lookup k
 | [], _ => rfl
 | (a, v) :: l, i => by
   simp only [fnd, List.lookup]
   by_cases e : a = k
   · subst e; simp
   · have : (k == a) = false := by simpa using Ne.symm e
     simp [e, this, fnd_lookup k l]
theorem fnd_some {k : κ} : ∀ {m : List (κ × Value)} {i j : Nat} {v : Value}, fnd k m i = some (j, v) → i ≤ j ∧ m[j - i]? = some (k, v)
 | [], _, _, _, h => by cases h
 | (a, u) :: l, i, j, v, h => by
   simp only [fnd] at h
   split at h
   · rename_i e
     simp at h; obtain ⟨rfl, rfl⟩ := h
     have e' : a = k := e
     subst e'
     exact ⟨Nat.le_refl _, by simp⟩
   · obtain ⟨h1, h2⟩ := fnd_some h
     refine ⟨by omega, ?_⟩
     rw [show j - i = (j - (i + 1)) + 1 by omega]
     simpa using h2
theorem fnd_none {k : κ} : ∀ {m : List (κ × Value)} {i : Nat}, fnd k m i = none → ∀ p ∈ m, p.1 ≠ k
 | [], _, _, p, hp => by cases hp
 | (a, u) :: l, i, h, p, hp => by
   simp only [fnd] at h
   split at h
   · cases h
   · rename_i e
     cases hp with
     | head => exact e
     | tail _ hp => exact fnd_none h p hp
def IsMap (enc : κ → Value) (f : κ → Option Value) (o : Obj) : Prop :=
 ∃ es clock, ∃ m : List (κ × Value), o = .map es clock ∧ MapKept.Stamped es clock ∧ es.toList.map (fun e => (e.key, e.val)) = m.map (fun p => (enc p.1, p.2)) ∧ (m.map (·.1)).Nodup ∧ ∀ k, m.lookup k = f k
theorem isMap_empty (enc : κ → Value) : IsMap enc (fun _ => none) (.map #[] 0) := ⟨#[], 0, [], rfl, MapKept.stamped_empty 0, rfl, by simp, fun _ => rfl⟩
theorem map_erase {α β : Type} (f : α → β) : ∀ (l : List α) (j : Nat), (l.eraseIdx j).map f = (l.map f).eraseIdx j
 | [], j => by simp
 | a :: l, 0 => by simp
 | a :: l, j + 1 => by simp [map_erase f l j]
variable {P : Program} {kt : TypeId} {enc : κ → Value} {kind : TypeDesc} {f : κ → Option Value}
theorem findNow_eq (K : KeyLaw P kt enc kind) (k : κ) : ∀ (es : List MapEntry) (m : List (κ × Value)) (i : Nat), es.map (fun e => (e.key, e.val)) = m.map (fun p => (enc p.1, p.2)) →
   Instr.findNow kind (enc k) es i = some (fnd k m i)
 | [], m, i, h => by
   cases m with
   | nil => rfl
   | cons p l => simp at h
 | e :: es, m, i, h => by
   cases m with
   | nil => simp at h
   | cons p l =>
     simp only [List.map_cons, List.cons.injEq, Prod.mk.injEq] at h
     obtain ⟨⟨h1, h2⟩, h3⟩ := h
     unfold Instr.findNow
     rw [h1, K.now]
     by_cases ek : p.1 = k
     · rw [decide_eq_true ek.symm]
       simp [fnd, ek, h2]
     · rw [decide_eq_false (Ne.symm ek)]
       simp only [fnd, ek, if_false]
       exact findNow_eq K k es l (i + 1) h3
theorem run_findKey (K : KeyLaw P kt enc kind) {es : Array MapEntry} {m : List (κ × Value)} (h : es.toList.map (fun e => (e.key, e.val)) = m.map (fun p => (enc p.1, p.2))) (k : κ) (w : World) :
   (Instr.findKey kt (enc k) es.toList).run P w = .ok (fnd k m 0) w := by
 unfold Instr.findKey
 simp only [Sem.run_bind, run_underlying K.und, Result.andThen_ok, findNow_eq K k es.toList m 0 h, Sem.run_pure]
theorem run_getMap {w : World} {g : Nat} {es : Array MapEntry} {c : Nat} (h : w.heap[g]? = some (.map es c)) : (getObj g).run P w = .ok (.map es c) w := by simp [getObj, Sem.run, h]
theorem run_lookup (K : KeyLaw P kt enc kind) {t et : TypeId} (ht : P.underlying t = some (.map kt et)) {z : Value} (hz : zrT P et = some z) {w : World} {g : Nat} {o : Obj} (hg : w.heap[g]? = some o) (hm : IsMap enc f o) (k : κ) (ok : Bool) :
   (Instr.lookup t (.map (some g)) (enc k) ok).run P w = .ok (if ok then .tuple #[(f k).getD z, .bool (f k).isSome] else (f k).getD z) w := by
 obtain ⟨es, c, m, rfl, hst, h1, h2, h3⟩ := hm
 have hzero : (zeroValue et).run P w = .ok z w := by
   unfold zrT at hz
   split at hz
   · rename_i i hi; simp [zeroValue, typeInfo, hi, hz]
   · cases hz
 have hf := run_findKey K h1 k w
 have hl := fnd_lookup k m 0
 rw [h3] at hl
 unfold Instr.lookup
 simp only [Sem.run_bind, run_underlying ht, Result.andThen_ok, run_getMap hg, Sem.run_pure, K.check, hf]
 cases hx : fnd k m 0 with
 | none => rw [hx] at hl; simp at hl; simp [hzero, ← hl]
 | some p => rw [hx] at hl; simp at hl; simp [← hl]
def upd (f : κ → Option Value) (k : κ) (v : Option Value) : κ → Option Value := fun x => if x = k then v else f x
theorem lookup_set {k : κ} {v u : Value} : ∀ {m : List (κ × Value)} {j : Nat}, m[j]? = some (k, u) → (∀ i p, i < j → m[i]? = some p → p.1 ≠ k) → ∀ x, (m.set j (k, v)).lookup x = if x = k then some v else m.lookup x
 | [], j, h, _, x => by simp at h
 | (a, w) :: l, 0, h, _, x => by
   simp at h; obtain ⟨rfl, rfl⟩ := h
   simp only [List.set_cons_zero, List.lookup]
   by_cases e : x = a
   · subst e; simp
   · have : (x == a) = false := by simpa using e
     simp [e, this]
 | (a, w) :: l, j + 1, h, hn, x => by
   simp at h
   simp only [List.set_cons_succ, List.lookup]
   have ha : a ≠ k := hn 0 (a, w) (by omega) rfl
   by_cases e : x = a
   · subst e; simp [ha]
   · have : (x == a) = false := by simpa using e
     simp only [this]
     exact lookup_set h (fun i p hi hp => hn (i + 1) p (by omega) (by simpa using hp)) x
theorem lookup_append {k : κ} {v : Value} : ∀ {m : List (κ × Value)}, (∀ p ∈ m, p.1 ≠ k) → ∀ x, (m ++ [(k, v)]).lookup x = if x = k then some v else m.lookup x
 | [], _, x => by
   simp only [List.nil_append, List.lookup]
   by_cases e : x = k
   · subst e; simp
   · have : (x == k) = false := by simpa using e
     simp [e, this]
 | (a, w) :: l, hn, x => by
   simp only [List.cons_append, List.lookup]
   have ha : a ≠ k := hn (a, w) (List.mem_cons_self ..)
   by_cases e : x = a
   · subst e; simp [ha]
   · have : (x == a) = false := by simpa using e
     simp only [this]
     exact lookup_append (fun p hp => hn p (List.mem_cons_of_mem _ hp)) x
theorem lookup_none_of {k : κ} : ∀ {m : List (κ × Value)}, (∀ p ∈ m, p.1 ≠ k) → m.lookup k = none
 | [], _ => rfl
 | (a, w) :: l, hn => by
   have ha : a ≠ k := hn (a, w) (List.mem_cons_self ..)
   have : (k == a) = false := by simpa using Ne.symm ha
   simp only [List.lookup, this]
   exact lookup_none_of fun p hp => hn p (List.mem_cons_of_mem _ hp)
theorem lookup_erase {k : κ} {u : Value} : ∀ {m : List (κ × Value)} {j : Nat}, (m.map (·.1)).Nodup → m[j]? = some (k, u) → ∀ x, (m.eraseIdx j).lookup x = if x = k then none else m.lookup x
 | [], j, _, h, x => by simp at h
 | (a, w) :: l, 0, hd, h, x => by
   simp at h; obtain ⟨rfl, rfl⟩ := h
   simp only [List.map_cons, List.nodup_cons] at hd
   simp only [List.eraseIdx_cons_zero, List.lookup]
   by_cases e : x = a
   · subst e
     rw [if_pos rfl]
     exact lookup_none_of fun p hp e => hd.1 (List.mem_map.2 ⟨p, hp, e⟩)
   · have : (x == a) = false := by simpa using e
     simp [e, this]
 | (a, w) :: l, j + 1, hd, h, x => by
   simp at h
   simp only [List.map_cons, List.nodup_cons] at hd
   simp only [List.eraseIdx_cons_succ, List.lookup]
   have ha : a ≠ k := fun e => by subst e; exact hd.1 (List.mem_map.2 ⟨_, List.mem_of_getElem? h, rfl⟩)
   by_cases e : x = a
   · subst e; simp [ha]
   · have : (x == a) = false := by simpa using e
     simp only [this]
     exact lookup_erase hd.2 h x
theorem nodup_first {k : κ} {u : Value} {m : List (κ × Value)} {j : Nat} (hd : (m.map (·.1)).Nodup) (h : m[j]? = some (k, u)) : ∀ i p, i < j → m[i]? = some p → p.1 ≠ k := by
 intro i p hi hp e
 have h1 : (m.map (·.1))[i]? = some k := by simp [hp, e]
 have h2 : (m.map (·.1))[j]? = some k := by simp [h]
 have hj : j < (m.map (·.1)).length := (List.getElem?_eq_some_iff.1 h2).1
 have := (List.getElem?_inj (by omega) hd).1 (h1.trans h2.symm)
 omega
theorem run_update (K : KeyLaw P kt enc kind) {t et : TypeId} (ht : P.underlying t = some (.map kt et)) {w : World} {g : Nat} {o : Obj} (hg : w.heap[g]? = some o) (hm : IsMap enc f o) (k : κ) (v : Value) :
   ∃ o', (Instr.mapUpdate t (.map (some g)) (enc k) v).run P w = .ok () { w with heap := w.heap.setIfInBounds g o' } ∧ IsMap enc (upd f k (some v)) o' := by
 obtain ⟨es, c, m, rfl, hst, h1, h2, h3⟩ := hm
 have hf := run_findKey K h1 k w
 cases hx : fnd k m 0 with
 | none =>
   refine ⟨.map (es.push { key := enc k, val := v, born := c }) (c + 1), ?_, ?_⟩
   · unfold Instr.mapUpdate
     simp only [Sem.run_bind, run_underlying ht, Result.andThen_ok, run_getMap hg, K.check, hf, hx]
     simp [setObj, Sem.run, hg]
   · have hn := fnd_none hx
     have hns : ∀ x ∈ es.toList, x.key ≠ enc k := by
       intro x hx e
       have : (x.key, x.val) ∈ m.map (fun p => (enc p.1, p.2)) := by rw [← h1]; exact List.mem_map.2 ⟨x, hx, rfl⟩
       obtain ⟨p, hp, hpe⟩ := List.mem_map.1 this
       have he : enc p.1 = enc k := by rw [← e]; exact congrArg Prod.fst hpe
       exact hn p hp (K.inj he)
     refine ⟨_, _, m ++ [(k, v)], rfl, MapKept.stamped_push hst hns, by simp [h1], ?_, fun x => ?_⟩
     · rw [List.map_append, List.nodup_append]
       refine ⟨h2, by simp, fun a ha b hb => ?_⟩
       simp at hb; subst hb
       obtain ⟨p, hp, rfl⟩ := List.mem_map.1 ha
       exact hn p hp
     · rw [lookup_append hn, h3]; rfl
 | some q =>
   obtain ⟨j, u⟩ := q
   obtain ⟨_, hj⟩ := fnd_some hx
   simp at hj
   have hlt : j < m.length := (List.getElem?_eq_some_iff.1 hj).1
   have hlen : es.toList.length = m.length := by simpa using congrArg List.length h1
   have hsz : j < es.size := by simp at hlen; omega
   have hke : es[j]? = some es[j] := Array.getElem?_eq_getElem hsz
   have hkey : (es[j]'hsz).key = enc k := by
     have : (es.toList.map (fun e => (e.key, e.val)))[j]? = some (enc k, u) := by rw [h1]; simp [hj]
     simp [hke] at this
     exact this.1
   refine ⟨.map (es.modify j fun e => { e with key := enc k, val := v }) c, ?_, ?_⟩
   · unfold Instr.mapUpdate
     simp only [Sem.run_bind, run_underlying ht, Result.andThen_ok, run_getMap hg, K.check, hf, hx]
     simp [hke, hkey, Instr.keyThatStays, K.bits, setObj, Sem.run, hg]
   · refine ⟨_, _, m.set j (k, v), rfl, MapKept.stamped_modify hst j _ (fun _ _ => rfl) (fun e _ he => by rw [hke] at he; cases he; exact hkey.symm), ?_, ?_, fun x => ?_⟩
     · apply List.ext_getElem?
       intro i
       have hi : (es.toList.map (fun e => (e.key, e.val)))[i]? = (m.map (fun p => (enc p.1, p.2)))[i]? := by rw [h1]
       simp only [List.getElem?_map, Array.getElem?_toList] at hi ⊢
       rw [Array.getElem?_modify, List.getElem?_set]
       by_cases e : j = i
       · subst e; simp [hke, hlt]
       · simp only [e, if_false]; exact hi
     · have : (m.set j (k, v)).map (·.1) = m.map (·.1) := by
         apply List.ext_getElem?
         intro i
         simp only [List.getElem?_map, List.getElem?_set]
         by_cases e : j = i
         · subst e
           have : m[j] = (k, u) := by rw [List.getElem?_eq_getElem hlt] at hj; exact Option.some.inj hj
           simp [hlt, this]
         · simp [e]
       rw [this]; exact h2
     · rw [lookup_set hj (nodup_first h2 hj), h3]; rfl
theorem run_delete (K : KeyLaw P kt enc kind) {t et ty : TypeId} {ts : Array TypeId} (hts : ts[0]? = some t) (ht : P.underlying t = some (.map kt et)) {w : World} {g : Nat} {o : Obj} (hg : w.heap[g]? = some o) (hm : IsMap enc f o) (k : κ) :
   ∃ o', (Builtin.delete_ ts ty #[.map (some g), enc k]).run P w = .ok (.tuple #[]) { w with heap := w.heap.setIfInBounds g o' } ∧ IsMap enc (upd f k none) o' := by
 obtain ⟨es, c, m, rfl, hst, h1, h2, h3⟩ := hm
 have hf := run_findKey K h1 k w
 cases hx : fnd k m 0 with
 | none =>
   refine ⟨.map es c, ?_, ⟨es, c, m, rfl, hst, h1, h2, fun x => ?_⟩⟩
   · unfold Builtin.delete_
     simp only [hts]
     simp only [List.getElem?_toArray, List.getElem?_cons_zero, List.getElem?_cons_succ, Sem.run_bind, run_underlying ht, Result.andThen_ok, run_getMap hg, K.check, hf, hx]
     simp [setObj, Sem.run, hg]
   · rw [h3]
     unfold upd
     split
     · rename_i e; subst e
       rw [← h3]; exact lookup_none_of (fnd_none hx)
     · rfl
 | some q =>
   obtain ⟨j, u⟩ := q
   obtain ⟨_, hj⟩ := fnd_some hx
   simp at hj
   have hlt : j < m.length := (List.getElem?_eq_some_iff.1 hj).1
   have hlen : es.toList.length = m.length := by simpa using congrArg List.length h1
   refine ⟨.map (es.eraseIdxIfInBounds j) c, ?_, ⟨_, _, m.eraseIdx j, rfl, MapKept.stamped_erase hst j, ?_, ?_, fun x => ?_⟩⟩
   · unfold Builtin.delete_
     simp only [hts]
     simp only [List.getElem?_toArray, List.getElem?_cons_zero, List.getElem?_cons_succ, Sem.run_bind, run_underlying ht, Result.andThen_ok, run_getMap hg, K.check, hf, hx]
     simp [setObj, Sem.run, hg]
   · have hs : j < es.size := by simp at hlen; omega
     simp only [Array.eraseIdxIfInBounds, hs, dif_pos, Array.toList_eraseIdx]
     rw [map_erase, h1, map_erase]
   · rw [map_erase]; exact h2.sublist (List.eraseIdx_sublist ..)
   · rw [lookup_erase h2 hj, h3]; rfl
end
section
variable {P : Program} {ops : Array Oper} {Q : Exit → Act → World → Prop} {γ : Gd P ops Q} {rest : List Oper} {o : Oper} {E w : World} {H : GH} {N : Nat} {D : List Deferred} {F : List (Nat × Value)} {L : List It} {a : Act}
variable {t u : TypeId} {x y : Operand} {d : Nat} {v : Value} {g off : Nat} {cs : Array Value} {ty : TypeId}
variable {κ : Type} [DecidableEq κ] {kt et : TypeId} {enc : κ → Value} {kind : TypeDesc} {f : κ → Option Value}
/-! ### Maps -/
def mapT (P : Program) (t : TypeId) : Option (TypeId × TypeId) := match P.underlying t with
 | some (.map k e) => some (k, e)
 | _ => none
theorem und_map (h : mapT P t = some (kt, et)) : P.underlying t = some (.map kt et) := by
 unfold mapT at h; split at h
 · rename_i k e hu; simp at h; obtain ⟨rfl, rfl⟩ := h; exact hu
 · cases h
theorem mk0 (h : S E H N D F L a w) (k : ∀ g a w, S E H N D ((d, .map (some g)) :: F) (.blk g (IsMap enc (fun _ => none)) :: L) a w → γ.G rest a w)
   (ho : o.op = .makeMap t none := by rfl) (hw : wn ops F o = some true := by rfl) (hd : o.dst = some d := by rfl) (hN : Nat.blt d N = true := by rfl)
   (hE : γ.isE rest.length = true := by rfl) (hS : γ.isN rest.length = true → ∀ g w, St E H (.blk g (IsMap enc (fun _ => none)) :: L) w → γ.S w := by first | exact fun e => Bool.noConfusion (show false = true from e) | exact fun _ _ _ hw => hw.sees' LE.rfl (by simp) | exact fun _ _ _ hw => hw.sees' (by assumption) (by simp)) : γ.G (o :: rest) a w := by
 have h1 := h.st.alloc (.map #[] 0)
 have h2 : St E H (.blk w.heap.size (IsMap enc (fun _ => none)) :: L) (w.alloc (.map #[] 0)) :=
   h1.set (k := 0) (i := .obj w.heap.size (.map #[] 0)) rfl ⟨_, h1.holds _ (List.mem_cons_self ..), isMap_empty enc⟩ (fun x hx => .inl hx) rfl rfl rfl (fun _ _ _ => rfl)
 refine val h hw hd hN hE (fun e => hS e _) (w' := w.alloc (.map #[] 0)) ?_ h2 (k _)
 simp [execOp, ho, Instr.makeMap, newObj, Sem.run, World.alloc_eq]
theorem lkX {H1 : GH} {L1 : List It} (k0 : Nat) {z : Value} {q : κ} (K : KeyLaw P kt enc kind) (ht : mapT P t = some (kt, et)) (hz : zrT P et = some z) (h : S E H N D F L a w)
   (hR : γ.isR rest.length = true) (hSw : γ.S w) (hW : ∀ w', γ.W w w' → Sees H1 L1 w') (k : ∀ a w, S E H N D ((d, .tuple #[(f q).getD z, .bool (f q).isSome]) :: F) L a w → γ.G rest a w)
   (ho : o.op = .lookup t x y true) (hx : ev F x = some (.map (some g))) (hy : ev F y = some (enc q)) (hk : L1[k0]? = some (.blk g (IsMap enc f)))
   (hw : wn ops F o = some true) (hd : o.dst = some d) (hN : Nat.blt d N = true) : γ.G (o :: rest) a w :=
 rdv h hR hSw (fun w' hw' => by
   obtain ⟨o', hg, hm⟩ := item_at (hW w' hw') hk
   have := run_lookup K (und_map ht) hz hg hm q true
   simp only [if_true] at this
   simp [execOp, ho, h.ag.ev hx, h.ag.ev hy, this]) k hw hd hN
theorem lkD {H1 : GH} {L1 : List It} {eff rd : List Nat} {nS : Nat} (k0 : Nat) {z : Value} {q : κ} (K : KeyLaw P kt enc kind) (ht : mapT P t = some (kt, et)) (hz : zrT P et = some z) (h : S E H N D F L a w)
   (k : ∀ a w, S E H N D ((d, .tuple #[(f q).getD z, .bool (f q).isSome]) :: F) L a w → (gd P ops Q (Sees H1 L1) eff rd nS).G rest a w)
   (ho : o.op = .lookup t x y true := by rfl) (hx : ev F x = some (.map (some g)) := by rfl) (hy : ev F y = some (enc q) := by rfl) (hk : L1[k0]? = some (.blk g (IsMap enc f)) := by rfl)
   (hw : wn ops F o = some true := by rfl) (hd : o.dst = some d := by rfl) (hN : Nat.blt d N = true := by rfl)
   (hR : (gd P ops Q (Sees H1 L1) eff rd nS).isR rest.length = true := by rfl) (hSub : ∀ i ∈ L1, i ∈ L := by simp) (hLe : LE H1 H := by first | exact LE.rfl | assumption) : (gd P ops Q (Sees H1 L1) eff rd nS).G (o :: rest) a w :=
 lkX k0 K ht hz h hR (h.st.sees' hLe hSub) (fun w' e => e) k ho hx hy hk hw hd hN
theorem lk1X {H1 : GH} {L1 : List It} (k0 : Nat) {z : Value} {q : κ} (K : KeyLaw P kt enc kind) (ht : mapT P t = some (kt, et)) (hz : zrT P et = some z) (h : S E H N D F L a w)
   (hR : γ.isR rest.length = true) (hSw : γ.S w) (hW : ∀ w', γ.W w w' → Sees H1 L1 w') (k : ∀ a w, S E H N D ((d, (f q).getD z) :: F) L a w → γ.G rest a w)
   (ho : o.op = .lookup t x y false) (hx : ev F x = some (.map (some g))) (hy : ev F y = some (enc q)) (hk : L1[k0]? = some (.blk g (IsMap enc f)))
   (hw : wn ops F o = some true) (hd : o.dst = some d) (hN : Nat.blt d N = true) : γ.G (o :: rest) a w :=
 rdv h hR hSw (fun w' hw' => by
   obtain ⟨o', hg, hm⟩ := item_at (hW w' hw') hk
   have := run_lookup K (und_map ht) hz hg hm q false
   simp only [Bool.false_eq_true, if_false] at this
   simp [execOp, ho, h.ag.ev hx, h.ag.ev hy, this]) k hw hd hN
theorem lk1 (k0 : Nat) {z : Value} {q : κ} (K : KeyLaw P kt enc kind) (ht : mapT P t = some (kt, et)) (hz : zrT P et = some z) (h : S E H N D F L a w)
   (k : ∀ a w, S E H N D ((d, (f q).getD z) :: F) L a w → (gl P ops Q).G rest a w)
   (ho : o.op = .lookup t x y false := by rfl) (hx : ev F x = some (.map (some g)) := by rfl) (hy : ev F y = some (enc q) := by rfl) (hk : L[k0]? = some (.blk g (IsMap enc f)) := by rfl)
   (hw : wn ops F o = some true := by rfl) (hd : o.dst = some d := by rfl) (hN : Nat.blt d N = true := by rfl) : (gl P ops Q).G (o :: rest) a w :=
 lk1X k0 K ht hz h rfl trivial (fun w' e => e ▸ h.st.sees) k ho hx hy hk hw hd hN
theorem St.setMap {k0 : Nat} {o' : Obj} {p p' : Obj → Prop} (h : St E H L w) (hk : L[k0]? = some (.blk g p)) (hp : p' o') : St E H (L.set k0 (.blk g p')) { w with heap := w.heap.setIfInBounds g o' } := by
 obtain ⟨o0, hg, _⟩ := h.holds _ (List.mem_of_getElem? hk)
 have hlt : g < w.heap.size := (Array.getElem?_eq_some_iff.1 hg).1
 refine h.set hk ⟨o', by simp [hlt], hp⟩ (fun x hx => .inl hx) rfl rfl rfl (fun b _ hn => ?_)
 have : g ≠ b := fun e => hn (by simp [It.own, e])
 simp [Array.getElem?_setIfInBounds, this]
theorem mu (k0 : Nat) {z : Operand} {q : κ} (K : KeyLaw P kt enc kind) (ht : mapT P t = some (kt, et)) (h : S E H N D F L a w)
   (k : ∀ a w, S E H N D F (L.set k0 (.blk g (IsMap enc (upd f q (some v))))) a w → γ.G rest a w)
   (ho : o.op = .mapUpdate t x y z := by rfl) (hx : ev F x = some (.map (some g)) := by rfl) (hy : ev F y = some (enc q) := by rfl) (hv : ev F z = some v := by rfl) (hk : L[k0]? = some (.blk g (IsMap enc f)) := by rfl)
   (hw : wn ops F o = some true := by rfl) (hd : o.dst = none := by rfl)
   (hE : γ.isE rest.length = true := by rfl) (hS : γ.isN rest.length = true → ∀ w, St E H (L.set k0 (.blk g (IsMap enc (upd f q (some v))))) w → γ.S w := by first | exact fun e => Bool.noConfusion (show false = true from e) | exact fun _ _ hw => hw.sees' LE.rfl (by simp) | exact fun _ _ hw => hw.sees' (by assumption) (by simp)) : γ.G (o :: rest) a w := by
 obtain ⟨o0, hg, hm⟩ := h.st.holds _ (List.mem_of_getElem? hk)
 obtain ⟨o', hrun, hm'⟩ := run_update K (und_map ht) hg hm q v
 exact unit_ h hw hd hE hS (by simp [execOp, ho, h.ag.ev hx, h.ag.ev hy, h.ag.ev hv, hrun]) (h.st.setMap hk hm') k
theorem dl (k0 : Nat) {q : κ} {t2 : TypeId} (K : KeyLaw P kt enc kind) (ht : mapT P t = some (kt, et)) (h : S E H N D F L a w)
   (k : ∀ a w, S E H N D F (L.set k0 (.blk g (IsMap enc (upd f q none)))) a w → γ.G rest a w)
   (ho : o.op = .call { callee := .builtin .delete, args := #[x, y], argTypes := #[t, t2] } := by rfl) (hx : ev F x = some (.map (some g)) := by rfl) (hy : ev F y = some (enc q) := by rfl) (hk : L[k0]? = some (.blk g (IsMap enc f)) := by rfl)
   (hw : wn ops F o = some true := by rfl) (hd : o.dst = none := by rfl)
   (hE : γ.isE rest.length = true := by rfl) (hS : γ.isN rest.length = true → ∀ w, St E H (L.set k0 (.blk g (IsMap enc (upd f q none)))) w → γ.S w := by first | exact fun e => Bool.noConfusion (show false = true from e) | exact fun _ _ hw => hw.sees' LE.rfl (by simp) | exact fun _ _ hw => hw.sees' (by assumption) (by simp)) : γ.G (o :: rest) a w := by
 obtain ⟨o0, hg, hm⟩ := h.st.holds _ (List.mem_of_getElem? hk)
 obtain ⟨o', hrun, hm'⟩ := run_delete (ty := o.type) (ts := #[t, t2]) K rfl (und_map ht) hg hm q
 refine γ.eff hE (wanted_of h.ag hw) ?_
 unfold Oper.wp
 have hr : (execOp a.eval o).run P w = .ok (.value (.tuple #[])) { w with heap := w.heap.setIfInBounds g o' } := by
   simp [execOp, ho, resolve, invoke, builtin, h.ag.ev hx, h.ag.ev hy, hrun]
 rw [hr, Oper.upon_value, hd]
 exact ⟨fun e => hS e _ (h.st.setMap hk hm'), k _ _ ⟨h.ag, h.st.setMap hk hm'⟩⟩
/-! ### Texts -/
theorem ix {s : List UInt8} {j : Nat} {i : Int} {c : UInt8} {q : IntKind} (hs : strT P t = true) (hi : i = j) (hc : s[j]? = some c) (h : S E H N D F L a w) (k : ∀ a w, S E H N D ((d, .int .u8 (c.toNat : Int)) :: F) L a w → γ.G rest a w)
   (ho : o.op = .index t x y := by rfl) (hx : ev F x = some (.string ⟨s.toArray⟩) := by rfl) (hy : ev F y = some (.int q i) := by rfl)
   (hw : wn ops F o = some true := by rfl) (hd : o.dst = some d := by rfl) (hN : Nat.blt d N = true := by rfl) : γ.G (o :: rest) a w := by
 subst hi
 refine pv h (fun w => ?_) k hw hd hN
 have hlt : j < s.length := (List.getElem?_eq_some_iff.1 hc).1
 have hb : (⟨s.toArray⟩ : ByteArray)[j]? = some c := by
   have h2 : j < (⟨s.toArray⟩ : ByteArray).size := by simpa [ByteArray.size] using hlt
   rw [getElem?_pos (⟨s.toArray⟩ : ByteArray) j h2]
   have : s[j] = c := by rw [List.getElem?_eq_getElem hlt] at hc; exact Option.some.inj hc
   rw [← this]; rfl
 simp [execOp, ho, h.ag.ev hx, h.ag.ev hy, Instr.index, asIntOf, run_underlying (und_str hs), hb]
theorem orb {c c' : UInt8} (h : S E H N D F L a w) (k : ∀ a w, S E H N D ((d, .int .u8 ((c ||| c').toNat : Int)) :: F) L a w → γ.G rest a w)
   (ho : o.op = .binOp .or t x y u := by rfl) (hx : ev F x = some (.int .u8 (c.toNat : Int)) := by rfl) (hy : ev F y = some (.int .u8 (c'.toNat : Int)) := by rfl)
   (hw : wn ops F o = some true := by rfl) (hd : o.dst = some d := by rfl) (hN : Nat.blt d N = true := by rfl) : γ.G (o :: rest) a w :=
 bo (run_int _ _ (fun w => by
   have h1 := c.toNat_lt
   have h2 := c'.toNat_lt
   simp [binOp, Op.intBits, IntKind.wrap, IntKind.bits, IntKind.signed]
   have e : (c.toBitVec ||| c'.toBitVec).toNat = c.toNat ||| c'.toNat := BitVec.toNat_or ..
   have h3 : c.toNat ||| c'.toNat < 2 ^ 8 := Nat.or_lt_two_pow h1 h2
   change ((((c.toBitVec ||| c'.toBitVec).toNat : Nat) : Int) % 256 = _)
   rw [e]
   omega)) h k ho hx hy hw hd hN
theorem cat {s s' : List UInt8} (h : S E H N D F L a w) (k : ∀ a w, S E H N D ((d, .string ⟨(s ++ s').toArray⟩) :: F) L a w → γ.G rest a w)
   (hl : s.length + s'.length ≤ 100000000000000)
   (ho : o.op = .binOp .add t x y u := by rfl) (hx : ev F x = some (.string ⟨s.toArray⟩) := by rfl) (hy : ev F y = some (.string ⟨s'.toArray⟩) := by rfl)
   (hw : wn ops F o = some true := by rfl) (hd : o.dst = some d := by rfl) (hN : Nat.blt d N = true := by rfl) : γ.G (o :: rest) a w :=
 bo (run_str _ _ (fun w => by
   have e : (⟨s.toArray⟩ : ByteArray) ++ ⟨s'.toArray⟩ = ⟨(s ++ s').toArray⟩ := by
     apply ByteArray.ext; simp
   have hn : ¬ ((((⟨s.toArray⟩ : ByteArray).size + (⟨s'.toArray⟩ : ByteArray).size : Nat) : Int) > IntKind.i64.max) := by
     have e1 : (⟨s.toArray⟩ : ByteArray).size = s.length := by simp [ByteArray.size]
     have e2 : (⟨s'.toArray⟩ : ByteArray).size = s'.length := by simp [ByteArray.size]
     rw [e1, e2]; simp [IntKind.max, IntKind.signed, IntKind.bits]; omega
   simp only [binOp, Op.stringOp]
   rw [if_neg hn, e]; rfl)) h k ho hx hy hw hd hN
/-! ### Rows that are frozen -/
def RowR {α : Type} (R : GH → List Value → α → Prop) (sz : Nat) (H : GH) (xs : List Value) (ys : List α) : Prop :=
 ∃ css : List (List Value), css.length = ys.length ∧ xs = css.flatten ∧ ∀ (j : Nat) (cs : List Value) (y : α), css[j]? = some cs → ys[j]? = some y → cs.length = sz ∧ R H cs y
section
variable {α : Type} {R : GH → List Value → α → Prop} {sz : Nat} {xs zs : List Value} {ys us : List α}
theorem RowR.nil : RowR R sz H [] ([] : List α) := ⟨[], rfl, rfl, fun j cs y h => by simp at h⟩
theorem RowR.one {cs : List Value} {y : α} (hl : cs.length = sz) (hr : R H cs y) : RowR R sz H cs [y] := ⟨[cs], rfl, by simp, fun j c z h1 h2 => by
 cases j with
 | zero => simp at h1 h2; subst h1; subst h2; exact ⟨hl, hr⟩
 | succ j => simp at h1⟩
theorem RowR.app (h : RowR R sz H xs ys) (k : RowR R sz H zs us) : RowR R sz H (xs ++ zs) (ys ++ us) := by
 obtain ⟨c1, l1, e1, p1⟩ := h
 obtain ⟨c2, l2, e2, p2⟩ := k
 refine ⟨c1 ++ c2, by simp [l1, l2], by simp [e1, e2], fun j cs y h1 h2 => ?_⟩
 by_cases hj : j < c1.length
 · rw [List.getElem?_append_left hj] at h1
   rw [List.getElem?_append_left (by omega)] at h2
   exact p1 j cs y h1 h2
 · rw [List.getElem?_append_right (by omega)] at h1
   rw [List.getElem?_append_right (by omega), ← l1] at h2
   exact p2 _ cs y h1 h2
theorem RowR.snoc {cs : List Value} {y : α} (h : RowR R sz H xs ys) (hl : cs.length = sz) (hr : R H cs y) : RowR R sz H (xs ++ cs) (ys ++ [y]) := h.app (.one hl hr)
theorem RowR.mono {H' : GH} (h : RowR R sz H xs ys) (hR : ∀ cs y, y ∈ ys → R H cs y → R H' cs y) : RowR R sz H' xs ys := by
 obtain ⟨c1, l1, e1, p1⟩ := h
 exact ⟨c1, l1, e1, fun j cs y h1 h2 => ⟨(p1 j cs y h1 h2).1, hR cs y (List.mem_of_getElem? h2) (p1 j cs y h1 h2).2⟩⟩
theorem flatten_at {css : List (List Value)} (hl : ∀ cs ∈ css, cs.length = sz) : ∀ {j i : Nat} {cs : List Value}, css[j]? = some cs → i < sz → css.flatten[j * sz + i]? = cs[i]? := by
 induction css with
 | nil => intro j i cs h; simp at h
 | cons c css ih =>
   intro j i cs h hi
   have hc := hl c (List.mem_cons_self ..)
   cases j with
   | zero => simp at h; subst h; simp [List.getElem?_append_left, hc, hi]
   | succ j =>
     simp at h
     have := ih (fun x hx => hl x (List.mem_cons_of_mem _ hx)) h hi
     rw [List.flatten_cons, List.getElem?_append_right (by rw [hc, Nat.succ_mul]; omega), hc]
     rw [← this]; congr 1; rw [Nat.succ_mul]; omega
theorem RowR.len (h : RowR R sz H xs ys) : xs.length = ys.length * sz := by
 obtain ⟨css, l1, rfl, p1⟩ := h
 induction css generalizing ys with
 | nil => simp at l1; simp [← l1]
 | cons c css ih =>
   cases ys with
   | nil => simp at l1
   | cons y ys =>
     simp at l1
     have h0 := p1 0 c y rfl rfl
     have := ih l1 (fun j cs z h1 h2 => p1 (j + 1) cs z (by simpa using h1) (by simpa using h2))
     simp only [List.flatten_cons, List.length_append, this, h0.1, List.length_cons, Nat.succ_mul]; omega
theorem S.frow {v : Value} {e n : Nat} (h : S E H N D F (.row v e sz n xs :: L) a w) (hr : RowR R sz H xs ys) (hn : n = ys.length) (hR : ∀ H', LE H H' → ∀ cs y, y ∈ ys → R H cs y → R H' cs y) :
   ∃ H', LE H H' ∧ S E H' N D F L a w ∧ RS R sz H' v ys := by
 have hown : w.ownsRow 0 e sz v n xs := h.st.holds _ (List.mem_cons_self ..)
 obtain ⟨css, l1, rfl, p1⟩ := hr
 rcases hown.2 with ⟨rfl, h0⟩ | ⟨g, cap, cur, rfl, _, hg, hnc, _, hsz, htk⟩
 · have hys : ys = [] := List.eq_nil_of_length_eq_zero (by omega)
   subst hys
   exact ⟨H, LE.rfl, ⟨h.ag, h.st.drop 1⟩, RS.nil R sz H⟩
 · have hst : St E H (.obj g (.cells cur e (0, 0)) :: L) w :=
     h.st.set (k := 0) (i := .row (.slice (some ⟨g, 0, none⟩) n cap) e sz n css.flatten) (j := .obj g (.cells cur e (0, 0))) rfl hg (fun x hx => .inl (by simpa [It.own, Value.ownBlock] using hx)) rfl rfl rfl (fun _ _ _ => rfl)
   obtain ⟨hle, hst'⟩ := hst.freeze
   refine ⟨_, hle, ⟨h.ag, hst'⟩, some ⟨g, 0, none⟩, cap, by rw [hn], by omega, fun j y hy => ?_⟩
   have hj : j < css.length := by have := (List.getElem?_eq_some_iff.1 hy).1; omega
   obtain ⟨h1, h2⟩ := p1 j css[j] y (List.getElem?_eq_getElem hj) hy
   refine ⟨g, 0, css[j], rfl, h1, hR _ hle _ y (List.mem_of_getElem? hy) h2, fun i u hu => ⟨cur, e, (0, 0), put_same H g _, ?_⟩⟩
   have hi : i < sz := by have := (List.getElem?_eq_some_iff.1 hu).1; omega
   have hall : ∀ cs ∈ css, cs.length = sz := fun cs hcs => by
     obtain ⟨q, hq, rfl⟩ := List.getElem_of_mem hcs
     exact (p1 q css[q] (ys[q]'(by omega)) (List.getElem?_eq_getElem hq) (List.getElem?_eq_getElem (by omega))).1
   have hf := flatten_at hall (List.getElem?_eq_getElem hj) hi
   rw [hu, ← htk, List.getElem?_take] at hf
   split at hf
   · simpa using hf
   · cases hf
end
theorem apS {α : Type} {R : GH → List Value → α → Prop} {e sz by_ n c k0 : Nat} {v : Value} {xs : List Value} {ys : List α} {A : Option Addr} {L' : It → List It} (hL : ∀ i, L.set k0 i = L' i) (ht : rowT P t e sz by_ = true) (hs : RS R sz H (.slice A ys.length c) ys) (hone : ∀ cs y, y ∈ ys → R H cs y → ∀ u ∈ cs, u.oneCell' = true)
   (h : S E H N D F L a w) (hk : L[k0]? = some (.row v e sz n xs)) (hb : (n + ys.length) * by_ ≤ 140737488355328) (h63 : n + ys.length ≤ 4611686018427387904)
   (k : ∀ v' news a w, v'.oneCell' = true → RowR R sz H news ys → S E H N D ((d, v') :: F) (L' (.row v' e sz (n + ys.length) (xs ++ news))) a w → γ.G rest a w)
   (ho : o.op = .call { callee := .builtin .append, args := #[x, y], argTypes := #[t, t] } := by rfl) (hx : ev F x = some v := by rfl) (hy : ev F y = some (.slice A ys.length c) := by rfl)
   (hw : wn ops F o = some true := by rfl) (hd : o.dst = some d := by rfl) (hN : Nat.blt d N = true := by rfl)
   (hE : γ.isE rest.length = true := by rfl) (hS : γ.isN rest.length = true → ∀ v' news w, St E H (L' (.row v' e sz (n + ys.length) (xs ++ news))) w → γ.S w := by first | exact fun e => Bool.noConfusion (show false = true from e) | exact fun _ _ _ _ hw => hw.sees' LE.rfl (by simp) | exact fun _ _ _ _ hw => hw.sees' (by assumption) (by simp)) : γ.G (o :: rest) a w := by
 obtain ⟨A', c', e1, hle, hat⟩ := hs
 cases e1
 obtain ⟨hu, i, z, hi, hz, hsz, hby, hzs, h0⟩ := row_of ht
 have hown : w.ownsRow 0 e sz v n xs := item_at h.st.sees hk
 rcases Nat.eq_zero_or_pos ys.length with h00 | hpos
 · -- nothing is put behind it
   have hys : ys = [] := List.eq_nil_of_length_eq_zero h00
   subst hys
   have hrun : (Builtin.append_ #[t, t] o.type #[v, .slice A 0 c]).run P w = .ok v w ∧ v.oneCell' = true := by
     rcases hown.2 with ⟨rfl, hn0⟩ | ⟨g, cap, cur, rfl, _, _, hnc, _⟩
     · cases A <;> simp [Builtin.append_, run_underlying hu, sizeOf, typeInfo, hi, Builtin.lenOf, Builtin.firstCells, loadCells, loadCellsFrom, Value.oneCell']
     · cases A <;> simp [Builtin.append_, run_underlying hu, sizeOf, typeInfo, hi, Builtin.lenOf, Builtin.firstCells, hnc, storeCells, loadCells, loadCellsFrom, Value.oneCell']
   have hst : St E H (L' (.row v e sz (n + 0) (xs ++ []))) w := by
     rw [← hL, Nat.add_zero, List.append_nil]
     exact h.st.set hk hown (fun x hx => .inl hx) rfl rfl rfl (fun _ _ _ => rfl)
   exact val h hw hd hN hE (fun e => hS e v []) (by have hr := hrun.1; simp [execOp, ho, resolve, invoke, builtin, h.ag.ev hx, h.ag.ev hy, hr]) hst (fun a w hS' => k v [] a w hrun.2 .nil hS')
 · obtain ⟨g, off, cs0, rfl, _⟩ := hat 0 ys[0] (List.getElem?_eq_getElem hpos)
   -- the cells
   have hex : ∀ q, q ≤ ys.length → ∃ news : List Value, RowR R sz H news (ys.take q) ∧ (∀ j u, news[j]? = some u → Hc H g (off + j) u) ∧ ∀ u ∈ news, u.oneCell' = true := by
     intro q
     induction q with
     | zero => intro _; exact ⟨[], by simpa using RowR.nil, fun j u hu => by simp at hu, fun u hu => by cases hu⟩
     | succ q ih =>
       intro hq
       obtain ⟨news, hr, hc, h1⟩ := ih (by omega)
       obtain ⟨g', off', cs, e2, hl, hR, hcell⟩ := hat q ys[q] (List.getElem?_eq_getElem (by omega))
       cases e2
       refine ⟨news ++ cs, ?_, ?_, ?_⟩
       · rw [List.take_succ_eq_append_getElem (by omega)]; exact hr.snoc hl hR
       · intro j u hu
         have hlen := hr.len
         rw [List.length_take, Nat.min_eq_left (by omega)] at hlen
         by_cases hj : j < news.length
         · rw [List.getElem?_append_left hj] at hu; exact hc j u hu
         · rw [List.getElem?_append_right (by omega)] at hu
           have := hcell _ u hu
           rw [hlen] at this
           rwa [show off + q * sz + (j - q * sz) = off + j by omega] at this
       · intro u hu
         rcases List.mem_append.1 hu with hu | hu
         · exact h1 u hu
         · exact hone cs ys[q] (List.getElem_mem _) hR u hu
   obtain ⟨news, hr, hc, h1⟩ := hex ys.length (Nat.le_refl _)
   rw [List.take_length] at hr
   have hl := hr.len
   obtain ⟨v', w', hrun, ho', hg, _, hv⟩ := run_append_own_at (P := P) w 0 t o.type e i z sz by_ hu hi hz hsz hby hzs h0 v n xs hown ⟨g, off, none⟩ ys.length c news hl (fun j u hj => by rw [Addr.add_mid]; exact (hc j u hj).cell h.st.sees) h1 (by simp only [maxLen]; omega) hb (Nat.zero_le _)
   have hst : St E H (L' (.row v' e sz (n + ys.length) (xs ++ news))) w' := by rw [← hL]; exact h.st.row hk ho' hg hv
   refine val h hw hd hN hE (fun e => hS e v' news) (w' := w') ?_ hst (fun a w hS' => k v' news a w ?_ hr hS')
   · simp [execOp, ho, resolve, invoke, builtin, h.ag.ev hx, h.ag.ev hy, hrun]
   · rcases ho'.2 with ⟨e, _⟩ | ⟨g', cap, cur, e, _⟩ <;> rw [e] <;> rfl
/-! ### Deferred calls -/
def OkD (P : Program) (f : FuncId) (args : Array Value) (E : World) (H : GH) (L : List It) (R : Value → GH → List It → Prop) : Prop :=
 ∀ w, St E H L w → ∀ u, CallsD P f args u w fun e u' w' => u' = u ∧ ∃ r H' L', e = .returned r ∧ LE H H' ∧ St E H' L' w' ∧ R r H' L'
theorem enterR {f : FuncId} {fn : Func} {c : Code} {args : List Value} {R : Value → GH → List It → Prop} (F : List (Nat × Value)) (hf : P.funcs[f]? = some fn) (hb : fn.body = some c) (hn : fn.ntmps = N)
   (hF : F.map (fun p => args.toArray[p.1]?) = F.map (fun p => some p.2)) (hs : Nat.ble args.length N = true) (h : ∀ a w, S E H N [] F L a w → c.wp P (Fin P fn E H R) a w) : OkD P f args.toArray E H L R := fun w hw u =>
 callsD_of_wp hf hb (h _ _ ⟨by rw [hn]; exact ag_enter N args.toArray (by simpa using hs) F hF, hw⟩)
def FinD (P : Program) (fn : Func) (E : World) (H : GH) (R : Value → GH → List It → Prop) : Exit → Act → World → Prop :=
 bodyPostD P fn fun e w' => ∃ r H' L', e = .returned r ∧ LE H H' ∧ St E H' L' w' ∧ R r H' L'
theorem enterD {f : FuncId} {fn : Func} {c : Code} {args : List Value} {R : Value → GH → List It → Prop} (F : List (Nat × Value)) (hf : P.funcs[f]? = some fn) (hb : fn.body = some c) (hn : fn.ntmps = N)
   (hF : F.map (fun p => args.toArray[p.1]?) = F.map (fun p => some p.2)) (hs : Nat.ble args.length N = true) (h : ∀ a w, S E H N [] F L a w → c.wp P (FinD P fn E H R) a w) : Ok P f args.toArray E H L R := fun w hw =>
 calls_of_wp_defers hf hb (h _ _ ⟨by rw [hn]; exact ag_enter N args.toArray (by simpa using hs) F hF, hw⟩)
theorem df {f : FuncId} {first caps : Array Value} {aL : List Operand} {vs : List Value} {ts : Array TypeId} (h : S E H N D F L a w)
   (k : ∀ a w, S E H N ({ target := .fn (.func f) caps, args := first ++ vs.toArray } :: D) F L a w → γ.G rest a w)
   (ho : o.op = .defer { callee := .value x, args := aL.toArray, argTypes := ts } := by rfl) (hx : ev F x = some (.func (.func f) first caps) := by rfl) (has : evs F aL = some vs := by rfl)
   (hw : wn ops F o = some true := by rfl) (hd : o.dst = none := by rfl) (hE : γ.isE rest.length = true := by rfl) (hS : γ.isN rest.length = true → ∀ w, St E H L w → γ.S w := by first | exact fun e => Bool.noConfusion (show false = true from e) | exact fun _ _ hw => hw.sees' LE.rfl (by simp)) : γ.G (o :: rest) a w := by
 refine γ.eff hE (wanted_of h.ag hw) ?_
 have hrun : (execOp a.eval o).run P w = .ok (.defer { target := .fn (.func f) caps, args := first ++ vs.toArray }) w := by
   have h1 := h.ag.ev hx
   have h2 := h.ag.evs has
   simp [execOp, ho, resolve, h1, h2, Deferred.ofValue]
 unfold Oper.wp
 rw [hrun, Oper.upon_defer, hd]
 exact ⟨fun e => hS e _ h.st, k _ _ ⟨⟨h.ag.size, by simp [Act.put, h.ag.defers], h.ag.get⟩, h.st⟩⟩
theorem finD {fn : Func} {R R1 : Value → GH → List It → Prop} {H0 : GH} {f : FuncId} {caps dargs args : Array Value} (h : S E H N [{ target := .fn (.func f) caps, args := dargs }] F L a w) (hb : bodT P f = true) (hc : OkD P f args E H L R1) (hle : LE H0 H)
   (k : ∀ r H' L' w', LE H H' → R1 r H' L' → S E H' N [{ target := .fn (.func f) caps, args := dargs }] F L' a w' → ∃ v H'' L'', (results fn a.tmps).run P w' = .ok v w' ∧ LE H0 H'' ∧ St E H'' L'' w' ∧ R v H'' L'') (hA : dargs ++ caps = args := by rfl) : FinD P fn E H0 R .ret a w := by
 subst hA
 show Leaves P fn a.tmps _ a.defers .returning w
 rw [h.ag.defers]
 refine leaves_cons (f := f) (args := dargs ++ caps) (by simp) (by simp [invoke, run_callFunc hb]) ?_
 refine (hc w h.st .returning).mono ?_
 rintro e u' w' ⟨rfl, r, H', L', rfl, hl, hst, hr⟩
 obtain ⟨v, H'', L'', h1, h2, h3, h4⟩ := k r H' L' w' hl hr ⟨h.ag, hst⟩
 exact ⟨v, h1, v, H'', L'', rfl, h2, h3, h4⟩
end
end Go.Proofs.YtdabamobjciidaaGreatDoor.X
namespace Go.Proofs.YtdabamobjciidaaGreatDoor.X
open Go Go.RowKit
theorem St.below {E w w' : World} {H : GH} {L : List It} (h : St E H L w) (hb : Below w.heap.size w w') : St E H L w' :=
 ⟨hb.os.trans h.os, hb.tape.trans h.tape, hb.output.trans h.output, fun b o e => (hb.block b (h.size_le e)).trans (h.fro b o e),
  fun i hi => It.kept (h.holds i hi) (fun g hg => hb.block g (It.lt (h.holds i hi) hg)), h.off, h.apart⟩
theorem Ok.of_below {P : Program} {f : FuncId} {args : Array Value} {E : World} {H : GH} {L : List It} {v : Value}
   (h : ∀ w, St E H L w → Calls P f args w fun e w' => e = .returned v ∧ Below w.heap.size w w') : Ok P f args E H L fun r H' L' => r = v ∧ H = H' ∧ L = L' := fun w hw =>
 (h w hw).mono fun e w' ⟨he, hb⟩ => ⟨v, H, L, he, LE.rfl, hw.below hb, rfl, rfl, rfl⟩
section
variable {P : Program} {ops : Array Oper} {Q : Exit → Act → World → Prop} {γ : Gd P ops Q} {rest : List Oper} {o : Oper} {E w : World} {H : GH} {N : Nat} {D : List Deferred} {F : List (Nat × Value)} {L : List It} {a : Act}
variable {t u : TypeId} {x y : Operand} {d : Nat} {v : Value} {g off : Nat} {cs : Array Value} {ty : TypeId}
def arrT (P : Program) (t : TypeId) : Option (Nat × TypeId) := match P.underlying t with
 | some (.array n e) => some (n, e)
 | _ => none
theorem und_arr {n e : Nat} (h : arrT P t = some (n, e)) : P.underlying t = some (.array n e) := by
 unfold arrT at h; split at h
 · rename_i k e hu; simp at h; obtain ⟨rfl, rfl⟩ := h; exact hu
 · cases h
theorem szT_of {sz : Nat} (hz : szT P t sz = true) : ∃ i, P.info? t = some i ∧ i.size = sz := by
 unfold szT at hz; split at hz
 · rename_i i hi; exact ⟨i, hi, by simpa using hz⟩
 · cases hz
theorem sla {n e sz : Nat} (hs : arrT P t = some (n, e)) (hz : szT P e sz = true) (h : S E H N D F L a w) (k : ∀ a w, S E H N D ((d, .slice (some ⟨g, off, none⟩) n n) :: F) L a w → γ.G rest a w)
   (ho : o.op = .slice t x none none none := by rfl) (hx : ev F x = some (.pointer (some ⟨g, off, none⟩)) := by rfl)
   (hw : wn ops F o = some true := by rfl) (hd : o.dst = some d := by rfl) (hN : Nat.blt d N = true := by rfl) : γ.G (o :: rest) a w := by
 obtain ⟨i, hi, hsz⟩ := szT_of hz
 exact pv h (fun w => by
   simp [execOp, ho, h.ag.ev hx, Instr.sliceAt, run_underlying (und_arr hs), Instr.sureAddr, Instr.sliceBounds, sizeOf, typeInfo, hi, hsz, Addr.add]) k hw hd hN
theorem iaA {n e sz j : Nat} {i : Int} {q : IntKind} (hs : arrT P t = some (n, e)) (hz : szT P e sz = true) (hi : i = j) (hj : j < n) (h : S E H N D F L a w)
   (k : ∀ a w, S E H N D ((d, .pointer (some ⟨g, off + j * sz, none⟩)) :: F) L a w → γ.G rest a w)
   (ho : o.op = .indexAddr t x y := by rfl) (hx : ev F x = some (.pointer (some ⟨g, off, none⟩)) := by rfl) (hy : ev F y = some (.int q i) := by rfl)
   (hw : wn ops F o = some true := by rfl) (hd : o.dst = some d := by rfl) (hN : Nat.blt d N = true := by rfl) : γ.G (o :: rest) a w := by
 subst hi
 obtain ⟨i, hi, hsz⟩ := szT_of hz
 exact pv h (fun w => by
   simp [execOp, ho, h.ag.ev hx, h.ag.ev hy, Instr.indexAt, asIntOf, run_underlying (und_arr hs), Instr.sureAddr, sizeOf, typeInfo, hi, hsz, hj, Addr.add_mid]) k hw hd hN
theorem sl {lo hi mx : Option Operand} {e sz n c l h' m : Nat} {A : Option Addr} (hs : sliT P t = some e) (hz : szT P e sz = true) (hb : ∀ w, (Instr.sliceBounds true n c (lo.map a.eval) (hi.map a.eval) (mx.map a.eval)).run P w = .ok (l, h', m) w) (h : S E H N D F L a w)
   (k : ∀ a w, S E H N D ((d, .slice (if m = l then A else A.map (·.add (l * sz))) (h' - l) (m - l)) :: F) L a w → γ.G rest a w)
   (ho : o.op = .slice t x lo hi mx := by rfl) (hx : ev F x = some (.slice A n c) := by rfl)
   (hw : wn ops F o = some true := by rfl) (hd : o.dst = some d := by rfl) (hN : Nat.blt d N = true := by rfl) : γ.G (o :: rest) a w := by
 have hu : P.underlying t = some (.slice e) := by
   unfold sliT at hs; split at hs
   · rename_i e' he; cases hs; exact he
   · cases hs
 obtain ⟨i, hi', hsz⟩ := szT_of hz
 exact pv h (fun w => by
   simp [execOp, ho, h.ag.ev hx, Instr.sliceAt, run_underlying hu, Instr.slice, hb, sizeOf, typeInfo, hi', hsz]) k hw hd hN
end
/-! ### Slices of texts -/
def RStr (_H : GH) (cs : List Value) (s : List UInt8) : Prop := cs = [.string ⟨s.toArray⟩]
abbrev SS (H : GH) (A : Option Addr) (c : Nat) (ss : List (List UInt8)) : Prop := RS RStr 1 H (.slice A ss.length c) ss
theorem SS.up {H H' : GH} {A : Option Addr} {c : Nat} {ss : List (List UInt8)} (h : SS H A c ss) (hl : LE H H') : SS H' A c ss := RS.mono h hl fun _ _ _ h => h
theorem SS.get {H : GH} {A : Option Addr} {c : Nat} {ss : List (List UInt8)} (h : SS H A c ss) {j : Nat} (hj : j < ss.length) :
   ∃ g off, A = some ⟨g, off, none⟩ ∧ Hc H g (off + j * 1) (.string ⟨ss[j].toArray⟩) := by
 obtain ⟨g, off, cs, hA, hl, hr, hc⟩ := RS.at_ h (List.getElem?_eq_getElem hj)
 unfold RStr at hr; subst hr
 exact ⟨g, off, hA, by simpa using hc 0 _ rfl⟩
theorem rstr_one {H : GH} {ss : List (List UInt8)} : ∀ cs y, y ∈ ss → RStr H cs y → ∀ u ∈ cs, u.oneCell' = true := by
 intro cs y _ h u hu
 unfold RStr at h; subst h
 simp at hu; subst hu; rfl
end Go.Proofs.YtdabamobjciidaaGreatDoor.X
namespace Go.Proofs.YtdabamobjciidaaGreatDoor.X
open Go
theorem perm_erase {α : Type} : ∀ {l : List α} {n : Nat} (h : n < l.length), (l[n] :: l.eraseIdx n).Perm l
 | a :: l, 0, _ => by simp
 | a :: l, n + 1, h => by
   have := perm_erase (l := l) (n := n) (by simpa using h)
   simp only [List.getElem_cons_succ, List.eraseIdx_cons_succ]
   exact (List.Perm.swap ..).trans (this.cons a)
section
variable {P : Program} {E w : World} {H H' : GH} {N : Nat} {D : List Deferred} {F : List (Nat × Value)} {L : List It} {a : Act}
theorem St.less (h : St E H' L w) (hl : LE H H') : St E H L w :=
 ⟨h.os, h.tape, h.output, fun b o e => h.fro b o (hl b o e), h.holds, fun i hi g hg => by
   cases hH : H g with
   | none => rfl
   | some o => exact absurd ((hl g o hH).symm.trans (h.off i hi g hg)) (by simp), h.apart⟩
theorem S.less (h : S E H' N D F L a w) (hl : LE H H') : S E H N D F L a w := ⟨h.ag, h.st.less hl⟩
theorem St.frz (k0 : Nat) {g : Nat} {o : Obj} {L' : List It} (h : St E H L w) (hk : L[k0]? = some (.obj g o)) (hL : L.eraseIdx k0 = L') : ∃ H', LE H H' ∧ St E H' L' w ∧ H' g = some o := by
 subst hL
 have hlt : k0 < L.length := (List.getElem?_eq_some_iff.1 hk).1
 have he : L[k0] = .obj g o := by rw [List.getElem?_eq_getElem hlt] at hk; exact Option.some.inj hk
 have hp : (It.obj g o :: L.eraseIdx k0).Perm L := by
   rw [← he]; exact perm_erase hlt
 obtain ⟨h1, h2⟩ := (h.perm hp).freeze
 exact ⟨_, h1, h2, put_same H g o⟩
theorem S.frz (k0 : Nat) {g : Nat} {o : Obj} {L' : List It} (h : S E H N D F L a w) (hk : L[k0]? = some (.obj g o) := by rfl) (hL : L.eraseIdx k0 = L' := by rfl) : ∃ H', LE H H' ∧ S E H' N D F L' a w ∧ H' g = some o := by
 obtain ⟨H', h1, h2, h3⟩ := h.st.frz k0 hk hL
 exact ⟨H', h1, ⟨h.ag, h2⟩, h3⟩
theorem Hc.of {g i : Nat} {cs : Array Value} {e : TypeId} {z : Nat × Nat} {v : Value} (h : H g = some (.cells cs e z)) (hv : cs.toList[i]? = some v) : Hc H g i v := ⟨cs, e, z, h, by rw [← Array.getElem?_toList]; exact hv⟩
end
section
variable {P : Program} {ops : Array Oper} {Q : Exit → Act → World → Prop} {γ : Gd P ops Q} {rest : List Oper} {o : Oper} {E w : World} {H : GH} {N : Nat} {D : List Deferred} {F : List (Nat × Value)} {L : List It} {a : Act}
variable {x y y2 : Operand} {d : Nat}
def mx3 (a b c : Int) : Int := if (if a < b then b else a) < c then c else if a < b then b else a
theorem mxl {t2 : Array TypeId} {m n l : Int} (h : S E H N D F L a w) (k : ∀ a w, S E H N D ((d, .int .i64 (mx3 m n l)) :: F) L a w → γ.G rest a w)
   (ho : o.op = .call { callee := .builtin .max, args := #[x, y, y2], argTypes := t2 } := by rfl) (hx : ev F x = some (.int .i64 m) := by rfl) (hy : ev F y = some (.int .i64 n) := by rfl) (hy2 : ev F y2 = some (.int .i64 l) := by rfl)
   (hw : wn ops F o = some true := by rfl) (hd : o.dst = some d := by rfl) (hN : Nat.blt d N = true := by rfl) : γ.G (o :: rest) a w :=
 pv h (fun w => by
   simp [execOp, ho, resolve, invoke, builtin, h.ag.ev hx, h.ag.ev hy, h.ag.ev hy2, Builtin.max_, Builtin.max2, mx3]) k hw hd hN
end
section
variable {P : Program} {ops : Array Oper} {Q : Exit → Act → World → Prop} {S0 : World → Prop} {rd : List Nat} {n : Nat} {listed : Array Bool}
def gtw (P : Program) (ops : Array Oper) (S0 : World → Prop) (b : Bool) (K : Act → World → Prop) : List Oper → Act → World → Prop
 | [], a, w => K a w
 | o :: rest, a, w => ∃ v, (YieldsIf P ops (fun _ => True) o v a ∨ (b = true ∧ S0 w ∧ YieldsIf P ops S0 o v a)) ∧ gtw P ops S0 b K rest (a.put o.dst v) w
def gtk (P : Program) (ops : Array Oper) (Q : Exit → Act → World → Prop) (S0 : World → Prop) (b : Bool) (K : Act → World → Prop) : Gd P ops (Exit.then K Q) where
 G := gtw P ops S0 b K
 S := S0
 isE := fun _ => false
 isN := fun _ => false
 isR := fun _ => b
 W := fun _ w' => S0 w'
 nil h := h
 skip hw h := ⟨undef, .inl (.inr ⟨hw, rfl⟩), h⟩
 pure_ hw hr h := ⟨_, .inl (.inl ⟨hw, fun w _ => hr w⟩), h⟩
 quiet hR hS hw hr h := ⟨_, .inr ⟨hR, hS, .inl ⟨hw, hr⟩⟩, h⟩
 eff h := by cases h
def gbw (P : Program) (ops : Array Oper) (Q : Exit → Act → World → Prop) (S0 : World → Prop) (nd : Bool) (K : Act → World → Prop) : List Oper → Act → World → Prop
 | [], a, w => K a w
 | o :: rest, a, w => if Region.wanted o (yielded ops a.tmps) = true then o.wp P a w (fun a' w' => (nd = true → S0 w') ∧ gbw P ops Q S0 nd K rest a' w') Q else gbw P ops Q S0 nd K rest (a.put o.dst undef) w
def gb (P : Program) (ops : Array Oper) (Q : Exit → Act → World → Prop) (S0 : World → Prop) (nd : Bool) (K : Act → World → Prop) : Gd P ops (Exit.then K Q) where
 G := fun l a w => (nd = true → S0 w) → gbw P ops Q S0 nd K l a w
 S := S0
 isE := fun _ => true
 isN := fun _ => nd
 isR := fun _ => true
 W := fun w w' => w' = w
 nil h _ := h
 skip hw h hS := by
   unfold gbw; rw [if_neg (by rw [hw]; simp)]; exact h hS
 pure_ hw hr h hS := by
   unfold gbw; rw [if_pos hw]; unfold Oper.wp; rw [hr _, Oper.upon_value]; exact ⟨hS, h hS⟩
 quiet _ _ hw hr h hS := by
   unfold gbw; rw [if_pos hw]; unfold Oper.wp; rw [hr _ rfl, Oper.upon_value]; exact ⟨hS, h hS⟩
 eff _ hw h hS := by
   unfold gbw; rw [if_pos hw]
   unfold Oper.wp at h ⊢
   generalize (execOp _ _).run P _ = r at *
   cases r with
   | ok n w' =>
     cases n <;> simp only [Oper.upon] at h ⊢
     case value u => exact ⟨h.1, h.2 h.1⟩
     case skip => exact ⟨h.1, h.2 h.1⟩
     case defer d => exact ⟨h.1, h.2 h.1⟩
     case enter f args =>
       refine Calls.mono h fun e w'' he => ?_
       cases e with
       | returned u => exact ⟨he.1, he.2 he.1⟩
       | panicked c => exact he
       | outgrown => exact he
     case row row args => exact Rows.mono h fun u w'' he => ⟨he.1, he.2 he.1⟩
   | halt x w' => cases x <;> simp only [Oper.upon] at h ⊢ <;> exact h
def tkOk (ops : Array Oper) (listed : Array Bool) (i : Nat) : Bool :=
 Region.noSelect ops && ((List.range ops.size).all (fun j => match ops[j]?, ops[i]? with
   | some oj, some oi => j == i || listed.getD j true || (oj.after.any fun e => Region.binds .any e && e.on == i) || oi.apart ops oj
   | _, _ => false) && (Region.ready .any ops listed).contains i)
theorem tk (i : Nat) {o : Oper} (b : Bool) (hb : rd.contains i = b) (hi : ops[i]? = some o) (hok : tkOk ops listed i = true) {a : Act} {w : World}
   (hQ : ∀ c a a' w, a.defers = a'.defers → Q (.panic c) a w → Q (.panic c) a' w)
   (h : (gtk P ops Q S0 b (wpR P ops Q S0 rd n (listed.setIfInBounds i true))).G [o] a w) : wpR P ops Q S0 rd (n + 1) listed a w := by
 unfold tkOk at hok
 simp only [Bool.and_eq_true, List.all_eq_true, List.mem_range, List.contains_iff_mem] at hok
 obtain ⟨hns, hall, hr⟩ := hok
 obtain ⟨v, hy, hk⟩ := h
 have hf : ∀ j oj, ops[j]? = some oj → j ≠ i → listed.getD j true = false → (∀ e ∈ oj.after, Region.binds .any e = true → e.on ≠ i) → o.apart ops oj = true := by
   intro j oj hj hne hl hno
   have := hall j (Array.getElem?_eq_some_iff.1 hj).1
   rw [hj, hi] at this
   simp only [Bool.or_eq_true, beq_iff_eq, hne, hl, false_or, Bool.false_eq_true] at this
   rcases this with this | this
   · rw [Array.any_eq_true'] at this
     obtain ⟨e, he, h2⟩ := this
     simp only [Bool.and_eq_true, beq_iff_eq] at h2
     exact absurd h2.2 (hno e he h2.1)
   · exact this
 rcases hy with hy | ⟨h1, h2, hy⟩
 · exact wpR_take hi hns hQ (.inl fun _ => trivial) _ _ a w hf hr hy trivial hk
 · exact wpR_take hi hns hQ (.inr ⟨by rw [h1] at hb; simpa using hb, rfl⟩) _ _ a w hf hr hy h2 hk
theorem wpOp_gb {i : Nat} {o : Oper} {nd : Bool} {K : Act → World → Prop} {a : Act} {w : World} (hi : ops[i]? = some o) (hnd : needs ops rd i = nd) (h : (S0 w → (gb P ops Q S0 nd K).G [o] a w)) (hS : nd = true → S0 w) (hS' : nd = false → (gb P ops Q S0 nd K).G [o] a w) :
   wpOp P ops Q i (fun a' w' => (needs ops rd i = true → S0 w → S0 w') ∧ K a' w') a w := by
 have hg : gbw P ops Q S0 nd K [o] a w := by
   cases nd with
   | true => exact h (hS rfl) hS
   | false => exact hS' rfl hS
 unfold wpOp
 simp only [hi]
 unfold gbw at hg
 split
 · rename_i hw
   rw [if_pos hw] at hg
   exact .inl (Oper.wp_mono' hg fun a' w' h' => ⟨fun e _ => h'.1 (by rw [← hnd]; exact e), h'.2⟩)
 · rename_i hw
   rw [if_neg hw] at hg
   exact ⟨fun _ h => h, hg⟩
theorem wpOp_b {i : Nat} {o : Oper} {nd : Bool} {K : Act → World → Prop} {a : Act} {w : World} (hi : ops[i]? = some o) (hnd : needs ops rd i = nd) (h : (gb P ops Q S0 nd K).G [o] a w) (hS : nd = true → S0 w) :
   wpOp P ops Q i (fun a' w' => (needs ops rd i = true → S0 w → S0 w') ∧ K a' w') a w := wpOp_gb hi hnd (fun _ => h) hS (fun _ => h)
abbrev Nx (P : Program) (ops : Array Oper) (Q : Exit → Act → World → Prop) (S0 : World → Prop) (rd : List Nat) (n : Nat) (listed : Array Bool) (i : Nat) := wpR P ops Q S0 rd n (listed.setIfInBounds i true)
theorem br1 (i : Nat) {o : Oper} (nd : Bool) {a : Act} {w : World} (hr : Region.ready .any ops listed = [i]) (hi : ops[i]? = some o) (hnd : needs ops rd i = nd) (hS : nd = true → S0 w)
   (h : (gb P ops Q S0 nd (Nx P ops Q S0 rd n listed i)).G [o] a w) : wpR P ops Q S0 rd (n + 1) listed a w := by
 refine ⟨(fun e => by rw [e] at hr; cases hr), fun j hj => ?_⟩
 rw [hr] at hj
 simp at hj; subst hj
 exact wpOp_b hi hnd h hS
theorem br2 (i j : Nat) {o o' : Oper} (nd nd' : Bool) {a : Act} {w : World} (hr : Region.ready .any ops listed = [i, j]) (hi : ops[i]? = some o) (hj : ops[j]? = some o') (hnd : needs ops rd i = nd) (hnd' : needs ops rd j = nd') (hS : (nd || nd') = true → S0 w)
   (h : (gb P ops Q S0 nd (Nx P ops Q S0 rd n listed i)).G [o] a w) (h' : (gb P ops Q S0 nd' (Nx P ops Q S0 rd n listed j)).G [o'] a w) : wpR P ops Q S0 rd (n + 1) listed a w := by
 refine ⟨(fun e => by rw [e] at hr; cases hr), fun k hk => ?_⟩
 rw [hr] at hk
 simp at hk
 rcases hk with rfl | rfl
 · exact wpOp_b hi hnd h (fun e => hS (by rw [e]; rfl))
 · exact wpOp_b hj hnd' h' (fun e => hS (by rw [e]; simp))
theorem br3 (i j l : Nat) {o o' o2 : Oper} (nd nd' nd2 : Bool) {a : Act} {w : World} (hr : Region.ready .any ops listed = [i, j, l]) (hi : ops[i]? = some o) (hj : ops[j]? = some o') (hl : ops[l]? = some o2) (hnd : needs ops rd i = nd) (hnd' : needs ops rd j = nd') (hnd2 : needs ops rd l = nd2)
   (hS : (nd || (nd' || nd2)) = true → S0 w)
   (h : (gb P ops Q S0 nd (Nx P ops Q S0 rd n listed i)).G [o] a w) (h' : (gb P ops Q S0 nd' (Nx P ops Q S0 rd n listed j)).G [o'] a w) (h2 : (gb P ops Q S0 nd2 (Nx P ops Q S0 rd n listed l)).G [o2] a w) : wpR P ops Q S0 rd (n + 1) listed a w := by
 refine ⟨(fun e => by rw [e] at hr; cases hr), fun k hk => ?_⟩
 rw [hr] at hk
 simp at hk
 rcases hk with rfl | rfl | rfl
 · exact wpOp_b hi hnd h (fun e => hS (by rw [e]; rfl))
 · exact wpOp_b hj hnd' h' (fun e => hS (by rw [e]; simp))
 · exact wpOp_b hl hnd2 h2 (fun e => hS (by rw [e]; simp))
theorem en {a : Act} {w : World} (hr : Region.ready .any ops listed = []) (h : Q .normal a w) : wpR P ops Q S0 rd 0 listed a w := ⟨hr, h⟩
theorem tk0 {K : Act → World → Prop} {b : Bool} {a : Act} {w : World} (h : K a w) : (gtk P ops Q S0 b K).G [] a w := h
theorem br0 {K : Act → World → Prop} {nd : Bool} {a : Act} {w : World} (h : K a w) : (gb P ops Q S0 nd K).G [] a w := fun _ => h
end
section
variable {P : Program} {Q : Exit → Act → World → Prop} {E w : World} {H : GH} {N : Nat} {D : List Deferred} {F : List (Nat × Value)} {L : List It} {a : Act}
theorem rgx {id : Nat} {l : List Oper} (ks : List Nat) (L1 : List It) (rd : List Nat) (n : Nat) (hm : P.follows .mixedOrders = true) (h : S E H N D F L a w)
   (k : ∀ a w, S E H N D F L a w → wpR P l.toArray Q (Sees H L1) rd n (Array.replicate n false) a w) (hn : l.length = n := by rfl) (hk : ks.map (fun k => L[k]?) = L1.map some := by rfl) : (Code.region id l.toArray true).wp P Q a w := by
 have h1 : S E H N D F L a { w with drawn := w.drawn + 1 } := ⟨h.ag, h.st.drew _⟩
 refine wp_region_any hm (wpR_any (S := Sees H L1) (rd := rd) _ _ _ _ ?_)
 have := k a _ h1
 subst hn
 simpa using this
end
section
variable {P : Program} {ops : Array Oper} {Q : Exit → Act → World → Prop} {rest : List Oper} {o : Oper} {E w : World} {H : GH} {N : Nat} {D : List Deferred} {F : List (Nat × Value)} {L : List It} {a : Act}
variable {t u : TypeId} {x y : Operand} {d : Nat} {v : Value} {g off : Nat} {cs : Array Value} {ty : TypeId}
variable {H1 : GH} {L1 : List It} {K : Act → World → Prop}
theorem ldT (k0 : Nat) {z : Nat × Nat} (ht : ty1 P t = true) (h : S E H N D F L a w) (k : ∀ a w, S E H N D ((d, v) :: F) L a w → (gtk P ops Q (Sees H1 L1) true K).G rest a w)
   (ho : o.op = .load t x := by rfl) (hx : ev F x = some (.pointer (some ⟨g, off, none⟩)) := by rfl) (hk : L1[k0]? = some (.obj g (.cells cs ty z)) := by rfl) (hv : cs.toList[off]? = some v := by rfl)
   (hw : wn ops F o = some true := by rfl) (hd : o.dst = some d := by rfl) (hN : Nat.blt d N = true := by rfl) (hSub : ∀ i ∈ L1, i ∈ L := by simp) (hLe : LE H1 H := by first | exact LE.rfl | assumption) : (gtk P ops Q (Sees H1 L1) true K).G (o :: rest) a w :=
 ldX k0 ht h rfl (h.st.sees' hLe hSub) (fun w' e => e) k ho hx hk hv hw hd hN
theorem ldWT (k0 : Nat) {z : Nat × Nat} {n : Nat} (ht : tyN P t n = true) (h : S E H N D F L a w) (k : ∀ a w, S E H N D ((d, .agg cs) :: F) L a w → (gtk P ops Q (Sees H1 L1) true K).G rest a w)
   (ho : o.op = .load t x := by rfl) (hx : ev F x = some (.pointer (some ⟨g, 0, none⟩)) := by rfl) (hk : L1[k0]? = some (.obj g (.cells cs ty z)) := by rfl) (hn : cs.size = n := by rfl)
   (hw : wn ops F o = some true := by rfl) (hd : o.dst = some d := by rfl) (hN : Nat.blt d N = true := by rfl) (hSub : ∀ i ∈ L1, i ∈ L := by simp) (hLe : LE H1 H := by first | exact LE.rfl | assumption) : (gtk P ops Q (Sees H1 L1) true K).G (o :: rest) a w :=
 ldWX k0 ht h rfl (h.st.sees' hLe hSub) (fun w' e => e) k ho hx hk hn hw hd hN
theorem ldHT (ht : ty1 P t = true) (hc : Hc H1 g off v) (h : S E H N D F L a w) (k : ∀ a w, S E H N D ((d, v) :: F) L a w → (gtk P ops Q (Sees H1 L1) true K).G rest a w)
   (ho : o.op = .load t x := by rfl) (hx : ev F x = some (.pointer (some ⟨g, off, none⟩)) := by rfl)
   (hw : wn ops F o = some true := by rfl) (hd : o.dst = some d := by rfl) (hN : Nat.blt d N = true := by rfl) (hSub : ∀ i ∈ L1, i ∈ L := by simp) (hLe : LE H1 H := by first | exact LE.rfl | assumption) : (gtk P ops Q (Sees H1 L1) true K).G (o :: rest) a w :=
 ldHX ht hc h rfl (h.st.sees' hLe hSub) (fun w' e => e) k ho hx hw hd hN
variable {κ : Type} [DecidableEq κ] {kt et : TypeId} {enc : κ → Value} {kind : TypeDesc} {f : κ → Option Value}
theorem lkT (k0 : Nat) {z : Value} {q : κ} (K' : KeyLaw P kt enc kind) (ht : mapT P t = some (kt, et)) (hz : zrT P et = some z) (h : S E H N D F L a w)
   (k : ∀ a w, S E H N D ((d, .tuple #[(f q).getD z, .bool (f q).isSome]) :: F) L a w → (gtk P ops Q (Sees H1 L1) true K).G rest a w)
   (ho : o.op = .lookup t x y true := by rfl) (hx : ev F x = some (.map (some g)) := by rfl) (hy : ev F y = some (enc q) := by rfl) (hk : L1[k0]? = some (.blk g (IsMap enc f)) := by rfl)
   (hw : wn ops F o = some true := by rfl) (hd : o.dst = some d := by rfl) (hN : Nat.blt d N = true := by rfl) (hSub : ∀ i ∈ L1, i ∈ L := by simp) (hLe : LE H1 H := by first | exact LE.rfl | assumption) : (gtk P ops Q (Sees H1 L1) true K).G (o :: rest) a w :=
 lkX k0 K' ht hz h rfl (h.st.sees' hLe hSub) (fun w' e => e) k ho hx hy hk hw hd hN
end
section
variable {P : Program} {ops : Array Oper} {Q : Exit → Act → World → Prop} {γ : Gd P ops Q} {rest : List Oper} {o : Oper} {E w : World} {H : GH} {N : Nat} {D : List Deferred} {F : List (Nat × Value)} {L : List It} {a : Act}
variable {t u t' : TypeId} {x y : Operand} {d : Nat} {v : Value} {g off : Nat} {cs : Array Value} {ty : TypeId}
def cncT (P : Program) (t : TypeId) : Bool := match P.underlying t with
 | some (.interface _) => false
 | some _ => true
 | none => false
theorem und_cnc (h : cncT P t = true) : ∃ k, P.underlying t = some k ∧ ∀ m, k ≠ .interface m := by
 unfold cncT at h
 split at h
 · cases h
 · rename_i k h1 h2; exact ⟨_, h2, fun m e => h1 m e⟩
 · cases h
theorem mi (ht : cncT P t = true) (h : S E H N D F L a w) (k : ∀ a w, S E H N D ((d, .iface t v) :: F) L a w → γ.G rest a w)
   (ho : o.op = .makeInterface t x := by rfl) (hx : ev F x = some v := by rfl)
   (hw : wn ops F o = some true := by rfl) (hd : o.dst = some d := by rfl) (hN : Nat.blt d N = true := by rfl) : γ.G (o :: rest) a w := by
 obtain ⟨kd, hu, hne⟩ := und_cnc ht
 refine pv h (fun w => ?_) k hw hd hN
 have : (Instr.makeInterface t v).run P w = .ok (.iface t v) w := by
   unfold Instr.makeInterface
   rw [Sem.run_bind, run_underlying hu]
   cases kd <;> first | rfl | exact absurd rfl (hne _)
 simp [execOp, ho, h.ag.ev hx, this]
theorem taT (ht : cncT P t = true) (h : S E H N D F L a w) (k : ∀ a w, S E H N D ((d, .tuple #[v, .bool true]) :: F) L a w → γ.G rest a w)
   (ho : o.op = .typeAssert x u t true := by rfl) (hx : ev F x = some (.iface t v) := by rfl)
   (hw : wn ops F o = some true := by rfl) (hd : o.dst = some d := by rfl) (hN : Nat.blt d N = true := by rfl) : γ.G (o :: rest) a w := by
 obtain ⟨kd, hu, hne⟩ := und_cnc ht
 refine pv h (fun w => ?_) k hw hd hN
 have : (Instr.typeAssert (.iface t v) u t true).run P w = .ok (.tuple #[v, .bool true]) w := by
   unfold Instr.typeAssert
   simp only [Sem.run_bind, run_underlying hu, Result.andThen_ok]
   cases kd <;> first | exact absurd rfl (hne _) | simp
 simp [execOp, ho, h.ag.ev hx, this]
theorem taF {z : Value} (ht : cncT P t = true) (hz : zrT P t = some z) (h : S E H N D F L a w) (k : ∀ a w, S E H N D ((d, .tuple #[z, .bool false]) :: F) L a w → γ.G rest a w)
   (ho : o.op = .typeAssert x u t true := by rfl) (hx : ev F x = some (.iface t' v) := by rfl) (hne : Nat.beq t' t = false := by rfl)
   (hw : wn ops F o = some true := by rfl) (hd : o.dst = some d := by rfl) (hN : Nat.blt d N = true := by rfl) : γ.G (o :: rest) a w := by
 obtain ⟨kd, hu, hnk⟩ := und_cnc ht
 refine pv h (fun w => ?_) k hw hd hN
 have hn : t' ≠ t := fun e => by subst e; simp at hne
 have hzero : ∀ w, (zeroValue t).run P w = .ok z w := fun w => by
   unfold zrT at hz
   split at hz
   · rename_i i hi; simp [zeroValue, typeInfo, hi, hz]
   · cases hz
 have : (Instr.typeAssert (.iface t' v) u t true).run P w = .ok (.tuple #[z, .bool false]) w := by
   unfold Instr.typeAssert
   simp only [Sem.run_bind, run_underlying hu, Result.andThen_ok]
   cases kd <;> first | exact absurd rfl (hnk _) | simp [hn, hzero]
 simp [execOp, ho, h.ag.ev hx, this]
end
section
variable {E w : World} {H : GH} {N : Nat} {D : List Deferred} {F : List (Nat × Value)} {L : List It} {a : Act}
variable {α : Type} {R : GH → List Value → α → Prop} {sz : Nat} {xs zs : List Value} {ys us : List α}
theorem RowR.cons {cs : List Value} {y : α} (hl : cs.length = sz) (hr : R H cs y) (h : RowR R sz H xs ys) : RowR R sz H (cs ++ xs) (y :: ys) := (RowR.one hl hr).app h
theorem RowR.cons1 {v : Value} {y : α} (hr : R H [v] y) (h : RowR R 1 H xs ys) : RowR R 1 H (v :: xs) (y :: ys) := (RowR.one (sz := 1) rfl hr).app h
theorem S.pull (k0 : Nat) {i : It} {L' : List It} (h : S E H N D F L a w) (hk : L[k0]? = some i) (hL : L.eraseIdx k0 = L') : S E H N D F (i :: L') a w := by
 subst hL
 have hlt : k0 < L.length := (List.getElem?_eq_some_iff.1 hk).1
 have he : L[k0] = i := by rw [List.getElem?_eq_getElem hlt] at hk; exact Option.some.inj hk
 exact ⟨h.ag, h.st.perm (by rw [← he]; exact perm_erase hlt)⟩
theorem S.frw (k0 : Nat) {v : Value} {e n : Nat} {L' : List It} (h : S E H N D F L a w) (hr : RowR R sz H xs ys) (hn : n = ys.length) (hR : ∀ H', LE H H' → ∀ cs y, y ∈ ys → R H cs y → R H' cs y) (hk : L[k0]? = some (.row v e sz n xs) := by rfl) (hL : L.eraseIdx k0 = L' := by rfl) :
   ∃ H', LE H H' ∧ S E H' N D F L' a w ∧ RS R sz H' v ys := (h.pull k0 hk hL).frow hr hn hR
theorem S.fsl (k0 : Nat) {g : Nat} {cells : Array Value} {e : TypeId} {z : Nat × Nat} {L' : List It} (h : S E H N D F L a w) (hr : RowR R sz H cells.toList ys) (hR : ∀ H', LE H H' → ∀ cs y, y ∈ ys → R H cs y → R H' cs y) (hk : L[k0]? = some (.obj g (.cells cells e z)) := by rfl) (hL : L.eraseIdx k0 = L' := by rfl) :
   ∃ H', LE H H' ∧ S E H' N D F L' a w ∧ RS R sz H' (.slice (some ⟨g, 0, none⟩) ys.length ys.length) ys := by
 obtain ⟨H', hle, h', hg⟩ := h.frz k0 hk hL
 refine ⟨H', hle, h', some ⟨g, 0, none⟩, ys.length, rfl, Nat.le_refl _, fun j y hy => ?_⟩
 obtain ⟨css, l1, e1, p1⟩ := hr
 have hj : j < css.length := by have := (List.getElem?_eq_some_iff.1 hy).1; omega
 obtain ⟨h1, h2⟩ := p1 j css[j] y (List.getElem?_eq_getElem hj) hy
 refine ⟨g, 0, css[j], rfl, h1, hR _ hle _ y (List.mem_of_getElem? hy) h2, fun i u hu => ⟨cells, e, z, hg, ?_⟩⟩
 have hi : i < sz := by have := (List.getElem?_eq_some_iff.1 hu).1; omega
 have hall : ∀ cs ∈ css, cs.length = sz := fun cs hcs => by
   obtain ⟨q, hq, rfl⟩ := List.getElem_of_mem hcs
   exact (p1 q css[q] (ys[q]'(by omega)) (List.getElem?_eq_getElem hq) (List.getElem?_eq_getElem (by omega))).1
 have hf := flatten_at hall (List.getElem?_eq_getElem hj) hi
 rw [hu, ← e1] at hf
 rw [Nat.zero_add, ← Array.getElem?_toList]; exact hf
end
section
variable {P : Program} {ops : Array Oper} {Q : Exit → Act → World → Prop} {γ : Gd P ops Q} {rest : List Oper} {o : Oper} {E w : World} {H : GH} {N : Nat} {D : List Deferred} {F : List (Nat × Value)} {L : List It} {a : Act}
variable {t u t' : TypeId} {x y : Operand} {d : Nat} {v : Value} {g off : Nat} {cs : Array Value} {ty : TypeId}
theorem S.del (k0 : Nat) {L' : List It} (h : S E H N D F L a w) (hL : L.eraseIdx k0 = L' := by rfl) : S E H N D F L' a w := by
 subst hL; exact ⟨h.ag, h.st.sub (List.eraseIdx_sublist ..)⟩
theorem S.asRow {sz n : Nat} {cells : Array Value} {e : TypeId} (h : S E H N D F (.obj g (.cells cells e (0, 0)) :: L) a w) (hn : Nat.ble n 1024 = true := by rfl) (hs : cells.size = n * sz := by rfl) :
   S E H N D F (.row (.slice (some ⟨g, 0, none⟩) n n) e sz n cells.toList :: L) a w := by
 have hg : w.heap[g]? = some (.cells cells e (0, 0)) := h.st.holds _ (List.mem_cons_self ..)
 have hle : n ≤ 1024 := by simpa [Nat.ble_eq] using hn
 refine ⟨h.ag, h.st.set (k := 0) (i := .obj g (.cells cells e (0, 0))) (j := .row (.slice (some ⟨g, 0, none⟩) n n) e sz n cells.toList) rfl ?_ (fun x hx => .inl (by simpa [It.own, Value.ownBlock] using hx)) rfl rfl rfl (fun _ _ _ => rfl)⟩
 refine ⟨by simp [hs], .inr ⟨g, n, cells, rfl, Nat.zero_le _, hg, Nat.le_refl _, by simp only [maxLen]; omega, hs, ?_⟩⟩
 rw [List.take_of_length_le]
 simp [hs]
theorem apb (kr kb : Nat) {e sz by_ n m : Nat} {xs : List Value} {ty' : TypeId} {z : Nat × Nat} {L' : It → List It} (news : List Value) (ht : rowT P t e sz by_ = true) (h : S E H N D F L a w)
   (hb : (n + m) * by_ ≤ 140737488355328) (h63 : n + m ≤ 4611686018427387904)
   (k : ∀ v' a w, v'.oneCell' = true → S E H N D ((d, v') :: F) (L' (.row v' e sz (n + m) (xs ++ news))) a w → γ.G rest a w)
   (hL : ∀ i, L.set kr i = L' i := by intro _; rfl) (hkr : L[kr]? = some (.row v e sz n xs) := by rfl) (hkb : L[kb]? = some (.obj g (.cells news.toArray ty' z)) := by rfl)
   (hl : news.length = m * sz := by rfl) (h1 : news.all (·.oneCell') = true := by rfl)
   (ho : o.op = .call { callee := .builtin .append, args := #[x, y], argTypes := #[t, t] } := by rfl) (hx : ev F x = some v := by rfl) (hy : ev F y = some (.slice (some ⟨g, 0, none⟩) m m) := by rfl)
   (hw : wn ops F o = some true := by rfl) (hd : o.dst = some d := by rfl) (hN : Nat.blt d N = true := by rfl) (hE : γ.isE rest.length = true := by rfl) (hS : γ.isN rest.length = true → ∀ v' w, St E H (L' (.row v' e sz (n + m) (xs ++ news))) w → γ.S w := by first | exact fun e => Bool.noConfusion (show false = true from e) | exact fun _ _ _ hw => hw.sees' LE.rfl (by simp) | exact fun _ _ _ hw => hw.sees' (by assumption) (by simp)) : γ.G (o :: rest) a w :=
 ap (k0 := kr) ht h hkr hl (fun j u hj => by rw [Nat.zero_add, cell_own (item_at h.st.sees hkb) j]; simpa using hj) (fun u hu => List.all_eq_true.1 h1 u hu) hb h63
   (fun v' a w hv hS => k v' a w hv (by rw [← hL]; exact hS)) ho hx hy hw hd hN hE (fun e v' w hw => hS e v' w (by rw [← hL]; exact hw))
theorem aps {α : Type} {R : GH → List Value → α → Prop} (kr : Nat) {e sz by_ n : Nat} {xs : List Value} {ys : List α} {vy : Value} {L' : It → List It} (ht : rowT P t e sz by_ = true) (hs : RS R sz H vy ys) (hone : ∀ cs y, y ∈ ys → R H cs y → ∀ u ∈ cs, u.oneCell' = true)
   (h : S E H N D F L a w) (hb : (n + ys.length) * by_ ≤ 140737488355328) (h63 : n + ys.length ≤ 4611686018427387904)
   (k : ∀ v' news a w, v'.oneCell' = true → RowR R sz H news ys → S E H N D ((d, v') :: F) (L' (.row v' e sz (n + ys.length) (xs ++ news))) a w → γ.G rest a w)
   (hL : ∀ i, L.set kr i = L' i := by intro _; rfl) (hkr : L[kr]? = some (.row v e sz n xs) := by rfl)
   (ho : o.op = .call { callee := .builtin .append, args := #[x, y], argTypes := #[t, t] } := by rfl) (hx : ev F x = some v := by rfl) (hy : ev F y = some vy := by rfl)
   (hw : wn ops F o = some true := by rfl) (hd : o.dst = some d := by rfl) (hN : Nat.blt d N = true := by rfl)
   (hE : γ.isE rest.length = true := by rfl) (hS : γ.isN rest.length = true → ∀ v' news w, St E H (L' (.row v' e sz (n + ys.length) (xs ++ news))) w → γ.S w := by first | exact fun e => Bool.noConfusion (show false = true from e) | exact fun _ _ _ _ hw => hw.sees' LE.rfl (by simp) | exact fun _ _ _ _ hw => hw.sees' (by assumption) (by simp)) : γ.G (o :: rest) a w := by
 obtain ⟨A', c', rfl, h2, h3⟩ := id hs
 exact apS hL ht hs hone h hkr hb h63 k ho hx hy hw hd hN hE hS
end
section
variable {P : Program} {Q : Exit → Act → World → Prop} {S0 : World → Prop} {rd : List Nat} {n : Nat} {listed : Array Bool} {l : List Oper}
theorem tkl (i : Nat) {o : Oper} (b : Bool) {a : Act} {w : World} (hok : tkOk l.toArray listed i = true) (h : (gtk P l.toArray Q S0 b (wpR P l.toArray Q S0 rd n (listed.setIfInBounds i true))).G [o] a w)
   (hb : rd.contains i = b := by rfl) (hi : l[i]? = some o := by rfl) (hQ : ∀ c a a' w, a.defers = a'.defers → Q (.panic c) a w → Q (.panic c) a' w := by exact fun _ _ _ _ e h => ⟨e ▸ h.1, h.2⟩) : wpR P l.toArray Q S0 rd (n + 1) listed a w :=
 tk i b hb (by simpa using hi) hok hQ h
theorem brl1 (i : Nat) {o : Oper} (nd : Bool) {a : Act} {w : World} (hr : Region.ready .any l.toArray listed = [i]) (hnd : needs l.toArray rd i = nd) (hS : nd = true → S0 w)
   (h : (gb P l.toArray Q S0 nd (Nx P l.toArray Q S0 rd n listed i)).G [o] a w) (hi : l[i]? = some o := by rfl) : wpR P l.toArray Q S0 rd (n + 1) listed a w := br1 i nd hr (by simpa using hi) hnd hS h
theorem brl2 (i j : Nat) {o o' : Oper} (nd nd' : Bool) {a : Act} {w : World} (hr : Region.ready .any l.toArray listed = [i, j]) (hnd : needs l.toArray rd i = nd) (hnd' : needs l.toArray rd j = nd') (hS : (nd || nd') = true → S0 w)
   (h : (gb P l.toArray Q S0 nd (Nx P l.toArray Q S0 rd n listed i)).G [o] a w) (h' : (gb P l.toArray Q S0 nd' (Nx P l.toArray Q S0 rd n listed j)).G [o'] a w) (hi : l[i]? = some o := by rfl) (hj : l[j]? = some o' := by rfl) : wpR P l.toArray Q S0 rd (n + 1) listed a w :=
 br2 i j nd nd' hr (by simpa using hi) (by simpa using hj) hnd hnd' hS h h'
end
def cellsL : Value → List Value
 | .agg cs => cs.toList
 | v => [v]
theorem cellsL_eq (v : Value) : v.cells = (cellsL v).toArray := by cases v <;> simp [cellsL, Value.cells]
def putL : List Value → Nat → List Value → List Value
 | cs, _, [] => cs
 | cs, o, v :: vs => putL (cs.set o v) (o + 1) vs
def fillL (pl : Nat → Option (Nat × Nat)) : List Value → List (Nat × Value) → Option (List Value)
 | cs, [] => some cs
 | cs, (i, v) :: rest => match pl i with
   | none => none
   | some (off, size) => if Nat.beq (cellsL v).length size && Nat.ble (off + (cellsL v).length) cs.length then fillL pl (putL cs off (cellsL v)) rest else none
theorem foldl_putL : ∀ (vs : List Value) (cs : List Value) (off k : Nat), (vs.zipIdx k).foldl (fun (cs : Array Value) (x : Value × Nat) => cs.setIfInBounds (off + x.2) x.1) cs.toArray = (putL cs (off + k) vs).toArray := by
 intro vs
 induction vs with
 | nil => intro cs off k; simp [putL]
 | cons v vs ih =>
   intro cs off k
   have := ih (cs.set (off + k) v) off (k + 1)
   simp only [putL]
   rw [Nat.add_assoc, ← this]
   simp [List.zipIdx_cons]
theorem fill_of {pl : Nat → Option (Nat × Nat)} : ∀ (vs : List (Nat × Value)) (cs out : List Value), fillL pl cs vs = some out → Instr.fill pl cs.toArray vs = some out.toArray
 | [], cs, out, h => by simp [fillL] at h; simp [Instr.fill, h]
 | (i, v) :: rest, cs, out, h => by
   simp only [fillL] at h
   split at h
   · cases h
   · rename_i off size hp
     split at h
     · rename_i hc
       simp only [Bool.and_eq_true, Nat.ble_eq, Nat.beq_eq] at hc
       have ih := fill_of rest _ _ h
       have hsz : v.cells.size = (cellsL v).length := by rw [cellsL_eq]; simp
       have hf := foldl_putL (cellsL v) cs off 0
       simp only [Nat.add_zero] at hf
       unfold Instr.fill
       simp only [hp]
       rw [if_neg (by rw [hsz]; simp; omega), cellsL_eq, ← Array.foldl_toList, Array.toList_zipIdx]
       exact (congrArg (fun q => Instr.fill pl q rest) hf).trans ih
     · cases h
section
variable {P : Program} {ops : Array Oper} {Q : Exit → Act → World → Prop} {γ : Gd P ops Q} {rest : List Oper} {o : Oper} {E w : World} {H : GH} {N : Nat} {D : List Deferred} {F : List (Nat × Value)} {L : List It} {a : Act}
variable {t u : TypeId} {x y : Operand} {d : Nat} {v : Value} {g off : Nat} {ty : TypeId}
theorem bdl {pl : List (Nat × Nat)} {zv : Value} {zl out : List Value} {ps : List (Nat × Operand)} {vs : List (Nat × Value)} (hl : layT P t = some pl.toArray) (hz : zrT P t = some zv) (h : S E H N D F L a w)
   (k : ∀ a w, S E H N D ((d, .agg out.toArray) :: F) L a w → γ.G rest a w)
   (ho : o.op = .build t ps.toArray := by rfl) (hx : pevs F ps = some vs := by rfl) (hzl : cellsL zv = zl := by rfl) (hf : fillL (fun i => pl[i]?) zl vs = some out := by rfl)
   (hw : wn ops F o = some true := by rfl) (hd : o.dst = some d := by rfl) (hN : Nat.blt d N = true := by rfl) : γ.G (o :: rest) a w :=
 bd hl hz out.toArray h k ho hx (by
   subst hzl
   have := fill_of vs _ _ hf
   rw [cellsL_eq]
   rw [← this]; congr 1; funext i; simp) hw hd hN
theorem bsl {e sz n : Nat} {zl out : List Value} {ps : List (Nat × Operand)} {vs : List (Nat × Value)} (hl : bsT P t = some (e, sz, zl.toArray)) (h : S E H N D F L a w)
   (k : ∀ g a w, S E H N D ((d, .slice (some ⟨g, 0, none⟩) n n) :: F) (.obj g (.cells out.toArray e (0, 0)) :: L) a w → γ.G rest a w)
   (ho : o.op = .buildSlice t n ps.toArray := by rfl) (hx : pevs F ps = some vs := by rfl)
   (hf : fillL (fun i => some (i * sz, sz)) ((List.range (n * sz)).map (fun i => zl.getD (i % zl.length) default)) vs = some out := by rfl) (hn : Nat.ble n 1024 = true := by rfl) (hn0 : Nat.blt 0 n = true := by rfl)
   (hw : wn ops F o = some true := by rfl) (hd : o.dst = some d := by rfl) (hN : Nat.blt d N = true := by rfl) (hE : γ.isE rest.length = true := by rfl) (hS : γ.isN rest.length = true → ∀ g w, St E H (.obj g (.cells out.toArray e (0, 0)) :: L) w → γ.S w := by first | exact fun e => Bool.noConfusion (show false = true from e) | exact fun _ _ _ hw => hw.sees' LE.rfl (by simp) | exact fun _ _ _ hw => hw.sees' (by assumption) (by simp)) : γ.G (o :: rest) a w :=
 bs hl out.toArray h k ho hx (by
   have := fill_of vs _ _ hf
   rw [← this]; congr 1
   apply Array.ext'
   simp [Array.toList_range]) hn hn0 hw hd hN hE hS
theorem S.rowv (k0 : Nat) {v : Value} {e sz n : Nat} {xs : List Value} (h : S E H N D F L a w) (hk : L[k0]? = some (.row v e sz n xs) := by rfl) : ∃ A c, v = .slice A n c := by
 have hown : w.ownsRow 0 e sz v n xs := item_at h.st.sees hk
 rcases hown.2 with ⟨rfl, rfl⟩ | ⟨g, cap, cur, rfl, _⟩
 · exact ⟨_, _, rfl⟩
 · exact ⟨_, _, rfl⟩
end
theorem Hc.all {H : GH} {g : Nat} {l : List Value} {e : TypeId} {z : Nat × Nat} (h : H g = some (.cells l.toArray e z)) : ∀ i u, l[i]? = some u → Hc H g (0 + i) u := fun i u hu => ⟨_, _, _, h, by simpa using hu⟩
/-! Closed facts on types, found by themselves. -/
class KT1 (P : Program) (t : Nat) : Prop where out : ty1 P t = true
class KTN (P : Program) (t : Nat) (n : outParam Nat) : Prop where out : tyN P t n = true
class KFl (P : Program) (s f : Nat) (o : outParam Nat) : Prop where out : fldT P s f = some o
class KSl (P : Program) (t : Nat) (e : outParam Nat) : Prop where out : sliT P t = some e
class KZr (P : Program) (t : Nat) (z : outParam Value) : Prop where out : zrT P t = some z
class KLy (P : Program) (t : Nat) (z : outParam (List (Nat × Nat))) : Prop where out : layT P t = some z.toArray
class KSr (P : Program) (t : Nat) : Prop where out : strT P t = true
class KCc (P : Program) (t : Nat) : Prop where out : cncT P t = true
theorem le_ {H H' : GH} (h : LE H H' := by repeat (first | exact LE.rfl | assumption | refine LE.trans ?_ (by assumption))) : LE H H' := h
theorem bdl_ {P : Program} {ops : Array Oper} {Q : Exit → Act → World → Prop} {γ : Gd P ops Q} {rest : List Oper} {o : Oper} {E w : World} {H : GH} {N : Nat} {D : List Deferred} {F : List (Nat × Value)} {L : List It} {a : Act} {t : TypeId} {d : Nat} {pl : List (Nat × Nat)} {zv : Value} {zl out : List Value} {ps : List (Nat × Operand)} {vs : List (Nat × Value)} (h : S E H N D F L a w)
   (k : ∀ a w, S E H N D ((d, .agg out.toArray) :: F) L a w → γ.G rest a w)
   (ho : o.op = .build t ps.toArray := by rfl) (hl : layT P t = some pl.toArray := by exact KLy.out) (hz : zrT P t = some zv := by exact KZr.out) (hx : pevs F ps = some vs := by rfl) (hzl : cellsL zv = zl := by rfl) (hf : fillL (fun i => pl[i]?) zl vs = some out := by rfl)
   (hw : wn ops F o = some true := by rfl) (hd : o.dst = some d := by rfl) (hN : Nat.blt d N = true := by rfl) : γ.G (o :: rest) a w := bdl hl hz h k ho hx hzl hf hw hd hN
inductive Fu : List Nat → Prop
 | mk (l : List Nat) : Fu l
theorem Fu.tl (k : Nat) {l : List Nat} (_ : Fu (k :: l)) : Fu l := .mk l
theorem Fu.tk (n : Nat) {P : Program} {Q : Exit → Act → World → Prop} {S0 : World → Prop} {rd : List Nat} {m i : Nat} {listed : Array Bool} {l : List Oper} {r : List Nat} (_ : Fu (n :: i :: r)) {o : Oper} {b : Bool} {a : Act} {w : World} (hok : tkOk l.toArray listed i = true) (h : Fu r → (gtk P l.toArray Q S0 b (wpR P l.toArray Q S0 rd m (listed.setIfInBounds i true))).G [o] a w)
   (hb : rd.contains i = b := by rfl) (hi : l[i]? = some o := by rfl) (hQ : ∀ c a a' w, a.defers = a'.defers → Q (.panic c) a w → Q (.panic c) a' w := by exact fun _ _ _ _ e h => ⟨e ▸ h.1, h.2⟩) : wpR P l.toArray Q S0 rd (m + 1) listed a w :=
 tkl i b hok (h (.mk r)) hb hi hQ
structure Rest (p : Prop) : Prop where out : p
theorem au (n : List Nat) {σ p q : Prop} (h : σ) (k : q) (s : Fu n → σ → Rest q → p := by
 intro c h k
 repeat (first
   | (replace c := Fu.tl 0 c; first | (replace c := Fu.tl 0 c; refine mv h ?_; clear h; intro a w h) | (replace c := Fu.tl 1 c; refine sk h (k := ?_); clear h; intro a w h) | (replace c := Fu.tl 2 c; refine nsr ?_) | (replace c := Fu.tl 3 c; refine nlt ?_) | (replace c := Fu.tl 4 c; refine sq ?_) | (replace c := Fu.tl 5 c; refine rg0 ?_) | (replace c := Fu.tl 6 c; refine as_ h ?_; clear h; intro a w h) | (replace c := Fu.tl 7 c; refine fa KFl.out h ?_; clear h; intro a w h) | (replace c := Fu.tl 8 c; refine ld 0 KT1.out h ?_; clear h; intro a w h))
   | (replace c := Fu.tl 1 c; first | (replace c := Fu.tl 0 c; refine thN ?_) | (replace c := Fu.tl 1 c; refine nl0 ?_) | (replace c := Fu.tl 2 c; refine sqr ?_) | (replace c := Fu.tl 3 c; refine ret_ ?_) | (replace c := Fu.tl 4 c; refine thR ?_) | (replace c := Fu.tl 5 c; refine blk ?_) | (replace c := Fu.tl 6 c; refine ibR ?_) | (replace c := Fu.tl 7 c; refine ibN ?_) | (replace c := Fu.tl 8 c; refine sk_ ?_))
   | (replace c := Fu.tl 2 c; first | (replace c := Fu.tl 0 c; refine cdT h ?_) | (replace c := Fu.tl 1 c; refine cdF h ?_) | (replace c := Fu.tl 2 c; refine thE ?_) | (replace c := Fu.tl 3 c; refine ibH ?_) | (replace c := Fu.tl 4 c; refine ibO ?_) | (replace c := Fu.tl 5 c; refine exit_ ?_) | (replace c := Fu.tl 6 c; refine tk0 ?_) | (replace c := Fu.tl 7 c; refine br0 ?_) | (replace c := Fu.tl 8 c; refine ld 1 KT1.out h ?_; clear h; intro a w h))
   | (replace c := Fu.tl 3 c; first | (replace c := Fu.tl 0 c; refine ld 2 KT1.out h ?_; clear h; intro a w h) | (replace c := Fu.tl 1 c; refine ld 3 KT1.out h ?_; clear h; intro a w h) | (replace c := Fu.tl 2 c; refine ld 4 KT1.out h ?_; clear h; intro a w h) | (replace c := Fu.tl 3 c; refine ldW 0 KTN.out h ?_; clear h; intro a w h) | (replace c := Fu.tl 4 c; refine ldW 1 KTN.out h ?_; clear h; intro a w h) | (replace c := Fu.tl 5 c; refine ldW 2 KTN.out h ?_; clear h; intro a w h) | (replace c := Fu.tl 6 c; refine ldW 3 KTN.out h ?_; clear h; intro a w h) | (replace c := Fu.tl 7 c; refine ldW 4 KTN.out h ?_; clear h; intro a w h) | (replace c := Fu.tl 8 c; refine ldT 0 KT1.out h ?_; clear h; intro a w h))
   | (replace c := Fu.tl 4 c; first | (replace c := Fu.tl 0 c; refine ldT 1 KT1.out h ?_; clear h; intro a w h) | (replace c := Fu.tl 1 c; refine ldT 2 KT1.out h ?_; clear h; intro a w h) | (replace c := Fu.tl 2 c; refine ldD 0 KT1.out h ?_; clear h; intro a w h) | (replace c := Fu.tl 3 c; refine ldD 1 KT1.out h ?_; clear h; intro a w h) | (replace c := Fu.tl 4 c; refine ldD 2 KT1.out h ?_; clear h; intro a w h) | (replace c := Fu.tl 5 c; refine ldWT 0 KTN.out h ?_; clear h; intro a w h) | (replace c := Fu.tl 6 c; refine ldWT 1 KTN.out h ?_; clear h; intro a w h) | (replace c := Fu.tl 7 c; refine ex h ?_; clear h; intro a w h) | (replace c := Fu.tl 8 c; refine pkT h ?_; clear h; intro a w h))
   | (replace c := Fu.tl 5 c; first | (replace c := Fu.tl 0 c; refine pkF h ?_; clear h; intro a w h) | (replace c := Fu.tl 1 c; refine st0 KT1.out h ?_; clear h; intro a w h) | (replace c := Fu.tl 2 c; refine st1 KT1.out h ?_; clear h; intro a w h) | (replace c := Fu.tl 3 c; refine st2 KT1.out h ?_; clear h; intro a w h) | (replace c := Fu.tl 4 c; refine st3 KT1.out h ?_; clear h; intro a w h) | (replace c := Fu.tl 5 c; refine sw0 KTN.out h ?_; clear h; intro a w h) | (replace c := Fu.tl 6 c; refine sw1 KTN.out h ?_; clear h; intro a w h) | (replace c := Fu.tl 7 c; refine sw2 KTN.out h ?_; clear h; intro a w h) | (replace c := Fu.tl 8 c; refine sw3 KTN.out h ?_; clear h; intro a w h))
   | (replace c := Fu.tl 6 c; first | (replace c := Fu.tl 0 c; refine ln KSl.out h ?_; clear h; intro a w h) | (replace c := Fu.tl 1 c; refine lnb KSr.out h ?_; clear h; intro a w h) | (replace c := Fu.tl 2 c; refine eqi h ?_; clear h; intro a w h) | (replace c := Fu.tl 3 c; refine nei h ?_; clear h; intro a w h) | (replace c := Fu.tl 4 c; refine lt h ?_; clear h; intro a w h) | (replace c := Fu.tl 5 c; refine le h ?_; clear h; intro a w h) | (replace c := Fu.tl 6 c; refine gt h ?_; clear h; intro a w h) | (replace c := Fu.tl 7 c; refine ge h ?_; clear h; intro a w h) | (replace c := Fu.tl 8 c; refine eqb h ?_; clear h; intro a w h))
   | (replace c := Fu.tl 7 c; first | (replace c := Fu.tl 0 c; refine neb h ?_; clear h; intro a w h) | (replace c := Fu.tl 1 c; refine nt h ?_; clear h; intro a w h) | (replace c := Fu.tl 2 c; refine nc h ?_; clear h; intro a w h) | (replace c := Fu.tl 3 c; refine mf h ?_; clear h; intro a w h) | (replace c := Fu.tl 4 c; refine sk0 h (k := ?_); clear h; intro a w h) | (replace c := Fu.tl 5 c; refine bdl_ h ?_; clear h; intro a w h) | (replace c := Fu.tl 6 c; refine mi KCc.out h ?_; clear h; intro a w h))
   | (have _ := Fu.tl 8 c; refine Fu.tk 8 c (by kernel_rfl) (fun c => ?_)))
 first | (revert a w h; exact k.out) | exact k.out) : p := s (.mk n) h ⟨k⟩
end Go.Proofs.YtdabamobjciidaaGreatDoor.X
namespace Go.Proofs.YtdabamobjciidaaGreatDoor
open Go X
abbrev Bs := List UInt8
abbrev str (s : Bs) : Value := .string ⟨s.toArray⟩
inductive Tm where
 | mk (kind : Int) (name : Bs) (n : Int) (kids : List Tm)
namespace Tm
def kind : Tm → Int | .mk k _ _ _ => k
def name : Tm → Bs | .mk _ s _ _ => s
def n : Tm → Int | .mk _ _ n _ => n
def kids : Tm → List Tm | .mk _ _ _ l => l
theorem ind {p : Tm → Prop} (h : ∀ k s n ks, (∀ x ∈ ks, p x) → p (.mk k s n ks)) : ∀ t, p t
 | .mk k s n ks => h k s n ks fun x hx => ind h x
end Tm
mutual
def Tm.size : Tm → Nat
 | .mk _ _ _ ks => 1 + sizeL ks
def sizeL : List Tm → Nat
 | [] => 0
 | t :: l => t.size + sizeL l
end
def bnd (k : Int) : Bool := k == 3 || (k == 5 || k == 9)
mutual
def Tm.depth : Tm → Nat
 | .mk _ _ _ ks => depthL ks + 1
def depthL : List Tm → Nat
 | [] => 0
 | t :: l => max t.depth (depthL l)
end
mutual
def Tm.count : Tm → Nat
 | .mk k _ _ ks => (if bnd k then 1 else 0) + countL ks
def countL : List Tm → Nat
 | [] => 0
 | t :: l => t.count + countL l
end
mutual
def Tm.same : Tm → Tm → Bool
 | .mk k s n ks, .mk k' s' n' ks' => (k == k') && ((decide (s = s')) && ((n == n') && sameL ks ks'))
def sameL : List Tm → List Tm → Bool
 | [], [] => true
 | t :: l, u :: m => t.same u && sameL l m
 | _, _ => false
end
mutual
theorem depth_le_size : ∀ t : Tm, t.depth ≤ t.size
 | .mk _ _ _ ks => by simp only [Tm.depth, Tm.size]; have := depthL_le ks; omega
theorem depthL_le : ∀ l : List Tm, depthL l ≤ sizeL l
 | [] => by simp [depthL]
 | t :: l => by simp only [depthL, sizeL]; have := depth_le_size t; have := depthL_le l; omega
end
mutual
theorem count_le_size : ∀ t : Tm, t.count ≤ t.size
 | .mk _ _ _ ks => by simp only [Tm.count, Tm.size]; have := countL_le ks; split <;> omega
theorem countL_le : ∀ l : List Tm, countL l ≤ sizeL l
 | [] => by simp [countL]
 | t :: l => by simp only [countL, sizeL]; have := count_le_size t; have := countL_le l; omega
end
theorem depthL_append (l m : List Tm) : depthL (l ++ m) = max (depthL l) (depthL m) := by
 induction l with
 | nil => simp [depthL]
 | cons t l ih => simp only [List.cons_append, depthL, ih]; omega
theorem countL_append (l m : List Tm) : countL (l ++ m) = countL l + countL m := by
 induction l with
 | nil => simp [countL]
 | cons t l ih => simp only [List.cons_append, countL, ih]; omega
mutual
theorem same_iff : ∀ t u : Tm, t.same u = true ↔ t = u
 | .mk k s n ks, .mk k' s' n' ks' => by simp [Tm.same, sameL_iff ks ks']
theorem sameL_iff : ∀ l m : List Tm, sameL l m = true ↔ l = m
 | [], [] => by simp [sameL]
 | [], _ :: _ => by simp [sameL]
 | _ :: _, [] => by simp [sameL]
 | t :: l, u :: m => by simp [sameL, same_iff t u, sameL_iff l m]
end
theorem sizeL_append (l m : List Tm) : sizeL (l ++ m) = sizeL l + sizeL m := by
 induction l with
 | nil => simp [sizeL]
 | cons t l ih => simp [sizeL, ih]; omega
theorem size_le_sizeL {t : Tm} {l : List Tm} (h : t ∈ l) : t.size ≤ sizeL l := by
 induction l with
 | nil => cases h
 | cons u l ih =>
   simp only [sizeL]
   cases h with
   | head => omega
   | tail _ h => have := ih h; omega
theorem size_pos (t : Tm) : 0 < t.size := by cases t; simp [Tm.size]; omega
theorem length_le_sizeL (l : List Tm) : l.length ≤ sizeL l := by
 induction l with
 | nil => simp
 | cons t l ih => simp only [sizeL, List.length_cons]; have := size_pos t; omega
mutual
def RT (H : GH) (cs : List Value) : Tm → Prop
 | .mk k s n ks => ∃ A c, cs = [.int .i64 k, str s, .int .i64 n, .slice A ks.length c] ∧ ks.length ≤ c ∧ RTL H A 0 ks
def RTL (H : GH) (A : Option Addr) (j : Nat) : List Tm → Prop
 | [] => True
 | t :: l => (∃ g off cs, A = some ⟨g, off, none⟩ ∧ cs.length = 4 ∧ RT H cs t ∧ ∀ i u, cs[i]? = some u → Hc H g (off + j * 4 + i) u) ∧ RTL H A (j + 1) l
end
theorem rtl_iff (H : GH) (A : Option Addr) : ∀ (l : List Tm) (b : Nat), RTL H A b l ↔ ∀ j x, l[j]? = some x → ∃ g off cs, A = some ⟨g, off, none⟩ ∧ cs.length = 4 ∧ RT H cs x ∧ ∀ i u, cs[i]? = some u → Hc H g (off + (b + j) * 4 + i) u
 | [], b => by simp [RTL]
 | t :: l, b => by
   simp only [RTL, rtl_iff H A l (b + 1)]
   constructor
   · rintro ⟨h0, h1⟩ j x hx
     cases j with
     | zero => simp at hx; subst hx; simpa using h0
     | succ j => simp at hx; have := h1 j x hx; simpa [Nat.add_assoc, Nat.add_comm 1 j] using this
   · intro h
     refine ⟨by simpa using h 0 t rfl, fun j x hx => ?_⟩
     have := h (j + 1) x (by simpa using hx)
     simpa [Nat.add_assoc, Nat.add_comm 1 j] using this
theorem rt_mk {H : GH} {cs : List Value} {k : Int} {s : Bs} {n : Int} {ks : List Tm} :
   RT H cs (.mk k s n ks) ↔ ∃ v, cs = [.int .i64 k, str s, .int .i64 n, v] ∧ RS RT 4 H v ks := by
 simp only [RT, rtl_iff, Nat.zero_add]
 constructor
 · rintro ⟨A, c, rfl, h1, h2⟩; exact ⟨_, rfl, A, c, rfl, h1, h2⟩
 · rintro ⟨v, rfl, A, c, rfl, h1, h2⟩; exact ⟨A, c, rfl, h1, h2⟩
theorem RT.mono {H H' : GH} (hl : LE H H') : ∀ (t : Tm) {cs : List Value}, RT H cs t → RT H' cs t := by
 intro t
 induction t using Tm.ind with
 | h k s n ks ih =>
   intro cs h
   rw [rt_mk] at h ⊢
   obtain ⟨v, rfl, h⟩ := h
   exact ⟨v, rfl, h.mono hl fun cs x hx hr => ih x hx hr⟩
def VT (H : GH) (v : Value) (t : Tm) : Prop := ∃ A c, v = .agg #[.int .i64 t.kind, str t.name, .int .i64 t.n, .slice A t.kids.length c] ∧ RS RT 4 H (.slice A t.kids.length c) t.kids
theorem vt_of_rt {H : GH} {cs : List Value} {t : Tm} (h : RT H cs t) : VT H (.agg cs.toArray) t := by
 obtain ⟨k, s, n, ks⟩ := t
 rw [rt_mk] at h
 obtain ⟨v, rfl, h⟩ := h
 obtain ⟨A, c, rfl, h1, h2⟩ := h
 exact ⟨A, c, rfl, A, c, rfl, h1, h2⟩
theorem VT.mono {H H' : GH} {v : Value} {t : Tm} (h : VT H v t) (hl : LE H H') : VT H' v t := by
 obtain ⟨A, c, rfl, h⟩ := h
 exact ⟨A, c, rfl, h.mono hl fun cs x _ hr => RT.mono hl x hr⟩
abbrev KS (H : GH) (A : Option Addr) (c : Nat) (ks : List Tm) : Prop := RS RT 4 H (.slice A ks.length c) ks
theorem KS.up {H H' : GH} {A : Option Addr} {c : Nat} {ks : List Tm} (h : KS H A c ks) (hl : LE H H') : KS H' A c ks := RS.mono h hl fun cs x _ hr => RT.mono hl x hr
theorem KS.get {H : GH} {A : Option Addr} {c : Nat} {ks : List Tm} (h : KS H A c ks) {j : Nat} (hj : j < ks.length) :
   ∃ g off A' c', A = some ⟨g, off, none⟩ ∧ VT H (.agg #[.int .i64 ks[j].kind, str ks[j].name, .int .i64 ks[j].n, .slice A' ks[j].kids.length c']) ks[j] ∧
     ∀ i u, [Value.int .i64 ks[j].kind, str ks[j].name, .int .i64 ks[j].n, .slice A' ks[j].kids.length c'][i]? = some u → Hc H g (off + j * 4 + i) u := by
 obtain ⟨g, off, cs, hA, hl, hr, hc⟩ := RS.at_ h (List.getElem?_eq_getElem hj)
 generalize ks[j] = x at hr hc ⊢
 obtain ⟨k, s, n, l⟩ := x
 rw [rt_mk] at hr
 obtain ⟨v, rfl, hr⟩ := hr
 obtain ⟨A', c', rfl, h1, h2⟩ := hr
 exact ⟨g, off, A', c', hA, ⟨A', c', rfl, A', c', rfl, h1, h2⟩, hc⟩
theorem take_depth {ks : List Tm} {k : Nat} (h : k < ks.length) : depthL (ks.take (k + 1)) = max (depthL (ks.take k)) ks[k].depth := by
 rw [List.take_succ_eq_append_getElem h, depthL_append]; simp [depthL]
theorem take_count {ks : List Tm} {k : Nat} (h : k < ks.length) : countL (ks.take (k + 1)) = countL (ks.take k) + ks[k].count := by
 rw [List.take_succ_eq_append_getElem h, countL_append]; simp [countL]
theorem size_get_le {ks : List Tm} {k : Nat} (h : k < ks.length) : ks[k].size ≤ sizeL ks := size_le_sizeL (List.getElem_mem h)
theorem take_size {ks : List Tm} {k : Nat} (h : k < ks.length) : ((1 + sizeL (ks.take k) : Nat) : Int) + (ks[k].size : Int) = ((1 + sizeL (ks.take (k + 1)) : Nat) : Int) := by
 rw [List.take_succ_eq_append_getElem h, sizeL_append]; simp [sizeL]; omega
theorem size_take_le (ks : List Tm) (k : Nat) : sizeL (ks.take k) ≤ sizeL ks := by
 have := sizeL_append (ks.take k) (ks.drop k)
 rw [List.take_append_drop] at this; omega
def letterB (c : UInt8) : Bool := decide ((97 : Int) ≤ ((c ||| 32).toNat : Int)) && decide (((c ||| 32).toNat : Int) ≤ (122 : Int))
def digitB (c : UInt8) : Bool := decide ((48 : Int) ≤ (c.toNat : Int)) && decide ((c.toNat : Int) ≤ (57 : Int))
def okAt (s : Bs) (j : Nat) : Bool := letterB (s.getD j 0) || (j != 0 && digitB (s.getD j 0))
def nameB (s : Bs) : Bool := (List.range s.length).all (okAt s) && (decide ((0 : Int) < (s.length : Int)) && decide ((s.length : Int) ≤ 16))
theorem nameB_no {s : Bs} {k : Nat} (hk : k < s.length) (h : okAt s k = false) : nameB s = false := by
 unfold nameB
 have : (List.range s.length).all (okAt s) = false := by
   rw [List.all_eq_false]; exact ⟨k, List.mem_range.2 hk, by simp [h]⟩
 rw [this]; rfl
theorem nameB_yes {s : Bs} (h : ∀ j, j < s.length → okAt s j = true) : nameB s = (decide ((0 : Int) < (s.length : Int)) && decide ((s.length : Int) ≤ 16)) := by
 unfold nameB
 have : (List.range s.length).all (okAt s) = true := by
   rw [List.all_eq_true]; exact fun j hj => h j (List.mem_range.1 hj)
 rw [this]; rfl
def keysL : List Bs := [[102, 117, 110], [108, 101, 116], [105, 110], [105, 102], [116, 104, 101, 110], [101, 108, 115, 101], [119, 104, 105, 108, 101], [100, 111], [114, 97, 105, 115, 101], [116, 114, 121], [119, 105, 116, 104], [105, 110, 112, 117, 116], [99, 101, 108, 108], [100, 101, 102]]
def opsL : List Bs := [[43], [45], [42], [60], [61]]
def kidsL : List Int := [-1, 0, 0, 1, 2, 2, 3, 2, 1, 2, 1, 2, 2, 2]
def keywordB (s : Bs) : Bool := keysL.contains s
def indexL (ss : List Bs) (s : Bs) : Int := match ss.findIdx? (· == s) with
 | some j => (j : Int)
 | none => -1
theorem indexL_at {ss : List Bs} {s : Bs} {k : Nat} (hk : k < ss.length) (h : ∀ j (hj : j < ss.length), j < k → ss[j] ≠ s) (e : ss[k] = s) : indexL ss s = (k : Int) := by
 unfold indexL
 have : ss.findIdx? (· == s) = some k := by
   rw [List.findIdx?_eq_some_iff_getElem]
   refine ⟨hk, by simp [e], fun j hj => ?_⟩
   simpa using h j (by omega) hj
 rw [this]
theorem indexL_no {ss : List Bs} {s : Bs} (h : ∀ j (hj : j < ss.length), ss[j] ≠ s) : indexL ss s = -1 := by
 unfold indexL
 have : ss.findIdx? (· == s) = none := by
   rw [List.findIdx?_eq_none_iff]
   intro x hx
   obtain ⟨j, hj, rfl⟩ := List.getElem_of_mem hx
   simpa using h j hj
 rw [this]
theorem indexL_ge (ss : List Bs) (s : Bs) : decide ((0 : Int) ≤ indexL ss s) = ss.contains s := by
 by_cases hc : s ∈ ss
 · rw [List.contains_iff_mem.2 hc, decide_eq_true_eq]
   unfold indexL
   split
   · omega
   · rename_i h
     rw [List.findIdx?_eq_none_iff] at h
     simpa using h s hc
 · have : ss.contains s = false := by simpa using hc
   rw [this, decide_eq_false_iff_not, indexL_no (fun j hj e => hc (by rw [← e]; exact List.getElem_mem hj))]
   decide
def nodeB (k : Int) (s : Bs) (n : Int) (l : Nat) : Bool :=
 !(decide (k < 1) || (decide (14 ≤ k) || (((l : Int) != kidsL.getD k.toNat (-1)) || (decide (n < 0) || (decide (2147483648 ≤ n) || ((k != 1) && (n != 0))))))) &&
   (if bnd k || k == 2 then nameB s && !keywordB s else if k == 12 then opsL.contains s else decide (s = []))
mutual
def Tm.long : Tm → Nat
 | .mk _ s _ ks => max s.length (longL ks)
def longL : List Tm → Nat
 | [] => 0
 | t :: l => max t.long (longL l)
end
theorem long_le {t : Tm} {l : List Tm} (h : t ∈ l) : t.long ≤ longL l := by
 induction l with
 | nil => cases h
 | cons u l ih =>
   simp only [longL]
   cases h with
   | head => omega
   | tail _ h => have := ih h; omega
theorem long_get {l : List Tm} {k : Nat} (h : k < l.length) : l[k].long ≤ longL l := long_le (List.getElem_mem h)
def Tm.node (t : Tm) : Bool := nodeB t.kind t.name t.n t.kids.length
mutual
def Tm.wrong : Tm → Bool
 | .mk k s n ks => !nodeB k s n ks.length || wrongL ks
def wrongL : List Tm → Bool
 | [] => false
 | t :: l => t.wrong || wrongL l
end
theorem wrongL_any : ∀ l : List Tm, wrongL l = l.any Tm.wrong
 | [] => rfl
 | t :: l => by simp [wrongL, wrongL_any l]
def Tm.right (t : Tm) : Bool := decide ((t.depth : Int) ≤ 200) && (decide ((t.size : Int) ≤ 10000) && !t.wrong)
structure Dc where
 name : Bs
 label : Bs
 n : Int
structure Df where
 name : Bs
 t : Tm
structure Pg where
 inputs : List Dc
 cells : List Dc
 defs : List Df
 body : Tm
def RDc (_H : GH) (cs : List Value) (d : Dc) : Prop := cs = [str d.name, str d.label, .int .i64 d.n]
def RDf (H : GH) (cs : List Value) (d : Df) : Prop := ∃ cs', cs = str d.name :: cs' ∧ RT H cs' d.t
abbrev CS (H : GH) (A : Option Addr) (c : Nat) (ds : List Dc) : Prop := RS RDc 3 H (.slice A ds.length c) ds
abbrev FS (H : GH) (A : Option Addr) (c : Nat) (ds : List Df) : Prop := RS RDf 5 H (.slice A ds.length c) ds
theorem CS.up {H H' : GH} {A : Option Addr} {c : Nat} {ds : List Dc} (h : CS H A c ds) (hl : LE H H') : CS H' A c ds := RS.mono h hl fun _ _ _ h => h
theorem RDf.mono {H H' : GH} (hl : LE H H') {cs : List Value} {d : Df} (h : RDf H cs d) : RDf H' cs d := let ⟨cs', h1, h2⟩ := h; ⟨cs', h1, RT.mono hl _ h2⟩
theorem FS.up {H H' : GH} {A : Option Addr} {c : Nat} {ds : List Df} (h : FS H A c ds) (hl : LE H H') : FS H' A c ds := RS.mono h hl fun _ _ _ h => RDf.mono hl h
def VDc (_H : GH) (v : Value) (d : Dc) : Prop := v = .agg #[str d.name, str d.label, .int .i64 d.n]
def VDf (H : GH) (v : Value) (d : Df) : Prop := ∃ A c, v = .agg #[str d.name, .int .i64 d.t.kind, str d.t.name, .int .i64 d.t.n, .slice A d.t.kids.length c] ∧ KS H A c d.t.kids
theorem CS.get {H : GH} {A : Option Addr} {c : Nat} {ds : List Dc} (h : CS H A c ds) {j : Nat} (hj : j < ds.length) :
   ∃ g off, A = some ⟨g, off, none⟩ ∧ VDc H (.agg #[str ds[j].name, str ds[j].label, .int .i64 ds[j].n]) ds[j] ∧ ∀ i u, [str ds[j].name, str ds[j].label, .int .i64 ds[j].n][i]? = some u → Hc H g (off + j * 3 + i) u := by
 obtain ⟨g, off, cs, hA, hl, hr, hc⟩ := RS.at_ h (List.getElem?_eq_getElem hj)
 unfold RDc at hr; subst hr
 exact ⟨g, off, hA, rfl, hc⟩
theorem FS.get {H : GH} {A : Option Addr} {c : Nat} {ds : List Df} (h : FS H A c ds) {j : Nat} (hj : j < ds.length) :
   ∃ g off A' c', A = some ⟨g, off, none⟩ ∧ VDf H (.agg #[str ds[j].name, .int .i64 ds[j].t.kind, str ds[j].t.name, .int .i64 ds[j].t.n, .slice A' ds[j].t.kids.length c']) ds[j] ∧
     ∀ i u, [str ds[j].name, .int .i64 ds[j].t.kind, str ds[j].t.name, .int .i64 ds[j].t.n, .slice A' ds[j].t.kids.length c'][i]? = some u → Hc H g (off + j * 5 + i) u := by
 obtain ⟨g, off, cs, hA, hl, hr, hc⟩ := RS.at_ h (List.getElem?_eq_getElem hj)
 generalize ds[j] = x at hr hc ⊢
 obtain ⟨nm, ⟨k, s, n, l⟩⟩ := x
 obtain ⟨cs', rfl, hr⟩ := hr
 rw [rt_mk] at hr
 obtain ⟨v, rfl, hr⟩ := hr
 obtain ⟨A', c', rfl, h1, h2⟩ := hr
 exact ⟨g, off, A', c', hA, ⟨A', c', rfl, A', c', rfl, h1, h2⟩, hc⟩
theorem VDf.t {H : GH} {d : Df} {A : Option Addr} {c : Nat} (h : KS H A c d.t.kids) : VT H (.agg #[.int .i64 d.t.kind, str d.t.name, .int .i64 d.t.n, .slice A d.t.kids.length c]) d.t := ⟨A, c, rfl, h⟩
def VP (H : GH) (v : Value) (p : Pg) : Prop := ∃ A1 c1 A2 c2 A3 c3 A4 c4,
 v = .agg #[.slice A1 p.inputs.length c1, .slice A2 p.cells.length c2, .slice A3 p.defs.length c3, .int .i64 p.body.kind, str p.body.name, .int .i64 p.body.n, .slice A4 p.body.kids.length c4] ∧
 CS H A1 c1 p.inputs ∧ CS H A2 c2 p.cells ∧ FS H A3 c3 p.defs ∧ KS H A4 c4 p.body.kids
theorem VP.mono {H H' : GH} {v : Value} {p : Pg} (h : VP H v p) (hl : LE H H') : VP H' v p :=
 let ⟨A1, c1, A2, c2, A3, c3, A4, c4, h0, h1, h2, h3, h4⟩ := h; ⟨A1, c1, A2, c2, A3, c3, A4, c4, h0, h1.up hl, h2.up hl, h3.up hl, h4.up hl⟩
def wordB (s : Bs) : Bool := nameB s && !keywordB s
def Dc.wrong (d : Dc) : Bool := !wordB d.name || (!wordB d.label || (decide (d.n < 0) || decide (2147483648 ≤ d.n)))
def Df.wrong (d : Df) : Bool := !wordB d.name || (!d.t.right || (d.t.kind != 3))
def Pg.bad (p : Pg) : Bool := p.inputs.any Dc.wrong || (p.inputs.any (fun d => d.n != 0) || (p.cells.any Dc.wrong || p.defs.any Df.wrong))
def Pg.fits (p : Pg) : Bool := !p.bad && (decide (mx3 p.inputs.length p.cells.length p.defs.length ≤ 32) && p.body.right)
structure Mild (p : Pg) : Prop where
 li : p.inputs.length < 1000000000000
 lc : p.cells.length < 1000000000000
 lf : p.defs.length < 1000000000000
 i : (∀ d ∈ p.inputs, d.name.length < 1000000000000 ∧ d.label.length < 1000000000000)
 c : (∀ d ∈ p.cells, d.name.length < 1000000000000 ∧ d.label.length < 1000000000000)
 f : (∀ d ∈ p.defs, d.name.length < 1000000000000 ∧ d.t.long < 1000000000000 ∧ d.t.size < 1000000000000)
 b1 : p.body.long < 1000000000000
 b2 : p.body.size < 1000000000000
def indexF {α : Type} (q : α → Bool) (xs : List α) : Int := match xs.findIdx? q with
 | some j => (j : Int)
 | none => -1
theorem indexF_at {α : Type} {q : α → Bool} {xs : List α} {k : Nat} (hk : k < xs.length) (h : ∀ j (hj : j < xs.length), j < k → q xs[j] = false) (e : q xs[k] = true) : indexF q xs = (k : Int) := by
 unfold indexF
 have : xs.findIdx? q = some k := by
   rw [List.findIdx?_eq_some_iff_getElem]
   exact ⟨hk, e, fun j hj => by simpa using h j (by omega) hj⟩
 rw [this]
theorem indexF_no {α : Type} {q : α → Bool} {xs : List α} (h : ∀ j (hj : j < xs.length), q xs[j] = false) : indexF q xs = -1 := by
 unfold indexF
 have : xs.findIdx? q = none := by
   rw [List.findIdx?_eq_none_iff]
   intro x hx
   obtain ⟨j, hj, rfl⟩ := List.getElem_of_mem hx
   exact h j hj
 rw [this]
theorem indexF_ge {α : Type} (q : α → Bool) (xs : List α) : decide ((0 : Int) ≤ indexF q xs) = xs.any q := by
 by_cases hc : xs.any q = true
 · rw [hc, decide_eq_true_eq]
   unfold indexF
   split
   · omega
   · rename_i h
     rw [List.findIdx?_eq_none_iff] at h
     obtain ⟨x, hx, hq⟩ := List.any_eq_true.1 hc
     rw [h x hx] at hq; cases hq
 · have hc : xs.any q = false := by simpa using hc
   rw [hc, decide_eq_false_iff_not, indexF_no (fun j hj => by rw [List.any_eq_false] at hc; simpa using hc _ (List.getElem_mem hj))]
   decide
theorem belowG (w : World) (k : Nat) (os : Array Obj) : RowKit.Below w.heap.size w (Go.Sort.grow (w.drewN k) os) where
 os := rfl
 tape := rfl
 output := rfl
 size := by simp [Go.Sort.grow, World.drewN]
 block i hi := by simp [Go.Sort.grow, World.drewN, Array.getElem?_append_left hi]
structure Tk where
 kind : Int
 text : Bs
 n : Int
def RTk (_H : GH) (cs : List Value) (k : Tk) : Prop := cs = [.int .i64 k.kind, str k.text, .int .i64 k.n]
theorem rtk_one {H : GH} {ks : List Tk} : ∀ cs y, y ∈ ks → RTk H cs y → ∀ u ∈ cs, u.oneCell' = true := by
 intro cs y _ h u hu
 unfold RTk at h; subst h
 simp at hu; rcases hu with rfl | rfl | rfl <;> rfl
inductive Pt where
 | word (s : Bs)
 | mark (s : Bs)
 | name (s : Bs)
 | kid (t : Tm)
def layT' (k : Int) (s : Bs) (n : Int) (w : Nat → List Tk) : List Tk :=
 if k == 1 then [⟨2, Lib.itoa n, n⟩]
 else if k == 2 then [⟨1, s, 0⟩]
 else if k == 3 then ⟨3, [102, 117, 110], 0⟩ :: ⟨1, s, 0⟩ :: ⟨4, [61, 62], 0⟩ :: w 0
 else if k == 4 then w 0 ++ w 1
 else if k == 5 then ⟨3, [108, 101, 116], 0⟩ :: ⟨1, s, 0⟩ :: ⟨4, [61], 0⟩ :: (w 0 ++ ⟨3, [105, 110], 0⟩ :: w 1)
 else if k == 6 then ⟨3, [105, 102], 0⟩ :: (w 0 ++ ⟨3, [116, 104, 101, 110], 0⟩ :: (w 1 ++ ⟨3, [101, 108, 115, 101], 0⟩ :: w 2))
 else if k == 7 then ⟨3, [119, 104, 105, 108, 101], 0⟩ :: (w 0 ++ ⟨3, [100, 111], 0⟩ :: w 1)
 else if k == 8 then ⟨3, [114, 97, 105, 115, 101], 0⟩ :: w 0
 else if k == 9 then ⟨3, [116, 114, 121], 0⟩ :: (w 0 ++ ⟨3, [119, 105, 116, 104], 0⟩ :: ⟨1, s, 0⟩ :: ⟨4, [61, 62], 0⟩ :: w 1)
 else if k == 10 then ⟨4, [33], 0⟩ :: w 0
 else if k == 11 then w 0 ++ ⟨4, [58, 61], 0⟩ :: w 1
 else if k == 12 then w 0 ++ ⟨4, s, 0⟩ :: w 1
 else w 0 ++ ⟨4, [59], 0⟩ :: w 1
mutual
def Tm.toks : Tm → List Tk
 | .mk k s n ks => layT' k s n (withinN ks)
def withinN : List Tm → Nat → List Tk
 | [] => fun _ => []
 | t :: l => fun i => match i with
   | 0 => if t.kind == 1 || t.kind == 2 then t.toks else ⟨4, [40], 0⟩ :: (t.toks ++ [⟨4, [41], 0⟩])
   | i + 1 => withinN l i
end
def Tm.within (t : Tm) : List Tk := if t.kind == 1 || t.kind == 2 then t.toks else ⟨4, [40], 0⟩ :: (t.toks ++ [⟨4, [41], 0⟩])
theorem withinN_get : ∀ {ks : List Tm} {i : Nat} (h : i < ks.length), withinN ks i = ks[i].within
 | [], _, h => by simp at h
 | t :: l, 0, _ => by simp only [withinN, Tm.within, List.getElem_cons_zero]
 | t :: l, i + 1, h => by simp only [withinN, List.getElem_cons_succ]; exact withinN_get _
theorem toks_mk (k : Int) (s : Bs) (n : Int) (ks : List Tm) : (Tm.mk k s n ks).toks = layT' k s n (withinN ks) := by simp only [Tm.toks]
def Pt.toks : Pt → List Tk
 | .word s => [⟨3, s, 0⟩]
 | .mark s => [⟨4, s, 0⟩]
 | .name s => [⟨1, s, 0⟩]
 | .kid t => t.within
def laidL (ps : List Pt) : List Tk := ps.flatMap Pt.toks
theorem laid_take {ps : List Pt} {k : Nat} (h : k < ps.length) : laidL (ps.take (k + 1)) = laidL (ps.take k) ++ ps[k].toks := by
 unfold laidL; rw [List.take_succ_eq_append_getElem h, List.flatMap_append]; simp
theorem laid_len_take (ps : List Pt) (k : Nat) : (laidL (ps.take k)).length ≤ (laidL ps).length := by
 conv => rhs; rw [← List.take_append_drop k ps]
 unfold laidL; rw [List.flatMap_append, List.length_append]; omega
theorem kids_of_node {k : Int} {s : Bs} {n : Int} {l : Nat} (h : nodeB k s n l = true) : 1 ≤ k ∧ k < 14 ∧ (l : Int) = kidsL.getD k.toNat (-1) ∧ 0 ≤ n ∧ n < 2147483648 := by
 unfold nodeB at h
 simp only [Bool.and_eq_true, Bool.not_eq_true', Bool.or_eq_false_iff, decide_eq_false_iff_not, bne_eq_false_iff_eq] at h
 obtain ⟨⟨h1, h2, h3, h4, h5, h6⟩, h7⟩ := h
 exact ⟨by omega, by omega, h3, by omega, by omega⟩
theorem right_of {k : Int} {s : Bs} {n : Int} {ks : List Tm} (h : (Tm.mk k s n ks).wrong = false) : nodeB k s n ks.length = true ∧ ∀ x ∈ ks, x.wrong = false := by
 simp only [Tm.wrong, wrongL_any, Bool.or_eq_false_iff, Bool.not_eq_false'] at h
 refine ⟨h.1, fun x hx => ?_⟩
 have := h.2
 rw [List.any_eq_false] at this
 simpa using this x hx
theorem toks_k {k : Int} {s : Bs} {n : Int} {ks : List Tm} (hn : nodeB k s n ks.length = true) :
   (k = 1 → (Tm.mk k s n ks).toks = [⟨2, Lib.itoa n, n⟩]) ∧
   (k = 2 → (Tm.mk k s n ks).toks = laidL [.name s]) ∧
   (k = 3 → ∃ h : 0 < ks.length, (Tm.mk k s n ks).toks = laidL [.word [102, 117, 110], .name s, .mark [61, 62], .kid ks[0]]) ∧
   (k = 4 → ∃ h : 1 < ks.length, (Tm.mk k s n ks).toks = laidL [.kid ks[0], .kid ks[1]]) ∧
   (k = 5 → ∃ h : 1 < ks.length, (Tm.mk k s n ks).toks = laidL [.word [108, 101, 116], .name s, .mark [61], .kid ks[0], .word [105, 110], .kid ks[1]]) ∧
   (k = 6 → ∃ h : 2 < ks.length, (Tm.mk k s n ks).toks = laidL [.word [105, 102], .kid ks[0], .word [116, 104, 101, 110], .kid ks[1], .word [101, 108, 115, 101], .kid ks[2]]) ∧
   (k = 7 → ∃ h : 1 < ks.length, (Tm.mk k s n ks).toks = laidL [.word [119, 104, 105, 108, 101], .kid ks[0], .word [100, 111], .kid ks[1]]) ∧
   (k = 8 → ∃ h : 0 < ks.length, (Tm.mk k s n ks).toks = laidL [.word [114, 97, 105, 115, 101], .kid ks[0]]) ∧
   (k = 9 → ∃ h : 1 < ks.length, (Tm.mk k s n ks).toks = laidL [.word [116, 114, 121], .kid ks[0], .word [119, 105, 116, 104], .name s, .mark [61, 62], .kid ks[1]]) ∧
   (k = 10 → ∃ h : 0 < ks.length, (Tm.mk k s n ks).toks = laidL [.mark [33], .kid ks[0]]) ∧
   (k = 11 → ∃ h : 1 < ks.length, (Tm.mk k s n ks).toks = laidL [.kid ks[0], .mark [58, 61], .kid ks[1]]) ∧
   (k = 12 → ∃ h : 1 < ks.length, (Tm.mk k s n ks).toks = laidL [.kid ks[0], .mark s, .kid ks[1]]) ∧
   (k ≠ 1 → k ≠ 2 → k ≠ 3 → k ≠ 4 → k ≠ 5 → k ≠ 6 → k ≠ 7 → k ≠ 8 → k ≠ 9 → k ≠ 10 → k ≠ 11 → k ≠ 12 → ∃ h : 1 < ks.length, (Tm.mk k s n ks).toks = laidL [.kid ks[0], .mark [59], .kid ks[1]]) := by
 obtain ⟨h1, h2, h3, _, _⟩ := kids_of_node hn
 rw [toks_mk]
 refine ⟨?_, ?_, ?_, ?_, ?_, ?_, ?_, ?_, ?_, ?_, ?_, ?_, ?_⟩
 · rintro rfl; rfl
 · rintro rfl; rfl
 · rintro rfl
   have hl : ks.length = 1 := by have : (ks.length : Int) = 1 := h3; omega
   have g0 : 0 < ks.length := by omega
   exact ⟨g0, by simp [layT', laidL, Pt.toks, withinN_get g0]⟩
 · rintro rfl
   have hl : ks.length = 2 := by have : (ks.length : Int) = 2 := h3; omega
   have g0 : 0 < ks.length := by omega
   have g1 : 1 < ks.length := by omega
   exact ⟨g1, by simp [layT', laidL, Pt.toks, withinN_get g0, withinN_get g1]⟩
 · rintro rfl
   have hl : ks.length = 2 := by have : (ks.length : Int) = 2 := h3; omega
   have g0 : 0 < ks.length := by omega
   have g1 : 1 < ks.length := by omega
   exact ⟨g1, by simp [layT', laidL, Pt.toks, withinN_get g0, withinN_get g1]⟩
 · rintro rfl
   have hl : ks.length = 3 := by have : (ks.length : Int) = 3 := h3; omega
   have g0 : 0 < ks.length := by omega
   have g1 : 1 < ks.length := by omega
   have g2 : 2 < ks.length := by omega
   exact ⟨g2, by simp [layT', laidL, Pt.toks, withinN_get g0, withinN_get g1, withinN_get g2]⟩
 · rintro rfl
   have hl : ks.length = 2 := by have : (ks.length : Int) = 2 := h3; omega
   have g0 : 0 < ks.length := by omega
   have g1 : 1 < ks.length := by omega
   exact ⟨g1, by simp [layT', laidL, Pt.toks, withinN_get g0, withinN_get g1]⟩
 · rintro rfl
   have hl : ks.length = 1 := by have : (ks.length : Int) = 1 := h3; omega
   have g0 : 0 < ks.length := by omega
   exact ⟨g0, by simp [layT', laidL, Pt.toks, withinN_get g0]⟩
 · rintro rfl
   have hl : ks.length = 2 := by have : (ks.length : Int) = 2 := h3; omega
   have g0 : 0 < ks.length := by omega
   have g1 : 1 < ks.length := by omega
   exact ⟨g1, by simp [layT', laidL, Pt.toks, withinN_get g0, withinN_get g1]⟩
 · rintro rfl
   have hl : ks.length = 1 := by have : (ks.length : Int) = 1 := h3; omega
   have g0 : 0 < ks.length := by omega
   exact ⟨g0, by simp [layT', laidL, Pt.toks, withinN_get g0]⟩
 · rintro rfl
   have hl : ks.length = 2 := by have : (ks.length : Int) = 2 := h3; omega
   have g0 : 0 < ks.length := by omega
   have g1 : 1 < ks.length := by omega
   exact ⟨g1, by simp [layT', laidL, Pt.toks, withinN_get g0, withinN_get g1]⟩
 · rintro rfl
   have hl : ks.length = 2 := by have : (ks.length : Int) = 2 := h3; omega
   have g0 : 0 < ks.length := by omega
   have g1 : 1 < ks.length := by omega
   exact ⟨g1, by simp [layT', laidL, Pt.toks, withinN_get g0, withinN_get g1]⟩
 · intro j1 j2 j3 j4 j5 j6 j7 j8 j9 j10 j11 j12
   have hk : k = 13 := by omega
   subst hk
   have hl : ks.length = 2 := by have : (ks.length : Int) = 2 := h3; omega
   have g0 : 0 < ks.length := by omega
   have g1 : 1 < ks.length := by omega
   exact ⟨g1, by simp [layT', laidL, Pt.toks, withinN_get g0, withinN_get g1]⟩
mutual
theorem toks_len : ∀ t : Tm, t.toks.length + 2 ≤ 8 * t.size
 | .mk k s n ks => by
   have h := within_len ks
   rw [toks_mk]
   simp only [Tm.size]
   have : (layT' k s n (withinN ks)).length ≤ 4 + ((withinN ks 0).length + (withinN ks 1).length + (withinN ks 2).length) := by
     unfold layT'
     by_cases c1 : (k == 1) = true
     · rw [if_pos c1]; simp only [List.length_cons, List.length_append, List.length_nil]; omega
     rw [if_neg c1]
     by_cases c2 : (k == 2) = true
     · rw [if_pos c2]; simp only [List.length_cons, List.length_append, List.length_nil]; omega
     rw [if_neg c2]
     by_cases c3 : (k == 3) = true
     · rw [if_pos c3]; simp only [List.length_cons, List.length_append, List.length_nil]; omega
     rw [if_neg c3]
     by_cases c4 : (k == 4) = true
     · rw [if_pos c4]; simp only [List.length_cons, List.length_append, List.length_nil]; omega
     rw [if_neg c4]
     by_cases c5 : (k == 5) = true
     · rw [if_pos c5]; simp only [List.length_cons, List.length_append, List.length_nil]; omega
     rw [if_neg c5]
     by_cases c6 : (k == 6) = true
     · rw [if_pos c6]; simp only [List.length_cons, List.length_append, List.length_nil]; omega
     rw [if_neg c6]
     by_cases c7 : (k == 7) = true
     · rw [if_pos c7]; simp only [List.length_cons, List.length_append, List.length_nil]; omega
     rw [if_neg c7]
     by_cases c8 : (k == 8) = true
     · rw [if_pos c8]; simp only [List.length_cons, List.length_append, List.length_nil]; omega
     rw [if_neg c8]
     by_cases c9 : (k == 9) = true
     · rw [if_pos c9]; simp only [List.length_cons, List.length_append, List.length_nil]; omega
     rw [if_neg c9]
     by_cases c10 : (k == 10) = true
     · rw [if_pos c10]; simp only [List.length_cons, List.length_append, List.length_nil]; omega
     rw [if_neg c10]
     by_cases c11 : (k == 11) = true
     · rw [if_pos c11]; simp only [List.length_cons, List.length_append, List.length_nil]; omega
     rw [if_neg c11]
     by_cases c12 : (k == 12) = true
     · rw [if_pos c12]; simp only [List.length_cons, List.length_append, List.length_nil]; omega
     rw [if_neg c12]
     simp only [List.length_cons, List.length_append, List.length_nil]; omega
   omega
theorem within_len : ∀ ks : List Tm, (withinN ks 0).length + (withinN ks 1).length + (withinN ks 2).length ≤ 8 * sizeL ks
 | [] => by simp [withinN]
 | t :: l => by
   have h := within_len l
   have h1 := toks_len t
   simp only [withinN, sizeL]
   have : (if t.kind == 1 || t.kind == 2 then t.toks else ⟨4, [40], 0⟩ :: (t.toks ++ [⟨4, [41], 0⟩])).length ≤ t.toks.length + 2 := by
     split <;> simp
   omega
end
def showL (ks : List Tk) : Bs := Lib.join (ks.map (·.text)) [32]
def Tm.show' (t : Tm) : Bs := if t.right then showL t.toks else [63]
theorem X.Hc.sub {H : GH} {g : Nat} {l : List Value} {e : TypeId} {z : Nat × Nat} (o n : Nat) (h : H g = some (.cells l.toArray e z)) : ∀ i u, ((l.drop o).take n)[i]? = some u → Hc H g (o + i) u := fun i u hu => ⟨_, _, _, h, by
 rw [List.getElem?_take] at hu
 split at hu
 · simpa using hu
 · cases hu⟩
theorem nameB_len {s : Bs} (h : nameB s = true) : s.length ≤ 16 := by
 unfold nameB at h
 simp only [Bool.and_eq_true, decide_eq_true_eq] at h
 have := h.2.2
 omega
theorem wordB_len {s : Bs} (h : wordB s = true) : s.length ≤ 16 := by
 unfold wordB at h
 simp only [Bool.and_eq_true] at h
 exact nameB_len h.1
theorem node_name {k : Int} {s : Bs} {n : Int} {l : Nat} (h : nodeB k s n l = true) : s.length ≤ 16 := by
 unfold nodeB at h
 rw [Bool.and_eq_true] at h
 have h := h.2
 split at h
 · rw [Bool.and_eq_true] at h; exact nameB_len h.1
 · split at h
   · have : ∀ x ∈ opsL, x.length ≤ 16 := by decide
     exact this s (by simpa using h)
   · have := of_decide_eq_true h; subst this; simp
theorem lay_texts {kd : Int} {s : Bs} {n : Int} {w : Nat → List Tk} (hs : s.length ≤ 21) (hi : (Lib.itoa n).length ≤ 21) (h0 : ∀ k ∈ w 0, k.text.length ≤ 21) (h1 : ∀ k ∈ w 1, k.text.length ≤ 21) (h2 : ∀ k ∈ w 2, k.text.length ≤ 21) :
   ∀ k ∈ layT' kd s n w, k.text.length ≤ 21 := by
 unfold layT'
 by_cases c1 : (kd == 1) = true
 · rw [if_pos c1]; simp only [List.forall_mem_cons, List.forall_mem_append, List.forall_mem_nil]; (try simp [hs, hi]); (try (repeat' first | exact h0 | exact h1 | exact h2 | constructor))
 rw [if_neg c1]
 by_cases c2 : (kd == 2) = true
 · rw [if_pos c2]; simp only [List.forall_mem_cons, List.forall_mem_append, List.forall_mem_nil]; (try simp [hs, hi]); (try (repeat' first | exact h0 | exact h1 | exact h2 | constructor))
 rw [if_neg c2]
 by_cases c3 : (kd == 3) = true
 · rw [if_pos c3]; simp only [List.forall_mem_cons, List.forall_mem_append, List.forall_mem_nil]; (try simp [hs, hi]); (try (repeat' first | exact h0 | exact h1 | exact h2 | constructor))
 rw [if_neg c3]
 by_cases c4 : (kd == 4) = true
 · rw [if_pos c4]; simp only [List.forall_mem_cons, List.forall_mem_append, List.forall_mem_nil]; (try simp [hs, hi]); (try (repeat' first | exact h0 | exact h1 | exact h2 | constructor))
 rw [if_neg c4]
 by_cases c5 : (kd == 5) = true
 · rw [if_pos c5]; simp only [List.forall_mem_cons, List.forall_mem_append, List.forall_mem_nil]; (try simp [hs, hi]); (try (repeat' first | exact h0 | exact h1 | exact h2 | constructor))
 rw [if_neg c5]
 by_cases c6 : (kd == 6) = true
 · rw [if_pos c6]; simp only [List.forall_mem_cons, List.forall_mem_append, List.forall_mem_nil]; (try simp [hs, hi]); (try (repeat' first | exact h0 | exact h1 | exact h2 | constructor))
 rw [if_neg c6]
 by_cases c7 : (kd == 7) = true
 · rw [if_pos c7]; simp only [List.forall_mem_cons, List.forall_mem_append, List.forall_mem_nil]; (try simp [hs, hi]); (try (repeat' first | exact h0 | exact h1 | exact h2 | constructor))
 rw [if_neg c7]
 by_cases c8 : (kd == 8) = true
 · rw [if_pos c8]; simp only [List.forall_mem_cons, List.forall_mem_append, List.forall_mem_nil]; (try simp [hs, hi]); (try (repeat' first | exact h0 | exact h1 | exact h2 | constructor))
 rw [if_neg c8]
 by_cases c9 : (kd == 9) = true
 · rw [if_pos c9]; simp only [List.forall_mem_cons, List.forall_mem_append, List.forall_mem_nil]; (try simp [hs, hi]); (try (repeat' first | exact h0 | exact h1 | exact h2 | constructor))
 rw [if_neg c9]
 by_cases c10 : (kd == 10) = true
 · rw [if_pos c10]; simp only [List.forall_mem_cons, List.forall_mem_append, List.forall_mem_nil]; (try simp [hs, hi]); (try (repeat' first | exact h0 | exact h1 | exact h2 | constructor))
 rw [if_neg c10]
 by_cases c11 : (kd == 11) = true
 · rw [if_pos c11]; simp only [List.forall_mem_cons, List.forall_mem_append, List.forall_mem_nil]; (try simp [hs, hi]); (try (repeat' first | exact h0 | exact h1 | exact h2 | constructor))
 rw [if_neg c11]
 by_cases c12 : (kd == 12) = true
 · rw [if_pos c12]; simp only [List.forall_mem_cons, List.forall_mem_append, List.forall_mem_nil]; (try simp [hs, hi]); (try (repeat' first | exact h0 | exact h1 | exact h2 | constructor))
 rw [if_neg c12]
 simp only [List.forall_mem_cons, List.forall_mem_append]; exact ⟨h0, by simp, h1⟩
mutual
theorem toks_texts : ∀ t : Tm, t.wrong = false → ∀ k ∈ t.toks, k.text.length ≤ 21
 | .mk kd s n ks, h => by
   rw [toks_mk]
   obtain ⟨hn, hk⟩ := right_of h
   have hl := node_name hn
   obtain ⟨_, _, _, h0, h1⟩ := kids_of_node hn
   have hw := within_texts ks hk
   exact lay_texts (by omega) (Lib.itoa_length_le n (by omega) (by omega)) (hw 0) (hw 1) (hw 2)
theorem within_texts : ∀ ks : List Tm, (∀ x ∈ ks, x.wrong = false) → ∀ i, ∀ k ∈ withinN ks i, k.text.length ≤ 21
 | [], _, i, k, hk => by simp [withinN] at hk
 | t :: l, h, 0, k, hk => by
   have ht := toks_texts t (h t (List.mem_cons_self ..))
   simp only [withinN] at hk
   split at hk
   · exact ht k hk
   · simp only [List.mem_cons, List.mem_append, List.not_mem_nil, or_false] at hk
     rcases hk with rfl | hk | rfl
     · simp
     · exact ht k hk
     · simp
 | t :: l, h, i + 1, k, hk => by
   simp only [withinN] at hk
   exact within_texts l (fun x hx => h x (List.mem_cons_of_mem _ hx)) i k hk
end
theorem lens_le {xs : List Bs} (h : ∀ x ∈ xs, x.length ≤ 21) : Lib.lens xs ≤ 21 * xs.length := by
 induction xs with
 | nil => simp [Lib.lens]
 | cons x l ih =>
   have h1 := h x (List.mem_cons_self ..)
   have h2 := ih fun y hy => h y (List.mem_cons_of_mem _ hy)
   simp only [Lib.lens, List.map_cons, List.sum_cons, List.length_cons] at *
   omega
theorem show_len {ks : List Tk} (h : ∀ k ∈ ks, k.text.length ≤ 21) : (showL ks).length ≤ 22 * ks.length := by
 unfold showL
 cases ks with
 | nil => simp [Lib.join_nil]
 | cons k l =>
   have := lens_le (xs := (k :: l).map (·.text)) (fun x hx => by
     obtain ⟨y, hy, rfl⟩ := List.mem_map.1 hx; exact h y hy)
   rw [List.map_cons] at this ⊢
   rw [Lib.join_length]
   simp only [List.length_cons, List.length_map, List.length_nil] at this ⊢
   omega
theorem show_le {t : Tm} (h : t.right = true) : (showL t.toks).length ≤ 2000000 := by
 unfold Tm.right at h
 simp only [Bool.and_eq_true, decide_eq_true_eq, Bool.not_eq_true'] at h
 have h1 := show_len (toks_texts t h.2.2)
 have h2 := toks_len t
 omega
theorem show'_le (t : Tm) : t.show'.length ≤ 2000000 := by
 unfold Tm.show'
 split
 · exact show_le (by assumption)
 · simp
def Dc.inL (d : Dc) : Bs := ((([105, 110, 112, 117, 116, 32] ++ d.name) ++ [32, 58, 32]) ++ d.label) ++ [32, 46, 10]
def Dc.cellL (d : Dc) : Bs := ((((([99, 101, 108, 108, 32] ++ d.name) ++ [32, 58, 32]) ++ d.label) ++ [32, 61, 32]) ++ Lib.itoa d.n) ++ [32, 46, 10]
def Df.line (d : Df) : Bs := ((([100, 101, 102, 32] ++ d.name) ++ [32, 61, 32]) ++ d.t.show') ++ [32, 46, 10]
def Pg.text (p : Pg) : Bs := (((p.inputs.flatMap Dc.inL) ++ p.cells.flatMap Dc.cellL) ++ p.defs.flatMap Df.line) ++ (p.body.show' ++ [10])
def Pg.print (p : Pg) : Bs := if p.fits then if decide (65536 < (p.text.length : Int)) then [] else p.text else []
def Pg.right (p : Pg) : Bool := !decide (p.print = [])
theorem fits_of {p : Pg} (h : p.fits = true) : p.inputs.length ≤ 32 ∧ p.cells.length ≤ 32 ∧ p.defs.length ≤ 32 ∧ (∀ d ∈ p.inputs, d.wrong = false ∧ d.n = 0) ∧ (∀ d ∈ p.cells, d.wrong = false) ∧ (∀ d ∈ p.defs, d.wrong = false) ∧ p.body.right = true := by
 unfold Pg.fits Pg.bad at h
 simp only [Bool.and_eq_true, Bool.not_eq_true', Bool.or_eq_false_iff, List.any_eq_false, decide_eq_true_eq] at h
 obtain ⟨⟨h1, h2, h3, h4⟩, h5, h6⟩ := h
 unfold mx3 at h5
 have : (p.inputs.length : Int) ≤ 32 ∧ (p.cells.length : Int) ≤ 32 ∧ (p.defs.length : Int) ≤ 32 := by
   split at h5
   · split at h5 <;> (rename_i a b; refine ⟨?_, ?_, ?_⟩ <;> first | omega | (rw [if_pos (by assumption)] at a; omega) | (rw [if_neg (by assumption)] at a; omega))
   · split at h5 <;> (rename_i a b; refine ⟨?_, ?_, ?_⟩ <;> first | omega | (rw [if_pos (by assumption)] at a; omega) | (rw [if_neg (by assumption)] at a; omega))
 refine ⟨by omega, by omega, by omega, fun d hd => ⟨by simpa using h1 d hd, by simpa using h2 d hd⟩, fun d hd => by simpa using h3 d hd, fun d hd => by simpa using h4 d hd, h6⟩
theorem dc_len {d : Dc} (h : d.wrong = false) : d.name.length ≤ 16 ∧ d.label.length ≤ 16 ∧ 0 ≤ d.n ∧ d.n < 2147483648 := by
 unfold Dc.wrong at h
 simp only [Bool.or_eq_false_iff, Bool.not_eq_false', decide_eq_false_iff_not] at h
 exact ⟨wordB_len h.1, wordB_len h.2.1, by omega, by omega⟩
theorem df_len {d : Df} (h : d.wrong = false) : d.name.length ≤ 16 ∧ d.t.right = true := by
 unfold Df.wrong at h
 simp only [Bool.or_eq_false_iff, Bool.not_eq_false'] at h
 exact ⟨wordB_len h.1, h.2.1⟩
theorem flat_take {α : Type} {f : α → Bs} {xs : List α} {k : Nat} (h : k < xs.length) : (xs.take (k + 1)).flatMap f = (xs.take k).flatMap f ++ f xs[k] := by
 rw [List.take_succ_eq_append_getElem h, List.flatMap_append]; simp
theorem flat_len {α : Type} {f : α → Bs} {B : Nat} : ∀ {xs : List α}, (∀ x ∈ xs, (f x).length ≤ B) → (xs.flatMap f).length ≤ B * xs.length
 | [], _ => by simp
 | x :: l, h => by
   have h1 := h x (List.mem_cons_self ..)
   have h2 := flat_len (xs := l) fun y hy => h y (List.mem_cons_of_mem _ hy)
   rw [List.flatMap_cons, List.length_append, List.length_cons, Nat.mul_succ]; omega
theorem inL_len {d : Dc} (h : d.wrong = false) : d.inL.length ≤ 2000100 := by
 obtain ⟨h1, h2, h3, h4⟩ := dc_len h
 unfold Dc.inL; simp only [List.length_append, List.length_cons, List.length_nil]; omega
theorem cellL_len {d : Dc} (h : d.wrong = false) : d.cellL.length ≤ 2000100 := by
 obtain ⟨h1, h2, h3, h4⟩ := dc_len h
 have := Lib.itoa_length_le d.n (by omega) (by omega)
 unfold Dc.cellL; simp only [List.length_append, List.length_cons, List.length_nil]; omega
theorem line_len {d : Df} (h : d.wrong = false) : d.line.length ≤ 2000100 := by
 obtain ⟨h1, h2⟩ := df_len h
 have := show'_le d.t
 unfold Df.line; simp only [List.length_append, List.length_cons, List.length_nil]; omega
theorem flat_take_len {α : Type} {f : α → Bs} {xs : List α} (h : ∀ x ∈ xs, (f x).length ≤ 2000100) (hl : xs.length ≤ 32) (k : Nat) : ((xs.take k).flatMap f).length ≤ 64003200 := by
 have h1 := flat_len (f := f) (xs := xs.take k) fun x hx => h x (List.mem_of_mem_take hx)
 have h2 : (xs.take k).length ≤ 32 := by rw [List.length_take]; omega
 have := Nat.mul_le_mul_left 2000100 h2
 omega
end Go.Proofs.YtdabamobjciidaaGreatDoor
