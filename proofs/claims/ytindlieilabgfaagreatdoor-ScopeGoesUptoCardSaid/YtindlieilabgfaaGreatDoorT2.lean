/- Declarations, definitions, programs as plain data. -/
import Derived.Test.YtindlieilabgfaaGreatDoorP1
import Derived.Test.YtindlieilabgfaaGreatDoorX9
set_option linter.unusedVariables false
set_option linter.unusedSectionVars false
set_option linter.unusedSimpArgs false
set_option autoImplicit false
set_option relaxedAutoImplicit false
namespace Go.Proofs.YtindlieilabgfaaGreatDoor
open Go X

mutual
/-- How long the longest name of a term is. -/
def Tm.long : Tm → Nat
  | .mk _ s _ ks => max s.length (longL ks)
def longL : List Tm → Nat
  | [] => 0
  | t :: l => max t.long (longL l)
end
theorem long_le {t : Tm} {l : List Tm} (h : t ∈ l) : t.long ≤ longL l := by
  induction l with
  | nil => cases h
  | cons u l ih =>
    simp only [longL]
    cases h with
    | head => omega
    | tail _ h => have := ih h; omega
theorem long_get {l : List Tm} {k : Nat} (h : k < l.length) : l[k].long ≤ longL l := long_le (List.getElem_mem h)
def Tm.node (t : Tm) : Bool := nodeB t.kind t.name t.n t.kids.length
mutual
def Tm.wrong : Tm → Bool
  | .mk k s n ks => !nodeB k s n ks.length || wrongL ks
def wrongL : List Tm → Bool
  | [] => false
  | t :: l => t.wrong || wrongL l
end
theorem wrongL_any : ∀ l : List Tm, wrongL l = l.any Tm.wrong
  | [] => rfl
  | t :: l => by simp [wrongL, wrongL_any l]
def Tm.right (t : Tm) : Bool := decide ((t.depth : Int) ≤ 200) && (decide ((t.size : Int) ≤ 10000) && !t.wrong)

structure Dc where
  name : Bs
  label : Bs
  n : Int
structure Df where
  name : Bs
  t : Tm
structure Pg where
  inputs : List Dc
  cells : List Dc
  defs : List Df
  body : Tm
def RDc (_H : GH) (cs : List Value) (d : Dc) : Prop := cs = [str d.name, str d.label, .int .i64 d.n]
def RDf (H : GH) (cs : List Value) (d : Df) : Prop := ∃ cs', cs = str d.name :: cs' ∧ RT H cs' d.t
abbrev CS (H : GH) (A : Option Addr) (c : Nat) (ds : List Dc) : Prop := RS RDc 3 H (.slice A ds.length c) ds
abbrev FS (H : GH) (A : Option Addr) (c : Nat) (ds : List Df) : Prop := RS RDf 5 H (.slice A ds.length c) ds
theorem CS.up {H H' : GH} {A : Option Addr} {c : Nat} {ds : List Dc} (h : CS H A c ds) (hl : LE H H') : CS H' A c ds := RS.mono h hl fun _ _ _ h => h
theorem RDf.mono {H H' : GH} (hl : LE H H') {cs : List Value} {d : Df} (h : RDf H cs d) : RDf H' cs d := let ⟨cs', h1, h2⟩ := h; ⟨cs', h1, RT.mono hl _ h2⟩
theorem FS.up {H H' : GH} {A : Option Addr} {c : Nat} {ds : List Df} (h : FS H A c ds) (hl : LE H H') : FS H' A c ds := RS.mono h hl fun _ _ _ h => RDf.mono hl h
def VDc (_H : GH) (v : Value) (d : Dc) : Prop := v = .agg #[str d.name, str d.label, .int .i64 d.n]
def VDf (H : GH) (v : Value) (d : Df) : Prop := ∃ A c, v = .agg #[str d.name, .int .i64 d.t.kind, str d.t.name, .int .i64 d.t.n, .slice A d.t.kids.length c] ∧ KS H A c d.t.kids
theorem CS.get {H : GH} {A : Option Addr} {c : Nat} {ds : List Dc} (h : CS H A c ds) {j : Nat} (hj : j < ds.length) :
    ∃ g off, A = some ⟨g, off, none⟩ ∧ VDc H (.agg #[str ds[j].name, str ds[j].label, .int .i64 ds[j].n]) ds[j] ∧ ∀ i u, [str ds[j].name, str ds[j].label, .int .i64 ds[j].n][i]? = some u → Hc H g (off + j * 3 + i) u := by
  obtain ⟨g, off, cs, hA, hl, hr, hc⟩ := RS.at_ h (List.getElem?_eq_getElem hj)
  unfold RDc at hr; subst hr
  exact ⟨g, off, hA, rfl, hc⟩
theorem FS.get {H : GH} {A : Option Addr} {c : Nat} {ds : List Df} (h : FS H A c ds) {j : Nat} (hj : j < ds.length) :
    ∃ g off A' c', A = some ⟨g, off, none⟩ ∧ VDf H (.agg #[str ds[j].name, .int .i64 ds[j].t.kind, str ds[j].t.name, .int .i64 ds[j].t.n, .slice A' ds[j].t.kids.length c']) ds[j] ∧
      ∀ i u, [str ds[j].name, .int .i64 ds[j].t.kind, str ds[j].t.name, .int .i64 ds[j].t.n, .slice A' ds[j].t.kids.length c'][i]? = some u → Hc H g (off + j * 5 + i) u := by
  obtain ⟨g, off, cs, hA, hl, hr, hc⟩ := RS.at_ h (List.getElem?_eq_getElem hj)
  generalize ds[j] = x at hr hc ⊢
  obtain ⟨nm, ⟨k, s, n, l⟩⟩ := x
  obtain ⟨cs', rfl, hr⟩ := hr
  rw [rt_mk] at hr
  obtain ⟨v, rfl, hr⟩ := hr
  obtain ⟨A', c', rfl, h1, h2⟩ := hr
  exact ⟨g, off, A', c', hA, ⟨A', c', rfl, A', c', rfl, h1, h2⟩, hc⟩
theorem VDf.mono {H H' : GH} {v : Value} {d : Df} (h : VDf H v d) (hl : LE H H') : VDf H' v d := let ⟨A, c, h1, h2⟩ := h; ⟨A, c, h1, h2.up hl⟩
theorem VDf.t {H : GH} {d : Df} {A : Option Addr} {c : Nat} (h : KS H A c d.t.kids) : VT H (.agg #[.int .i64 d.t.kind, str d.t.name, .int .i64 d.t.n, .slice A d.t.kids.length c]) d.t := ⟨A, c, rfl, h⟩
/-- A program as a value. -/
def VP (H : GH) (v : Value) (p : Pg) : Prop := ∃ A1 c1 A2 c2 A3 c3 A4 c4,
  v = .agg #[.slice A1 p.inputs.length c1, .slice A2 p.cells.length c2, .slice A3 p.defs.length c3, .int .i64 p.body.kind, str p.body.name, .int .i64 p.body.n, .slice A4 p.body.kids.length c4] ∧
  CS H A1 c1 p.inputs ∧ CS H A2 c2 p.cells ∧ FS H A3 c3 p.defs ∧ KS H A4 c4 p.body.kids
theorem VP.mono {H H' : GH} {v : Value} {p : Pg} (h : VP H v p) (hl : LE H H') : VP H' v p :=
  let ⟨A1, c1, A2, c2, A3, c3, A4, c4, h0, h1, h2, h3, h4⟩ := h; ⟨A1, c1, A2, c2, A3, c3, A4, c4, h0, h1.up hl, h2.up hl, h3.up hl, h4.up hl⟩
def wordB (s : Bs) : Bool := nameB s && !keywordB s
def Dc.wrong (d : Dc) : Bool := !wordB d.name || (!wordB d.label || (decide (d.n < 0) || decide (2147483648 ≤ d.n)))
def Df.wrong (d : Df) : Bool := !wordB d.name || (!d.t.right || (d.t.kind != 3))
def Pg.bad (p : Pg) : Bool := p.inputs.any Dc.wrong || (p.inputs.any (fun d => d.n != 0) || (p.cells.any Dc.wrong || p.defs.any Df.wrong))
def Pg.fits (p : Pg) : Bool := !p.bad && (decide (mx3 p.inputs.length p.cells.length p.defs.length ≤ 32) && p.body.right)
/-- Sizes that no machine reaches. -/
structure Mild (p : Pg) : Prop where
  li : p.inputs.length < 1000000000000
  lc : p.cells.length < 1000000000000
  lf : p.defs.length < 1000000000000
  i : (∀ d ∈ p.inputs, d.name.length < 1000000000000 ∧ d.label.length < 1000000000000)
  c : (∀ d ∈ p.cells, d.name.length < 1000000000000 ∧ d.label.length < 1000000000000)
  f : (∀ d ∈ p.defs, d.name.length < 1000000000000 ∧ d.t.long < 1000000000000 ∧ d.t.size < 1000000000000)
  b1 : p.body.long < 1000000000000
  b2 : p.body.size < 1000000000000
/-- The first place where something is so; -1: nowhere. -/
def indexF {α : Type} (q : α → Bool) (xs : List α) : Int := match xs.findIdx? q with
  | some j => (j : Int)
  | none => -1
theorem indexF_at {α : Type} {q : α → Bool} {xs : List α} {k : Nat} (hk : k < xs.length) (h : ∀ j (hj : j < xs.length), j < k → q xs[j] = false) (e : q xs[k] = true) : indexF q xs = (k : Int) := by
  unfold indexF
  have : xs.findIdx? q = some k := by
    rw [List.findIdx?_eq_some_iff_getElem]
    exact ⟨hk, e, fun j hj => by simpa using h j (by omega) hj⟩
  rw [this]
theorem indexF_no {α : Type} {q : α → Bool} {xs : List α} (h : ∀ j (hj : j < xs.length), q xs[j] = false) : indexF q xs = -1 := by
  unfold indexF
  have : xs.findIdx? q = none := by
    rw [List.findIdx?_eq_none_iff]
    intro x hx
    obtain ⟨j, hj, rfl⟩ := List.getElem_of_mem hx
    exact h j hj
  rw [this]
theorem indexF_ge {α : Type} (q : α → Bool) (xs : List α) : decide ((0 : Int) ≤ indexF q xs) = xs.any q := by
  by_cases hc : xs.any q = true
  · rw [hc, decide_eq_true_eq]
    unfold indexF
    split
    · omega
    · rename_i h
      rw [List.findIdx?_eq_none_iff] at h
      obtain ⟨x, hx, hq⟩ := List.any_eq_true.1 hc
      rw [h x hx] at hq; cases hq
  · have hc : xs.any q = false := by simpa using hc
    rw [hc, decide_eq_false_iff_not, indexF_no (fun j hj => by rw [List.any_eq_false] at hc; simpa using hc _ (List.getElem_mem hj))]
    decide
end Go.Proofs.YtindlieilabgfaaGreatDoor
