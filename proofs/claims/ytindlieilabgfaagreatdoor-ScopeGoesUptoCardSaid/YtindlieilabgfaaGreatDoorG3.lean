/- What the package-level tables hold when the call begins. -/
import Derived.Test.YtindlieilabgfaaGreatDoorG2
import Derived.Test.YtindlieilabgfaaGreatDoorW3
import Derived.Lib.LaidTab
import Derived.OpenShut
import Derived.FnData
set_option linter.unusedVariables false
set_option linter.unusedSectionVars false
set_option linter.unusedSimpArgs false
set_option autoImplicit false
set_option relaxedAutoImplicit false
set_option maxRecDepth 100000
namespace Go.Proofs.YtindlieilabgfaaGreatDoor
open Go X

theorem lv_get {P : Program} {w : World} {n : String} {d : DataW Unit} : ∀ {l : List (String × DataW Unit)} {ps : List MemPlace}, DataW.LaidVars P w l ps → (n, d) ∈ l →
    ∃ g t cs fuel p, P.globalNamed n = some g ∧ (P.globals[g]?).map (·.type) = some t ∧ w.var? P n = some cs ∧ DataW.trod (fun _ => ()) P w 0 (fun _ => true) false fuel t cs.toList = some (d, p)
  | [], _, _, hm => by cases hm
  | (n', d') :: l, ps, h, hm => by
    obtain ⟨g, t, cs, fuel, p, q, h1, h2, h3, h4, h5, h6⟩ := h
    cases hm with
    | head => exact ⟨g, t, cs, fuel, p, h1, h2, h3, h4⟩
    | tail _ hm => exact lv_get h5 hm
theorem str_cells {P : Program} {w : World} {fuel t e n : Nat} {cs : List Value} {ss : List Bs} {p : List MemPlace} (ht : P.underlying t = some (.array n e)) (he : P.underlying e = some .string) (hc : P.cellsOf e = 1)
    (h : DataW.trod (fun _ => ()) P w 0 (fun _ => true) false fuel t cs = some (.agg (ss.map fun s => .lit (.string s)), p)) : ∀ (i : Nat) (s : Bs), ss[i]? = some s → cs[i]? = some (str s) := by
  obtain ⟨xs, m, rfl, hx, hl, hlen, hf⟩ := DataW.trod_array ht h
  intro i s hs
  have hmap : ss.map (fun s => DataW.lit (H := Unit) (.string s)) = xs.map (·.1) := by
    have := congrArg Prod.fst hx
    simpa using this
  have hxi : (xs.map (·.1))[i]? = some (.lit (.string s)) := by rw [← hmap]; simp [hs]
  rw [List.getElem?_map, Option.map_eq_some_iff] at hxi
  obtain ⟨y, hy, hys⟩ := hxi
  have hi : i < n := by have := (List.getElem?_eq_some_iff.1 hy).1; omega
  have hg := hf i hi
  rw [hy, hc] at hg
  obtain ⟨b, e0, hyb, _⟩ := DataW.trod_string he hg
  have := piece e0 rfl 0 (by omega)
  rw [Nat.add_zero, Nat.mul_one] at this
  rw [this]
  have hb : b.data.toList = s := by rw [hyb] at hys; simpa using hys
  rw [← hb, ← str_ba]; rfl
theorem ss_of {w : World} {g n : Nat} {cs : Array Value} {ss : List Bs} (hg : ∀ i : Nat, w.cell? ⟨g, i, none⟩ = cs[i]?) (h : ∀ (i : Nat) (s : Bs), ss[i]? = some s → cs.toList[i]? = some (str s)) (hn : n = ss.length) : SS (HW w) (some ⟨g, 0, none⟩) n ss := by
  subst hn
  refine ⟨_, _, rfl, Nat.le_refl _, fun j s hs => ⟨g, 0, [str s], rfl, rfl, rfl, fun i u hu => ?_⟩⟩
  cases i with
  | zero =>
    simp at hu; subst hu
    refine hc_of ?_
    rw [hg]
    have := h j s hs
    simpa using this
  | succ i => simp at hu
theorem laid_of {l : List (String × DataW Unit)} {ps : List MemPlace} {W : World} (h : DataW.LaidVars Tryz.prog W l ps) (h1 : ("internal/strconv.uint64pow10", Rows.laid_internal_strconv_uint64pow10) ∈ l) (h2 : ("chancel/lex.keys", Rows.laid_chancel_lex_keys) ∈ l)
    (h3 : ("chancel/term.kids", Rows.laid_chancel_term_kids) ∈ l) (h4 : ("chancel/term.ops", Rows.laid_chancel_term_ops) ∈ l) : Laid (HW W) := by
  refine ⟨?_, ?_, ?_, ?_⟩
  · obtain ⟨g, t, cs, fuel, p, hg, hty, hvar, htr⟩ := lv_get h h2
    obtain rfl : g = 3 := Option.some.inj (hg.symm.trans (show Tryz.prog.globalNamed "chancel/lex.keys" = some 3 by kernel_rfl))
    obtain rfl : t = 211 := Option.some.inj (hty.symm.trans (show (Tryz.prog.globals[3]?).map (·.type) = some 211 by kernel_rfl))
    exact ss_of (World.var?_cell hg hvar) (str_cells (ss := keysL) Tryz.underlying211 Tryz.underlying9 c1_9 htr) rfl
  · obtain ⟨g, t, cs, fuel, p, hg, hty, hvar, htr⟩ := lv_get h h4
    obtain rfl : g = 1 := Option.some.inj (hg.symm.trans (show Tryz.prog.globalNamed "chancel/term.ops" = some 1 by kernel_rfl))
    obtain rfl : t = 188 := Option.some.inj (hty.symm.trans (show (Tryz.prog.globals[1]?).map (·.type) = some 188 by kernel_rfl))
    exact ss_of (World.var?_cell hg hvar) (str_cells (ss := opsL) Tryz.underlying188 Tryz.underlying9 c1_9 htr) rfl
  · obtain ⟨g, t, cs, fuel, p, hg, hty, hvar, htr⟩ := lv_get h h3
    obtain rfl : g = 0 := Option.some.inj (hg.symm.trans (show Tryz.prog.globalNamed "chancel/term.kids" = some 0 by kernel_rfl))
    obtain rfl : t = 187 := Option.some.inj (hty.symm.trans (show (Tryz.prog.globals[0]?).map (·.type) = some 187 by kernel_rfl))
    have hcs := Lib.cells_of_tab (zs := kidsL) (k := .i64) Tryz.underlying187 Tryz.underlying3 c1_3 (by kernel_rfl) htr
    intro j k hk
    refine hc_of ?_
    rw [World.var?_cell hg hvar, ← Array.getElem?_toList, hcs]
    simp [hk]
  · obtain ⟨g, t, cs, fuel, p, hg, hty, hvar, htr⟩ := lv_get h h1
    obtain rfl : t = 192 := by
      have hg2 : g = 2 := Option.some.inj (hg.symm.trans (show Tryz.prog.globalNamed "internal/strconv.uint64pow10" = some 2 by kernel_rfl))
      subst hg2
      exact Option.some.inj (hty.symm.trans (show (Tryz.prog.globals[2]?).map (·.type) = some 192 by kernel_rfl))
    have hcs := Lib.cells_of_tab (zs := Lib.pow10Tab) (k := .u64) Tryz.underlying192 Tryz.underlying128 (by kernel_rfl) (by kernel_rfl) htr
    intro w hw
    unfold Lib.TabIs
    unfold World.var? at hvar ⊢
    rw [hg] at hvar ⊢
    simp only [Option.bind_some] at hvar ⊢
    split at hvar
    · rename_i c e z hc
      cases hvar
      have := hw.fro g _ hc
      rw [this]
      simp only
      rw [← hcs]
    · cases hvar
end Go.Proofs.YtindlieilabgfaaGreatDoor
