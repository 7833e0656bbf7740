/- Terms and programs, opened. -/
import Derived.Test.YtindlieilabgfaaGreatDoorG1
import Derived.Test.YtindlieilabgfaaGreatDoorProg
set_option linter.unusedVariables false
set_option linter.unusedSectionVars false
set_option linter.unusedSimpArgs false
set_option autoImplicit false
set_option relaxedAutoImplicit false
set_option maxRecDepth 100000
namespace Go.Proofs.YtindlieilabgfaaGreatDoor
open Go X

mutual
/-- How many nodes and letters a term has. -/
def Tm.wt : Tm → Nat
  | .mk _ s _ ks => 1 + s.length + wtL ks
def wtL : List Tm → Nat
  | [] => 0
  | t :: l => t.wt + wtL l
end
theorem wtL_sum : ∀ l : List Tm, wtL l = (l.map Tm.wt).sum
  | [] => rfl
  | t :: l => by simp only [wtL, List.map_cons, List.sum_cons, wtL_sum l]
mutual
theorem size_wt : ∀ t : Tm, t.size ≤ t.wt
  | .mk _ s _ ks => by simp only [Tm.size, Tm.wt]; have := sizeL_wt ks; omega
theorem sizeL_wt : ∀ l : List Tm, sizeL l ≤ wtL l
  | [] => by simp [sizeL]
  | t :: l => by simp only [sizeL, wtL]; have := size_wt t; have := sizeL_wt l; omega
end
mutual
theorem long_wt : ∀ t : Tm, t.long ≤ t.wt
  | .mk _ s _ ks => by simp only [Tm.long, Tm.wt]; have := longL_wt ks; omega
theorem longL_wt : ∀ l : List Tm, longL l ≤ wtL l
  | [] => by simp [longL]
  | t :: l => by simp only [longL, wtL]; have := long_wt t; have := longL_wt l; omega
end
section
variable {H : Type} {enc : TypeId × Value → H} {w : World} {base : Nat} {spare : Nat → Bool} {held : Bool}
theorem c24 : Tryz.prog.cellsOf 24 = 4 := by kernel_rfl
theorem c72 : Tryz.prog.cellsOf 72 = 3 := by kernel_rfl
theorem c68 : Tryz.prog.cellsOf 68 = 5 := by kernel_rfl
theorem c28 : Tryz.prog.cellsOf 28 = 7 := by kernel_rfl
theorem c1_3 : Tryz.prog.cellsOf 3 = 1 := by kernel_rfl
theorem c1_9 : Tryz.prog.cellsOf 9 = 1 := by kernel_rfl
theorem c1_2 : Tryz.prog.cellsOf 2 = 1 := by kernel_rfl
theorem c1_22 : Tryz.prog.cellsOf 22 = 1 := by kernel_rfl
theorem c1_25 : Tryz.prog.cellsOf 25 = 1 := by kernel_rfl
theorem c1_26 : Tryz.prog.cellsOf 26 = 1 := by kernel_rfl
theorem str_ba (s : ByteArray) : Value.string s = str s.data.toList := by
  simp [str]
/-- A piece of a list that is known. -/
theorem piece {cs : List Value} {o n : Nat} {l : List Value} (h : (cs.drop o).take n = l) (hl : l.length = n) : ∀ i, i < n → cs[o + i]? = l[i]? := by
  intro i hi
  rw [← h, List.getElem?_take, if_pos hi, List.getElem?_drop]
theorem open_tm : ∀ (fuel : Nat) (cs : List Value) (x : DataW H × List MemPlace), DataW.trod enc Tryz.prog w base spare held fuel 24 cs = some x → ∃ t : Tm, RT (HW w) cs t ∧ t.wt ≤ Rows.uptoBulk x.1 := by
  intro fuel
  induction fuel using Nat.strongRecOn with
  | _ fuel ih =>
  intro cs x h
  obtain ⟨xs, n, rfl, rfl, hl, hlen, hf⟩ := DataW.trod_struct Tryz.underlying24 h
  rw [c24] at hl
  match xs, hlen with
  | [y0, y1, y2, y3], _ =>
    obtain ⟨kd, e0, rfl, _⟩ := DataW.trod_int Tryz.underlying3 (hf 0 _ rfl)
    obtain ⟨s, e1, rfl, _⟩ := DataW.trod_string Tryz.underlying9 (hf 1 _ rfl)
    obtain ⟨nn, e2, rfl, _⟩ := DataW.trod_int Tryz.underlying2 (hf 2 _ rfl)
    obtain ⟨A, c, ks, e3, hks, hB⟩ := open_sl (R := RT) (B := Tm.wt) (sz := 4) Tryz.underlying22 c24 (by omega) (hf 3 _ rfl) (fun m cs' y hm hy => ih m (by omega) cs' y hy)
    have g0 : cs[0]? = _ := piece e0 rfl 0 (by show 0 < Tryz.prog.cellsOf 3; rw [c1_3]; omega)
    have g1 : cs[1]? = _ := piece e1 rfl 0 (by show 0 < Tryz.prog.cellsOf 9; rw [c1_9]; omega)
    have g2 : cs[2]? = _ := piece e2 rfl 0 (by show 0 < Tryz.prog.cellsOf 2; rw [c1_2]; omega)
    have g3 : cs[3]? = _ := piece e3 rfl 0 (by show 0 < Tryz.prog.cellsOf 22; rw [c1_22]; omega)
    refine ⟨.mk kd s.data.toList nn ks, ?_, ?_⟩
    · rw [rt_mk]
      refine ⟨.slice A ks.length c, ?_, hks⟩
      match cs, hl with
      | [a0, a1, a2, a3], _ =>
        simp at g0 g1 g2 g3
        rw [g0, g1, g2, g3, str_ba]
    · simp only [Tm.wt, wtL_sum, Rows.uptoBulk, Rows.uptoBulkAll, List.map_cons, List.map_nil]
      omega
theorem rs_cap {α : Type} {R : GH → List Value → α → Prop} {sz : Nat} {A : Option Addr} {n c : Nat} {ys : List α} (h : RS R sz (HW w) (.slice A n c) ys) : ys.length = n := by
  obtain ⟨A', c', e, _⟩ := h
  cases e; rfl
theorem rt_kids {cs : List Value} {t : Tm} (h : RT (HW w) cs t) : ∃ A c, cs = [.int .i64 t.kind, str t.name, .int .i64 t.n, .slice A t.kids.length c] ∧ KS (HW w) A c t.kids := by
  obtain ⟨k, s, n, ks⟩ := t
  rw [rt_mk] at h
  obtain ⟨v, rfl, A, c, rfl, h1, h2⟩ := h
  exact ⟨A, c, rfl, A, c, rfl, h1, h2⟩
theorem open_dc (fuel : Nat) (cs : List Value) (x : DataW H × List MemPlace) (h : DataW.trod enc Tryz.prog w base spare held fuel 72 cs = some x) : ∃ d : Dc, RDc (HW w) cs d ∧ d.name.length + d.label.length + 1 ≤ Rows.uptoBulk x.1 := by
  obtain ⟨xs, n, rfl, rfl, hl, hlen, hf⟩ := DataW.trod_struct Tryz.underlying72 h
  rw [c72] at hl
  match xs, hlen with
  | [y0, y1, y2], _ =>
    obtain ⟨s, e0, rfl, _⟩ := DataW.trod_string Tryz.underlying9 (hf 0 _ rfl)
    obtain ⟨s', e1, rfl, _⟩ := DataW.trod_string Tryz.underlying9 (hf 1 _ rfl)
    obtain ⟨nn, e2, rfl, _⟩ := DataW.trod_int Tryz.underlying2 (hf 2 _ rfl)
    have g0 : cs[0]? = _ := piece e0 rfl 0 (by show 0 < Tryz.prog.cellsOf 9; rw [c1_9]; omega)
    have g1 : cs[1]? = _ := piece e1 rfl 0 (by show 0 < Tryz.prog.cellsOf 9; rw [c1_9]; omega)
    have g2 : cs[2]? = _ := piece e2 rfl 0 (by show 0 < Tryz.prog.cellsOf 2; rw [c1_2]; omega)
    refine ⟨⟨s.data.toList, s'.data.toList, nn⟩, ?_, ?_⟩
    · match cs, hl with
      | [a0, a1, a2], _ =>
        simp at g0 g1 g2
        unfold RDc
        rw [g0, g1, g2, str_ba, str_ba]
    · simp only [Rows.uptoBulk, Rows.uptoBulkAll, List.map_cons, List.map_nil]
      omega
theorem open_df (fuel : Nat) (cs : List Value) (x : DataW H × List MemPlace) (h : DataW.trod enc Tryz.prog w base spare held fuel 68 cs = some x) : ∃ d : Df, RDf (HW w) cs d ∧ d.name.length + d.t.wt + 1 ≤ Rows.uptoBulk x.1 := by
  obtain ⟨xs, n, rfl, rfl, hl, hlen, hf⟩ := DataW.trod_struct Tryz.underlying68 h
  rw [c68] at hl
  match xs, hlen with
  | [y0, y1], _ =>
    obtain ⟨s, e0, rfl, _⟩ := DataW.trod_string Tryz.underlying9 (hf 0 _ rfl)
    obtain ⟨t, hrt, hB⟩ := open_tm n _ y1 (hf 1 _ rfl)
    have g0 : cs[0]? = _ := piece e0 rfl 0 (by show 0 < Tryz.prog.cellsOf 9; rw [c1_9]; omega)
    refine ⟨⟨s.data.toList, t⟩, ?_, ?_⟩
    · have hrt2 : RT (HW w) ((cs.drop 1).take (Tryz.prog.cellsOf 24)) t := hrt
      rw [c24] at hrt2
      match cs, hl with
      | [a0, a1, a2, a3, a4], _ =>
        simp at g0
        exact ⟨[a1, a2, a3, a4], by rw [g0, str_ba], hrt2⟩
    · simp only [Rows.uptoBulk, Rows.uptoBulkAll, List.map_cons, List.map_nil]
      omega
theorem sum_le {α : Type} {f : α → Nat} {x : α} {l : List α} (h : x ∈ l) : f x ≤ (l.map f).sum := by
  induction l with
  | nil => cases h
  | cons y l ih =>
    simp only [List.map_cons, List.sum_cons]
    cases h with
    | head => omega
    | tail _ h => have := ih h; omega
theorem len_le {α : Type} {f : α → Nat} {l : List α} : l.length ≤ (l.map fun x => f x + 1).sum := by
  induction l with
  | nil => simp
  | cons y l ih => simp only [List.map_cons, List.sum_cons, List.length_cons]; omega
theorem open_pg (fuel : Nat) (v : Value) (hv : ∃ cs, v = .agg cs) (x : DataW H × List MemPlace) (h : DataW.trod enc Tryz.prog w base spare held fuel 28 v.cells.toList = some x) (hx : Rows.uptoBulk x.1 ≤ 1048576) : ∃ p : Pg, VP (HW w) v p ∧ Mild p := by
  obtain ⟨cs, rfl⟩ := hv
  obtain ⟨xs, n, rfl, rfl, hl, hlen, hf⟩ := DataW.trod_struct Tryz.underlying28 h
  rw [c28] at hl
  match xs, hlen with
  | [y0, y1, y2, y3], _ =>
    obtain ⟨A1, k1, ds1, e0, hd1, hB1⟩ := open_sl (R := RDc) (B := fun d => d.name.length + d.label.length + 1) (sz := 3) Tryz.underlying25 c72 (by omega) (hf 0 _ rfl) (fun m cs' y _ hy => open_dc m cs' y hy)
    obtain ⟨A2, k2, ds2, e1, hd2, hB2⟩ := open_sl (R := RDc) (B := fun d => d.name.length + d.label.length + 1) (sz := 3) Tryz.underlying25 c72 (by omega) (hf 1 _ rfl) (fun m cs' y _ hy => open_dc m cs' y hy)
    obtain ⟨A3, k3, fs, e2, hd3, hB3⟩ := open_sl (R := RDf) (B := fun d => d.name.length + d.t.wt + 1) (sz := 5) Tryz.underlying26 c68 (by omega) (hf 2 _ rfl) (fun m cs' y _ hy => open_df m cs' y hy)
    obtain ⟨t, hrt, hB⟩ := open_tm n _ y3 (hf 3 _ rfl)
    have l1 := len_le (f := fun d : Dc => d.name.length + d.label.length) (l := ds1)
    have l2 := len_le (f := fun d : Dc => d.name.length + d.label.length) (l := ds2)
    have l3 := len_le (f := fun d : Df => d.name.length + d.t.wt) (l := fs)
    have g0 : cs.toList[0]? = _ := piece e0 rfl 0 (by show 0 < Tryz.prog.cellsOf 25; rw [c1_25]; omega)
    have g1 : cs.toList[1]? = _ := piece e1 rfl 0 (by show 0 < Tryz.prog.cellsOf 25; rw [c1_25]; omega)
    have g2 : cs.toList[2]? = _ := piece e2 rfl 0 (by show 0 < Tryz.prog.cellsOf 26; rw [c1_26]; omega)
    have hrt2 : RT (HW w) ((cs.toList.drop 3).take (Tryz.prog.cellsOf 24)) t := hrt
    rw [c24] at hrt2
    simp only [Rows.uptoBulk, Rows.uptoBulkAll, List.map_cons, List.map_nil] at hx
    have hsz := size_wt t
    have hlg := long_wt t
    refine ⟨⟨ds1, ds2, fs, t⟩, ?_, ⟨by show ds1.length < _; omega, by show ds2.length < _; omega, by show fs.length < _; omega, fun d hd => ?_, fun d hd => ?_, fun d hd => ?_, by show t.long < _; omega, by show t.size < _; omega⟩⟩
    · obtain ⟨A4, k4, e4, hk4⟩ := rt_kids hrt2
      refine ⟨A1, k1, A2, k2, A3, k3, A4, k4, ?_, hd1, hd2, hd3, hk4⟩
      obtain ⟨cl⟩ := cs
      have hl : cl.length = 7 := hl
      match cl, hl with
      | [a0, a1, a2, a3, a4, a5, a6], _ =>
        simp at g0 g1 g2 e4
        rw [g0, g1, g2, e4.1, e4.2.1, e4.2.2.1, e4.2.2.2]
    · have := sum_le (f := fun d : Dc => d.name.length + d.label.length + 1) hd; simp only at this; omega
    · have := sum_le (f := fun d : Dc => d.name.length + d.label.length + 1) hd; simp only at this; omega
    · have := sum_le (f := fun d : Df => d.name.length + d.t.wt + 1) hd
      have q1 := size_wt d.t
      have q2 := long_wt d.t
      simp only at this; omega
end
end Go.Proofs.YtindlieilabgfaaGreatDoor
