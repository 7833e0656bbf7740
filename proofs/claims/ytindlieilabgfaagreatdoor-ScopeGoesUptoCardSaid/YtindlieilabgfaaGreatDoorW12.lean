/- Walks: prog.Print, Right. -/
import Derived.Test.YtindlieilabgfaaGreatDoorW11
import Derived.Test.YtindlieilabgfaaGreatDoorT4
set_option linter.unusedVariables false
set_option linter.unusedSimpArgs false
set_option linter.unusedSectionVars false
set_option autoImplicit false
set_option relaxedAutoImplicit false
set_option maxRecDepth 10000
namespace Go.Proofs.YtindlieilabgfaaGreatDoor
open Go X
def apd (a b : Bs) : Bs := match b with
  | [] => a
  | _ => a ++ b
theorem apd_eq (a b : Bs) : apd a b = a ++ b := by cases b <;> simp [apd]
theorem catB {P : Program} {ops : Array Oper} {Q : Exit → Act → World → Prop} {γ : Gd P ops Q} {rest : List Oper} {o : Oper} {E w : World} {H : GH} {N : Nat} {D : List Deferred} {F : List (Nat × Value)} {L : List It} {a : Act}
    {t u : TypeId} {x y : Operand} {d : Nat} {s s' : List UInt8} (h : S E H N D F L a w) (hl : s.length + s'.length ≤ 100000000000000) (k : ∀ a w, S E H N D ((d, .string ⟨(s ++ s').toArray⟩) :: F) L a w → γ.G rest a w)
    (ho : o.op = .binOp .add t x y u := by rfl) (hx : ev F x = some (.string ⟨s.toArray⟩) := by rfl) (hy : ev F y = some (.string ⟨s'.toArray⟩) := by rfl)
    (hw : wn ops F o = some true := by rfl) (hd : o.dst = some d := by rfl) (hN : Nat.blt d N = true := by rfl) : γ.G (o :: rest) a w := cat h k hl ho hx hy hw hd hN
theorem PrintP_ok (p : Pg) (v : Value) (E : World) (H : GH) (L : List It) (hv : VP H v p) (hL : Laid H) (hb : Mild p) : Ok Tryz.prog 57 #[v] E H L fun r H' L' => r = str p.print ∧ H = H' ∧ L = L' := by
  have hv0 := hv
  obtain ⟨A1, c1, A2, c2, A3, c3, A4, c4, rfl, hi, hc, hd, hk⟩ := hv
  have hv := hv0
  refine enter (N := 83) [(0, _)] Tryz.func57 rfl rfl rfl rfl fun a w h => ?_
  refine sq ?_
  refine rg0 ?_
  refine bxA h fun g1 a w h => ?_
  refine as_ h fun a w h => ?_
  refine nl0 ?_
  refine thN ?_
  refine sq ?_
  refine sq ?_
  refine rg0 ?_
  obtain ⟨Hf, leHf, h, hf1⟩ := h.frz 0
  have l_H_Hf : LE H Hf := leHf
  have hL := hL.up l_H_Hf
  have hv := hv.mono l_H_Hf
  have hi := hi.up l_H_Hf
  have hc := hc.up l_H_Hf
  have hd := hd.up l_H_Hf
  have hk := hk.up l_H_Hf
  refine ldHN tN28 rfl (Hc.all (LE.rfl _ _ hf1)) h fun a w h => ?_
  refine cl bod73 (fits_ok p _ E Hf _ hv hL hb) h fun r11 H11 L11 a w le11 R h => ?_
  obtain ⟨rfl, rfl, rfl⟩ := R
  refine nt h fun a w h => ?_
  refine nl0 ?_
  refine thN ?_
  refine cdB h (fun c12 => ?_) (fun c12 => ?_)
  · have hfit : p.fits = false := by simpa using c12
    have e0 : p.print = [] := by unfold Pg.print; rw [if_neg (by rw [hfit]; simp)]
    refine sq ?_
    refine rg0 ?_
    refine as_ h fun a w h => ?_
    refine nl0 ?_
    refine thN ?_
    refine ret_ ?_
    refine thR ?_
    refine fin1 2 0 (h.less l_H_Hf) LE.rfl ?_
    exact ⟨by first | (rw [e0]; done) | (rw [e0]; rfl), rfl, rfl⟩
  · have hfit : p.fits = true := by simpa using c12
    obtain ⟨hl1, hl2, hl3, hw1, hw2, hw3, hbr⟩ := fits_of hfit
    have q1 := flat_take_len (f := Dc.inL) (fun d hd => inL_len (hw1 d hd).1) hl1
    have q2 := flat_take_len (f := Dc.cellL) (fun d hd => cellL_len (hw2 d hd)) hl2
    have q3 := flat_take_len (f := Df.line) (fun d hd => line_len (hw3 d hd)) hl3
    have q1a := q1 p.inputs.length
    have q2a := q2 p.cells.length
    have q3a := q3 p.defs.length
    rw [List.take_length] at q1a q2a q3a
    have q4 := show'_le p.body
    refine sk_ ?_
    refine thN ?_
    refine sq ?_
    refine rg0 ?_
    refine as_ h fun a w h => ?_
    refine nl0 ?_
    refine thN ?_
    refine sq ?_
    refine sq ?_
    refine rg0 ?_
    refine fa fl28_0 (r := 0) h fun a w h => ?_
    refine ldH t1_25 (Hc.of (LE.rfl _ _ hf1) rfl) h fun a w h => ?_
    refine ln sli25 h fun a w h => ?_
    refine mv h fun a w h => ?_
    refine nl0 ?_
    refine thN ?_
    refine blk ?_
    refine lp (β := Nat) (fun k a w => (k ≤ p.inputs.length) ∧ S E Hf 83 [] [(16, .int .i64 (k : Int)), (15, .int .i64 (p.inputs.length : Int)), (14, .slice A1 p.inputs.length c1), (3, str (apd [] ((p.inputs.take k).flatMap Dc.inL))), (1, .pointer (some ⟨g1, 0, none⟩))] (L) a w)
      (fun k => p.inputs.length - k) 0 ⟨Nat.zero_le _, h.to 0 _⟩ ?_
    rintro k a w ⟨pre, h⟩
    refine sq ?_
    refine rg0 ?_
    refine lt h fun a w h => ?_
    refine nl0 ?_
    refine thN ?_
    refine sq ?_
    refine cdB h (fun c17 => ?_) (fun c17 => ?_)
    · have c17 : k < p.inputs.length := by simpa using c17
      obtain ⟨g, off, rfl, hvt, hcell⟩ := CS.get hi c17
      obtain ⟨d1, d2, _, _⟩ := dc_len (hw1 _ (List.getElem_mem c17)).1
      have qk := q1 k
      rw [apd_eq] at h
      refine sk_ ?_
      refine thN ?_
      refine sq ?_
      refine blk ?_
      refine sq ?_
      refine rg0 ?_
      refine ia sli25 sz72 rfl c17 h fun a w h => ?_
      refine ldHN tN72 rfl hcell h fun a w h => ?_
      refine al zr72 h fun g5 a w h => ?_
      refine sw0 tN72 h fun a w h => ?_
      refine nl0 ?_
      refine thN ?_
      refine rg0 ?_
      refine mv h fun a w h => ?_
      refine fa fl72_0 (r := 0) h fun a w h => ?_
      refine ld 0 t1_9 h fun a w h => ?_
      refine catB h ?_ fun a w h => ?_
      · (try simp only [List.length_append, List.length_cons, List.length_nil]); omega
      refine catB h ?_ fun a w h => ?_
      · (try simp only [List.length_append, List.length_cons, List.length_nil]); omega
      refine fa fl72_1 (r := 1) h fun a w h => ?_
      refine ld 0 t1_9 h fun a w h => ?_
      refine catB h ?_ fun a w h => ?_
      · (try simp only [List.length_append, List.length_cons, List.length_nil]); omega
      refine catB h ?_ fun a w h => ?_
      · (try simp only [List.length_append, List.length_cons, List.length_nil]); omega
      refine catB h ?_ fun a w h => ?_
      · (try simp only [List.length_append, List.length_cons, List.length_nil]); omega
      have ea : ∀ z, z = Dc.inL p.inputs[k] → ([] ++ (p.inputs.take k).flatMap Dc.inL) ++ z = apd [] ((p.inputs.take (k + 1)).flatMap Dc.inL) := by intro z hz; rw [hz, apd_eq, flat_take c17, List.append_assoc]
      rw [ea _ ?hz] at h
      case hz => rfl
      refine as_ h fun a w h => ?_
      refine nl0 ?_
      refine ibN ?_
      refine thN ?_
      refine rg0 ?_
      refine inc ?_ h fun a w h => ?_
      · omega
      refine mv h fun a w h => ?_
      refine nl0 ?_
      refine thN ?_
      exact ⟨(k + 1), ⟨by omega, h.to 1 _⟩, by show _ - (k + 1) < _ - k; omega⟩
    · have hk0 : k = p.inputs.length := by simp at c17; omega
      rw [apd_eq, hk0, List.take_length] at h
      rw [List.nil_append] at h
      refine exit_ ?_
      refine thE ?_
      refine thE ?_
      refine ibH ?_
      refine thN ?_
      refine sq ?_
      refine sq ?_
      refine rg0 ?_
      refine fa fl28_1 (r := 1) h fun a w h => ?_
      refine ldH t1_25 (Hc.of (LE.rfl _ _ hf1) rfl) h fun a w h => ?_
      refine ln sli25 h fun a w h => ?_
      refine mv h fun a w h => ?_
      refine nl0 ?_
      refine thN ?_
      refine blk ?_
      refine lp (β := Nat) (fun k a w => (k ≤ p.cells.length) ∧ S E Hf 83 [] [(34, .int .i64 (k : Int)), (33, .int .i64 (p.cells.length : Int)), (32, .slice A2 p.cells.length c2), (3, str (apd (p.inputs.flatMap Dc.inL) ((p.cells.take k).flatMap Dc.cellL))), (1, .pointer (some ⟨g1, 0, none⟩))] (L) a w)
        (fun k => p.cells.length - k) 0 ⟨Nat.zero_le _, h.to 0 _⟩ ?_
      rintro k a w ⟨pre, h⟩
      refine sq ?_
      refine rg0 ?_
      refine lt h fun a w h => ?_
      refine nl0 ?_
      refine thN ?_
      refine sq ?_
      refine cdB h (fun c35 => ?_) (fun c35 => ?_)
      · have c35 : k < p.cells.length := by simpa using c35
        obtain ⟨g, off, rfl, hvt, hcell⟩ := CS.get hc c35
        obtain ⟨d1, d2, d3, d4⟩ := dc_len (hw2 _ (List.getElem_mem c35))
        have qk := q2 k
        rw [apd_eq] at h
        have d5 := Lib.itoa_length_le p.cells[k].n (by omega) (by omega)
        refine sk_ ?_
        refine thN ?_
        refine sq ?_
        refine blk ?_
        refine sq ?_
        refine rg0 ?_
        refine ia sli25 sz72 rfl c35 h fun a w h => ?_
        refine ldHN tN72 rfl hcell h fun a w h => ?_
        refine al zr72 h fun g7 a w h => ?_
        refine sw0 tN72 h fun a w h => ?_
        refine nl0 ?_
        refine thN ?_
        refine rgd [0] [_] [4] [2, 6, 10] 1 mix (by kernel_rfl) h (fun a w h => ?_)
        refine mv h fun a w h => ?_
        refine fa fl72_0 (r := 0) h fun a w h => ?_
        refine ldD 0 t1_9 h fun a w h => ?_
        refine catB h ?_ fun a w h => ?_
        · (try simp only [List.length_append, List.length_cons, List.length_nil]); omega
        refine catB h ?_ fun a w h => ?_
        · (try simp only [List.length_append, List.length_cons, List.length_nil]); omega
        refine fa fl72_1 (r := 1) h fun a w h => ?_
        refine ldD 0 t1_9 h fun a w h => ?_
        refine catB h ?_ fun a w h => ?_
        · (try simp only [List.length_append, List.length_cons, List.length_nil]); omega
        refine catB h ?_ fun a w h => ?_
        · (try simp only [List.length_append, List.length_cons, List.length_nil]); omega
        refine fa fl72_2 (r := 2) h fun a w h => ?_
        refine ldD 0 t1_2 h fun a w h => ?_
        refine cl bod74 (FormatInt_ok p.cells[k].n E Hf _ hL (by omega) (by omega)) h fun r49 H49 L49 a w le49 R h => ?_
        obtain ⟨rfl, rfl, rfl⟩ := R
        refine catB h ?_ fun a w h => ?_
        · (try simp only [List.length_append, List.length_cons, List.length_nil]); omega
        refine catB h ?_ fun a w h => ?_
        · (try simp only [List.length_append, List.length_cons, List.length_nil]); omega
        refine catB h ?_ fun a w h => ?_
        · (try simp only [List.length_append, List.length_cons, List.length_nil]); omega
        have ea : ∀ z, z = Dc.cellL p.cells[k] → ((p.inputs.flatMap Dc.inL) ++ (p.cells.take k).flatMap Dc.cellL) ++ z = apd (p.inputs.flatMap Dc.inL) ((p.cells.take (k + 1)).flatMap Dc.cellL) := by intro z hz; rw [hz, apd_eq, flat_take c35, List.append_assoc]
        rw [ea _ ?hz] at h
        case hz => rfl
        refine as_ h fun a w h => ?_
        refine nl0 ?_
        refine ibN ?_
        refine thN ?_
        refine rg0 ?_
        refine inc ?_ h fun a w h => ?_
        · omega
        refine mv h fun a w h => ?_
        refine nl0 ?_
        refine thN ?_
        exact ⟨(k + 1), ⟨by omega, h.to 1 _⟩, by show _ - (k + 1) < _ - k; omega⟩
      · have hk0 : k = p.cells.length := by simp at c35; omega
        rw [apd_eq, hk0, List.take_length] at h
        refine exit_ ?_
        refine thE ?_
        refine thE ?_
        refine ibH ?_
        refine thN ?_
        refine sq ?_
        refine sq ?_
        refine rg0 ?_
        refine fa fl28_2 (r := 2) h fun a w h => ?_
        refine ldH t1_26 (Hc.of (LE.rfl _ _ hf1) rfl) h fun a w h => ?_
        refine ln sli26 h fun a w h => ?_
        refine mv h fun a w h => ?_
        refine nl0 ?_
        refine thN ?_
        refine blk ?_
        refine lp (β := Nat) (fun k a w => (k ≤ p.defs.length) ∧ S E Hf 83 [] [(57, .int .i64 (k : Int)), (56, .int .i64 (p.defs.length : Int)), (55, .slice A3 p.defs.length c3), (3, str (apd ((p.inputs.flatMap Dc.inL) ++ p.cells.flatMap Dc.cellL) ((p.defs.take k).flatMap Df.line))), (1, .pointer (some ⟨g1, 0, none⟩))] (L) a w)
          (fun k => p.defs.length - k) 0 ⟨Nat.zero_le _, h.to 0 _⟩ ?_
        rintro k a w ⟨pre, h⟩
        refine sq ?_
        refine rg0 ?_
        refine lt h fun a w h => ?_
        refine nl0 ?_
        refine thN ?_
        refine sq ?_
        refine cdB h (fun c58 => ?_) (fun c58 => ?_)
        · have c58 : k < p.defs.length := by simpa using c58
          obtain ⟨g, off, A5, c5, rfl, hvt, hcell⟩ := FS.get hd c58
          obtain ⟨d1, d2⟩ := df_len (hw3 _ (List.getElem_mem c58))
          have d3 := show'_le p.defs[k].t
          have qk := q3 k
          rw [apd_eq] at h
          obtain ⟨A6, c6, e6, hkt⟩ := hvt
          cases e6
          refine sk_ ?_
          refine thN ?_
          refine sq ?_
          refine blk ?_
          refine sq ?_
          refine rg0 ?_
          refine ia sli26 sz68 rfl c58 h fun a w h => ?_
          refine ldHN tN68 rfl hcell h fun a w h => ?_
          refine al zr68 h fun g9 a w h => ?_
          refine sw0 tN68 h fun a w h => ?_
          refine nl0 ?_
          refine thN ?_
          refine rgd [0] [_] [4] [2, 6] 1 mix (by kernel_rfl) h (fun a w h => ?_)
          refine mv h fun a w h => ?_
          refine fa fl68_0 (r := 0) h fun a w h => ?_
          refine ldD 0 t1_9 h fun a w h => ?_
          refine catB h ?_ fun a w h => ?_
          · (try simp only [List.length_append, List.length_cons, List.length_nil]); omega
          refine catB h ?_ fun a w h => ?_
          · (try simp only [List.length_append, List.length_cons, List.length_nil]); omega
          refine fa fl68_1 (r := 1) h fun a w h => ?_
          refine ldND 0 tN24 h fun a w h => ?_
          refine cl bod75 (Show_ok p.defs[k].t _ E Hf _ (VDf.t hkt) hL (hb.f _ (List.getElem_mem c58)).2.1 (hb.f _ (List.getElem_mem c58)).2.2 (fun hr => by have := show_le hr; unfold showL at this; omega)) h fun r68 H68 L68 a w le68 R h => ?_
          obtain ⟨rfl, rfl, rfl⟩ := R
          refine catB h ?_ fun a w h => ?_
          · (try simp only [List.length_append, List.length_cons, List.length_nil]); omega
          refine catB h ?_ fun a w h => ?_
          · (try simp only [List.length_append, List.length_cons, List.length_nil]); omega
          refine catB h ?_ fun a w h => ?_
          · (try simp only [List.length_append, List.length_cons, List.length_nil]); omega
          have ea : ∀ z, z = Df.line p.defs[k] → (((p.inputs.flatMap Dc.inL) ++ p.cells.flatMap Dc.cellL) ++ (p.defs.take k).flatMap Df.line) ++ z = apd ((p.inputs.flatMap Dc.inL) ++ p.cells.flatMap Dc.cellL) ((p.defs.take (k + 1)).flatMap Df.line) := by intro z hz; rw [hz, apd_eq, flat_take c58, List.append_assoc]
          rw [ea _ ?hz] at h
          case hz => rfl
          refine as_ h fun a w h => ?_
          refine nl0 ?_
          refine ibN ?_
          refine thN ?_
          refine rg0 ?_
          refine inc ?_ h fun a w h => ?_
          · omega
          refine mv h fun a w h => ?_
          refine nl0 ?_
          refine thN ?_
          exact ⟨(k + 1), ⟨by omega, h.to 1 _⟩, by show _ - (k + 1) < _ - k; omega⟩
        · have hk0 : k = p.defs.length := by simp at c58; omega
          rw [apd_eq, hk0, List.take_length] at h
          refine exit_ ?_
          refine thE ?_
          refine thE ?_
          refine ibH ?_
          refine thN ?_
          refine sq ?_
          refine rg0 ?_
          refine mv h fun a w h => ?_
          refine fa fl28_3 (r := 3) h fun a w h => ?_
          refine ldHN (l := [_, _, _, _]) tN24 rfl (Hc.sub 3 4 (LE.rfl _ _ hf1)) h fun a w h => ?_
          refine cl bod75 (Show_ok p.body _ E Hf _ ⟨A4, c4, rfl, hk⟩ hL hb.b1 hb.b2 (fun hr => by have := show_le hr; unfold showL at this; omega)) h fun r76 H76 L76 a w le76 R h => ?_
          obtain ⟨rfl, rfl, rfl⟩ := R
          refine catB h ?_ fun a w h => ?_
          · (try simp only [List.length_append, List.length_cons, List.length_nil]); omega
          refine catB h ?_ fun a w h => ?_
          · (try simp only [List.length_append, List.length_cons, List.length_nil]); omega
          refine as_ h fun a w h => ?_
          refine nl0 ?_
          refine thN ?_
          refine sq ?_
          refine sq ?_
          refine rg0 ?_
          refine mv h fun a w h => ?_
          refine lnb str9 h fun a w h => ?_
          refine gt h fun a w h => ?_
          refine nl0 ?_
          refine thN ?_
          refine cdB h (fun c81 => ?_) (fun c81 => ?_)
          · have e0 : p.print = [] := by unfold Pg.print; rw [if_pos hfit, if_pos (show decide (65536 < (p.text.length : Int)) = true from c81)]
            refine sq ?_
            refine rg0 ?_
            refine as_ h fun a w h => ?_
            refine nl0 ?_
            refine thN ?_
            refine ret_ ?_
            refine thR ?_
            refine fin1 2 0 (h.less l_H_Hf) LE.rfl ?_
            exact ⟨by first | (rw [e0]; done) | (rw [e0]; rfl), rfl, rfl⟩
          · have e0 : p.print = p.text := by unfold Pg.print; rw [if_pos hfit, if_neg (by rw [show decide (65536 < (p.text.length : Int)) = false from c81]; simp)]
            refine sk_ ?_
            refine thN ?_
            refine sq ?_
            refine rg0 ?_
            refine mv h fun a w h => ?_
            refine as_ h fun a w h => ?_
            refine nl0 ?_
            refine thN ?_
            refine ret_ ?_
            refine fin1 2 0 (h.less l_H_Hf) LE.rfl ?_
            exact ⟨by first | (rw [e0]; done) | (rw [e0]; rfl), rfl, rfl⟩

theorem RightP_ok (p : Pg) (v : Value) (E : World) (H : GH) (L : List It) (hv : VP H v p) (hL : Laid H) (hb : Mild p) : Ok Tryz.prog 31 #[v] E H L fun r H' L' => r = .bool p.right ∧ H = H' ∧ L = L' := by
  have hv0 := hv
  obtain ⟨A1, c1, A2, c2, A3, c3, A4, c4, rfl, hi, hc, hd, hk⟩ := hv
  have hv := hv0
  refine enter (N := 6) [(0, _)] Tryz.func31 rfl rfl rfl rfl fun a w h => ?_
  refine sq ?_
  refine rg0 ?_
  refine bxA h fun g1 a w h => ?_
  refine as_ h fun a w h => ?_
  refine nl0 ?_
  refine thN ?_
  refine sq ?_
  refine rg0 ?_
  refine ldW 0 tN28 h fun a w h => ?_
  refine cl bod57 (PrintP_ok p _ E H _ hv hL hb) h fun r4 H4 L4 a w le4 R h => ?_
  obtain ⟨rfl, rfl, rfl⟩ := R
  refine neb h fun a w h => ?_
  refine as_ h fun a w h => ?_
  refine nl0 ?_
  refine thN ?_
  refine ret_ ?_
  refine fin1 2 1 h LE.rfl ?_
  exact ⟨rfl, rfl, rfl⟩
end Go.Proofs.YtindlieilabgfaaGreatDoor
