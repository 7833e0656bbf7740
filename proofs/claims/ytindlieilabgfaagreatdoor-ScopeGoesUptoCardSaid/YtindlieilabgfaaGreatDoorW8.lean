/- Walks: show.laid and what is within. -/
import Derived.Test.YtindlieilabgfaaGreatDoorW7
set_option linter.unusedVariables false
set_option linter.unusedSimpArgs false
set_option linter.unusedSectionVars false
set_option autoImplicit false
set_option relaxedAutoImplicit false
set_option maxRecDepth 10000
namespace Go.Proofs.YtindlieilabgfaaGreatDoor
open Go X
/-- How parts lie. -/
def RPt (H : GH) (cs : List Value) : Pt → Prop
  | .word s => cs = [.iface 174 (str s)]
  | .mark s => cs = [.iface 175 (str s)]
  | .name s => cs = [.iface 172 (str s)]
  | .kid t => ∃ A c, cs = [.iface 170 (.agg #[.int .i64 t.kind, str t.name, .int .i64 t.n, .slice A t.kids.length c])] ∧ KS H A c t.kids
theorem rpt_up {H H' : GH} (hl : LE H H') {cs : List Value} {p : Pt} (h : RPt H cs p) : RPt H' cs p := by
  cases p with
  | kid t => obtain ⟨A, c, h1, h2⟩ := h; exact ⟨A, c, h1, h2.up hl⟩
  | _ => exact h
/-- The answer is a row of tokens of the call's own. -/
def RowTk (ks : List Tk) (L : List It) : Value → GH → List It → Prop := fun r H' L' => ∃ A c xs, r = .slice A ks.length c ∧ L' = .row (.slice A ks.length c) 167 3 ks.length xs :: L ∧ RowR RTk 3 H' xs ks
def WithinOk (t : Tm) : Prop := ∀ (v : Value) (E : World) (H : GH) (L : List It), VT H v t → Laid H → Ok Tryz.prog 150 #[v] E H L (RowTk t.within L)
def ToksOk (t : Tm) : Prop := ∀ (v : Value) (E : World) (H : GH) (L : List It), VT H v t → Laid H → Ok Tryz.prog 94 #[v] E H L (RowTk t.toks L)
theorem rtkR {H : GH} {xs : List Value} {ks : List Tk} {H' : GH} (h : RowR RTk 3 H xs ks) : RowR RTk 3 H' xs ks := h.mono fun _ _ _ h => h

theorem kid_ok (ks : List Tm) (i : Nat) (hi : i < ks.length) (A : Option Addr) (c g : Nat) (E : World) (H : GH) (L : List It) (hks : KS H A c ks) (hcap : Hc H g 3 (.slice A ks.length c)) :
    Ok Tryz.prog 122 #[.int .i64 (i : Int), .pointer (some ⟨g, 0, none⟩)] E H L fun r H' L' => ∃ A' c', r = .agg #[.int .i64 ks[i].kind, str ks[i].name, .int .i64 ks[i].n, .slice A' ks[i].kids.length c'] ∧ KS H A' c' ks[i].kids ∧ H = H' ∧ L = L' := by
  obtain ⟨g2, off, A2, c2, rfl, hvt, hcell⟩ := KS.get hks hi
  have hvt : KS H A2 c2 ks[i].kids := by obtain ⟨A3, c3, e, h3⟩ := hvt; cases e; exact h3
  refine enter (N := 10) [(0, _), (1, _)] Tryz.func122 rfl rfl rfl rfl fun a w h => ?_
  refine sq ?_
  refine rg0 ?_
  refine al zr170 h fun g3 a w h => ?_
  refine nl0 ?_
  refine thN ?_
  refine sq ?_
  refine rg0 ?_
  refine fa fl24_3 (r := 3) h fun a w h => ?_
  refine ldH t1_22 hcap h fun a w h => ?_
  refine mv h fun a w h => ?_
  refine ia sli22 sz24 rfl hi h fun a w h => ?_
  refine ldHN tN24 rfl hcell h fun a w h => ?_
  refine bdl lay170 zr170 h fun a w h => ?_
  refine sw0 tN170 h fun a w h => ?_
  refine nl0 ?_
  refine thN ?_
  refine ret_ ?_
  exact fin (rs := [.cell 3 170]) (vs := [.agg #[.int .i64 ks[i].kind, str ks[i].name, .int .i64 ks[i].n, .slice A2 ks[i].kids.length c2]]) h rfl (.agg (k0 := 0) tN170 rfl rfl rfl .nil) rfl LE.rfl ⟨LE.rfl, h.st.drop 1⟩ ⟨A2, c2, rfl, hvt, rfl, rfl⟩

theorem laid_ok (ps : List Pt) (v : Value) (E : World) (H : GH) (L : List It) (hps : RS RPt 1 H v ps) (hL : Laid H) (hw : ∀ t, Pt.kid t ∈ ps → WithinOk t) (hb : ps.length < 1000000000000) (hbb : (laidL ps).length < 1000000000000) : Ok Tryz.prog 123 #[v] E H L (RowTk (laidL ps) L) := by
  obtain ⟨A, c, rfl, hpc⟩ := id hps
  have hL0 := hL
  have hps0 := hps
  refine enter (N := 51) [(0, _)] Tryz.func123 rfl rfl rfl rfl fun a w h => ?_
  refine sq ?_
  refine rg0 ?_
  refine as_ h fun a w h => ?_
  refine nl0 ?_
  refine thN ?_
  refine sq ?_
  refine rg0 ?_
  refine as_ h fun a w h => ?_
  refine nl0 ?_
  refine thN ?_
  refine sq ?_
  refine sq ?_
  refine rg0 ?_
  have h := h.row (e := 167) (sz := 3)
  refine mv h fun a w h => ?_
  refine ln sli204 h fun a w h => ?_
  refine mv h fun a w h => ?_
  refine nl0 ?_
  refine thN ?_
  refine blk ?_
  refine lp (β := Nat × GH × Option Addr × Nat × Nat × List Value) (fun x a w => match x with | (k, H1, B, n, cp, xs) => (k ≤ ps.length ∧ LE H H1 ∧ n = (laidL (ps.take k)).length ∧ RowR RTk 3 H1 xs (laidL (ps.take k))) ∧ S E H1 51 [] [(12, .int .i64 (k : Int)), (11, .int .i64 (ps.length : Int)), (10, .slice A ps.length c), (3, .slice B n cp)] (.row (.slice B n cp) 167 3 n xs :: L) a w)
    (fun x => match x with | (k, H1, B, n, cp, xs) => ps.length - k) (0, H, none, 0, 0, []) ⟨⟨Nat.zero_le _, LE.rfl, rfl, RowR.nil⟩, h.to 0 _⟩ ?_
  rintro ⟨k, H1, B, n, cp, xs⟩ a w ⟨pre, h⟩
  obtain ⟨hk, l_H_H1, hn, hrow⟩ := pre
  have hL := hL0.up l_H_H1
  have hps := RS.mono hps0 l_H_H1 (fun cs x _ hr => rpt_up l_H_H1 hr)
  refine sq ?_
  refine rg0 ?_
  refine lt h fun a w h => ?_
  refine nl0 ?_
  refine thN ?_
  refine sq ?_
  refine cdB h (fun c13 => ?_) (fun c13 => ?_)
  · have c13 : k < ps.length := by simpa using c13
    obtain ⟨g, off, cs, rfl, hl, hR, hcell⟩ := RS.at_ hps (List.getElem?_eq_getElem c13)
    refine sk_ ?_
    refine thN ?_
    refine sq ?_
    refine blk ?_
    refine sq ?_
    refine rg0 ?_
    refine ia sli204 sz206 rfl c13 h fun a w h => ?_
    have hltk := laid_take c13
    have hlen := laid_len_take ps (k + 1)
    have hkw : ∀ t, ps[k] = .kid t → WithinOk t := fun t e => hw t (e ▸ List.getElem_mem c13)
    generalize ps[k] = p at hR hltk hkw
    rw [hltk, List.length_append] at hlen
    cases p with
    | word s =>
      have hR : cs = [.iface 174 (str s)] := hR
      subst hR
      refine ldH t1_206 (hcell 0 _ rfl) h fun a w h => ?_
      refine as_ h fun a w h => ?_
      refine nl0 ?_
      refine thN ?_
      refine sq ?_
      refine rg0 ?_
      refine mv h fun a w h => ?_
      refine nl0 ?_
      refine thN ?_
      refine blk ?_
      refine sq ?_
      refine rg0 ?_
      refine taT cnc174 h fun a w h => ?_
      refine ex h fun a w h => ?_
      refine ex h fun a w h => ?_
      refine nl0 ?_
      refine thN ?_
      refine cdT h ?_
      refine sq ?_
      refine rg0 ?_
      refine as_ h fun a w h => ?_
      refine nl0 ?_
      refine thN ?_
      refine rg0 ?_
      refine mv h fun a w h => ?_
      refine mv h fun a w h => ?_
      refine bdl lay167 zr167 h fun a w h => ?_
      refine bsl bs141 h fun g23 a w h => ?_
      refine apb 1 0 (L' := fun i => _ :: i :: _) [.int .i64 3, str s, .int .i64 0] row141 h ?_ ?_ fun v24 a w hone h => ?_
      · have e := hlen; simp only [Pt.toks, List.length_cons, List.length_nil] at e; omega
      · have e := hlen; simp only [Pt.toks, List.length_cons, List.length_nil] at e; omega
      have h := h.del 0
      obtain ⟨B2, cp2, rfl⟩ := h.rowv 0
      have hn2 : n + 1 = (laidL (ps.take (k + 1))).length := by rw [hltk, List.length_append, ← hn]; rfl
      have hr2 : RowR RTk 3 H1 (xs ++ [.int .i64 3, str s, .int .i64 0]) (laidL (ps.take (k + 1))) := by rw [hltk]; exact hrow.app (.one rfl rfl)
      refine as_ h fun a w h => ?_
      refine nl0 ?_
      refine ibN ?_
      refine ibN ?_
      refine thN ?_
      refine rg0 ?_
      refine inc ?_ h fun a w h => ?_
      · omega
      refine mv h fun a w h => ?_
      refine nl0 ?_
      refine thN ?_
      exact ⟨(k + 1, H1, B2, _, cp2, _), ⟨⟨by omega, l_H_H1, hn2, hr2⟩, h.to 0 _⟩, by show _ - (k + 1) < _ - k; omega⟩
    | mark s =>
      have hR : cs = [.iface 175 (str s)] := hR
      subst hR
      refine ldH t1_206 (hcell 0 _ rfl) h fun a w h => ?_
      refine as_ h fun a w h => ?_
      refine nl0 ?_
      refine thN ?_
      refine sq ?_
      refine rg0 ?_
      refine mv h fun a w h => ?_
      refine nl0 ?_
      refine thN ?_
      refine blk ?_
      refine sq ?_
      refine rg0 ?_
      refine taF cnc174 zr174 h fun a w h => ?_
      refine ex h fun a w h => ?_
      refine ex h fun a w h => ?_
      refine nl0 ?_
      refine thN ?_
      refine cdF h ?_
      refine sq ?_
      refine rg0 ?_
      refine taT cnc175 h fun a w h => ?_
      refine ex h fun a w h => ?_
      refine ex h fun a w h => ?_
      refine nl0 ?_
      refine thN ?_
      refine cdT h ?_
      refine sq ?_
      refine rg0 ?_
      refine as_ h fun a w h => ?_
      refine nl0 ?_
      refine thN ?_
      refine rg0 ?_
      refine mv h fun a w h => ?_
      refine mv h fun a w h => ?_
      refine bdl lay167 zr167 h fun a w h => ?_
      refine bsl bs141 h fun g31 a w h => ?_
      refine apb 1 0 (L' := fun i => _ :: i :: _) [.int .i64 4, str s, .int .i64 0] row141 h ?_ ?_ fun v32 a w hone h => ?_
      · have e := hlen; simp only [Pt.toks, List.length_cons, List.length_nil] at e; omega
      · have e := hlen; simp only [Pt.toks, List.length_cons, List.length_nil] at e; omega
      have h := h.del 0
      obtain ⟨B2, cp2, rfl⟩ := h.rowv 0
      have hn2 : n + 1 = (laidL (ps.take (k + 1))).length := by rw [hltk, List.length_append, ← hn]; rfl
      have hr2 : RowR RTk 3 H1 (xs ++ [.int .i64 4, str s, .int .i64 0]) (laidL (ps.take (k + 1))) := by rw [hltk]; exact hrow.app (.one rfl rfl)
      refine as_ h fun a w h => ?_
      refine nl0 ?_
      refine ibN ?_
      refine ibN ?_
      refine thN ?_
      refine rg0 ?_
      refine inc ?_ h fun a w h => ?_
      · omega
      refine mv h fun a w h => ?_
      refine nl0 ?_
      refine thN ?_
      exact ⟨(k + 1, H1, B2, _, cp2, _), ⟨⟨by omega, l_H_H1, hn2, hr2⟩, h.to 0 _⟩, by show _ - (k + 1) < _ - k; omega⟩
    | name s =>
      have hR : cs = [.iface 172 (str s)] := hR
      subst hR
      refine ldH t1_206 (hcell 0 _ rfl) h fun a w h => ?_
      refine as_ h fun a w h => ?_
      refine nl0 ?_
      refine thN ?_
      refine sq ?_
      refine rg0 ?_
      refine mv h fun a w h => ?_
      refine nl0 ?_
      refine thN ?_
      refine blk ?_
      refine sq ?_
      refine rg0 ?_
      refine taF cnc174 zr174 h fun a w h => ?_
      refine ex h fun a w h => ?_
      refine ex h fun a w h => ?_
      refine nl0 ?_
      refine thN ?_
      refine cdF h ?_
      refine sq ?_
      refine rg0 ?_
      refine taF cnc175 zr175 h fun a w h => ?_
      refine ex h fun a w h => ?_
      refine ex h fun a w h => ?_
      refine nl0 ?_
      refine thN ?_
      refine cdF h ?_
      refine sq ?_
      refine rg0 ?_
      refine taT cnc172 h fun a w h => ?_
      refine ex h fun a w h => ?_
      refine ex h fun a w h => ?_
      refine nl0 ?_
      refine thN ?_
      refine cdT h ?_
      refine sq ?_
      refine rg0 ?_
      refine as_ h fun a w h => ?_
      refine nl0 ?_
      refine thN ?_
      refine rg0 ?_
      refine mv h fun a w h => ?_
      refine mv h fun a w h => ?_
      refine bdl lay167 zr167 h fun a w h => ?_
      refine bsl bs141 h fun g39 a w h => ?_
      refine apb 1 0 (L' := fun i => _ :: i :: _) [.int .i64 1, str s, .int .i64 0] row141 h ?_ ?_ fun v40 a w hone h => ?_
      · have e := hlen; simp only [Pt.toks, List.length_cons, List.length_nil] at e; omega
      · have e := hlen; simp only [Pt.toks, List.length_cons, List.length_nil] at e; omega
      have h := h.del 0
      obtain ⟨B2, cp2, rfl⟩ := h.rowv 0
      have hn2 : n + 1 = (laidL (ps.take (k + 1))).length := by rw [hltk, List.length_append, ← hn]; rfl
      have hr2 : RowR RTk 3 H1 (xs ++ [.int .i64 1, str s, .int .i64 0]) (laidL (ps.take (k + 1))) := by rw [hltk]; exact hrow.app (.one rfl rfl)
      refine as_ h fun a w h => ?_
      refine nl0 ?_
      refine ibN ?_
      refine ibN ?_
      refine thN ?_
      refine rg0 ?_
      refine inc ?_ h fun a w h => ?_
      · omega
      refine mv h fun a w h => ?_
      refine nl0 ?_
      refine thN ?_
      exact ⟨(k + 1, H1, B2, _, cp2, _), ⟨⟨by omega, l_H_H1, hn2, hr2⟩, h.to 0 _⟩, by show _ - (k + 1) < _ - k; omega⟩
    | kid t =>
      obtain ⟨A2, c2, rfl, hkt⟩ := hR
      refine ldH t1_206 (hcell 0 _ rfl) h fun a w h => ?_
      refine as_ h fun a w h => ?_
      refine nl0 ?_
      refine thN ?_
      refine sq ?_
      refine rg0 ?_
      refine mv h fun a w h => ?_
      refine nl0 ?_
      refine thN ?_
      refine blk ?_
      refine sq ?_
      refine rg0 ?_
      refine taF cnc174 zr174 h fun a w h => ?_
      refine ex h fun a w h => ?_
      refine ex h fun a w h => ?_
      refine nl0 ?_
      refine thN ?_
      refine cdF h ?_
      refine sq ?_
      refine rg0 ?_
      refine taF cnc175 zr175 h fun a w h => ?_
      refine ex h fun a w h => ?_
      refine ex h fun a w h => ?_
      refine nl0 ?_
      refine thN ?_
      refine cdF h ?_
      refine sq ?_
      refine rg0 ?_
      refine taF cnc172 zr172 h fun a w h => ?_
      refine ex h fun a w h => ?_
      refine ex h fun a w h => ?_
      refine nl0 ?_
      refine thN ?_
      refine cdF h ?_
      refine sq ?_
      refine rg0 ?_
      refine taT cnc170 h fun a w h => ?_
      refine ex h fun a w h => ?_
      refine ex h fun a w h => ?_
      refine nl0 ?_
      refine thN ?_
      refine cdT h ?_
      refine sq ?_
      refine rg0 ?_
      refine al zr170 h fun g9 a w h => ?_
      refine sw0 tN170 h fun a w h => ?_
      refine nl0 ?_
      refine thN ?_
      refine rg0 ?_
      refine mv h fun a w h => ?_
      refine fa fl170_0 (r := 0) h fun a w h => ?_
      refine ldW 0 tN24 h fun a w h => ?_
      refine cl bod150 (hkw t rfl _ E H1 _ ⟨A2, c2, rfl, hkt⟩ hL) h fun r47 H47 L47 a w le47 R h => ?_
      obtain ⟨A47, c47, xs47, rfl, rfl, hr47⟩ := R
      have l_H_H47 : LE H H47 := l_H_H1.trans le47
      have l_H1_H47 : LE H1 H47 := le47
      obtain ⟨H5, le5, h, hs5⟩ := h.frw 0 (n := t.within.length) hr47 rfl (fun _ _ _ _ _ h => h)
      have l_H_H5 : LE H H5 := l_H_H47.trans le5
      have l_H1_H5 : LE H1 H5 := l_H1_H47.trans le5
      have l_H47_H5 : LE H47 H5 := le5
      refine aps 1 (L' := fun i => _ :: i :: _) row141 hs5 rtk_one h ?_ ?_ fun v48 news a w hone hnews h => ?_
      · have e := hlen; simp only [Pt.toks] at e; omega
      · have e := hlen; simp only [Pt.toks] at e; omega
      have h := h.del 0
      obtain ⟨B2, cp2, rfl⟩ := h.rowv 0
      have hn2 : n + t.within.length = (laidL (ps.take (k + 1))).length := by rw [hltk, List.length_append, ← hn]; rfl
      have hr2 : RowR RTk 3 H5 (xs ++ news) (laidL (ps.take (k + 1))) := by rw [hltk]; exact (rtkR hrow).app (rtkR hnews)
      refine as_ h fun a w h => ?_
      refine nl0 ?_
      refine ibN ?_
      refine ibN ?_
      refine thN ?_
      refine rg0 ?_
      refine inc ?_ h fun a w h => ?_
      · omega
      refine mv h fun a w h => ?_
      refine nl0 ?_
      refine thN ?_
      exact ⟨(k + 1, H5, B2, _, cp2, _), ⟨⟨by omega, l_H_H5, hn2, hr2⟩, h.to 0 _⟩, by show _ - (k + 1) < _ - k; omega⟩
  · have hkk : k = ps.length := by simp at c13; omega
    refine exit_ ?_
    refine thE ?_
    refine thE ?_
    refine ibH ?_
    refine thN ?_
    refine sq ?_
    refine rg0 ?_
    refine mv h fun a w h => ?_
    refine as_ h fun a w h => ?_
    refine nl0 ?_
    refine thN ?_
    refine ret_ ?_
    have hk : k = ps.length := hkk
    rw [hk, List.take_length] at hn hrow
    subst hn
    refine fin1 2 0 h l_H_H1 ?_
    exact ⟨B, cp, xs, rfl, rfl, hrow⟩
end Go.Proofs.YtindlieilabgfaaGreatDoor
