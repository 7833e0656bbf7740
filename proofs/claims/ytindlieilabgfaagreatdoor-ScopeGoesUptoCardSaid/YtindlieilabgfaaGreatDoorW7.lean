/- Walks: lex.Print. -/
import Derived.Test.YtindlieilabgfaaGreatDoorW6
set_option linter.unusedVariables false
set_option linter.unusedSimpArgs false
set_option linter.unusedSectionVars false
set_option autoImplicit false
set_option relaxedAutoImplicit false
set_option maxRecDepth 10000
namespace Go.Proofs.YtindlieilabgfaaGreatDoor
open Go X
abbrev TS (H : GH) (A : Option Addr) (c : Nat) (ks : List Tk) : Prop := RS RTk 3 H (.slice A ks.length c) ks
theorem TS.get {H : GH} {A : Option Addr} {c : Nat} {ks : List Tk} (h : TS H A c ks) {j : Nat} (hj : j < ks.length) :
    ∃ g off, A = some ⟨g, off, none⟩ ∧ ∀ i u, [Value.int .i64 ks[j].kind, str ks[j].text, .int .i64 ks[j].n][i]? = some u → Hc H g (off + j * 3 + i) u := by
  obtain ⟨g, off, cs, hA, hl, hr, hc⟩ := RS.at_ h (List.getElem?_eq_getElem hj)
  unfold RTk at hr; subst hr
  exact ⟨g, off, hA, hc⟩
theorem Print_ok (ks : List Tk) (v : Value) (E : World) (H : GH) (L : List It) (hks : RS RTk 3 H v ks) (hb : ks.length < 1000000000000) (hlen : (Lib.join (ks.map (·.text)) [32]).length ≤ 140737488355328) : Ok Tryz.prog 93 #[v] E H L fun r H' L' => r = str (showL ks) ∧ H = H' ∧ L = L' := by
  obtain ⟨A, c, rfl, hc⟩ := id hks
  refine enter (N := 20) [(0, _)] Tryz.func93 rfl rfl rfl rfl fun a w h => ?_
  refine sq ?_
  refine rg0 ?_
  refine as_ h fun a w h => ?_
  refine nl0 ?_
  refine thN ?_
  refine sq ?_
  refine rg0 ?_
  refine as_ h fun a w h => ?_
  refine nl0 ?_
  refine thN ?_
  refine sq ?_
  refine sq ?_
  refine rg0 ?_
  have h := h.row (e := 9) (sz := 1)
  refine mv h fun a w h => ?_
  refine ln sli141 h fun a w h => ?_
  refine mv h fun a w h => ?_
  refine nl0 ?_
  refine thN ?_
  refine blk ?_
  refine lp (β := Nat × Value × List Value) (fun x a w => match x with | (k, v, xs) => (k ≤ ks.length ∧ RowR RStr 1 H xs ((ks.take k).map (·.text))) ∧ S E H 20 [] [(8, .int .i64 (k : Int)), (7, .int .i64 (ks.length : Int)), (6, .slice A ks.length c), (3, v)] (.row v 9 1 k xs :: L) a w)
    (fun x => match x with | (k, v, xs) => ks.length - k) (0, .slice none 0 0, []) ⟨⟨Nat.zero_le _, RowR.nil⟩, h.to 0 _⟩ ?_
  rintro ⟨k, v, xs⟩ a w ⟨pre, h⟩
  refine sq ?_
  refine rg0 ?_
  refine lt h fun a w h => ?_
  refine nl0 ?_
  refine thN ?_
  refine sq ?_
  refine cdB h (fun c9 => ?_) (fun c9 => ?_)
  · have c9 : k < ks.length := by simpa using c9
    obtain ⟨g, off, rfl, hcell⟩ := TS.get hks c9
    refine sk_ ?_
    refine thN ?_
    refine sq ?_
    refine blk ?_
    refine sq ?_
    refine rg0 ?_
    refine ia sli141 sz167 rfl c9 h fun a w h => ?_
    refine ldHN tN167 rfl hcell h fun a w h => ?_
    refine al zr167 h fun g5 a w h => ?_
    refine sw0 tN167 h fun a w h => ?_
    refine nl0 ?_
    refine thN ?_
    refine rg0 ?_
    refine mv h fun a w h => ?_
    refine fa fl167_1 (r := 1) h fun a w h => ?_
    refine ld 0 t1_9 h fun a w h => ?_
    refine bsl bs58 h fun g15 a w h => ?_
    refine apb 2 0 (L' := fun i => _ :: _ :: i :: _) [str ks[k].text] row58 h ?_ ?_ fun v16 a w hone16 h => ?_
    · have := pre.1; omega
    · have := pre.1; omega
    have h := h.del 1
    have h := h.del 0
    refine as_ h fun a w h => ?_
    refine nl0 ?_
    refine ibN ?_
    refine thN ?_
    refine rg0 ?_
    refine inc ?_ h fun a w h => ?_
    · omega
    refine mv h fun a w h => ?_
    refine nl0 ?_
    refine thN ?_
    exact ⟨(k + 1, v16, xs ++ [str ks[k].text]), ⟨⟨by omega, by rw [List.take_succ_eq_append_getElem c9, List.map_append]; exact pre.2.app (.one rfl rfl)⟩, h.to 0 _⟩, by show _ - (k + 1) < _ - k; omega⟩
  · have hk : k = ks.length := by simp at c9; omega
    refine exit_ ?_
    refine thE ?_
    refine thE ?_
    refine ibH ?_
    refine thN ?_
    refine sq ?_
    refine rg0 ?_
    refine mv h fun a w h => ?_
    obtain ⟨H2, le2, h, hrs⟩ := h.frw 0 (n := k) (ys := ks.map (·.text)) (by rw [hk, List.take_length] at pre; exact pre.2) (by rw [List.length_map]; exact hk) (fun _ _ _ _ _ h => h)
    have l_H_H2 : LE H H2 := le2
    refine cl bod121 (Join_ok (ks.map (·.text)) [32] none 0 _ E H2 _ hrs (by rw [List.length_map]; omega) hlen) h fun r19 H19 L19 a w le19 R h => ?_
    obtain ⟨rfl, rfl, rfl⟩ := R
    refine as_ h fun a w h => ?_
    refine nl0 ?_
    refine thN ?_
    refine ret_ ?_
    refine fin1 2 0 (h.less l_H_H2) LE.rfl ?_
    exact ⟨rfl, rfl, rfl⟩
end Go.Proofs.YtindlieilabgfaaGreatDoor
