/- What the shelf says of texts of numbers, of texts put together. -/
import Derived.Test.YtindlieilabgfaaGreatDoorW5
import Derived.Test.YtindlieilabgfaaGreatDoorT3
import Derived.Test.YtindlieilabgfaaGreatDoorShelf
set_option linter.unusedVariables false
set_option linter.unusedSimpArgs false
set_option linter.unusedSectionVars false
set_option autoImplicit false
set_option relaxedAutoImplicit false
set_option maxRecDepth 10000
namespace Go.Proofs.YtindlieilabgfaaGreatDoor
open Go X
theorem Itoa_ok (n : Int) (E : World) (H : GH) (L : List It) (hL : Laid H) (h0 : -9223372036854775808 ≤ n) (h1 : n ≤ 9223372036854775807) : Ok Tryz.prog 61 #[.int .i64 n] E H L fun r H' L' => r = str (Lib.itoa n) ∧ H = H' ∧ L = L' :=
  Ok.of_below fun w hw => (Tryz.strconv_Itoa n h0 h1 w (hL.pow w ⟨hw.fro, fun i hi => by cases hi⟩)).mono fun e w' ⟨h, k, os, hw'⟩ => ⟨h, by subst hw'; exact belowG _ _ _⟩
theorem FormatInt_ok (n : Int) (E : World) (H : GH) (L : List It) (hL : Laid H) (h0 : -9223372036854775808 ≤ n) (h1 : n ≤ 9223372036854775807) : Ok Tryz.prog 74 #[.int .i64 n, .int .i64 10] E H L fun r H' L' => r = str (Lib.itoa n) ∧ H = H' ∧ L = L' :=
  Ok.of_below fun w hw => (Tryz.strconv_FormatInt_10 n h0 h1 w (hL.pow w ⟨hw.fro, fun i hi => by cases hi⟩)).mono fun e w' ⟨h, k, os, hw'⟩ => ⟨h, by subst hw'; exact belowG _ _ _⟩
theorem Join_ok (ss : List Bs) (sep : Bs) (A : Option Addr) (c : Nat) (v : Value) (E : World) (H : GH) (L : List It) (hss : RS RStr 1 H v ss) (hb : ss.length < 1000000000000) (hlen : (Lib.join ss sep).length ≤ 140737488355328) : Ok Tryz.prog 121 #[v, str sep] E H L fun r H' L' => r = str (Lib.join ss sep) ∧ H = H' ∧ L = L' := by
  obtain ⟨A, c, rfl, hc, hat⟩ := hss
  cases ss with
  | nil => exact Ok.of_below fun w hw => (Tryz.strings_Join_none A c _ w).mono fun e w' ⟨h, hw'⟩ => ⟨h, by subst hw'; exact .refl _ _⟩
  | cons s0 ss =>
    obtain ⟨g, off, cs, rfl, hl, hr, hcell⟩ := hat 0 s0 rfl
    have hcells : ∀ w, St E H L w → ∀ (j : Nat) x, ((s0 :: ss).map fun s => (⟨s.toArray⟩ : ByteArray))[j]? = some x → w.cell? ⟨g, off + j, none⟩ = some (.string x) := by
      intro w hw j x hx
      rw [List.getElem?_map, Option.map_eq_some_iff] at hx
      obtain ⟨s, hs, rfl⟩ := hx
      obtain ⟨g', off', cs', e, hl', hr', hcell'⟩ := hat j s hs
      cases e
      unfold RStr at hr'; subst hr'
      have := (hcell' 0 _ rfl).cell hw.sees
      simpa using this
    have hmap : ((s0 :: ss).map fun s => (⟨s.toArray⟩ : ByteArray)).map (·.data.toList) = s0 :: ss := by rw [List.map_map]; exact List.map_id _
    have hgl : ∀ w, St E H L w → g < w.heap.size := fun w hw => by
      obtain ⟨c1, e1, z1, h1, _⟩ := hcell 0 (cs[0]'(by rw [hl]; exact Nat.one_pos)) (List.getElem?_eq_getElem _)
      exact hw.size_le h1
    refine Ok.of_below fun w hw => ?_
    have := Tryz.strings_Join g off c ((s0 :: ss).map fun s => (⟨s.toArray⟩ : ByteArray)) ⟨sep.toArray⟩ w (hcells w hw) (hgl w hw) (by rw [List.length_map]; omega) (by rw [List.length_map]; exact hc) (by rw [hmap]; exact hlen)
    rw [hmap, List.length_map] at this
    exact this
end Go.Proofs.YtindlieilabgfaaGreatDoor
