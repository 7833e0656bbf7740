/- Walks: slices.Grow, Concat. -/
import Derived.Test.YtindlieilabgfaaGreatDoorW18
set_option linter.unusedVariables false
set_option linter.unusedSimpArgs false
set_option linter.unusedSectionVars false
set_option autoImplicit false
set_option relaxedAutoImplicit false
set_option maxRecDepth 10000
namespace Go.Proofs.YtindlieilabgfaaGreatDoor
open Go X
open Go.Proofs Go.RowKit Go.Shelf
theorem St.rowNil {E w : World} {H : GH} {L : List It} {e sz : Nat} (h : St E H L w) : St E H (.row (.slice none 0 0) e sz 0 [] :: L) w :=
  ⟨h.os, h.tape, h.output, h.fro, fun i hi => by
    cases hi with
    | head => exact World.ownsRow_nil _ _ _ _
    | tail _ hi => exact h.holds i hi, fun i hi g hg => by
    cases hi with
    | head => simp [It.own, Value.ownBlock] at hg
    | tail _ hi => exact h.off i hi g hg, List.pairwise_cons.2 ⟨fun i hi g hg => by simp [It.own, Value.ownBlock] at hg, h.apart⟩⟩
theorem grow_ok (n : Nat) (hn : n < 1000000000000) (E : World) (H : GH) (L : List It) : Ok Tryz.prog 66 #[.slice none 0 0, .int .i64 (n : Int)] E H L fun r H' L' => ∃ A c, r = .slice A 0 c ∧ H = H' ∧ L' = .row (.slice A 0 c) 72 3 0 [] :: L := fun w hw => by
  rcases Nat.eq_zero_or_pos n with rfl | hpos
  · exact (Any8.slices_Grow_room Tryz.grow66 none 0 0 0 w (by omega) (by omega) (by omega) (by omega)).mono fun e w' ⟨h, hw'⟩ => ⟨_, H, _, h, LE.rfl, by subst hw'; exact St.rowNil hw, none, 0, rfl, rfl, rfl⟩
  · obtain ⟨_, i, z, hi, hz, hs, hb, hzs, h0⟩ := row_of row25
    refine (Any8.slices_Grow_grow Tryz.grow66 i z hi hz (by rw [hs]; omega) none 0 0 n [] w (by omega) (by omega) (by rw [hb]; omega) (by omega) (by simp) (fun _ => rfl) (fun a h => by cases h)).mono fun e w' ⟨h, hw'⟩ => ?_
    have hge := grownCap_ge w (0 + n) 0 72
    have hle := grownCap_le_maxLen w (0 + n) 0 72 (by simp only [maxLen]; omega)
    refine ⟨_, H, _, h, LE.rfl, ?_, _, _, rfl, rfl, rfl⟩
    subst hw'
    have hd : St E H L w.drew := hw.drew _
    refine (hd.alloc _).set (k := 0) (i := .obj _ _) (j := .row (.slice (some ⟨w.heap.size, 0, none⟩) 0 (grownCap w (0 + n) 0 72)) 72 3 0 []) rfl ?_ (fun x hx => .inl (by simpa [It.own, Value.ownBlock] using hx)) rfl rfl rfl (fun _ _ _ => rfl)
    refine ⟨rfl, .inr ⟨w.heap.size, _, _, rfl, Nat.zero_le _, (hd.alloc _).holds _ (List.mem_cons_self ..), Nat.zero_le _, hle, ?_, by simp⟩⟩
    have e25 : Tryz.grow66_ren.t 25 = 72 := rfl
    simp only [Array.size_append, size_zeroCells, hzs, List.size_toArray, List.length_nil, e25]
    omega
/-- Slices of slices of declarations. -/
def RCS (H : GH) (cs : List Value) (ds : List Dc) : Prop := ∃ A c, cs = [.slice A ds.length c] ∧ CS H A c ds
theorem rdc_one {H : GH} {ds : List Dc} : ∀ cs y, y ∈ ds → RDc H cs y → ∀ u ∈ cs, u.oneCell' = true := by
  intro cs y _ h u hu
  unfold RDc at h; subst h
  simp at hu; rcases hu with rfl | rfl | rfl <;> rfl
def lenS (dss : List (List Dc)) : Nat := (dss.map List.length).sum
theorem lenS_flat : ∀ dss : List (List Dc), dss.flatten.length = lenS dss
  | [] => rfl
  | d :: l => by simp [lenS, lenS_flat l]
theorem lenS_take {dss : List (List Dc)} {k : Nat} (h : k < dss.length) : lenS (dss.take (k + 1)) = lenS (dss.take k) + dss[k].length := by
  unfold lenS; rw [List.take_succ_eq_append_getElem h, List.map_append, List.sum_append]; simp
theorem lenS_le (dss : List (List Dc)) (k : Nat) : lenS (dss.take k) ≤ lenS dss := by
  rw [← lenS_flat, ← lenS_flat]
  conv => rhs; rw [← List.take_append_drop k dss, List.flatten_append, List.length_append]
  omega
theorem flat_take2 {dss : List (List Dc)} {k : Nat} (h : k < dss.length) : (dss.take (k + 1)).flatten = (dss.take k).flatten ++ dss[k] := by
  rw [List.take_succ_eq_append_getElem h, List.flatten_append]; simp

theorem Concat_ok (dss : List (List Dc)) (v : Value) (E : World) (H : GH) (L : List It) (hss : RS RCS 1 H v dss) (hb : lenS dss < 1000000000000) (hb2 : dss.length < 1000000000000) :
    Ok Tryz.prog 41 #[v] E H L fun r H' L' => ∃ B cp xs, r = .slice B dss.flatten.length cp ∧ H = H' ∧ L' = .row (.slice B dss.flatten.length cp) 72 3 dss.flatten.length xs :: L ∧ RowR RDc 3 H xs dss.flatten := by
  obtain ⟨A, c, rfl, hsc⟩ := id hss
  refine enter (N := 36) [(0, _)] Tryz.func41 rfl rfl rfl rfl fun a w h => ?_
  refine sq ?_
  refine rg0 ?_
  refine as_ h fun a w h => ?_
  refine nl0 ?_
  refine thN ?_
  refine sq ?_
  refine rg0 ?_
  refine as_ h fun a w h => ?_
  refine nl0 ?_
  refine thN ?_
  refine sq ?_
  refine sq ?_
  refine rg0 ?_
  refine mv h fun a w h => ?_
  refine ln sli120 h fun a w h => ?_
  refine mv h fun a w h => ?_
  refine nl0 ?_
  refine thN ?_
  refine blk ?_
  refine lp (β := Nat) (fun k a w => (k ≤ dss.length) ∧ S E H 36 [] [(11, .int .i64 (k : Int)), (10, .int .i64 (dss.length : Int)), (9, .slice A dss.length c), (0, .slice A dss.length c), (3, .int .i64 ((lenS (dss.take k) : Nat) : Int))] (L) a w)
    (fun k => dss.length - k) 0 ⟨Nat.zero_le _, h.to 0 _⟩ ?_
  rintro k a w ⟨pre, h⟩
  refine sq ?_
  refine rg0 ?_
  refine lt h fun a w h => ?_
  refine nl0 ?_
  refine thN ?_
  refine sq ?_
  refine cdB h (fun c12 => ?_) (fun c12 => ?_)
  · have c12 : k < dss.length := by simpa using c12
    obtain ⟨g, off, cs, rfl, hl, ⟨A2, c2, rfl, hds⟩, hcell⟩ := RS.at_ hss (List.getElem?_eq_getElem c12)
    have hts := lenS_take c12
    have hls := lenS_le dss (k + 1)
    refine sk_ ?_
    refine thN ?_
    refine sq ?_
    refine blk ?_
    refine sq ?_
    refine rg0 ?_
    refine ia sli120 sz25 rfl c12 h fun a w h => ?_
    refine ldH t1_25 (hcell 0 _ rfl) h fun a w h => ?_
    refine as_ h fun a w h => ?_
    refine nl0 ?_
    refine thN ?_
    refine sq ?_
    refine rg0 ?_
    refine mv h fun a w h => ?_
    refine mv h fun a w h => ?_
    refine ln sli25 h fun a w h => ?_
    refine adr ((lenS (dss.take (k + 1)) : Nat) : Int) ?_ h fun a w h => ?_
    · rw [w64 (by omega) (by omega)]; omega
    refine as_ h fun a w h => ?_
    refine nl0 ?_
    refine thN ?_
    refine sq ?_
    refine rg0 ?_
    refine mv h fun a w h => ?_
    refine lt h fun a w h => ?_
    refine nl0 ?_
    refine thN ?_
    refine cdB h (fun c20 => ?_) (fun c20 => ?_)
    · exact absurd (of_decide_eq_true c20) (by omega)
    · refine sk_ ?_
      refine ibN ?_
      refine thN ?_
      refine rg0 ?_
      refine inc ?_ h fun a w h => ?_
      · omega
      refine mv h fun a w h => ?_
      refine nl0 ?_
      refine thN ?_
      exact ⟨(k + 1), ⟨by omega, h.to 0 _⟩, by show _ - (k + 1) < _ - k; omega⟩
  · have hk : k = dss.length := by simp at c12; omega
    rw [hk, List.take_length] at h
    refine exit_ ?_
    refine thE ?_
    refine thE ?_
    refine ibH ?_
    refine thN ?_
    refine sq ?_
    refine rg0 ?_
    refine mv h fun a w h => ?_
    refine cl bod66 (grow_ok (lenS dss) hb E H _) h fun r24 H24 L24 a w le24 R h => ?_
    obtain ⟨A24, c24, rfl, rfl, rfl⟩ := R
    refine as_ h fun a w h => ?_
    refine nl0 ?_
    refine thN ?_
    refine sq ?_
    refine sq ?_
    refine rg0 ?_
    refine mv h fun a w h => ?_
    refine ln sli120 h fun a w h => ?_
    refine mv h fun a w h => ?_
    refine nl0 ?_
    refine thN ?_
    refine blk ?_
    refine lp (β := Nat × Option Addr × Nat × Nat × List Value) (fun x a w => match x with | (k, B, n, cp, xs) => (k ≤ dss.length ∧ n = lenS (dss.take k) ∧ RowR RDc 3 H xs (dss.take k).flatten) ∧ S E H 36 [] [(27, .int .i64 (k : Int)), (26, .int .i64 (dss.length : Int)), (25, .slice A dss.length c), (6, .slice B n cp)] (.row (.slice B n cp) 72 3 n xs :: L) a w)
      (fun x => match x with | (k, B, n, cp, xs) => dss.length - k) (0, A24, 0, c24, []) ⟨⟨Nat.zero_le _, rfl, RowR.nil⟩, h.to 0 _⟩ ?_
    rintro ⟨k, B, n, cp, xs⟩ a w ⟨pre, h⟩
    obtain ⟨hk, hn, hrow⟩ := pre
    refine sq ?_
    refine rg0 ?_
    refine lt h fun a w h => ?_
    refine nl0 ?_
    refine thN ?_
    refine sq ?_
    refine cdB h (fun c28 => ?_) (fun c28 => ?_)
    · have c28 : k < dss.length := by simpa using c28
      obtain ⟨g, off, cs, rfl, hl, ⟨A2, c2, rfl, hds⟩, hcell⟩ := RS.at_ hss (List.getElem?_eq_getElem c28)
      have hts := lenS_take c28
      have hls := lenS_le dss (k + 1)
      refine sk_ ?_
      refine thN ?_
      refine sq ?_
      refine blk ?_
      refine sq ?_
      refine rg0 ?_
      refine ia sli120 sz25 rfl c28 h fun a w h => ?_
      refine ldH t1_25 (hcell 0 _ rfl) h fun a w h => ?_
      refine as_ h fun a w h => ?_
      refine nl0 ?_
      refine thN ?_
      refine rg0 ?_
      refine mv h fun a w h => ?_
      refine mv h fun a w h => ?_
      refine aps 0 (L' := fun i => i :: _) row25 hds rdc_one h ?_ ?_ fun v33 news a w hone hnews h => ?_
      · omega
      · omega
      obtain ⟨B2, cp2, rfl⟩ := h.rowv 0
      have hr2 : RowR RDc 3 H (xs ++ news) (dss.take (k + 1)).flatten := by rw [flat_take2 c28]; exact hrow.app hnews
      refine as_ h fun a w h => ?_
      refine nl0 ?_
      refine ibN ?_
      refine thN ?_
      refine rg0 ?_
      refine inc ?_ h fun a w h => ?_
      · omega
      refine mv h fun a w h => ?_
      refine nl0 ?_
      refine thN ?_
      exact ⟨(k + 1, B2, _, cp2, _), ⟨⟨by omega, by rw [lenS_take c28, ← hn], hr2⟩, h.to 0 _⟩, by show _ - (k + 1) < _ - k; omega⟩
    · have hkk : k = dss.length := by simp at c28; omega
      rw [hkk, List.take_length] at hrow hn
      rw [← lenS_flat] at hn
      subst hn
      refine exit_ ?_
      refine thE ?_
      refine thE ?_
      refine ibH ?_
      refine thN ?_
      refine sq ?_
      refine rg0 ?_
      refine mv h fun a w h => ?_
      refine as_ h fun a w h => ?_
      refine nl0 ?_
      refine thN ?_
      refine ret_ ?_
      refine fin1 2 0 h LE.rfl ?_
      exact ⟨B, cp, xs, rfl, rfl, rfl, hrow⟩
end Go.Proofs.YtindlieilabgfaaGreatDoor
