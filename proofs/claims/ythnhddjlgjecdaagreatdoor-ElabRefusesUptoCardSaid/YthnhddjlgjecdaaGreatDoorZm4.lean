/- Parts of the proof: V8, S10, V9, V10, S11, V11, V12, S12, W14, W15, W16, W17, W18, W19, W20, W21, W22, V13, S13, V14, V15, V16, S14. -/
import Derived.Test.YthnhddjlgjecdaaGreatDoorZm3
set_option autoImplicit false
set_option linter.unnecessarySimpa false
set_option linter.unusedSectionVars false
set_option linter.unusedSimpArgs false
set_option linter.unusedVariables false
set_option maxHeartbeats 8000000
set_option maxRecDepth 100000
set_option relaxedAutoImplicit false
namespace Go.Proofs.YthnhddjlgjecdaaGreatDoor
open Go X
theorem src_drop {cur : Array Value} {xs : List Value} {n i j : Nat} {u : Value} (hx : cur.toList.take n = xs) (hj : (xs.drop i)[j]? = some u) : cur[i + j]? = some u := by
 rw [← hx, List.getElem?_drop, List.getElem?_take] at hj
 split at hj
 · simpa using hj
 · cases hj
theorem src_take {cur : Array Value} {xs : List Value} {n i j : Nat} {u : Value} (hx : cur.toList.take n = xs) (hj : (xs.take i)[j]? = some u) : cur[j]? = some u := by
 rw [← hx, List.getElem?_take] at hj
 split at hj
 · rw [List.getElem?_take] at hj
   split at hj
   · simpa using hj
   · cases hj
 · cases hj
theorem InsGrow_ok (i n c g gb : Nat) (cur : Array Value) (xs : List Value) (u0 u1 u2 u3 : Value) (E : World) (H : GH) (L : List It) (hi : i < n) (hnc : n ≤ c) (hcm : c ≤ maxLen) (hcs : cur.size = c * 4) (hx : cur.toList.take (n * 4) = xs) (h1x : ∀ u ∈ xs, u.oneCell' = true) (h1 : ∀ u ∈ [u0, u1, u2, u3], u.oneCell' = true) (hb : n < 1000000000000) (hgg : gb ≠ g) (hc : c < n + 1) :
   Ok Tryz.prog 259 #[.slice (some ⟨g, 0, none⟩) n c, .int .i64 (i : Int), .slice (some ⟨gb, 0, none⟩) 1 1] E H (.obj g (.cells cur 307 (0, 0)) :: .obj gb (.cells #[u0, u1, u2, u3] 307 (0, 0)) :: L) fun r H' L' => H = H' ∧ ∃ A c, r = .slice A (n + 1) c ∧ L' = .row r 307 4 (n + 1) (xs.take (i * 4) ++ [u0, u1, u2, u3] ++ xs.drop (i * 4)) :: L := by
 have hxl : xs.length = n * 4 := by rw [← hx, List.length_take, Array.length_toList, hcs, Nat.min_eq_left (by omega)]
 refine enter (N := 95) [(0, _), (1, _), (2, _)] Tryz.func259 rfl rfl rfl rfl fun a w h => ?_
 refine au [1,2,0,6,0,2,0,0,0,0] h ?_; intro a w h
 refine slo1 (n := n) (c := c) i sli125 sz307 (by omega) (by omega) (by omega) h fun a w h => ?_
 refine au [0,2,0,0,6,0,0,6,0,3,0,4,1,2,0,0,6,2,0,3] h ?_; intro a w h
 refine cdB h (fun c16 => ?_) (fun c16 => ?_)
 ·have d16 : ((1 : Nat) : Int) = 0 := cd_ c16
  exact absurd c16 (by decide)
 ·have d16 : ((1 : Nat) : Int) ≠ 0 := cd_ c16
  refine au [1,8,1,0,1,2,0,0,6,0,0,6,0,3,0,4,1,2,0,0,0,0,6,2,0,3] h ?_; intro a w h
  refine cdB h (fun c22 => ?_) (fun c22 => ?_)
  ·have d22 : i = n := cd_ c22
   exact absurd c22 (by simp; omega)
  ·have d22 : i ≠ n := cd_ c22
   refine au [1,8,1,0,0,4,1,2,0,0,0,0] h ?_; intro a w h
   refine adr ((n + 1 : Nat) : Int) ?_ h fun a w h => ?_
   ·rw [w64 (by omega) (by omega)]; omega
   refine mv h fun a w h => ?_
   refine cpc sli125 h fun a w h => ?_
   refine au [6,6,0,3] h ?_; intro a w h
   refine cdB h (fun c31 => ?_) (fun c31 => ?_)
   ·have d31 : c < (n + 1) := cd_ c31
    refine au [1,2,0,0,0,0] h ?_; intro a w h
    refine slh (c := c) (hi := i) sli125 sz307 (by omega) h fun a w h => ?_
    refine au [0,0,0,0] h ?_; intro a w h
    refine adr ((n + 1 : Nat) : Int) ?_ h fun a w h => ?_
    ·rw [w64 (by omega) (by omega)]; omega
    refine mv h fun a w h => ?_
    refine sbr ((n + 1 - i : Nat) : Int) ?_ h fun a w h => ?_
    ·rw [w64 (by omega) (by omega)]; omega
    refine apz (b := ⟨g, 0, none⟩) (n := i) (c := c) (m := n + 1 - i) (xs.take (i * 4)) row125 it3 h (by rw [List.length_take, hxl, Nat.min_eq_left (by omega)]) (fun w hs j u hj => by simp only [Addr.add_mid, Nat.zero_add]; rw [cell_own (item_at (k := 0) hs rfl) j]; exact src_take hx hj) (by omega) (by omega) (by omega) (by omega) fun g2 c2 cur2 a w hc2 hm2 hs2 ht2 h => ?_
    have en : i + (n + 1 - i) = n + 1 := by omega
    rw [en] at h hc2
    refine au [0,6,0,2] h ?_; intro a w h
    obtain ⟨new1, hn1⟩ : ∃ z, z = (cur2.toList.take (i * 4) ++ [u0, u1, u2, u3] ++ cur2.toList.drop (i * 4 + 4)).toArray := ⟨_, rfl⟩
    have hz1 : new1.size = cur2.size := by rw [hn1]; simp only [List.size_toArray, List.length_append, List.length_take, List.length_drop, List.length_cons, List.length_nil, Array.length_toList]; omega
    obtain ⟨new2, hn2⟩ : ∃ z, z = (new1.toList.take ((i + 1) * 4) ++ xs.drop (i * 4) ++ new1.toList.drop ((i + 1) * 4 + (xs.drop (i * 4)).length)).toArray := ⟨_, rfl⟩
    have hz2 : new2.size = cur2.size := by rw [hn2]; simp only [List.size_toArray, List.length_append, List.length_take, List.length_drop, Array.length_toList, hz1, hxl]; omega
    refine au [0,0,0,0] h ?_; intro a w h
    refine slo1 (n := (n + 1)) (c := c2) i sli125 sz307 (by omega) (by omega) (by omega) h fun a w h => ?_
    refine mv h fun a w h => ?_
    refine cpy (b := ⟨gb, 0, none⟩) (o' := i * 4) (sl := 1) (dl := n + 1 - i) 0 [u0, u1, u2, u3] new1 sli125 sz307 h (by rw [show Nat.min 1 (n + 1 - i) = 1 from Nat.min_eq_left (by omega)]; rfl) (fun w hs j u hj => by simp only [Addr.add_mid, Nat.zero_add]; rw [cell_own (item_at (k := 2) hs rfl) j]; simpa using hj) (by rw [hs2]; simp only [List.length_cons, List.length_nil]; omega) h1 hn1.symm (fun a w h => ?_)
    refine au [0,3,0,4] h ?_
    refine rgd [] [] [0] [] 9 mix (by kernel_rfl) h (fun a w h => ?_)
    refine au [0,0,0,0,0,0] h ?_; intro a w h
    refine adr ((i + 1 : Nat) : Int) ?_ h fun a w h => ?_
    ·rw [w64 (by omega) (by omega)]; omega
    refine slo1 (n := (n + 1)) (c := c2) (i + 1) sli125 sz307 (by omega) (by omega) (by omega) h fun a w h => ?_
    refine au [0,0,0,0] h ?_; intro a w h
    refine slo1 (n := n) (c := c) i sli125 sz307 (by omega) (by omega) (by omega) h fun a w h => ?_
    refine cpy (b := ⟨g, i * 4, none⟩) (o' := (i + 1) * 4) (sl := n - i) (dl := n + 1 - (i + 1)) 0 (xs.drop (i * 4)) new2 sli125 sz307 h (by rw [show Nat.min (n - i) (n + 1 - (i + 1)) = n - i from Nat.min_eq_left (by omega), List.length_drop, hxl]; omega) (fun w hs j u hj => by simp only [Addr.add_mid, Nat.zero_add]; rw [cell_own (item_at (k := 1) hs rfl) _]; exact src_drop hx hj) (by rw [hz1, hs2, List.length_drop, hxl]; omega) (fun u hu => h1x u (List.mem_of_mem_drop hu)) hn2.symm (fun a w h => ?_)
    refine au [0,2,0,0,0,6,0,3,1,3,1,4] h ?_; intro a w h
    have hz3 : new2.toList.take ((n + 1) * 4) = xs.take (i * 4) ++ [u0, u1, u2, u3] ++ xs.drop (i * 4) := by
     rw [hn2, hn1]; simp only [List.length_drop, hxl]
     have := ins_grow (c := cur2.toList) (xs := xs) (cs := [u0, u1, u2, u3]) (p := i * 4) (q := i * 4 + 4) (m := n * 4 - i * 4) (r := (n + 1) * 4) ht2 (by omega) rfl (by omega) (by omega) (by rw [Array.length_toList, hs2]; omega)
     rw [← this, show (i + 1) * 4 = i * 4 + 4 by omega, show i * 4 + 4 + (n * 4 - i * 4) = (n + 1) * 4 by omega]
    have h := h.close (n := n + 1) 0 rfl hc2 hm2 (hz2.trans hs2) hz3
    have h := h.del 1
    have h := h.del 1
    refine fin1 6 0 h LE.rfl ?_
    exact ⟨rfl, _, _, rfl, rfl⟩
   ·have d31 : (n + 1) ≤ c := cd_ c31
    exact absurd c31 (by simp; omega)
theorem InsShift_ok (i n c g gb : Nat) (cur : Array Value) (xs : List Value) (u0 u1 u2 u3 : Value) (E : World) (H : GH) (L : List It) (hi : i < n) (hnc : n ≤ c) (hcm : c ≤ maxLen) (hcs : cur.size = c * 4) (hx : cur.toList.take (n * 4) = xs) (h1x : ∀ u ∈ xs, u.oneCell' = true) (h1 : ∀ u ∈ [u0, u1, u2, u3], u.oneCell' = true) (hb : n < 1000000000000) (hgg : gb ≠ g) (hc : n + 1 ≤ c) :
   Ok Tryz.prog 259 #[.slice (some ⟨g, 0, none⟩) n c, .int .i64 (i : Int), .slice (some ⟨gb, 0, none⟩) 1 1] E H (.obj g (.cells cur 307 (0, 0)) :: .obj gb (.cells #[u0, u1, u2, u3] 307 (0, 0)) :: L) fun r H' L' => H = H' ∧ ∃ A c, r = .slice A (n + 1) c ∧ L' = .row r 307 4 (n + 1) (xs.take (i * 4) ++ [u0, u1, u2, u3] ++ xs.drop (i * 4)) :: L := by
 have hxl : xs.length = n * 4 := by rw [← hx, List.length_take, Array.length_toList, hcs, Nat.min_eq_left (by omega)]
 refine enter (N := 95) [(0, _), (1, _), (2, _)] Tryz.func259 rfl rfl rfl rfl fun a w h => ?_
 refine au [1,2,0,6,0,2,0,0,0,0] h ?_; intro a w h
 refine slo1 (n := n) (c := c) i sli125 sz307 (by omega) (by omega) (by omega) h fun a w h => ?_
 refine au [0,2,0,0,6,0,0,6,0,3,0,4,1,2,0,0,6,2,0,3] h ?_; intro a w h
 refine cdB h (fun c16 => ?_) (fun c16 => ?_)
 ·have d16 : ((1 : Nat) : Int) = 0 := cd_ c16
  exact absurd c16 (by decide)
 ·have d16 : ((1 : Nat) : Int) ≠ 0 := cd_ c16
  refine au [1,8,1,0,1,2,0,0,6,0,0,6,0,3,0,4,1,2,0,0,0,0,6,2,0,3] h ?_; intro a w h
  refine cdB h (fun c22 => ?_) (fun c22 => ?_)
  ·have d22 : i = n := cd_ c22
   exact absurd c22 (by simp; omega)
  ·have d22 : i ≠ n := cd_ c22
   refine au [1,8,1,0,0,4,1,2,0,0,0,0] h ?_; intro a w h
   refine adr ((n + 1 : Nat) : Int) ?_ h fun a w h => ?_
   ·rw [w64 (by omega) (by omega)]; omega
   refine mv h fun a w h => ?_
   refine cpc sli125 h fun a w h => ?_
   refine au [6,6,0,3] h ?_; intro a w h
   refine cdB h (fun c31 => ?_) (fun c31 => ?_)
   ·have d31 : c < (n + 1) := cd_ c31
    exact absurd c31 (by simp; omega)
   ·have d31 : (n + 1) ≤ c := cd_ c31
    refine au [1,8,1,0,1,2,0,0,0,0,0,0] h ?_; intro a w h
    refine adr (m := ((n : Nat) : Int)) (n := ((1 : Nat) : Int)) (((n + 1) : Nat) : Int) (by rw [w64 (by omega) (by omega)]; omega) h fun a w h => ?_
    refine slh (c := c) (hi := (n + 1)) sli125 sz307 (by omega) h fun a w h => ?_
    refine au [0,6,0,3,0,4,1,2,0,0,0,0,0,0,0,0] h ?_; intro a w h
    refine adr ((i + 1 : Nat) : Int) ?_ h fun a w h => ?_
    ·rw [w64 (by omega) (by omega)]; omega
    refine slo1 (n := (n + 1)) (c := c) (i + 1) sli125 sz307 (by omega) (by omega) (by omega) h fun a w h => ?_
    refine ovl (t := 125) (g1 := gb) (g2 := g) (o1 := 0) (o2 := (i + 1) * 4) (l1 := 1) (c1 := 1) (l2 := n + 1 - (i + 1)) (c2 := c - (i + 1)) (k1 := 1) (k2 := 0) (tR := 4) sli125 sz307 Tryz.func299 hgg (by kernel_rfl) (by kernel_rfl) (by rw [hcs]; omega) h rfl rfl fun a w h => ?_
    refine au [7,1,0,3,2,0,0,4] h ?_; intro a w h
    refine rgd [] [] [0] [] 9 mix (by kernel_rfl) h (fun a w h => ?_)
    obtain ⟨new1, hn1⟩ : ∃ z, z = (cur.toList.take ((i + 1) * 4) ++ xs.drop (i * 4) ++ cur.toList.drop ((i + 1) * 4 + (xs.drop (i * 4)).length)).toArray := ⟨_, rfl⟩
    have hz1 : new1.size = cur.size := by rw [hn1]; simp only [List.size_toArray, List.length_append, List.length_take, List.length_drop, Array.length_toList, hxl]; omega
    obtain ⟨new2, hn2⟩ : ∃ z, z = (new1.toList.take (i * 4) ++ [u0, u1, u2, u3] ++ new1.toList.drop (i * 4 + 4)).toArray := ⟨_, rfl⟩
    have hz2 : new2.size = cur.size := by rw [hn2]; simp only [List.size_toArray, List.length_append, List.length_take, List.length_drop, List.length_cons, List.length_nil, Array.length_toList, hz1]; omega
    refine au [0,0,0,0,0,0] h ?_; intro a w h
    refine adr ((i + 1 : Nat) : Int) ?_ h fun a w h => ?_
    ·rw [w64 (by omega) (by omega)]; omega
    refine slo1 (n := (n + 1)) (c := c) (i + 1) sli125 sz307 (by omega) (by omega) (by omega) h fun a w h => ?_
    refine au [0,0,0,0] h ?_; intro a w h
    refine slo1 (n := (n + 1)) (c := c) i sli125 sz307 (by omega) (by omega) (by omega) h fun a w h => ?_
    refine cpy (b := ⟨g, i * 4, none⟩) (o' := (i + 1) * 4) (sl := n + 1 - i) (dl := n + 1 - (i + 1)) 0 (xs.drop (i * 4)) new1 sli125 sz307 h (by rw [show Nat.min (n + 1 - i) (n + 1 - (i + 1)) = n + 1 - (i + 1) from Nat.min_eq_right (by omega), List.length_drop, hxl]; omega) (fun w hs j u hj => by simp only [Addr.add_mid]; rw [cell_own (item_at (k := 0) hs rfl) _]; exact src_drop hx hj) (by rw [hcs, List.length_drop, hxl]; omega) (fun u hu => h1x u (List.mem_of_mem_drop hu)) hn1.symm (fun a w h => ?_)
    refine au [0,2,0,0,0,0] h ?_; intro a w h
    refine slo1 (n := (n + 1)) (c := c) i sli125 sz307 (by omega) (by omega) (by omega) h fun a w h => ?_
    refine mv h fun a w h => ?_
    refine cpy (b := ⟨gb, 0, none⟩) (o' := i * 4) (sl := 1) (dl := n + 1 - i) 0 [u0, u1, u2, u3] new2 sli125 sz307 h (by rw [show Nat.min 1 (n + 1 - i) = 1 from Nat.min_eq_left (by omega)]; rfl) (fun w hs j u hj => by simp only [Addr.add_mid, Nat.zero_add]; rw [cell_own (item_at (k := 1) hs rfl) j]; simpa using hj) (by rw [hz1, hcs]; simp only [List.length_cons, List.length_nil]; omega) h1 hn2.symm (fun a w h => ?_)
    refine au [0,2,0,0,0,6,0,3,1,3,1,4] h ?_; intro a w h
    have hz3 : new2.toList.take ((n + 1) * 4) = xs.take (i * 4) ++ [u0, u1, u2, u3] ++ xs.drop (i * 4) := by
     rw [hn2, hn1]; simp only [List.length_drop, hxl]
     have := ins_shift (c := cur.toList) (xs := xs) (cs := [u0, u1, u2, u3]) (p := i * 4) (q := i * 4 + 4) (m := n * 4 - i * 4) (r := (n + 1) * 4) (n := n * 4) hx hxl.symm (by rw [Array.length_toList, hcs]; omega) (by omega) rfl rfl (by omega) (by rw [Array.length_toList, hcs]; omega)
     rw [← this, show (i + 1) * 4 = i * 4 + 4 by omega, show i * 4 + 4 + (n * 4 - i * 4) = (n + 1) * 4 by omega]
    have h := h.close (n := n + 1) 0 rfl hc hcm (hz2.trans hcs) hz3
    have h := h.del 1
    refine fin1 6 0 h LE.rfl ?_
    exact ⟨rfl, _, _, rfl, rfl⟩
theorem InsEnd_ok (n c gb : Nat) (A : Option Addr) (xs : List Value) (u0 u1 u2 u3 : Value) (E : World) (H : GH) (L : List It) (hnc : n ≤ c) (hxl : xs.length = n * 4) (h1 : ∀ u ∈ [u0, u1, u2, u3], u.oneCell' = true) (hb : n < 1000000000000) :
   Ok Tryz.prog 259 #[.slice A n c, .int .i64 (n : Int), .slice (some ⟨gb, 0, none⟩) 1 1] E H (.row (.slice A n c) 307 4 n xs :: .obj gb (.cells #[u0, u1, u2, u3] 307 (0, 0)) :: L) fun r H' L' => H = H' ∧ ∃ A c, r = .slice A (n + 1) c ∧ L' = .row r 307 4 (n + 1) (xs.take (n * 4) ++ [u0, u1, u2, u3] ++ xs.drop (n * 4)) :: L := by
 refine enter (N := 95) [(0, _), (1, _), (2, _)] Tryz.func259 rfl rfl rfl rfl fun a w h => ?_
 refine au [1,2,0,6,0,2,0,0,0,0] h ?_; intro a w h
 refine slo (n := n) (c := c) n sli125 sz307 (by omega) (by omega) h fun a w h => ?_
 refine au [0,2,0,0,6,0,0,6,0,3,0,4,1,2,0,0,6,2,0,3] h ?_; intro a w h
 refine cdB h (fun c16 => ?_) (fun c16 => ?_)
 ·have d16 : ((1 : Nat) : Int) = 0 := cd_ c16
  exact absurd c16 (by decide)
 ·have d16 : ((1 : Nat) : Int) ≠ 0 := cd_ c16
  refine au [1,8,1,0,1,2,0,0,6,0,0,6,0,3,0,4,1,2,0,0,0,0,6,2,0,3] h ?_; intro a w h
  refine cdB h (fun c22 => ?_) (fun c22 => ?_)
  ·have d22 : n = n := cd_ c22
   refine au [1,2,0,0,0,0] h ?_; intro a w h
   refine apb (n := n) (m := 1) 0 1 (L' := fun i => i :: _) [u0, u1, u2, u3] row125 h (by omega) (by omega) (fun v25 a w hone25 h => ?_) (h1 := by simpa using h1)
   refine au [0,6,0,3,1,3,1,4] h ?_; intro a w h
   have h := h.del 1
   obtain ⟨A', c', ev, _⟩ := h.rowc 0
   have e1 : xs.take (n * 4) ++ [u0, u1, u2, u3] ++ xs.drop (n * 4) = xs ++ [u0, u1, u2, u3] := by rw [List.take_of_length_le (l := xs) (by omega), show xs.drop (n * 4) = [] from List.drop_eq_nil_of_le (by omega), List.append_nil]
   refine fin1 6 0 h LE.rfl ?_
   exact ⟨rfl, A', c', ev, by rw [e1]; rfl⟩
  ·have d22 : n ≠ n := cd_ c22
   exact absurd c22 (by simp)
theorem Insert_ok (v : Value) (i n gb : Nat) (xs : List Value) (u0 u1 u2 u3 : Value) (E : World) (H : GH) (L : List It) (hi : i ≤ n) (h1x : ∀ u ∈ xs, u.oneCell' = true) (h1 : ∀ u ∈ [u0, u1, u2, u3], u.oneCell' = true) (hb : n < 1000000000000) :
   Ok Tryz.prog 259 #[v, .int .i64 (i : Int), .slice (some ⟨gb, 0, none⟩) 1 1] E H (.row v 307 4 n xs :: .obj gb (.cells #[u0, u1, u2, u3] 307 (0, 0)) :: L) fun r H' L' => H = H' ∧ ∃ A c, r = .slice A (n + 1) c ∧ L' = .row r 307 4 (n + 1) (xs.take (i * 4) ++ [u0, u1, u2, u3] ++ xs.drop (i * 4)) :: L := fun w hw => by
 have hown : w.ownsRow 0 307 4 v n xs := hw.holds _ (List.mem_cons_self ..)
 rcases Nat.lt_or_ge i n with h | h
 · rcases hown.2 with ⟨_, e0⟩ | ⟨g, c, cur, rfl, _, hg, h2, h3, h4, h5⟩
   · omega
   · have hgg : gb ≠ g := fun e => (List.pairwise_cons.1 hw.apart).1 _ (List.mem_cons_self ..) g (by simp [It.own, Value.ownBlock]) (by simp [It.own, e])
     have hw2 : St E H (.obj g (.cells cur 307 (0, 0)) :: .obj gb (.cells #[u0, u1, u2, u3] 307 (0, 0)) :: L) w := hw.set (k := 0) rfl hg (fun x hx => .inl (by simpa [It.own, Value.ownBlock] using hx)) rfl rfl rfl (fun _ _ _ => rfl)
     rcases Nat.lt_or_ge c (n + 1) with h6 | h6
     · exact InsGrow_ok i n c g gb cur xs u0 u1 u2 u3 E H L h h2 h3 h4 h5 h1x h1 hb hgg h6 w hw2
     · exact InsShift_ok i n c g gb cur xs u0 u1 u2 u3 E H L h h2 h3 h4 h5 h1x h1 hb hgg h6 w hw2
 · have : i = n := by omega
   subst this
   obtain ⟨A, c, rfl, hnc⟩ : ∃ A c, v = .slice A i c ∧ i ≤ c := by
     rcases hown.2 with ⟨rfl, rfl⟩ | ⟨g, cap, cur, rfl, _, _, h1, _⟩
     · exact ⟨_, _, rfl, Nat.le_refl _⟩
     · exact ⟨_, _, rfl, h1⟩
   exact InsEnd_ok i c gb A xs u0 u1 u2 u3 E H L hnc hown.1 h1 hb w hw
theorem look_one (n : Int) (s : Sh) : look [⟨n, s⟩] = one n s := by
 funext m
 unfold look one
 by_cases h : m = n
 · subst h; simp
 · have : (n == m) = false := by simpa using fun e => h e.symm
   simp [List.find?, this, h]
theorem tw_at {l : List Bd} {n : Int} {k : Nat} (hk : k ≤ l.length) (h : ∀ j (hj : j < l.length), j < k → l[j].n < n) (he : ∀ hk : k < l.length, ¬ l[k].n < n) :
   l.takeWhile (fun b => decide (b.n < n)) = l.take k ∧ l.dropWhile (fun b => decide (b.n < n)) = l.drop k := by
 induction l generalizing k with
 | nil => simp at hk; subst hk; simp
 | cons b l ih =>
   cases k with
   | zero =>
     have := he (by simp)
     simp only [List.getElem_cons_zero] at this
     simp [this]
   | succ k =>
     have h0 := h 0 (by simp) (by omega)
     simp only [List.getElem_cons_zero] at h0
     have := ih (k := k) (by simpa using hk) (fun j hj h1 => by have := h (j + 1) (by simpa using hj) (by omega); simpa using this) (fun hk => by have := he (by simpa using hk); simpa using this)
     simp [h0, this.1, this.2]
mutual
theorem ap_size_le {f : Int → Option Sh} {K : Nat} (hK : 1 ≤ K) (hf : ∀ n s, f n = some s → s.size ≤ K) : ∀ t : Sh, (t.ap f).size ≤ t.size * K
 | .mk k n ks => by
   have h1 := apL_size_le hK hf ks
   simp only [Sh.ap]
   split
   · cases e : f n with
     | none =>
       simp only [Option.getD_none, Sh.size]
       exact Nat.le_mul_of_pos_right _ hK
     | some s =>
       simp only [Option.getD_some]
       have := hf n s e
       simp only [Sh.size, Nat.add_mul, Nat.one_mul]; omega
   · simp only [Sh.size, Nat.add_mul, Nat.one_mul]; omega
theorem apL_size_le {f : Int → Option Sh} {K : Nat} (hK : 1 ≤ K) (hf : ∀ n s, f n = some s → s.size ≤ K) : ∀ l : List Sh, sizeSL (apL f l) ≤ sizeSL l * K
 | [] => by simp [apL, sizeSL]
 | t :: l => by
   have h1 := ap_size_le hK hf t; have h2 := apL_size_le hK hf l
   simp only [apL, sizeSL, Nat.add_mul]; omega
end
theorem one_size {n : Int} {s : Sh} {K : Nat} (h : s.size ≤ K) : ∀ m u, one n s m = some u → u.size ≤ K := fun m u e => by
 unfold one at e; split at e
 · cases e; exact h
 · cases e
theorem rbd_one {H : GH} {l : List Bd} : ∀ cs y, y ∈ l → RBd H cs y → ∀ u ∈ cs, u.oneCell' = true := by
 intro cs y _ h u hu
 obtain ⟨A0, c0, rfl, _⟩ := h
 simp at hu
 rcases hu with rfl | rfl | rfl | rfl <;> rfl
theorem rowR_ones {α : Type} {R : GH → List Value → α → Prop} {sz : Nat} {H : GH} {xs : List Value} {ys : List α} (h : RowR R sz H xs ys) (ho : ∀ cs y, y ∈ ys → R H cs y → ∀ u ∈ cs, u.oneCell' = true) : ∀ u ∈ xs, u.oneCell' = true := by
 obtain ⟨css, hl, rfl, hr⟩ := h
 intro u hu
 obtain ⟨cs, hcs, hu⟩ := List.mem_flatten.1 hu
 obtain ⟨j, hj, rfl⟩ := List.getElem_of_mem hcs
 have hj2 : j < ys.length := by omega
 exact ho _ _ (List.getElem_mem hj2) (hr j css[j] ys[j] (List.getElem?_eq_getElem hj) (List.getElem?_eq_getElem hj2)).2 u hu
theorem rowR_split {α : Type} {R : GH → List Value → α → Prop} {sz : Nat} {H : GH} {xs : List Value} {ys : List α} (h : RowR R sz H xs ys) {k : Nat} (hk : k ≤ ys.length) : RowR R sz H (xs.take (k * sz)) (ys.take k) ∧ RowR R sz H (xs.drop (k * sz)) (ys.drop k) := by
 obtain ⟨css, hl, rfl, hr⟩ := h
 have h1 : RowR R sz H (css.take k).flatten (ys.take k) := ⟨css.take k, by simp [hl], rfl, fun j cs y e1 e2 => by
   rw [List.getElem?_take] at e1 e2
   split at e1
   · rename_i hj; rw [if_pos hj] at e2; exact hr j cs y e1 e2
   · cases e1⟩
 have h2 : RowR R sz H (css.drop k).flatten (ys.drop k) := ⟨css.drop k, by simp [hl], rfl, fun j cs y e1 e2 => by
   rw [List.getElem?_drop] at e1 e2; exact hr _ cs y e1 e2⟩
 have e : css.flatten = (css.take k).flatten ++ (css.drop k).flatten := by rw [← List.flatten_append, List.take_append_drop]
 have hn : (css.take k).flatten.length = k * sz := by rw [h1.len, List.length_take, Nat.min_eq_left hk]
 rw [e, List.take_left' hn, List.drop_left' hn]
 exact ⟨h1, h2⟩
theorem rowR_ins {α : Type} {R : GH → List Value → α → Prop} {sz : Nat} {H : GH} {xs cs : List Value} {ys : List α} {y : α} (h : RowR R sz H xs ys) {k : Nat} (hk : k ≤ ys.length) (hl : cs.length = sz) (hr : R H cs y) :
   RowR R sz H (xs.take (k * sz) ++ cs ++ xs.drop (k * sz)) (ys.take k ++ y :: ys.drop k) := by
 have := ((rowR_split h hk).1.snoc hl hr).app (rowR_split h hk).2
 rw [List.append_assoc (ys.take k) [y] (ys.drop k)] at this
 exact this
theorem contains_same {ss hs : List Int} (h : ∀ x, x ∈ ss ↔ x ∈ hs) (n : Int) : ss.contains n = hs.contains n := by
 rw [Bool.eq_iff_iff, List.contains_iff_mem, List.contains_iff_mem]; exact h n
def OptR (H : GH) (r : Value) : Option (List Bd) → Prop
 | none => r = .tuple #[.slice none 0 0, .bool false]
 | some l' => ∃ (A : Option Addr) (c : Nat), r = .tuple #[.slice A l'.length c, .bool true] ∧ BdS H A c l'
theorem bindS_occurs {l : List Bd} {n : Int} {s : Sh} (h : s.hl.contains n = true) : bindS l n s = none := by unfold bindS; rw [if_pos h]
theorem bindS_val {l out out2 : List Bd} {n : Int} {s : Sh} {k : Nat} (h : s.hl.contains n = false) (ho : out = l.map fun b => (⟨b.n, b.s.ap (one n s)⟩ : Bd)) (hk : k ≤ out.length) (hi : ∀ j (hj : j < out.length), j < k → out[j].n < n)
   (he : ∀ hk : k < out.length, ¬ out[k].n < n) (h2 : out2 = out.take k ++ ⟨n, s⟩ :: out.drop k) : bindS l n s = if out2.any (fun b => decide (100 < (b.s.size : Int))) then none else some out2 := by
 obtain ⟨e1, e2⟩ := tw_at hk hi he
 unfold bindS
 rw [h]
 simp only [← ho, e1, e2, ← h2]
 rfl
theorem bind_sizes {l out out2 : List Bd} {n : Int} {s : Sh} {k : Nat} (ho : out = l.map fun b => (⟨b.n, b.s.ap (one n s)⟩ : Bd)) (h2 : out2 = out.take k ++ ⟨n, s⟩ :: out.drop k) (hs : s.size < 1000000000000) (hl : ∀ b ∈ l, (b.s.ap (one n s)).size < 1000000000000) : ∀ b ∈ out2, b.s.size < 1000000000000 := by
 have h0 : ∀ b ∈ out, b.s.size < 1000000000000 := fun b hb => by
   rw [ho] at hb
   obtain ⟨c, hc, rfl⟩ := List.mem_map.1 hb
   exact hl c hc
 intro b hb
 rw [h2] at hb
 rcases List.mem_append.1 hb with hb | hb
 · exact h0 b (List.mem_of_mem_take hb)
 · rcases List.mem_cons.1 hb with rfl | hb
   · exact hs
   · exact h0 b (List.mem_of_mem_drop hb)
theorem mappedRow_ok (xs : List Bd) (A : Option Addr) (c : Nat) (g : Bd → Bd) (f : FuncId) (caps : Array Value) (E : World) (H : GH) (L : List It) (hx : BdS H A c xs) (hb : xs.length < 1000000000000) (hf : bodT Tryz.prog f = true)
   (hq : ∀ j (hj : j < xs.length) (v : Value) (H1 : GH) (L1 : List It), LE H H1 → VBd H1 v xs[j] → Ok Tryz.prog f (#[] ++ [v].toArray ++ caps) E H1 L1 fun r H' L' => VBd H' r (g xs[j]) ∧ L1 = L') :
   Ok Tryz.prog 257 #[.slice A xs.length c, .func (.func f) #[] caps] E H L fun r H' L' => ∃ (A : Option Addr) (c : Nat) (cs : List Value), r = .slice A (xs.map g).length c ∧ L' = .row (.slice A (xs.map g).length c) 307 4 (xs.map g).length cs :: L ∧ RowR RBd 4 H' cs (xs.map g) := by
 refine enter (N := 22) [(0, _), (1, _)] Tryz.func257 rfl rfl rfl rfl fun a w h => ?_
 refine au [1,2,0,6,0,2,0,6,0,3,0,4,1,2,0,0,6,0,0,0,0,3,1,5] h ?_; intro a w h
 have h := h.row (e := 307) (sz := 4)
 refine lp (β := Nat × GH × (Option Addr) × Nat × (List Value)) (fun x a w => match x with | (k, HL0, Br5, pr5, xr5) => ((k ≤ xs.length) ∧ (LE H HL0) ∧ (RowR RBd 4 HL0 xr5 ((xs.take k).map g))) ∧ S E HL0 22 [] [(1, .func (.func f) #[] caps), (4, .slice none 0 0), (5, .slice Br5 (((xs.take k).map g).length) pr5), (8, .slice A xs.length c), (9, .int .i64 (xs.length : Int)), (10, .int .i64 (k : Int))] (.row (.slice Br5 (((xs.take k).map g).length) pr5) 307 4 (((xs.take k).map g).length) xr5 :: L) a w)
  (fun x => match x with | (k, HL0, Br5, pr5, xr5) => xs.length - k) (0, H, none, 0, []) ⟨⟨Nat.zero_le _, LE.rfl, (RowR.nil : RowR RBd 4 H [] ([] : List Bd))⟩, h.to 0 _⟩ ?_
 rintro ⟨k, HL0, Br5, pr5, xr5⟩ a w ⟨⟨hk, leHL0, hrr5⟩, h⟩
 refine au [1,2,6,4,0,3,0,4] h ?_; intro a w h
 refine cdB h (fun c11 => ?_) (fun c11 => ?_)
 ·have d11 : k < xs.length := cd_ c11
  refine au [1,8,1,0,0,4,1,5,1,2] h ?_
  have hj12 : k < xs.length := by first | assumption | omega | (simp; done) | (simp; omega)
  obtain ⟨g12, o12, A12_0, c12_0, e12, hv12, hc12⟩ := BdS.get (BdS.up hx leHL0) hj12
  obtain ⟨_, _, q12, hk12_0⟩ := hv12; cases q12
  refine iaE sli125 sz307 rfl hj12 e12 h fun a w h => ?_
  refine ldHN tN307 rfl hc12 h fun a w h => ?_
  refine al zr307 h fun g7 a w h => ?_
  refine au [5,5,0,3,0,5,0,0,0,0,3,3] h ?_; intro a w h
  refine cl hf (hq k d11 _ HL0 _ leHL0 ⟨A12_0, c12_0, rfl, hk12_0⟩) h (fun r17 H17 L17 a w le17 R h => ?_)
  obtain ⟨⟨A17_0, c17_0, rfl, hk17_0⟩, rfl⟩ := R
  refine bsl bs125 h fun g18 a w h => ?_
  refine apn (n := (((xs.take k).map g).length)) (m := 1) 2 0 (L' := fun i => _ :: _ :: i :: _) [_, _, _, _] ((((xs.take k).map g) ++ [(g xs[k])]).length) (by first | (simp; done) | (simp; omega)) row125 h (by first | omega | (simp; done) | (simp; omega) | (simp; omega)) (by first | omega | (simp; done) | (simp; omega) | (simp; omega)) fun v19 a w hone19 h => ?_
  obtain ⟨B19, cp19, rfl⟩ := h.rowv 2
  have hr19 : RowR RBd 4 H17 (xr5 ++ [.int .i64 ((g xs[k]).n), .int .i64 ((g xs[k]).s.kind), .int .i64 ((g xs[k]).s.n), .slice A17_0 ((g xs[k]).s.kids).length c17_0]) (((xs.take k).map g) ++ [(g xs[k])]) := (hrr5.mono fun cs y _ hr => RBd.mono le17 y hr).snoc rfl (rbd_of_v (cs := [_, _, _, _]) ⟨_, _, rfl, hk17_0⟩)
  refine au [0,6,1,1,1,7,1,0,0,5] h ?_; intro a w h
  refine inc ?_ h fun a w h => ?_
  ·omega
  refine au [0,0,0,3] h ?_; intro a w h
  have h := h.del 0
  have h := h.del 0
  have l_H_H17 : LE H H17 := leHL0.trans le17
  exact ⟨((k + 1), H17, B19, cp19, _), ⟨⟨by omega, l_H_H17, (by have q := hr19; rwa [show (((xs.take k).map g) ++ [(g xs[k])]) = ((xs.take (k + 1)).map g) from by rw [map_take_succ d11]] at q)⟩, (by show S _ _ _ _ _ _ _ _; rw [show (((xs.take (k + 1)).map g).length) = (((xs.take k).map g) ++ [(g xs[k])]).length from Eq.symm (by rw [map_take_succ d11])]; exact h.to 0 _)⟩, by show _ - (k + 1) < _ - k; omega⟩
 ·have d11 : xs.length ≤ k := cd_ c11
  refine au [2,5,2,2,2,2,2,3,1,0,1,2,0,0,0,6,0,3,1,3] h ?_; intro a w h
  have e9 : (xs.take k).map g = xs.map g := by rw [List.take_of_length_le (by omega)]
  have hr9 := hrr5
  rw [e9] at h hr9
  refine fin1 4 0 h leHL0 ?_
  exact ⟨_, _, _, rfl, rfl, hr9⟩
theorem bindAp_ok (l : List Bd) (b : Bd) (A : Option Addr) (c g1 : Nat) (v : Value) (E : World) (H : GH) (L : List It) (hl : BdS H A c l) (hb : l.length < 1000000000000) (h1 : Hc H g1 0 (.slice A l.length c)) (hv : VBd H v b) (hbs : b.s.size < 1000000000000) :
   Ok Tryz.prog 258 #[v, .pointer (some ⟨g1, 0, none⟩)] E H L fun r H' L' => VBd H' r ⟨b.n, b.s.ap (look l)⟩ ∧ L = L' := by
 obtain ⟨Ab0, cb0, rfl, hb0⟩ := hv
 refine enter (N := 11) [(0, _), (1, _)] Tryz.func258 rfl rfl rfl rfl fun a w h => ?_
 refine au [1,2] h ?_
 refine bxA h fun g2 a w h => ?_
 refine al zr307 h fun g3 a w h => ?_
 refine au [0,3,0,4] h ?_
 refine rgd [1] [_] [2, 0] [1, 2, 4] 1 mix (by kernel_rfl) h (fun a w h => ?_)
 refine au [0,7,4,2] h ?_; intro a w h
 refine ldHD t1_125 (h1) h fun a w h => ?_
 refine fa fl307_1 (r := 1) h fun a w h => ?_
 refine ldND (l := [_, _, _]) 0 tN31 h fun a w h => ?_
 refine cl bod169 (Apply_ok l b.s _ _ _ E H _ hl ⟨Ab0, cb0, rfl, hb0⟩ (by first | assumption | omega) (by first | assumption | omega)) h (fun r9 H9 L9 a w le9 R h => ?_)
 obtain ⟨⟨A9_0, c9_0, rfl, hk9_0⟩, rfl⟩ := R
 refine au [7,5,5,5,0,3,1,3] h ?_; intro a w h
 exact fin (rs := [.cell 3 307]) (vs := [.agg #[_, _, _, _]]) h rfl (.agg (k0 := 0) tN307 rfl rfl rfl .nil) rfl le9 ⟨LE.rfl, h.st.drop 2⟩ ⟨⟨_, _, rfl, hk9_0⟩, rfl⟩
theorem bindBig_ok (b : Bd) (v : Value) (E : World) (H : GH) (L : List It) (hv : VBd H v b) (hbs : b.s.size < 1000000000000) :
   Ok Tryz.prog 261 #[v] E H L fun r H' L' => r = .bool (decide (100 < (b.s.size : Int))) ∧ H = H' ∧ L = L' := by
 obtain ⟨Ab0, cb0, rfl, hb0⟩ := hv
 refine enter (N := 7) [(0, _)] Tryz.func261 rfl rfl rfl rfl fun a w h => ?_
 refine au [1,2] h ?_
 refine bxA h fun g1 a w h => ?_
 refine au [0,6,0,2,0,7] h ?_; intro a w h
 refine ldN (l := [_, _, _]) 0 tN31 h fun a w h => ?_
 refine cl bod54 (ShSize_ok b.s _ E H _ ⟨Ab0, cb0, rfl, hb0⟩ (by first | assumption | omega)) h (fun r5 H5 L5 a w le5 R h => ?_)
 obtain ⟨rfl, rfl, rfl⟩ := R
 refine au [6,6,0,6,0,3,1,3] h ?_; intro a w h
 refine fin1 2 1 h LE.rfl ?_
 exact ⟨rfl, rfl, rfl⟩
theorem bindSh_ok (l : List Bd) (n : Int) (s : Sh) (A : Option Addr) (c : Nat) (v : Value) (E : World) (H : GH) (L : List It) (hl : BdS H A c l) (hv : VSh H v s) (hb : l.length < 100000000000) (hws : ∀ x ∈ s.hl, (Lit.int .i64 x).wf = true)
   (hss : s.size < 1000000000000) (hls : ∀ b ∈ l, b.s.size < 1000000000000) (hla : ∀ b ∈ l, (b.s.ap (one n s)).size < 1000000000000) :
   Ok Tryz.prog 206 #[.slice A l.length c, .int .i64 n, v] E H L fun r H' L' => OptR H' r (bindS l n s) ∧ L = L' := by
 have hb : l.length < 1000000000000 := by omega
 obtain ⟨As0, cs0, rfl, hs0⟩ := hv
 refine enter (N := 47) [(0, _), (1, _), (2, _)] Tryz.func206 rfl rfl rfl rfl fun a w h => ?_
 refine au [1,2] h ?_
 refine bxA h fun g5 a w h => ?_
 refine au [0,6,0,6,0,3,0,4,1,2,3,3] h ?_; intro a w h
 refine cl bod53 (HolesR_ok s _ E H _ ⟨As0, cs0, rfl, hs0⟩ (by first | assumption | (first | exact hwf _ (List.getElem_mem (by assumption)))) (by first | assumption | omega)) h fun r12 H12 L12 a w le12 R h => ?_
 obtain ⟨A12, c12, ss12, rfl, rfl, rfl, hsl12, hsm12⟩ := R
 obtain ⟨Hf12, leHf12, h, hks12⟩ := h.frw 0 (rint_row ss12) rfl (fun _ _ _ _ _ hr => hr)
 have hks12 : IS Hf12 A12 c12 ss12 := hks12
 refine mv h fun a w h => ?_
 refine cl bod256 (ContainsInt_ok ss12 n _ _ E Hf12 _ hks12 (by first | assumption | omega)) h (fun r14 H14 L14 a w le14 R h => ?_)
 obtain ⟨rfl, rfl, rfl⟩ := R
 refine au [0,3] h ?_
 refine cdB h (fun c14 => ?_) (fun c14 => ?_)
 ·refine au [1,2,0,6,0,6,0,3,1,3,1,4] h ?_; intro a w h
  exact fin (rs := [.tmp 6, .tmp 7]) (vs := [_, _]) h rfl (.tmp rfl (.tmp rfl .nil)) rfl leHf12 ⟨LE.rfl, h.st.drop 1⟩ ⟨by rw [bindS_occurs (by rw [← contains_same hsm12]; exact c14)]; rfl, rfl⟩
 ·refine au [1,8,1,0,1,2,0,0,3,3,7,5] h ?_; intro a w h
  refine bsl bs125 h fun g18 a w h => ?_
  refine al zr125 h fun g8 a w h => ?_
  refine au [5,1,0,3,0,4] h ?_; intro a w h
  obtain ⟨Hq, leHq, h, hsq⟩ := h.fsl (R := RBd) (sz := 4) (ys := [(⟨n, s⟩ : Bd)]) 1 (RowR.one rfl (rbd_of_v (cs := [_, _, _, _]) ⟨_, _, rfl, HS.up hs0 leHf12⟩)) (fun _ l cs y _ hr => RBd.mono l y hr)
  obtain ⟨Hg8, leHg8, h, hfg8⟩ := h.frz 0
  refine au [0,5,0,0,7,3] h ?_; intro a w h
  have l_H_Hg8 : LE H Hg8 := (leHf12.trans leHq).trans leHg8
  refine cl bod257 (mappedRow_ok l _ _ (fun b => (⟨b.n, b.s.ap (one n s)⟩ : Bd)) 258 #[.pointer (some ⟨g8, 0, none⟩)] E Hg8 _ (BdS.up hl l_H_Hg8) hb bod258 (fun j hj v H1 L1 l1 hv => by have q := bindAp_ok [(⟨n, s⟩ : Bd)] l[j] _ 1 g8 v E H1 L1 (BdS.up hsq (leHg8.trans l1)) (by simp) ((Hc.of hfg8 rfl).mono l1) hv (hls _ (List.getElem_mem hj)); rw [look_one] at q; exact q)) h fun r21 H21 L21 a w le21 R h => ?_
  obtain ⟨A21, c21, cs21, rfl, rfl, hr21⟩ := R
  obtain ⟨out, hout⟩ : ∃ z, z = l.map fun b => (⟨b.n, b.s.ap (one n s)⟩ : Bd) := ⟨_, rfl⟩
  rw [← hout] at h hr21
  have hol : out.length = l.length := by rw [hout, List.length_map]
  refine au [0,6,0,3,0,4] h ?_; intro a w h
  obtain ⟨Hl, leHl, h, hsl, backl⟩ := h.lendR 0 hr21 rfl (fun _ l cs y _ hr => RBd.mono l y hr)
  refine au [0,5,0,6,0,3,0,4,1,5] h ?_; intro a w h
  have h := h.del 0
  refine lp (β := Nat) (fun k a w => ((k ≤ out.length) ∧ (∀ j (hj : j < out.length), j < k → out[j].n < n)) ∧ S E Hl 47 [] [(1, .int .i64 n), (6, .slice none 0 0), (7, .bool false), (8, .pointer (some ⟨g8, 0, none⟩)), (9, .slice A21 out.length c21), (10, .int .i64 (k : Int))] (L) a w)
   (fun k => out.length - k) 0 ⟨⟨Nat.zero_le _, fun _ _ h => absurd h (by omega)⟩, h.to 0 _⟩ ?_
  rintro k a w ⟨⟨hk, hi⟩, h⟩
  refine au [0,4,1,2,0,0,0,0,6,0,6,4] h ?_; intro a w h
  refine h.spl (fun c25 h => ?_) (fun c25 h => ?_)
  ·have d25 : k < out.length := cd_ c25
   refine au [0,0,0,0,0,0] h ?_; intro a w h
   have hj29 : k < out.length := by first | assumption | omega | (simp; done) | (simp; omega)
   obtain ⟨g29, o29, A29_0, c29_0, e29, hv29, hc29⟩ := BdS.get hsl hj29
   obtain ⟨_, _, q29, hk29_0⟩ := hv29; cases q29
   refine iaE sli125 sz307 rfl hj29 e29 h fun a w h => ?_
   refine fa fl307_0 (r := o29 + k * 4 + 0) h fun a w h => ?_
   refine ldH t1_3 (hc29 0 _ rfl) h fun a w h => ?_
   refine au [0,0,6,4,4,8,0,3] h ?_; intro a w h
   refine cdB h (fun c34 => ?_) (fun c34 => ?_)
   ·have d34 : out[k].n < n := cd_ c34
    refine au [1,8,1,0,1,5,0,5,0,0] h ?_; intro a w h
    refine adr ((k + 1 : Nat) : Int) ?_ h fun a w h => ?_
    ·rw [w64 (by omega) (by omega)]; omega
    refine au [0,6,1,1,1,7,1,0] h ?_; intro a w h
    exact ⟨(k + 1), ⟨⟨by omega, fun j hj h0 => by rcases upto h0 with h0 | rfl; exact hi j hj h0; assumption⟩, h.to 0 _⟩, by show _ - (k + 1) < _ - k; omega⟩
   ·have d34 : n ≤ out[k].n := cd_ c34
    refine au [2,5,2,2,2,2,2,3,1,0,0,4] h ?_
    have hx : ∀ hk : k < out.length, ¬ out[k].n < n := fun hk => by omega
    have h := backl.get LE.rfl h
    refine au [0,5,0,0,0,0] h ?_; intro a w h
    refine ldH t1_125 (Hc.of (le21 _ _ hfg8) rfl) h fun a w h => ?_
    have l_Hq_H21 : LE Hq H21 := leHg8.trans le21
    have hj40 : 0 < ([(⟨n, s⟩ : Bd)]).length := by first | assumption | omega | (simp; done) | (simp; omega)
    obtain ⟨g40, o40, A40_0, c40_0, e40, hv40, hc40⟩ := BdS.get (BdS.up hsq l_Hq_H21) hj40
    obtain ⟨_, _, q40, hk40_0⟩ := hv40; cases q40
    refine iaE sli125 sz307 rfl hj40 e40 h fun a w h => ?_
    refine ldHN tN307 rfl hc40 h fun a w h => ?_
    refine bsl bs125 h fun g42 a w h => ?_
    have h := h.pull 1 rfl rfl
    refine cl bod259 (Insert_ok _ k out.length g42 cs21 _ _ _ _ E H21 _ hk (rowR_ones hr21 rbd_one) (by intro u hu; simp at hu; rcases hu with rfl | rfl | rfl | rfl <;> rfl) (by omega)) h fun r43 H43 L43 a w le43 R h => ?_
    obtain ⟨rfl, A43, c43, rfl, rfl⟩ := R
    obtain ⟨out2, ho2⟩ : ∃ z, z = out.take k ++ (⟨n, s⟩ : Bd) :: out.drop k := ⟨_, rfl⟩
    have hr43 : RowR RBd 4 H21 (cs21.take (k * 4) ++ [.int .i64 ((([(⟨n, s⟩ : Bd)])[0]).n), .int .i64 ((([(⟨n, s⟩ : Bd)])[0]).s.kind), .int .i64 ((([(⟨n, s⟩ : Bd)])[0]).s.n), .slice A40_0 ((([(⟨n, s⟩ : Bd)])[0]).s.kids).length c40_0] ++ cs21.drop (k * 4)) out2 := by rw [ho2]; exact rowR_ins hr21 hk rfl (rbd_of_v (cs := [_, _, _, _]) ⟨_, _, rfl, hk40_0⟩)
    have hn2 : out.length + 1 = out2.length := by rw [ho2]; simp; omega
    rw [hn2] at h
    have hz2 := bind_sizes hout ho2 hss hla
    have hv2 := bindS_val (by rw [← contains_same hsm12]; exact c14) hout hk hi hx ho2
    refine au [0,6,0,3,0,4,1,2,0,0] h ?_; intro a w h
    obtain ⟨Hn45_0, leHn45_0, h, hsHn45_0, backHn45_0⟩ := h.lendR 0 hr43 rfl (fun _ l cs y _ hr => RBd.mono l y hr)
    refine cl bod260 (ContainsFunc_Bd_ok out2 _ _ (fun b => decide (100 < (b.s.size : Int))) 261 #[] E Hn45_0 _ hsHn45_0 (by omega) bod261 (fun j hj v hv => bindBig_ok _ v E _ _ hv (hz2 _ (List.getElem_mem hj)))) h (fun r45 H45 L45 a w le45 R h => ?_)
    obtain ⟨rfl, rfl, rfl⟩ := R
    have h := backHn45_0.get LE.rfl h
    refine au [0,3] h ?_
    refine cdB h (fun c45 => ?_) (fun c45 => ?_)
    ·refine au [1,2,0,6,0,6,0,3,1,3,1,4] h ?_; intro a w h
     have l_H_H21 : LE H H21 := ((leHf12.trans leHq).trans leHg8).trans le21
     exact fin (rs := [.tmp 6, .tmp 7]) (vs := [_, _]) h rfl (.tmp rfl (.tmp rfl .nil)) rfl l_H_H21 ⟨LE.rfl, h.st.drop 1⟩ ⟨by rw [hv2, if_pos c45]; rfl, rfl⟩
    ·refine au [1,8,1,0,1,2,0,0,0,6,0,6,0,3,1,3] h ?_; intro a w h
     obtain ⟨Hrr43, leHrr43, h, hsHrr43⟩ := h.frw 0 hr43 rfl (fun _ l cs y _ hr => RBd.mono l y hr)
     have l_H_Hrr43 : LE H Hrr43 := (((leHf12.trans leHq).trans leHg8).trans le21).trans leHrr43
     exact fin (rs := [.tmp 6, .tmp 7]) (vs := [_, _]) h rfl (.tmp rfl (.tmp rfl .nil)) rfl l_H_Hrr43 ⟨LE.rfl, h.st.drop 0⟩ ⟨by rw [hv2, if_neg (by rw [c45]; decide)]; exact ⟨_, _, rfl, hsHrr43⟩, rfl⟩
  ·have d25 : out.length ≤ k := cd_ c25
   refine au [0,0,0,1,0,1,0,1,0,1,0,1,0,1,0,1,5,0,0,3,2,1,2,5,2,2,2,2,2,3,1,0,0,4] h ?_; intro a w h
   have hx : ∀ hk : k < out.length, ¬ out[k].n < n := fun hk => absurd hk (by omega)
   have h := backl.get LE.rfl h
   refine au [0,5,0,0,0,0] h ?_; intro a w h
   refine ldH t1_125 (Hc.of (le21 _ _ hfg8) rfl) h fun a w h => ?_
   have l_Hq_H21 : LE Hq H21 := leHg8.trans le21
   have hj40 : 0 < ([(⟨n, s⟩ : Bd)]).length := by first | assumption | omega | (simp; done) | (simp; omega)
   obtain ⟨g40, o40, A40_0, c40_0, e40, hv40, hc40⟩ := BdS.get (BdS.up hsq l_Hq_H21) hj40
   obtain ⟨_, _, q40, hk40_0⟩ := hv40; cases q40
   refine iaE sli125 sz307 rfl hj40 e40 h fun a w h => ?_
   refine ldHN tN307 rfl hc40 h fun a w h => ?_
   refine bsl bs125 h fun g42 a w h => ?_
   have h := h.pull 1 rfl rfl
   refine cl bod259 (Insert_ok _ k out.length g42 cs21 _ _ _ _ E H21 _ hk (rowR_ones hr21 rbd_one) (by intro u hu; simp at hu; rcases hu with rfl | rfl | rfl | rfl <;> rfl) (by omega)) h fun r43 H43 L43 a w le43 R h => ?_
   obtain ⟨rfl, A43, c43, rfl, rfl⟩ := R
   obtain ⟨out2, ho2⟩ : ∃ z, z = out.take k ++ (⟨n, s⟩ : Bd) :: out.drop k := ⟨_, rfl⟩
   have hr43 : RowR RBd 4 H21 (cs21.take (k * 4) ++ [.int .i64 ((([(⟨n, s⟩ : Bd)])[0]).n), .int .i64 ((([(⟨n, s⟩ : Bd)])[0]).s.kind), .int .i64 ((([(⟨n, s⟩ : Bd)])[0]).s.n), .slice A40_0 ((([(⟨n, s⟩ : Bd)])[0]).s.kids).length c40_0] ++ cs21.drop (k * 4)) out2 := by rw [ho2]; exact rowR_ins hr21 hk rfl (rbd_of_v (cs := [_, _, _, _]) ⟨_, _, rfl, hk40_0⟩)
   have hn2 : out.length + 1 = out2.length := by rw [ho2]; simp; omega
   rw [hn2] at h
   have hz2 := bind_sizes hout ho2 hss hla
   have hv2 := bindS_val (by rw [← contains_same hsm12]; exact c14) hout hk hi hx ho2
   refine au [0,6,0,3,0,4,1,2,0,0] h ?_; intro a w h
   obtain ⟨Hn45_0, leHn45_0, h, hsHn45_0, backHn45_0⟩ := h.lendR 0 hr43 rfl (fun _ l cs y _ hr => RBd.mono l y hr)
   refine cl bod260 (ContainsFunc_Bd_ok out2 _ _ (fun b => decide (100 < (b.s.size : Int))) 261 #[] E Hn45_0 _ hsHn45_0 (by omega) bod261 (fun j hj v hv => bindBig_ok _ v E _ _ hv (hz2 _ (List.getElem_mem hj)))) h (fun r45 H45 L45 a w le45 R h => ?_)
   obtain ⟨rfl, rfl, rfl⟩ := R
   have h := backHn45_0.get LE.rfl h
   refine au [0,3] h ?_
   refine cdB h (fun c45 => ?_) (fun c45 => ?_)
   ·refine au [1,2,0,6,0,6,0,3,1,3,1,4] h ?_; intro a w h
    have l_H_H21 : LE H H21 := ((leHf12.trans leHq).trans leHg8).trans le21
    exact fin (rs := [.tmp 6, .tmp 7]) (vs := [_, _]) h rfl (.tmp rfl (.tmp rfl .nil)) rfl l_H_H21 ⟨LE.rfl, h.st.drop 1⟩ ⟨by rw [hv2, if_pos c45]; rfl, rfl⟩
   ·refine au [1,8,1,0,1,2,0,0,0,6,0,6,0,3,1,3] h ?_; intro a w h
    obtain ⟨Hrr43, leHrr43, h, hsHrr43⟩ := h.frw 0 hr43 rfl (fun _ l cs y _ hr => RBd.mono l y hr)
    have l_H_Hrr43 : LE H Hrr43 := (((leHf12.trans leHq).trans leHg8).trans le21).trans leHrr43
    exact fin (rs := [.tmp 6, .tmp 7]) (vs := [_, _]) h rfl (.tmp rfl (.tmp rfl .nil)) rfl l_H_Hrr43 ⟨LE.rfl, h.st.drop 0⟩ ⟨by rw [hv2, if_neg (by rw [c45]; decide)]; exact ⟨_, _, rfl, hsHrr43⟩, rfl⟩
def Sml (l : List Bd) : Prop := ∀ b ∈ l, b.n < 1000000000 ∧ ∀ x ∈ b.s.hl, x < 1000000000
theorem ord_len {l : List Bd} (ho : Ord l) (hs : Sml l) : l.length ≤ 1000000000 := by
 have key : ∀ i (hi : i < l.length), (i : Int) ≤ l[i].n := by
   intro i
   induction i with
   | zero => intro hi; exact ho.nn _ (List.getElem_mem hi)
   | succ i ih =>
     intro hi
     have h1 := ih (by omega)
     have h2 := List.pairwise_iff_getElem.1 ho.inc i (i + 1) (by omega) hi (by omega)
     omega
 rcases Nat.lt_or_ge 1000000000 l.length with h | h
 · have h1 := key 1000000000 h
   have h2 := (hs _ (List.getElem_mem h)).1
   omega
 · exact h
mutual
theorem ap_small {f : Int → Option Sh} {K : Int} (hf : ∀ n s, f n = some s → ∀ x ∈ s.hl, x < K) : ∀ t : Sh, (∀ x ∈ t.hl, x < K) → ∀ x ∈ (t.ap f).hl, x < K
 | .mk k n ks => fun h x hx => by
   simp only [Sh.ap] at hx
   split at hx
   · cases e : f n with
     | none => rw [e] at hx; exact h x hx
     | some s => rw [e] at hx; exact hf n s e x hx
   · rename_i hk
     simp only [Sh.hl, if_neg hk, List.nil_append] at hx h
     exact apL_small hf ks h x hx
theorem apL_small {f : Int → Option Sh} {K : Int} (hf : ∀ n s, f n = some s → ∀ x ∈ s.hl, x < K) : ∀ l : List Sh, (∀ x ∈ hlL l, x < K) → ∀ x ∈ hlL (apL f l), x < K
 | [] => fun h x hx => by simp [apL, hlL] at hx
 | t :: l => fun h x hx => by
   simp only [apL, hlL, List.mem_append] at hx h
   rcases hx with hx | hx
   · exact ap_small hf t (fun y hy => h y (.inl hy)) x hx
   · exact apL_small hf l (fun y hy => h y (.inr hy)) x hx
end
theorem sml_look {l : List Bd} (hs : Sml l) : ∀ n s, look l n = some s → ∀ x ∈ s.hl, x < 1000000000 := fun n s h => by
 obtain ⟨b, hb, _, rfl⟩ := look_some h; exact (hs b hb).2
theorem hole_in {t : Sh} (hk : (t.kind == 4) = true) : t.n ∈ t.hl := by
 obtain ⟨k, n, ks⟩ := t
 simp only [Sh.hl]
 rw [if_pos (show (k == 4) = true from hk)]
 exact List.mem_append_left _ (List.mem_singleton.2 rfl)
theorem one_small {n : Int} {s : Sh} (hh : ∀ x ∈ s.hl, x < 1000000000) : ∀ m u, one n s m = some u → ∀ x ∈ u.hl, x < 1000000000 := fun m u e => by
 unfold one at e; split at e
 · cases e; exact hh
 · cases e
theorem bindS_sml {l l' : List Bd} {n : Int} {s : Sh} (hs : Sml l) (hn : n < 1000000000) (hh : ∀ x ∈ s.hl, x < 1000000000) (h : bindS l n s = some l') : Sml l' := fun b hb => by
 rcases ((bindS_mem h).2.1 b).1 hb with rfl | hb
 · exact ⟨hn, hh⟩
 · obtain ⟨c, hc, rfl⟩ := List.mem_map.1 hb
   exact ⟨(hs c hc).1, ap_small (one_small hh) _ (hs c hc).2⟩
def uniB (f : Nat) (l : List Bd) (a2 b2 : Sh) : Option (Option (List Bd)) :=
 if (a2.kind == 4) && ((b2.kind == 4) && (a2.n == b2.n)) then some (some l)
 else if a2.kind == 4 then some (bindS l a2.n b2)
 else if a2.kind == b2.kind then uniL f l a2.kids b2.kids else some none
theorem uni_T {f : Nat} {l : List Bd} {a b : Sh} (h : swp (a.ap (look l)) (b.ap (look l)) = true) : uni (f + 1) l a b = uniB f l (b.ap (look l)) (a.ap (look l)) := by
 simp only [uni, uniB, if_pos h]
theorem uni_F {f : Nat} {l : List Bd} {a b : Sh} (h : swp (a.ap (look l)) (b.ap (look l)) = false) : uni (f + 1) l a b = uniB f l (a.ap (look l)) (b.ap (look l)) := by
 simp only [uni, uniB, h]; rfl
mutual
theorem uni_sml : ∀ (f : Nat) (l l' : List Bd) (a b : Sh), uni f l a b = some (some l') → Sml l → (∀ x ∈ a.hl, x < 1000000000) → (∀ x ∈ b.hl, x < 1000000000) → Sml l'
 | 0, _, _, _, _, h, _, _, _ => by simp [uni] at h
 | f + 1, l, l', a, b, h, hs, ha, hb => by
   have pa := ap_small (sml_look hs) a ha
   have pb := ap_small (sml_look hs) b hb
   have key : ∀ a2 b2 : Sh, uniB f l a2 b2 = some (some l') → (∀ x ∈ a2.hl, x < 1000000000) → (∀ x ∈ b2.hl, x < 1000000000) → Sml l' := by
     intro a2 b2 e h1 h2
     unfold uniB at e
     split at e
     · cases e; exact hs
     · split at e
       · rename_i hk
         exact bindS_sml hs (h1 _ (hole_in hk)) h2 (Option.some.inj e)
       · split at e
         · exact uniL_sml f l l' _ _ e hs (fun x hx y hy => h1 y (kids_hl x hx y hy)) (fun x hx y hy => h2 y (kids_hl x hx y hy))
         · cases e
   by_cases hw : swp (a.ap (look l)) (b.ap (look l)) = true
   · rw [uni_T hw] at h; exact key _ _ h pb pa
   · rw [uni_F (by simpa using hw)] at h; exact key _ _ h pa pb
theorem uniL_sml : ∀ (f : Nat) (l l' : List Bd) (la lb : List Sh), uniL f l la lb = some (some l') → Sml l → (∀ y ∈ la, ∀ x ∈ y.hl, x < 1000000000) → (∀ y ∈ lb, ∀ x ∈ y.hl, x < 1000000000) → Sml l'
 | _, l, l', [], _, h, hs, _, _ => by simp only [uniL, Option.some.injEq] at h; subst h; exact hs
 | _, _, _, _ :: _, [], h, _, _, _ => by simp [uniL] at h
 | f, l, l', a :: la, b :: lb, h, hs, ha, hb => by
   simp only [uniL] at h
   split at h
   · cases h
   · cases h
   · rename_i l1 e
     have h1 := uni_sml f l l1 a b e hs (ha a (List.mem_cons_self ..)) (hb b (List.mem_cons_self ..))
     exact uniL_sml f l1 l' la lb h h1 (fun y hy => ha y (List.mem_cons_of_mem _ hy)) (fun y hy => hb y (List.mem_cons_of_mem _ hy))
end
structure UArg (l : List Bd) (a b : Sh) : Prop where
 ord : Ord l
 sml : Sml l
 ra : a.right = true
 rb : b.right = true
 ha : ∀ x ∈ a.hl, x < 1000000000
 hb : ∀ x ∈ b.hl, x < 1000000000
 qa : ∀ l', Ord l' → More l l' → (a.ap (look l')).size ≤ 1000000000
 qb : ∀ l', Ord l' → More l l' → (b.ap (look l')).size ≤ 1000000000
 sa : a.size ≤ 1000000000
 sb : b.size ≤ 1000000000
theorem UArg.of {l : List Bd} {a b : Sh} (ho : Ord l) (hs : Sml l) (ra : a.right = true) (rb : b.right = true) (ha : ∀ x ∈ a.hl, x < 1000000000) (hb : ∀ x ∈ b.hl, x < 1000000000) (sa : a.size ≤ 10000000) (sb : b.size ≤ 10000000) : UArg l a b := by
 have key : ∀ (t : Sh) (l' : List Bd), t.size ≤ 10000000 → Ord l' → (t.ap (look l')).size ≤ 1000000000 := fun t l' h ho' => by
   have := ap_size_le (f := look l') (K := 100) (by omega) (fun n s e => by obtain ⟨b, hb, _, rfl⟩ := look_some e; exact ho'.small b hb) t
   omega
 exact ⟨ho, hs, ra, rb, ha, hb, fun l' h _ => key a l' sa h, fun l' h _ => key b l' sb h, by omega, by omega⟩
structure UApp (l : List Bd) (a2 b2 : Sh) : Prop where
 ord : Ord l
 sml : Sml l
 ra : a2.right = true
 rb : b2.right = true
 ha : ∀ x ∈ a2.hl, 0 ≤ x ∧ x < 1000000000
 hb : ∀ x ∈ b2.hl, 0 ≤ x ∧ x < 1000000000
 qa : ∀ l', Ord l' → More l l' → (a2.ap (look l')).size ≤ 1000000000
 qb : ∀ l', Ord l' → More l l' → (b2.ap (look l')).size ≤ 1000000000
 sa : a2.size ≤ 1000000000
 sb : b2.size ≤ 1000000000
mutual
theorem hl_nn : ∀ t : Sh, t.right = true → ∀ x ∈ t.hl, 0 ≤ x
 | .mk k n ks => fun h x hx => by
   simp only [Sh.right, Bool.and_eq_true] at h
   simp only [Sh.hl, List.mem_append] at hx
   rcases hx with hx | hx
   · split at hx
     · simp at hx; subst hx
       have := h.1; unfold nodeSh at this; simp only [Bool.and_eq_true, decide_eq_true_eq] at this; exact this.2.2.1
     · cases hx
   · exact hlL_nn ks h.2 x hx
theorem hlL_nn : ∀ l : List Sh, rightSL l = true → ∀ x ∈ hlL l, 0 ≤ x
 | [] => fun _ x hx => by simp [hlL] at hx
 | t :: l => fun h x hx => by
   simp only [rightSL, Bool.and_eq_true] at h
   simp only [hlL, List.mem_append] at hx
   rcases hx with hx | hx
   · exact hl_nn t h.1 x hx
   · exact hlL_nn l h.2 x hx
end
theorem UArg.app {l : List Bd} {a b : Sh} (h : UArg l a b) : UApp l (a.ap (look l)) (b.ap (look l)) := by
 have r1 := right_ap (look_right h.ord) a h.ra
 have r2 := right_ap (look_right h.ord) b h.rb
 refine ⟨h.ord, h.sml, r1, r2, fun x hx => ⟨hl_nn _ r1 x hx, ap_small (sml_look h.sml) a h.ha x hx⟩, fun x hx => ⟨hl_nn _ r2 x hx, ap_small (sml_look h.sml) b h.hb x hx⟩, fun l' ho hm => ?_, fun l' ho hm => ?_, h.qa l h.ord (More.refl h.ord), h.qb l h.ord (More.refl h.ord)⟩
 · rw [hm a h.ra]; exact h.qa l' ho hm
 · rw [hm b h.rb]; exact h.qb l' ho hm
theorem UApp.swap {l : List Bd} {a b : Sh} (h : UApp l a b) : UApp l b a := ⟨h.ord, h.sml, h.rb, h.ra, h.hb, h.ha, h.qb, h.qa, h.sb, h.sa⟩
theorem kid_ap_size {f : Int → Option Sh} {a : Sh} (hk : ¬ ((a.kind == 4) = true)) {x : Sh} (hx : x ∈ a.kids) : (x.ap f).size < (a.ap f).size := by
 rw [ap_node hk]
 have : x.ap f ∈ a.kids.map (Sh.ap f) := List.mem_map.2 ⟨x, hx, rfl⟩
 have := sh_size_le this
 simp only [Sh.size]; omega
theorem UApp.kid {l l1 : List Bd} {a2 b2 : Sh} (h : UApp l a2 b2) (ho : Ord l1) (hm : More l l1) (hs : Sml l1) (ka : ¬ ((a2.kind == 4) = true)) (kb : ¬ ((b2.kind == 4) = true)) {x y : Sh} (hx : x ∈ a2.kids) (hy : y ∈ b2.kids) : UArg l1 x y :=
 ⟨ho, hs, kids_right h.ra x hx, kids_right h.rb y hy, fun z hz => (h.ha z (kids_hl x hx z hz)).2, fun z hz => (h.hb z (kids_hl y hy z hz)).2,
   fun l' ho' hm' => by have := kid_ap_size (f := look l') ka hx; have := h.qa l' ho' (More.trans h.ord ho hm hm'); omega,
   fun l' ho' hm' => by have := kid_ap_size (f := look l') kb hy; have := h.qb l' ho' (More.trans h.ord ho hm hm'); omega,
   by have := kids_size x hx; have := h.sa; omega, by have := kids_size y hy; have := h.sb; omega⟩
theorem wfJ {x : Int} (h : 0 ≤ x) (k : x < 1000000000000) : (Lit.int .i64 x).wf = true := by
 have e : IntKind.i64.min = -9223372036854775808 := by decide
 simp [Lit.wf, e]
 omega
theorem UApp.bindOk {l : List Bd} {a2 b2 : Sh} (h : UApp l a2 b2) (n : Int) : l.length < 100000000000 ∧ (∀ x ∈ b2.hl, (Lit.int .i64 x).wf = true) ∧ b2.size < 1000000000000 ∧ (∀ b ∈ l, b.s.size < 1000000000000) ∧ (∀ b ∈ l, (b.s.ap (one n b2)).size < 1000000000000) :=
 ⟨by have := ord_len h.ord h.sml; omega, fun x hx => by have := h.hb x hx; exact wfJ this.1 (by omega), by have := h.sb; omega, fun b hb => by have := h.ord.small b hb; omega, fun b hb => by
   have h1 := h.ord.small b hb
   have h2 := ap_size_le (f := one n b2) (K := 1000000000) (by omega) (one_size h.sb) b.s
   have h3 : b.s.size * 1000000000 ≤ 100 * 1000000000 := Nat.mul_le_mul_right _ h1
   omega⟩
def OptR2 (H : GH) (r : Value) (x : Option (List Bd)) : Prop := ∃ (A : Option Addr) (c : Nat) (l : List Bd) (ok : Bool), r = .tuple #[.slice A l.length c, .bool ok] ∧ BdS H A c l ∧ x = if ok then some l else none
theorem OptR.two {H : GH} {r : Value} {x : Option (List Bd)} (h : OptR H r x) : OptR2 H r x := by
 cases x with
 | none => exact ⟨none, 0, [], false, h, RS.nil _ _ _, rfl⟩
 | some l => obtain ⟨A, c, e, hb⟩ := h; exact ⟨A, c, l, true, e, hb, rfl⟩
def UAt (f : Nat) (l : List Bd) (a2 b2 : Sh) (r : Option (List Bd)) (k : Nat) (ok : Bool) (l1 : List Bd) : Prop :=
 (ok = true → a2.kind = b2.kind ∧ uniL f l1 (a2.kids.drop k) (b2.kids.drop k) = some r ∧ Ord l1 ∧ More l l1 ∧ Sml l1) ∧ (ok = false → r = none)
theorem UAt.start {f : Nat} {l : List Bd} {a2 b2 : Sh} {r : Option (List Bd)} (h : UApp l a2 b2) (hu : uniB f l a2 b2 = some r) (hk : ¬ ((a2.kind == 4) = true)) : UAt f l a2 b2 r 0 (a2.kind == b2.kind) l := by
 unfold uniB at hu
 rw [if_neg (by simp [hk]), if_neg hk] at hu
 refine ⟨fun e => ?_, fun e => ?_⟩
 · rw [if_pos e] at hu
   exact ⟨eq_of_beq e, by simpa using hu, h.ord, More.refl h.ord, h.sml⟩
 · rw [if_neg (by rw [e]; decide)] at hu
   exact (Option.some.inj hu).symm
theorem UAt.kid {f : Nat} {l l1 : List Bd} {a2 b2 : Sh} {r : Option (List Bd)} {k : Nat} (h : UAt f l a2 b2 r k true l1) (hp : UApp l a2 b2) (hk : ¬ ((a2.kind == 4) = true)) (hj : k < a2.kids.length) :
   ∃ hj2 : k < b2.kids.length, UArg l1 a2.kids[k] b2.kids[k] ∧ ∃ r1, uni f l1 a2.kids[k] b2.kids[k] = some r1 ∧ ∀ (ok : Bool) (l2 : List Bd), r1 = (if ok then some l2 else none) → UAt f l a2 b2 r (k + 1) ok l2 := by
 obtain ⟨e, hu, ho, hm, hs⟩ := h.1 rfl
 have hlen := kids_len hp.ra hp.rb (by rw [e]; simp)
 have hj2 : k < b2.kids.length := by omega
 have hkb : ¬ ((b2.kind == 4) = true) := by rw [← e]; exact hk
 have hu' := hu
 rw [List.drop_eq_getElem_cons hj, List.drop_eq_getElem_cons hj2] at hu'
 have ha := hp.kid ho hm hs hk hkb (List.getElem_mem hj) (List.getElem_mem hj2)
 refine ⟨hj2, ha, ?_⟩
 simp only [uniL] at hu'
 cases e1 : uni f l1 a2.kids[k] b2.kids[k] with
 | none => rw [e1] at hu'; cases hu'
 | some r1 =>
   rw [e1] at hu'
   refine ⟨r1, rfl, fun ok l2 e2 => ?_⟩
   cases ok with
   | false =>
     simp only [Bool.false_eq_true, if_false] at e2
     subst e2
     exact ⟨fun h => (by cases h), fun _ => (Option.some.inj hu').symm⟩
   | true =>
     simp only [if_true] at e2
     subst e2
     obtain ⟨s1, s2, _⟩ := uni_sound f l1 l2 _ _ e1 ho ha.ra ha.rb
     exact ⟨fun _ => ⟨e, hu', s1, More.trans hp.ord ho hm s2, uni_sml f l1 l2 _ _ e1 hs ha.ha ha.hb⟩, fun h => by cases h⟩
theorem UAt.done {f : Nat} {l l1 : List Bd} {a2 b2 : Sh} {r : Option (List Bd)} {k : Nat} {ok : Bool} (h : UAt f l a2 b2 r k ok l1) (hk : ok = true → a2.kids.length ≤ k) : r = if ok then some l1 else none := by
 cases ok with
 | false => exact h.2 rfl
 | true =>
   obtain ⟨_, hu, _⟩ := h.1 rfl
   rw [List.drop_eq_nil_of_le (hk rfl)] at hu
   simp only [uniL, Option.some.injEq] at hu
   exact hu.symm
theorem kids_len_lt (a : Sh) : a.kids.length < a.size := by
 obtain ⟨k, n, ks⟩ := a
 have := sh_len_le ks
 simp only [Sh.size, Sh.kids]; omega
theorem swp_bif (p q : Sh) : (bif ((p.kind : Int) != 4) then (((q.kind : Int) == 4) || (((p.kind : Int) == 4) && (((q.kind : Int) == 4) && (decide (p.n < q.n))))) else (((p.kind : Int) == 4) && (((q.kind : Int) == 4) && (decide (p.n < q.n))))) = swp p q := by
 unfold swp
 rw [show (p.kind != 4) = !(p.kind == 4) from rfl]
 cases (p.kind == 4) <;> cases (q.kind == 4) <;> simp
theorem uniB_same {f : Nat} {l : List Bd} {a2 b2 : Sh} {r : Option (List Bd)} (h : ((a2.kind == 4) && ((b2.kind == 4) && (a2.n == b2.n))) = true) (hu : uniB f l a2 b2 = some r) : r = some l := by
 unfold uniB at hu; rw [if_pos h] at hu; exact (Option.some.inj hu).symm
theorem uniB_bind {f : Nat} {l : List Bd} {a2 b2 : Sh} {r : Option (List Bd)} (h : ((a2.kind == 4) && ((b2.kind == 4) && (a2.n == b2.n))) = false) (hk : (a2.kind == 4) = true) (hu : uniB f l a2 b2 = some r) : bindS l a2.n b2 = r := by
 unfold uniB at hu; rw [if_neg (by rw [h]; decide), if_pos hk] at hu; exact Option.some.inj hu
theorem bind2_ok (l : List Bd) (n : Int) (s a2 : Sh) (A : Option Addr) (c : Nat) (v : Value) (E : World) (H : GH) (L : List It) (ha : UApp l a2 s) (hl : BdS H A c l) (hv : VSh H v s) :
   Ok Tryz.prog 206 #[.slice A l.length c, .int .i64 n, v] E H L fun r H' L' => OptR2 H' r (bindS l n s) ∧ L = L' :=
 have q := UApp.bindOk ha n
 Ok.mono (bindSh_ok l n s A c v E H L hl hv q.1 q.2.1 q.2.2.1 q.2.2.2.1 q.2.2.2.2) fun _ _ _ _ hr => ⟨hr.1.two, hr.2⟩
theorem unify_ok : ∀ (f : Nat) (l : List Bd) (p q : Sh) (r : Option (List Bd)) (A : Option Addr) (c : Nat) (v v2 : Value) (E : World) (H : GH) (L : List It), uni f l p q = some r → UArg l p q → BdS H A c l → VSh H v p → VSh H v2 q →
   Ok Tryz.prog 168 #[.slice A l.length c, v, v2] E H L fun r' H' L' => OptR2 H' r' r ∧ L = L' := by
 intro f
 induction f with
 | zero => intro l p q r A c v v2 E H L hu; simp [uni] at hu
 | succ f ih =>
 intro l p q r A c v v2 E H L hu hua0 hl hp hq
 have hb : l.length < 1000000000000 := by have := ord_len hua0.ord hua0.sml; omega
 have hsp : p.size < 1000000000000 := by have := hua0.sa; omega
 have hsq : q.size < 1000000000000 := by have := hua0.sb; omega
 obtain ⟨Ap0, cp0, rfl, hp0⟩ := hp
 obtain ⟨Aq0, cq0, rfl, hq0⟩ := hq
 refine enter (N := 102) [(0, _), (1, _), (2, _)] Tryz.func168 rfl rfl rfl rfl fun a w h => ?_
 refine au [1,2] h ?_
 refine bxA h fun g4 a w h => ?_
 refine bxA h fun g5 a w h => ?_
 refine au [0,6,0,6,0,3,0,4] h ?_; intro a w h
 refine rgx [0] [_] [4] 8 mix h (fun a w h => ?_)
 refine au [8,0,0,0,2,6,8,3,0,0,2,6,8,4,4,5,2,6] h ?_; intro a w h
 refine bg1 1 true h ?_
 refine ldWB 1 tN31 h fun a w h => ?_
 refine br0 ?_
 refine bg1 2 true h ?_
 refine cl bod169 (Apply_ok l p _ _ _ E H _ hl ⟨Ap0, cp0, rfl, hp0⟩ (by first | assumption | omega) (by first | assumption | omega)) h (fun r12 H12 L12 a w le12 R h => ?_)
 obtain ⟨⟨A12_0, c12_0, rfl, hk12_0⟩, rfl⟩ := R
 refine br0 ?_
 refine bf1 5 ?_
 refine cl bod169 (Apply_ok l q _ _ _ E H12 _ (BdS.up hl le12) ⟨Aq0, cq0, rfl, (HS.up hq0 le12)⟩ (by first | assumption | omega) (by first | assumption | omega)) h (fun r15 H15 L15 a w le15 R h => ?_)
 obtain ⟨⟨A15_0, c15_0, rfl, hk15_0⟩, rfl⟩ := R
 refine br0 ?_
 have l_H_H15 : LE H H15 := le12.trans le15
 refine bg1 6 true h ?_
 refine au [5,6,2,7] h ?_; intro a w h
 refine bf1 7 ?_
 refine au [5,5,2,7] h ?_; intro a w h
 refine en (by kernel_rfl) ?_
 refine au [1,0,0,4] h ?_
 obtain ⟨p1, e1⟩ : ∃ z, z = p.ap (look l) := ⟨_, rfl⟩
 obtain ⟨q1, e2⟩ : ∃ z, z = q.ap (look l) := ⟨_, rfl⟩
 rw [← e1] at h hk12_0
 rw [← e2] at h hk15_0
 have hap : UApp l p1 q1 := by rw [e1, e2]; exact hua0.app
 refine sqc (fun a w => S E H15 102 [] [(0, .slice A l.length c), (4, .pointer (some ⟨g4, 0, none⟩)), (5, .pointer (some ⟨g5, 0, none⟩)), (6, .slice none 0 0), (7, .bool false), (40, .bool (bif ((p1.kind : Int) != 4) then (((q1.kind : Int) == 4) || (((p1.kind : Int) == 4) && (((q1.kind : Int) == 4) && (decide (p1.n < q1.n))))) else (((p1.kind : Int) == 4) && (((q1.kind : Int) == 4) && (decide (p1.n < q1.n))))))] (.obj g5 (.cells #[.int .i64 q1.kind, .int .i64 q1.n, .slice A15_0 q1.kids.length c15_0] 31 (0, 0)) :: .obj g4 (.cells #[.int .i64 p1.kind, .int .i64 p1.n, .slice A12_0 p1.kids.length c12_0] 31 (0, 0)) :: L) a w) ?_ ?_
 ·refine au [0,5,0,7,2,8,6,3] h ?_; intro a w h
  refine h.spl (fun c18 h => ?_) (fun c18 h => ?_)
  ·have d18 : p1.kind ≠ 4 := cd_ c18
   refine au [0,0,0,7,0,8,6,2,4,8] h ?_; intro a w h
   refine h.spl (fun c23 h => ?_) (fun c23 h => ?_)
   ·have d23 : q1.kind = 4 := cd_ c23
    refine au [0,0,0,1,0,1,0,1,0,1,0,1,0,1,0,1,0,1,0,1,0,1,0,1,0,1,0,1,0,1,0,1,4,8,0,3] h ?_; intro a w h
    exact (by show S _ _ _ _ _ _ _ _; rw [show (.bool (bif ((p1.kind : Int) != 4) then (((q1.kind : Int) == 4) || (((p1.kind : Int) == 4) && (((q1.kind : Int) == 4) && (decide (p1.n < q1.n))))) else (((p1.kind : Int) == 4) && (((q1.kind : Int) == 4) && (decide (p1.n < q1.n))))) : Value) = .bool true from Eq.symm (by first | ((try rw [c18]) <;> (try rw [c23]) <;> (try simp only [Bool.true_or, Bool.or_true, Bool.false_or, Bool.or_false, Bool.true_and, Bool.and_true, Bool.false_and, Bool.and_false, Bool.not_true, Bool.not_false, cond_true, cond_false]); done) | (exfalso; omega))]; exact h.to 0 _)
   ·have d23 : q1.kind ≠ 4 := cd_ c23
    refine au [0,0,0,7,2,8,6,2] h ?_; intro a w h
    refine h.spl (fun c27 h => ?_) (fun c27 h => ?_)
    ·have d27 : p1.kind = 4 := cd_ c27
     refine au [0,0,0,7,0,8,6,2,4,8] h ?_; intro a w h
     refine h.spl (fun c32 h => ?_) (fun c32 h => ?_)
     ·have d32 : q1.kind = 4 := cd_ c32
      refine au [0,0,0,7,2,8,0,7,0,8,6,4,4,8,5,0,0,3] h ?_; intro a w h
      exact (by show S _ _ _ _ _ _ _ _; rw [show (.bool (bif ((p1.kind : Int) != 4) then (((q1.kind : Int) == 4) || (((p1.kind : Int) == 4) && (((q1.kind : Int) == 4) && (decide (p1.n < q1.n))))) else (((p1.kind : Int) == 4) && (((q1.kind : Int) == 4) && (decide (p1.n < q1.n))))) : Value) = .bool (decide (p1.n < q1.n)) from Eq.symm (by first | ((try rw [c18]) <;> (try rw [c23]) <;> (try rw [c27]) <;> (try rw [c32]) <;> (try simp only [Bool.true_or, Bool.or_true, Bool.false_or, Bool.or_false, Bool.true_and, Bool.and_true, Bool.false_and, Bool.and_false, Bool.not_true, Bool.not_false, cond_true, cond_false]); done) | (exfalso; omega))]; exact h.to 0 _)
     ·have d32 : q1.kind ≠ 4 := cd_ c32
      refine au [0,0,0,1,0,1,0,1,0,1,0,1,5,0,5,0,0,3] h ?_; intro a w h
      exact (by show S _ _ _ _ _ _ _ _; rw [show (.bool (bif ((p1.kind : Int) != 4) then (((q1.kind : Int) == 4) || (((p1.kind : Int) == 4) && (((q1.kind : Int) == 4) && (decide (p1.n < q1.n))))) else (((p1.kind : Int) == 4) && (((q1.kind : Int) == 4) && (decide (p1.n < q1.n))))) : Value) = .bool false from Eq.symm (by first | ((try rw [c18]) <;> (try rw [c23]) <;> (try rw [c27]) <;> (try rw [c32]) <;> (try simp only [Bool.true_or, Bool.or_true, Bool.false_or, Bool.or_false, Bool.true_and, Bool.and_true, Bool.false_and, Bool.and_false, Bool.not_true, Bool.not_false, cond_true, cond_false]); done) | (exfalso; omega))]; exact h.to 0 _)
    ·have d27 : p1.kind ≠ 4 := cd_ c27
     refine au [0,0,0,1,0,1,0,1,5,0,0,0,0,1,0,1,0,1,0,1,0,1,5,0,5,0,0,3] h ?_; intro a w h
     exact (by show S _ _ _ _ _ _ _ _; rw [show (.bool (bif ((p1.kind : Int) != 4) then (((q1.kind : Int) == 4) || (((p1.kind : Int) == 4) && (((q1.kind : Int) == 4) && (decide (p1.n < q1.n))))) else (((p1.kind : Int) == 4) && (((q1.kind : Int) == 4) && (decide (p1.n < q1.n))))) : Value) = .bool false from Eq.symm (by first | ((try rw [c18]) <;> (try rw [c23]) <;> (try rw [c27]) <;> (try simp only [Bool.true_or, Bool.or_true, Bool.false_or, Bool.or_false, Bool.true_and, Bool.and_true, Bool.false_and, Bool.and_false, Bool.not_true, Bool.not_false, cond_true, cond_false]); done) | (exfalso; omega))]; exact h.to 0 _)
  ·have d18 : p1.kind = 4 := cd_ c18
   refine au [0,0,0,1,0,1,0,1,5,0,0,0,0,7,2,8,6,2] h ?_; intro a w h
   refine h.spl (fun c27 h => ?_) (fun c27 h => ?_)
   ·have d27 : p1.kind = 4 := cd_ c27
    refine au [0,0,0,7,0,8,6,2,4,8] h ?_; intro a w h
    refine h.spl (fun c32 h => ?_) (fun c32 h => ?_)
    ·have d32 : q1.kind = 4 := cd_ c32
     refine au [0,0,0,7,2,8,0,7,0,8,6,4,4,8,5,0,0,3] h ?_; intro a w h
     exact (by show S _ _ _ _ _ _ _ _; rw [show (.bool (bif ((p1.kind : Int) != 4) then (((q1.kind : Int) == 4) || (((p1.kind : Int) == 4) && (((q1.kind : Int) == 4) && (decide (p1.n < q1.n))))) else (((p1.kind : Int) == 4) && (((q1.kind : Int) == 4) && (decide (p1.n < q1.n))))) : Value) = .bool (decide (p1.n < q1.n)) from Eq.symm (by first | ((try rw [c18]) <;> (try rw [c27]) <;> (try rw [c32]) <;> (try simp only [Bool.true_or, Bool.or_true, Bool.false_or, Bool.or_false, Bool.true_and, Bool.and_true, Bool.false_and, Bool.and_false, Bool.not_true, Bool.not_false, cond_true, cond_false]); done) | (exfalso; omega))]; exact h.to 0 _)
    ·have d32 : q1.kind ≠ 4 := cd_ c32
     refine au [0,0,0,1,0,1,0,1,0,1,0,1,5,0,5,0,0,3] h ?_; intro a w h
     exact (by show S _ _ _ _ _ _ _ _; rw [show (.bool (bif ((p1.kind : Int) != 4) then (((q1.kind : Int) == 4) || (((p1.kind : Int) == 4) && (((q1.kind : Int) == 4) && (decide (p1.n < q1.n))))) else (((p1.kind : Int) == 4) && (((q1.kind : Int) == 4) && (decide (p1.n < q1.n))))) : Value) = .bool false from Eq.symm (by first | ((try rw [c18]) <;> (try rw [c27]) <;> (try rw [c32]) <;> (try simp only [Bool.true_or, Bool.or_true, Bool.false_or, Bool.or_false, Bool.true_and, Bool.and_true, Bool.false_and, Bool.and_false, Bool.not_true, Bool.not_false, cond_true, cond_false]); done) | (exfalso; omega))]; exact h.to 0 _)
   ·have d27 : p1.kind ≠ 4 := cd_ c27
    refine au [0,0,0,1,0,1,0,1,5,0,0,0,0,1,0,1,0,1,0,1,0,1,5,0,5,0,0,3] h ?_; intro a w h
    exact (by show S _ _ _ _ _ _ _ _; rw [show (.bool (bif ((p1.kind : Int) != 4) then (((q1.kind : Int) == 4) || (((p1.kind : Int) == 4) && (((q1.kind : Int) == 4) && (decide (p1.n < q1.n))))) else (((p1.kind : Int) == 4) && (((q1.kind : Int) == 4) && (decide (p1.n < q1.n))))) : Value) = .bool false from Eq.symm (by first | ((try rw [c18]) <;> (try rw [c27]) <;> (try simp only [Bool.true_or, Bool.or_true, Bool.false_or, Bool.or_false, Bool.true_and, Bool.and_true, Bool.false_and, Bool.and_false, Bool.not_true, Bool.not_false, cond_true, cond_false]); done) | (exfalso; omega))]; exact h.to 0 _)
 ·rintro a w h
  refine cdB h (fun c40 => ?_) (fun c40 => ?_)
  ·obtain ⟨a2, ea⟩ : ∃ z, z = q1 := ⟨_, rfl⟩
   obtain ⟨b2, eb⟩ : ∃ z, z = p1 := ⟨_, rfl⟩
   have hw : swp p1 q1 = true := (swp_bif p1 q1).symm.trans c40
   have hu2 : uniB f l a2 b2 = some r := by rw [ea, eb, e1, e2]; rw [e1, e2] at hw; rw [← uni_T hw]; exact hu
   have hap2 : UApp l a2 b2 := by rw [ea, eb]; exact hap.swap
   rw [← ea, ← eb] at h
   rw [← eb] at hk12_0
   rw [← ea] at hk15_0
   refine au [0,5,3,3,3,4,5,6,5,5,0,3,0,4] h ?_; intro a w h
   refine sqc (fun a w => S E H15 102 [] [(0, .slice A l.length c), (4, .pointer (some ⟨g4, 0, none⟩)), (5, .pointer (some ⟨g5, 0, none⟩)), (6, .slice none 0 0), (7, .bool false), (57, .bool (((a2.kind : Int) == 4) && (((b2.kind : Int) == 4) && ((a2.n : Int) == b2.n))))] (.obj g5 (.cells #[.int .i64 b2.kind, .int .i64 b2.n, .slice A12_0 b2.kids.length c12_0] 31 (0, 0)) :: .obj g4 (.cells #[.int .i64 a2.kind, .int .i64 a2.n, .slice A15_0 a2.kids.length c15_0] 31 (0, 0)) :: L) a w) ?_ ?_
   ·refine au [0,5,0,7,2,8,6,2] h ?_; intro a w h
    refine h.spl (fun c45 h => ?_) (fun c45 h => ?_)
    ·have d45 : a2.kind = 4 := cd_ c45
     refine au [0,0,0,7,0,8,6,2,4,8] h ?_; intro a w h
     refine h.spl (fun c50 h => ?_) (fun c50 h => ?_)
     ·have d50 : b2.kind = 4 := cd_ c50
      refine au [0,0,0,7,2,8,0,7,0,8,6,2,4,8,0,3] h ?_; intro a w h
      exact (by show S _ _ _ _ _ _ _ _; rw [show (.bool (((a2.kind : Int) == 4) && (((b2.kind : Int) == 4) && ((a2.n : Int) == b2.n))) : Value) = .bool ((a2.n : Int) == b2.n) from Eq.symm (by first | ((try rw [c45]) <;> (try rw [c50]) <;> (try simp only [Bool.true_or, Bool.or_true, Bool.false_or, Bool.or_false, Bool.true_and, Bool.and_true, Bool.false_and, Bool.and_false, Bool.not_true, Bool.not_false, cond_true, cond_false]); done) | (exfalso; omega))]; exact h.to 0 _)
     ·have d50 : b2.kind ≠ 4 := cd_ c50
      refine au [0,0,0,1,0,1,0,1,0,1,0,1,5,0,0,3] h ?_; intro a w h
      exact (by show S _ _ _ _ _ _ _ _; rw [show (.bool (((a2.kind : Int) == 4) && (((b2.kind : Int) == 4) && ((a2.n : Int) == b2.n))) : Value) = .bool false from Eq.symm (by first | ((try rw [c45]) <;> (try rw [c50]) <;> (try simp only [Bool.true_or, Bool.or_true, Bool.false_or, Bool.or_false, Bool.true_and, Bool.and_true, Bool.false_and, Bool.and_false, Bool.not_true, Bool.not_false, cond_true, cond_false]); done) | (exfalso; omega))]; exact h.to 0 _)
    ·have d45 : a2.kind ≠ 4 := cd_ c45
     refine au [0,0,0,1,0,1,0,1,5,0,0,0,0,1,0,1,0,1,0,1,0,1,5,0,0,3] h ?_; intro a w h
     exact (by show S _ _ _ _ _ _ _ _; rw [show (.bool (((a2.kind : Int) == 4) && (((b2.kind : Int) == 4) && ((a2.n : Int) == b2.n))) : Value) = .bool false from Eq.symm (by first | ((try rw [c45]) <;> (try simp only [Bool.true_or, Bool.or_true, Bool.false_or, Bool.or_false, Bool.true_and, Bool.and_true, Bool.false_and, Bool.and_false, Bool.not_true, Bool.not_false, cond_true, cond_false]); done) | (exfalso; omega))]; exact h.to 0 _)
   ·rintro a w h
    refine cdB h (fun c57 => ?_) (fun c57 => ?_)
    ·refine au [1,2,0,0,0,6,0,6,0,3,1,3,1,4] h ?_; intro a w h
     exact fin (rs := [.tmp 6, .tmp 7]) (vs := [_, _]) h rfl (.tmp rfl (.tmp rfl .nil)) rfl l_H_H15 ⟨LE.rfl, h.st.drop 2⟩ ⟨⟨_, _, l, true, rfl, BdS.up hl l_H_H15, uniB_same c57 hu2⟩, rfl⟩
    ·refine au [1,8,1,0,0,4,1,2,0,7,2,8,6,2,0,3] h ?_; intro a w h
     refine cdB h (fun c61 => ?_) (fun c61 => ?_)
     ·have d61 : a2.kind = 4 := cd_ c61
      refine au [1,2,0,0,0,7,2,8,3,3] h ?_; intro a w h
      refine cl bod206 (bind2_ok l a2.n b2 _ _ _ _ E H15 _ hap2 (BdS.up hl l_H_H15) ⟨A12_0, c12_0, rfl, (HS.up hk12_0 le15)⟩) h (fun r66 H66 L66 a w le66 R h => ?_)
      obtain ⟨⟨A66, c66, l66, ok66, rfl, hb66, hx66⟩, rfl⟩ := R
      refine au [4,7,4,7,0,6,0,6,0,3,1,3,1,4] h ?_; intro a w h
      have l_H_H66 : LE H H66 := (le12.trans le15).trans le66
      exact fin (rs := [.tmp 6, .tmp 7]) (vs := [_, _]) h rfl (.tmp rfl (.tmp rfl .nil)) rfl l_H_H66 ⟨LE.rfl, h.st.drop 2⟩ ⟨⟨_, _, l66, ok66, rfl, hb66, by rw [← hx66]; exact (uniB_bind c57 c61 hu2).symm⟩, rfl⟩
     ·have d61 : a2.kind ≠ 4 := cd_ c61
      have hk4 : ¬ ((a2.kind == 4) = true) := by rw [c61]; decide
      refine au [1,8,1,0,1,2,0,7,2,8,0,7,0,8,6,2,0,6,0,3,0,4,1,2,0,6,0,3,1,5] h ?_; intro a w h
      obtain ⟨Hg5, leHg5, h, hfg5⟩ := h.frz 0
      obtain ⟨Hg4, leHg4, h, hfg4⟩ := h.frz 0
      have l_H_Hg4 : LE H Hg4 := ((le12.trans le15).trans leHg5).trans leHg4
      refine lp (β := Nat × GH × Bool × (List Bd) × (Option Addr) × Nat) (fun x a w => match x with | (k, HL0, ok1, l1, A1, c1) => ((k ≤ a2.kids.length) ∧ (LE Hg4 HL0) ∧ (BdS HL0 A1 c1 l1 ∧ UAt f l a2 b2 r k ok1 l1)) ∧ S E HL0 102 [] [(0, .slice A1 l1.length c1), (4, .pointer (some ⟨g4, 0, none⟩)), (5, .pointer (some ⟨g5, 0, none⟩)), (6, .slice none 0 0), (7, .bool false), (8, .bool ok1), (9, .int .i64 (k : Int))] (L) a w)
       (fun x => match x with | (k, HL0, ok1, l1, A1, c1) => a2.kids.length - k) (0, Hg4, (a2.kind == b2.kind), l, A, c) ⟨⟨Nat.zero_le _, LE.rfl, ⟨BdS.up hl l_H_Hg4, UAt.start hap2 hu2 hk4⟩⟩, h.to 0 _⟩ ?_
      rintro ⟨k, HL0, ok1, l1, A1, c1⟩ a w ⟨⟨hk, leHL0, hi⟩, h⟩
      obtain ⟨hb1, hat⟩ := hi
      have hkl := kids_len_lt a2
      have hks := hap2.sa
      refine au [0,4,1,2,0,0] h ?_; intro a w h
      refine h.spl (fun c74 h => ?_) (fun c74 h => ?_)
      ·refine au [0,0,0,0,0,7] h ?_; intro a w h
       refine ldH t1_29 (Hc.of (leHL0 _ _ hfg4) rfl) h fun a w h => ?_
       refine au [6,0,6,4,4,8,0,3] h ?_; intro a w h
       refine cdB h (fun c81 => ?_) (fun c81 => ?_)
       ·have d81 : k < a2.kids.length := cd_ c81
        refine au [1,8,1,0,0,4,1,5] h ?_
        rw [c74] at hat
        obtain ⟨hj2, hua, r1, hr1, hnext⟩ := hat.kid hap2 hk4 (by omega)
        refine rgd [] [] [5] [2, 5, 7, 10] 2 mix (by kernel_rfl) h (fun a w h => ?_)
        refine au [0,0,0,7] h ?_; intro a w h
        refine ldHD t1_29 (Hc.of (leHL0 _ _ hfg4) rfl) h fun a w h => ?_
        refine mv h fun a w h => ?_
        have l_H15_HL0 : LE H15 HL0 := (leHg5.trans leHg4).trans leHL0
        have hj89 : k < a2.kids.length := by first | assumption | omega | (simp; done) | (simp; omega)
        obtain ⟨g89, o89, A89_0, c89_0, e89, hv89, hc89⟩ := HS.get (HS.up hk15_0 l_H15_HL0) hj89
        obtain ⟨_, _, q89, hk89_0⟩ := hv89; cases q89
        refine iaE sli29 sz31 rfl hj89 e89 h fun a w h => ?_
        refine ldHND tN31 rfl hc89 h fun a w h => ?_
        refine fa fl31_2 (r := 2) h fun a w h => ?_
        have l_Hg5_HL0 : LE Hg5 HL0 := leHg4.trans leHL0
        refine ldHD t1_29 (Hc.of (l_Hg5_HL0 _ _ hfg5) rfl) h fun a w h => ?_
        refine mv h fun a w h => ?_
        have l_H12_HL0 : LE H12 HL0 := ((le15.trans leHg5).trans leHg4).trans leHL0
        have hj94 : k < b2.kids.length := by first | assumption | omega | (simp; done) | (simp; omega)
        obtain ⟨g94, o94, A94_0, c94_0, e94, hv94, hc94⟩ := HS.get (HS.up hk12_0 l_H12_HL0) hj94
        obtain ⟨_, _, q94, hk94_0⟩ := hv94; cases q94
        refine iaE sli29 sz31 rfl hj94 e94 h fun a w h => ?_
        refine ldHND tN31 rfl hc94 h fun a w h => ?_
        refine cl bod168 (ih _ _ _ _ _ _ _ _ E HL0 _ hr1 hua hb1 ⟨A89_0, c89_0, rfl, hk89_0⟩ ⟨A94_0, c94_0, rfl, hk94_0⟩) h (fun r96 H96 L96 a w le96 R h => ?_)
        obtain ⟨⟨A96, c96, l96, ok96, rfl, hb96, hx96⟩, rfl⟩ := R
        refine au [0,0,4,7,4,7,0,6,0,6,1,1,1,7,1,0,0,5,0,0] h ?_; intro a w h
        refine inc ?_ h fun a w h => ?_
        ·omega
        refine au [0,6,0,3] h ?_; intro a w h
        have l_Hg4_H96 : LE Hg4 H96 := leHL0.trans le96
        exact ⟨((k + 1), H96, ok96, l96, A96, c96), ⟨⟨by omega, l_Hg4_H96, ⟨hb96, hnext _ _ hx96⟩⟩, h.to 0 _⟩, by show _ - (k + 1) < _ - k; omega⟩
       ·have d81 : a2.kids.length ≤ k := cd_ c81
        refine au [2,5,2,2,2,2,2,3,1,0,0,4,1,2,0,0,7,1,0,3] h ?_; intro a w h
        refine cdB h (fun c100 => ?_) (fun c100 => ?_)
        ·have d100 : ok1 = false := cd_ c100
         exact absurd c100 (by rw [c74]; decide)
        ·have d100 : ok1 = true := cd_ c100
         refine au [1,8,1,0,1,2,0,0,0,6,0,6,0,3,1,3] h ?_; intro a w h
         have l_H_HL0 : LE H HL0 := (((le12.trans le15).trans leHg5).trans leHg4).trans leHL0
         exact fin (rs := [.tmp 6, .tmp 7]) (vs := [_, _]) h rfl (.tmp rfl (.tmp rfl .nil)) rfl l_H_HL0 ⟨LE.rfl, h.st.drop 0⟩ ⟨⟨_, _, l1, true, rfl, hb1, by have := hat.done (fun _ => by omega); rw [c74] at this; exact this⟩, rfl⟩
      ·refine au [0,0,0,1,0,1,0,1,0,1,0,1,5,0,0,3,2,1,2,5,2,2,2,2,2,3,1,0,0,4,1,2,0,0,7,1,0,3] h ?_; intro a w h
       refine cdB h (fun c100 => ?_) (fun c100 => ?_)
       ·have d100 : ok1 = false := cd_ c100
        refine au [1,2,0,6,0,6,0,3,1,3,1,4] h ?_; intro a w h
        have l_H_HL0 : LE H HL0 := (((le12.trans le15).trans leHg5).trans leHg4).trans leHL0
        exact fin (rs := [.tmp 6, .tmp 7]) (vs := [_, _]) h rfl (.tmp rfl (.tmp rfl .nil)) rfl l_H_HL0 ⟨LE.rfl, h.st.drop 0⟩ ⟨⟨none, 0, [], false, rfl, RS.nil _ _ _, by have := hat.done (fun e => by rw [c74] at e; cases e); rw [c74] at this; exact this⟩, rfl⟩
       ·have d100 : ok1 = true := cd_ c100
        exact absurd c100 (by rw [c74]; decide)
  ·obtain ⟨a2, ea⟩ : ∃ z, z = p1 := ⟨_, rfl⟩
   obtain ⟨b2, eb⟩ : ∃ z, z = q1 := ⟨_, rfl⟩
   have hw : swp p1 q1 = false := (swp_bif p1 q1).symm.trans c40
   have hu2 : uniB f l a2 b2 = some r := by rw [ea, eb, e1, e2]; rw [e1, e2] at hw; rw [← uni_F hw]; exact hu
   have hap2 : UApp l a2 b2 := by rw [ea, eb]; exact hap
   rw [← ea, ← eb] at h
   rw [← ea] at hk12_0
   rw [← eb] at hk15_0
   refine au [1,8,1,0,0,4] h ?_
   refine sqc (fun a w => S E H15 102 [] [(0, .slice A l.length c), (4, .pointer (some ⟨g4, 0, none⟩)), (5, .pointer (some ⟨g5, 0, none⟩)), (6, .slice none 0 0), (7, .bool false), (57, .bool (((a2.kind : Int) == 4) && (((b2.kind : Int) == 4) && ((a2.n : Int) == b2.n))))] (.obj g5 (.cells #[.int .i64 b2.kind, .int .i64 b2.n, .slice A15_0 b2.kids.length c15_0] 31 (0, 0)) :: .obj g4 (.cells #[.int .i64 a2.kind, .int .i64 a2.n, .slice A12_0 a2.kids.length c12_0] 31 (0, 0)) :: L) a w) ?_ ?_
   ·refine au [0,5,0,7,2,8,6,2] h ?_; intro a w h
    refine h.spl (fun c45 h => ?_) (fun c45 h => ?_)
    ·have d45 : a2.kind = 4 := cd_ c45
     refine au [0,0,0,7,0,8,6,2,4,8] h ?_; intro a w h
     refine h.spl (fun c50 h => ?_) (fun c50 h => ?_)
     ·have d50 : b2.kind = 4 := cd_ c50
      refine au [0,0,0,7,2,8,0,7,0,8,6,2,4,8,0,3] h ?_; intro a w h
      exact (by show S _ _ _ _ _ _ _ _; rw [show (.bool (((a2.kind : Int) == 4) && (((b2.kind : Int) == 4) && ((a2.n : Int) == b2.n))) : Value) = .bool ((a2.n : Int) == b2.n) from Eq.symm (by first | ((try rw [c45]) <;> (try rw [c50]) <;> (try simp only [Bool.true_or, Bool.or_true, Bool.false_or, Bool.or_false, Bool.true_and, Bool.and_true, Bool.false_and, Bool.and_false, Bool.not_true, Bool.not_false, cond_true, cond_false]); done) | (exfalso; omega))]; exact h.to 0 _)
     ·have d50 : b2.kind ≠ 4 := cd_ c50
      refine au [0,0,0,1,0,1,0,1,0,1,0,1,5,0,0,3] h ?_; intro a w h
      exact (by show S _ _ _ _ _ _ _ _; rw [show (.bool (((a2.kind : Int) == 4) && (((b2.kind : Int) == 4) && ((a2.n : Int) == b2.n))) : Value) = .bool false from Eq.symm (by first | ((try rw [c45]) <;> (try rw [c50]) <;> (try simp only [Bool.true_or, Bool.or_true, Bool.false_or, Bool.or_false, Bool.true_and, Bool.and_true, Bool.false_and, Bool.and_false, Bool.not_true, Bool.not_false, cond_true, cond_false]); done) | (exfalso; omega))]; exact h.to 0 _)
    ·have d45 : a2.kind ≠ 4 := cd_ c45
     refine au [0,0,0,1,0,1,0,1,5,0,0,0,0,1,0,1,0,1,0,1,0,1,5,0,0,3] h ?_; intro a w h
     exact (by show S _ _ _ _ _ _ _ _; rw [show (.bool (((a2.kind : Int) == 4) && (((b2.kind : Int) == 4) && ((a2.n : Int) == b2.n))) : Value) = .bool false from Eq.symm (by first | ((try rw [c45]) <;> (try simp only [Bool.true_or, Bool.or_true, Bool.false_or, Bool.or_false, Bool.true_and, Bool.and_true, Bool.false_and, Bool.and_false, Bool.not_true, Bool.not_false, cond_true, cond_false]); done) | (exfalso; omega))]; exact h.to 0 _)
   ·rintro a w h
    refine cdB h (fun c57 => ?_) (fun c57 => ?_)
    ·refine au [1,2,0,0,0,6,0,6,0,3,1,3,1,4] h ?_; intro a w h
     exact fin (rs := [.tmp 6, .tmp 7]) (vs := [_, _]) h rfl (.tmp rfl (.tmp rfl .nil)) rfl l_H_H15 ⟨LE.rfl, h.st.drop 2⟩ ⟨⟨_, _, l, true, rfl, BdS.up hl l_H_H15, uniB_same c57 hu2⟩, rfl⟩
    ·refine au [1,8,1,0,0,4,1,2,0,7,2,8,6,2,0,3] h ?_; intro a w h
     refine cdB h (fun c61 => ?_) (fun c61 => ?_)
     ·have d61 : a2.kind = 4 := cd_ c61
      refine au [1,2,0,0,0,7,2,8,3,3] h ?_; intro a w h
      refine cl bod206 (bind2_ok l a2.n b2 _ _ _ _ E H15 _ hap2 (BdS.up hl l_H_H15) ⟨A15_0, c15_0, rfl, hk15_0⟩) h (fun r66 H66 L66 a w le66 R h => ?_)
      obtain ⟨⟨A66, c66, l66, ok66, rfl, hb66, hx66⟩, rfl⟩ := R
      refine au [4,7,4,7,0,6,0,6,0,3,1,3,1,4] h ?_; intro a w h
      have l_H_H66 : LE H H66 := (le12.trans le15).trans le66
      exact fin (rs := [.tmp 6, .tmp 7]) (vs := [_, _]) h rfl (.tmp rfl (.tmp rfl .nil)) rfl l_H_H66 ⟨LE.rfl, h.st.drop 2⟩ ⟨⟨_, _, l66, ok66, rfl, hb66, by rw [← hx66]; exact (uniB_bind c57 c61 hu2).symm⟩, rfl⟩
     ·have d61 : a2.kind ≠ 4 := cd_ c61
      have hk4 : ¬ ((a2.kind == 4) = true) := by rw [c61]; decide
      refine au [1,8,1,0,1,2,0,7,2,8,0,7,0,8,6,2,0,6,0,3,0,4,1,2,0,6,0,3,1,5] h ?_; intro a w h
      obtain ⟨Hg5, leHg5, h, hfg5⟩ := h.frz 0
      obtain ⟨Hg4, leHg4, h, hfg4⟩ := h.frz 0
      have l_H_Hg4 : LE H Hg4 := ((le12.trans le15).trans leHg5).trans leHg4
      refine lp (β := Nat × GH × Bool × (List Bd) × (Option Addr) × Nat) (fun x a w => match x with | (k, HL0, ok1, l1, A1, c1) => ((k ≤ a2.kids.length) ∧ (LE Hg4 HL0) ∧ (BdS HL0 A1 c1 l1 ∧ UAt f l a2 b2 r k ok1 l1)) ∧ S E HL0 102 [] [(0, .slice A1 l1.length c1), (4, .pointer (some ⟨g4, 0, none⟩)), (5, .pointer (some ⟨g5, 0, none⟩)), (6, .slice none 0 0), (7, .bool false), (8, .bool ok1), (9, .int .i64 (k : Int))] (L) a w)
       (fun x => match x with | (k, HL0, ok1, l1, A1, c1) => a2.kids.length - k) (0, Hg4, (a2.kind == b2.kind), l, A, c) ⟨⟨Nat.zero_le _, LE.rfl, ⟨BdS.up hl l_H_Hg4, UAt.start hap2 hu2 hk4⟩⟩, h.to 0 _⟩ ?_
      rintro ⟨k, HL0, ok1, l1, A1, c1⟩ a w ⟨⟨hk, leHL0, hi⟩, h⟩
      obtain ⟨hb1, hat⟩ := hi
      have hkl := kids_len_lt a2
      have hks := hap2.sa
      refine au [0,4,1,2,0,0] h ?_; intro a w h
      refine h.spl (fun c74 h => ?_) (fun c74 h => ?_)
      ·refine au [0,0,0,0,0,7] h ?_; intro a w h
       refine ldH t1_29 (Hc.of (leHL0 _ _ hfg4) rfl) h fun a w h => ?_
       refine au [6,0,6,4,4,8,0,3] h ?_; intro a w h
       refine cdB h (fun c81 => ?_) (fun c81 => ?_)
       ·have d81 : k < a2.kids.length := cd_ c81
        refine au [1,8,1,0,0,4,1,5] h ?_
        rw [c74] at hat
        obtain ⟨hj2, hua, r1, hr1, hnext⟩ := hat.kid hap2 hk4 (by omega)
        refine rgd [] [] [5] [2, 5, 7, 10] 2 mix (by kernel_rfl) h (fun a w h => ?_)
        refine au [0,0,0,7] h ?_; intro a w h
        refine ldHD t1_29 (Hc.of (leHL0 _ _ hfg4) rfl) h fun a w h => ?_
        refine mv h fun a w h => ?_
        have l_H12_HL0 : LE H12 HL0 := ((le15.trans leHg5).trans leHg4).trans leHL0
        have hj89 : k < a2.kids.length := by first | assumption | omega | (simp; done) | (simp; omega)
        obtain ⟨g89, o89, A89_0, c89_0, e89, hv89, hc89⟩ := HS.get (HS.up hk12_0 l_H12_HL0) hj89
        obtain ⟨_, _, q89, hk89_0⟩ := hv89; cases q89
        refine iaE sli29 sz31 rfl hj89 e89 h fun a w h => ?_
        refine ldHND tN31 rfl hc89 h fun a w h => ?_
        refine fa fl31_2 (r := 2) h fun a w h => ?_
        have l_Hg5_HL0 : LE Hg5 HL0 := leHg4.trans leHL0
        refine ldHD t1_29 (Hc.of (l_Hg5_HL0 _ _ hfg5) rfl) h fun a w h => ?_
        refine mv h fun a w h => ?_
        have l_H15_HL0 : LE H15 HL0 := (leHg5.trans leHg4).trans leHL0
        have hj94 : k < b2.kids.length := by first | assumption | omega | (simp; done) | (simp; omega)
        obtain ⟨g94, o94, A94_0, c94_0, e94, hv94, hc94⟩ := HS.get (HS.up hk15_0 l_H15_HL0) hj94
        obtain ⟨_, _, q94, hk94_0⟩ := hv94; cases q94
        refine iaE sli29 sz31 rfl hj94 e94 h fun a w h => ?_
        refine ldHND tN31 rfl hc94 h fun a w h => ?_
        refine cl bod168 (ih _ _ _ _ _ _ _ _ E HL0 _ hr1 hua hb1 ⟨A89_0, c89_0, rfl, hk89_0⟩ ⟨A94_0, c94_0, rfl, hk94_0⟩) h (fun r96 H96 L96 a w le96 R h => ?_)
        obtain ⟨⟨A96, c96, l96, ok96, rfl, hb96, hx96⟩, rfl⟩ := R
        refine au [0,0,4,7,4,7,0,6,0,6,1,1,1,7,1,0,0,5,0,0] h ?_; intro a w h
        refine inc ?_ h fun a w h => ?_
        ·omega
        refine au [0,6,0,3] h ?_; intro a w h
        have l_Hg4_H96 : LE Hg4 H96 := leHL0.trans le96
        exact ⟨((k + 1), H96, ok96, l96, A96, c96), ⟨⟨by omega, l_Hg4_H96, ⟨hb96, hnext _ _ hx96⟩⟩, h.to 0 _⟩, by show _ - (k + 1) < _ - k; omega⟩
       ·have d81 : a2.kids.length ≤ k := cd_ c81
        refine au [2,5,2,2,2,2,2,3,1,0,0,4,1,2,0,0,7,1,0,3] h ?_; intro a w h
        refine cdB h (fun c100 => ?_) (fun c100 => ?_)
        ·have d100 : ok1 = false := cd_ c100
         exact absurd c100 (by rw [c74]; decide)
        ·have d100 : ok1 = true := cd_ c100
         refine au [1,8,1,0,1,2,0,0,0,6,0,6,0,3,1,3] h ?_; intro a w h
         have l_H_HL0 : LE H HL0 := (((le12.trans le15).trans leHg5).trans leHg4).trans leHL0
         exact fin (rs := [.tmp 6, .tmp 7]) (vs := [_, _]) h rfl (.tmp rfl (.tmp rfl .nil)) rfl l_H_HL0 ⟨LE.rfl, h.st.drop 0⟩ ⟨⟨_, _, l1, true, rfl, hb1, by have := hat.done (fun _ => by omega); rw [c74] at this; exact this⟩, rfl⟩
      ·refine au [0,0,0,1,0,1,0,1,0,1,0,1,5,0,0,3,2,1,2,5,2,2,2,2,2,3,1,0,0,4,1,2,0,0,7,1,0,3] h ?_; intro a w h
       refine cdB h (fun c100 => ?_) (fun c100 => ?_)
       ·have d100 : ok1 = false := cd_ c100
        refine au [1,2,0,6,0,6,0,3,1,3,1,4] h ?_; intro a w h
        have l_H_HL0 : LE H HL0 := (((le12.trans le15).trans leHg5).trans leHg4).trans leHL0
        exact fin (rs := [.tmp 6, .tmp 7]) (vs := [_, _]) h rfl (.tmp rfl (.tmp rfl .nil)) rfl l_H_HL0 ⟨LE.rfl, h.st.drop 0⟩ ⟨⟨none, 0, [], false, rfl, RS.nil _ _ _, by have := hat.done (fun e => by rw [c74] at e; cases e); rw [c74] at this; exact this⟩, rfl⟩
       ·have d100 : ok1 = true := cd_ c100
        exact absurd c100 (by rw [c74]; decide)
theorem ordered_yes (l : List Bd) (A : Option Addr) (c : Nat) (E : World) (H : GH) (L : List It) (ho : Ord l) (hs : Sml l) (hl : BdS H A c l) :
   Ok Tryz.prog 167 #[.slice A l.length c] E H L fun r H' L' => r = .bool true ∧ L = L' :=
 Ok.mono (ordered_ok l A c E H L hl (by have := ord_len ho hs; omega) (fun b hb => by have := ho.small b hb; omega) (fun b hb x hx => wfJ (hl_nn _ (ho.right b hb) x hx) (by have := (hs b hb).2 x hx; omega))) fun _ _ _ _ hr => ⟨by rw [hr.1, ordB_iff.2 ho], hr.2⟩
theorem RightSh_yes (t : Sh) (v : Value) (E : World) (H : GH) (L : List It) (hr : t.right = true) (hs : t.size ≤ 1000000000) (hv : VSh H v t) :
   Ok Tryz.prog 55 #[v] E H L fun r H' L' => r = .bool true ∧ H = H' ∧ L = L' :=
 Ok.mono (RightSh_ok t v E H L hv (by omega)) fun _ _ _ _ h => ⟨by rw [h.1, hr], h.2⟩
theorem Unify_ok (f : Nat) (l : List Bd) (p q : Sh) (r : Option (List Bd)) (A : Option Addr) (c : Nat) (v v2 : Value) (E : World) (H : GH) (L : List It) (hu : uni f l p q = some r) (hua : UArg l p q) (hl : BdS H A c l) (hp : VSh H v p) (hq : VSh H v2 q) :
   Ok Tryz.prog 131 #[.slice A l.length c, v, v2] E H L fun r' H' L' => OptR2 H' r' r ∧ L = L' := by
 obtain ⟨Ap0, cp0, rfl, hp0⟩ := hp
 obtain ⟨Aq0, cq0, rfl, hq0⟩ := hq
 refine enter (N := 27) [(0, _), (1, _), (2, _)] Tryz.func131 rfl rfl rfl rfl fun a w h => ?_
 refine au [1,2] h ?_
 refine bxA h fun g4 a w h => ?_
 refine bxA h fun g5 a w h => ?_
 refine au [0,6,0,6,0,3,0,4] h ?_; intro a w h
 refine sqc (fun a w => S E H 27 [] [(0, .slice A l.length c), (4, .pointer (some ⟨g4, 0, none⟩)), (5, .pointer (some ⟨g5, 0, none⟩)), (6, .slice none 0 0), (7, .bool false), (20, .bool false)] (.obj g5 (.cells #[.int .i64 q.kind, .int .i64 q.n, .slice Aq0 q.kids.length cq0] 31 (0, 0)) :: .obj g4 (.cells #[.int .i64 p.kind, .int .i64 p.n, .slice Ap0 p.kids.length cp0] 31 (0, 0)) :: L) a w) ?_ ?_
 ·refine au [0,5,0,0] h ?_; intro a w h
  refine cl bod167 (ordered_yes l _ _ E H _ hua.ord hua.sml hl) h (fun r9 H9 L9 a w le9 R h => ?_)
  obtain ⟨rfl, rfl⟩ := R
  refine au [7,1,0,0,3,4] h ?_; intro a w h
  refine cl bod55 (RightSh_yes p _ E H9 _ (by first | exact hua.ra | exact hua.rb) (by first | exact hua.sa | exact hua.sb) ⟨Ap0, cp0, rfl, (HS.up hp0 le9)⟩) h (fun r13 H13 L13 a w le13 R h => ?_)
  obtain ⟨rfl, rfl, rfl⟩ := R
  refine au [7,1,5,0,0,0,3,3] h ?_; intro a w h
  refine cl bod55 (RightSh_yes q _ E H9 _ (by first | exact hua.ra | exact hua.rb) (by first | exact hua.sa | exact hua.sb) ⟨Aq0, cq0, rfl, (HS.up hq0 le9)⟩) h (fun r18 H18 L18 a w le18 R h => ?_)
  obtain ⟨rfl, rfl, rfl⟩ := R
  refine au [7,1,5,0,0,3] h ?_; intro a w h
  have h := h.less le9
  exact h.to 0 _
 ·rintro a w h
  refine au [2,1,1,8,1,0,1,2,0,0,3,4,3,3] h ?_; intro a w h
  refine cl bod168 (unify_ok f l p q r _ _ _ _ E H _ hu hua hl ⟨Ap0, cp0, rfl, hp0⟩ ⟨Aq0, cq0, rfl, hq0⟩) h (fun r24 H24 L24 a w le24 R h => ?_)
  obtain ⟨⟨A24, c24, l24, ok24, rfl, hb24, hx24⟩, rfl⟩ := R
  refine au [4,7,4,7,0,6,0,6,0,3,1,3] h ?_; intro a w h
  exact fin (rs := [.tmp 6, .tmp 7]) (vs := [_, _]) h rfl (.tmp rfl (.tmp rfl .nil)) rfl le24 ⟨LE.rfl, h.st.drop 2⟩ ⟨⟨_, _, l24, ok24, rfl, hb24, hx24⟩, rfl⟩
mutual
def Tr.bare : Tr → Tm
 | .mk kd nm n _ _ ks => .mk kd nm n (bareL ks)
def bareL : List Tr → List Tm
 | [] => []
 | t :: l => t.bare :: bareL l
end
theorem bareL_map : ∀ l : List Tr, bareL l = l.map Tr.bare
 | [] => rfl
 | t :: l => by simp [bareL, bareL_map l]
mutual
def Tr.size : Tr → Nat
 | .mk _ _ _ _ _ ks => 1 + sizeTL ks
def sizeTL : List Tr → Nat
 | [] => 0
 | t :: l => t.size + sizeTL l
end
theorem tr_size_le {t : Tr} {l : List Tr} (h : t ∈ l) : t.size ≤ sizeTL l := by
 induction l with
 | nil => cases h
 | cons u l ih =>
   simp only [sizeTL]
   cases h with
   | head => omega
   | tail _ h => have := ih h; omega
theorem tr_len_le (l : List Tr) : l.length ≤ sizeTL l := by
 induction l with
 | nil => simp
 | cons t l ih => simp only [sizeTL, List.length_cons]; have : 0 < t.size := by cases t; simp [Tr.size]; omega
                  omega
theorem walk_ok : ∀ (t : Tm) (v : Value) (E : World) (H : GH) (L : List It) (gbc gmc gwc gb gm : Nat) (fb fm : Bs → Option Value) (b : Bs → Nat), VT H v t → (∀ x, (fb x).getD (.int .i64 0) = .int .i64 ((b x : Nat) : Int)) → (∀ x, b x + t.size < 1000000000000) →
   (∀ x u, fm x = some u → ∃ n : Int, u = .int .i64 n) → Hc H gbc 0 (.map (some gb)) → Hc H gmc 0 (.map (some gm)) → Hc H gwc 0 (.func (.func 116) #[] #[.pointer (some ⟨gbc, 0, none⟩), .pointer (some ⟨gmc, 0, none⟩), .pointer (some ⟨gwc, 0, none⟩)]) →
   Ok Tryz.prog 116 #[v, .pointer (some ⟨gbc, 0, none⟩), .pointer (some ⟨gmc, 0, none⟩), .pointer (some ⟨gwc, 0, none⟩)] E H (.blk gb (IsMap encS fb) :: .blk gm (IsMap encS fm) :: L) fun r H' L' => r = .tuple #[] ∧ H = H' ∧ ∃ fb' fm', L' = .blk gb (IsMap encS fb') :: .blk gm (IsMap encS fm') :: L ∧
     (∀ x, (fb' x).getD (.int .i64 0) = .int .i64 ((b x : Nat) : Int)) ∧ (∀ x, (fm' x).isSome = ((fm x).isSome || t.fr b x)) ∧ (∀ x u, fm' x = some u → ∃ n : Int, u = .int .i64 n) := by
 intro t
 induction t using Tm.ind with
 | h kd nm nn ks ih =>
 intro v E H L gbc gmc gwc gb gm fb fm b hv hb hbs hmi hbc hmc hwc
 obtain ⟨A, c, rfl, hks⟩ := hv
 have hks : KS H A c ks := hks
 simp only [Tm.size] at hbs
 have hlen := length_le_sizeL ks
 have hb0 := hbs []
 refine enter (N := 57) [(0, _), (1, _), (2, _), (3, _)] Tryz.func116 rfl rfl rfl rfl fun a w h => ?_
 refine au [1,2] h ?_
 refine bxA h fun g4 a w h => ?_
 refine au [0,3] h ?_
 obtain ⟨Hf, leHf, h, hf4⟩ := h.frz 0
 have l_H_Hf : LE H Hf := leHf
 have hL := hks.up l_H_Hf
 refine sqc (fun a w => ∃ fm1, S E Hf 57 [] [(1, .pointer (some ⟨gbc, 0, none⟩)), (2, .pointer (some ⟨gmc, 0, none⟩)), (3, .pointer (some ⟨gwc, 0, none⟩)), (4, .pointer (some ⟨g4, 0, none⟩))] (.blk gb (IsMap encS fb) :: .blk gm (IsMap encS fm1) :: L) a w ∧ (∀ x, (fm1 x).isSome = ((fm x).isSome || ((kd == 2 && decide (b nm = 0)) && decide (x = nm)))) ∧ (∀ x u, fm1 x = some u → ∃ n : Int, u = .int .i64 n)) ?_ ?_
 ·refine au [1,2,0,7] h ?_; intro a w h
  refine ldH t1_3 (Hc.of (LE.rfl _ _ hf4) rfl) h fun a w h => ?_
  refine eqi h fun a w h => ?_
  refine h.spl (fun c10 h => ?_) (fun c10 h => ?_)
  ·refine mv h fun a w h => ?_
   refine ldH t1_209 (hbc.mono l_H_Hf) h fun a w h => ?_
   refine fa fl26_1 (r := 1) h fun a w h => ?_
   refine ldH t1_9 (Hc.of (LE.rfl _ _ hf4) rfl) h fun a w h => ?_
   refine lk1 (f := fb) (q := nm) 0 keyS mapSI zr3 h fun a w h => ?_
   rw [hb nm] at h
   refine au [6,2,4,8,0,3] h ?_; intro a w h
   refine cdB h (fun c17 => ?_) (fun c17 => ?_)
   ·refine rg0 ?_
    refine ldH t1_209 (hmc.mono l_H_Hf) h fun a w h => ?_
    refine fa fl26_1 (r := 1) h fun a w h => ?_
    refine ldH t1_9 (Hc.of (LE.rfl _ _ hf4) rfl) h fun a w h => ?_
    refine lk1 (f := fm) (q := nm) 1 keyS mapSI zr3 h fun a w h => ?_
    obtain ⟨n0, hn0⟩ : ∃ n : Int, (fm nm).getD (.int .i64 0) = .int .i64 n := by
     cases hx : fm nm with
     | none => exact ⟨0, rfl⟩
     | some u => obtain ⟨n, rfl⟩ := hmi _ _ hx; exact ⟨n, rfl⟩
    rw [hn0] at h
    refine add h fun a w h => ?_
    have h := h.pull 1 rfl rfl
    refine mu 0 keyS mapSI h fun a w h => ?_
    have h : S _ _ _ _ _ (.blk _ (IsMap encS (upd fm nm (some _))) :: _) _ _ := h
    refine au [0,3] h ?_
    have h := h.pull 1 rfl rfl
    have k2 : kd = 2 := eq_of_beq c10
    have b0 : b nm = 0 := by have := eq_of_beq c17; omega
    refine ⟨_, h.to 0 _, fun x => ?_, fun x u hu => ?_⟩
    ·unfold upd; rw [k2, b0]; by_cases e : x = nm <;> simp [e]
    ·unfold upd at hu; split at hu; exact ⟨_, (Option.some.inj hu).symm⟩; exact hmi x u hu
   ·refine au [1,8,1,0] h ?_
    have h := h.pull 1 rfl rfl
    have h := h.pull 1 rfl rfl
    refine ⟨fm, h.to 0 _, fun x => ?_, hmi⟩
    have b0 : b nm ≠ 0 := by have := ne_of_beq_false c17; omega
    simp [b0]
  ·refine au [0,0,0,1,0,1,0,1,0,1,0,1,5,0,0,3,2,1,1,8,1,0] h ?_; intro a w h
   have h := h.pull 1 rfl rfl
   have h := h.pull 1 rfl rfl
   refine ⟨fm, h.to 0 _, fun x => ?_, hmi⟩
   have k2 : kd ≠ 2 := ne_of_beq_false c10
   simp [k2]
 ·rintro a w ⟨fm1, h, hm1, hi1⟩
  refine au [1,2,0,7] h ?_; intro a w h
  refine ldH t1_24 (Hc.of (LE.rfl _ _ hf4) rfl) h fun a w h => ?_
  refine au [6,0,0,0,0,3,1,5] h ?_; intro a w h
  refine lp (β := Nat × (Bs → Option Value) × (Bs → Option Value)) (fun x a w => match x with | (k, fb1, fm2) => (k ≤ ks.length ∧ (∀ x, (fb1 x).getD (.int .i64 0) = .int .i64 ((b x : Nat) : Int)) ∧ (∀ x, (fm2 x).isSome = ((fm x).isSome || (((kd == 2 && decide (b nm = 0)) && decide (x = nm)) || frT (bnd kd) nm ks k b x))) ∧ (∀ x u, fm2 x = some u → ∃ n : Int, u = .int .i64 n)) ∧ S E Hf 57 [] [(1, .pointer (some ⟨gbc, 0, none⟩)), (2, .pointer (some ⟨gmc, 0, none⟩)), (3, .pointer (some ⟨gwc, 0, none⟩)), (4, .pointer (some ⟨g4, 0, none⟩)), (26, .int .i64 (k : Int)), (25, .int .i64 (ks.length : Int)), (24, .slice A ks.length c)] (.blk gb (IsMap encS fb1) :: .blk gm (IsMap encS fm2) :: L) a w)
   (fun x => match x with | (k, fb1, fm2) => ks.length - k) (0, fb, fm1) ⟨⟨Nat.zero_le _, hb, fun x => by rw [hm1 x, frT_zero, Bool.or_false], hi1⟩, h.to 0 _⟩ ?_
  rintro ⟨k, fb1, fm2⟩ a w ⟨pre, h⟩
  obtain ⟨hk, hb1, hm2, hi2⟩ := pre
  refine au [1,2,6,4,0,3,0,4] h ?_; intro a w h
  refine cdB h (fun c27 => ?_) (fun c27 => ?_)
  ·have c27 : k < ks.length := by simpa using c27
   obtain ⟨g, off, A2, c2, rfl, hvt, hcell⟩ := KS.get hL c27
   have hsz := size_get_le c27
   refine au [1,8,1,0,0,4,1,5,1,2,0,0] h ?_; intro a w h
   refine ia sli24 sz26 rfl c27 h fun a w h => ?_
   refine ldHN tN26 rfl hcell h fun a w h => ?_
   refine al zr26 h fun g6 a w h => ?_
   refine au [0,6,5,5,0,2] h ?_; intro a w h
   refine ldHN tN26 rfl (Hc.all (LE.rfl _ _ hf4)) h fun a w h => ?_
   refine cl bod117 (Binder_ok _ _ _ _ E Hf _) h fun r32 H32 L32 a w le32 R h => ?_
   obtain ⟨rfl, rfl, rfl⟩ := R
   refine h.spl (fun c32 h => ?_) (fun c32 h => ?_)
   ·refine au [0,0,0,0,0,7] h ?_; intro a w h
    refine ldH t1_24 (Hc.of (LE.rfl _ _ hf4) rfl) h fun a w h => ?_
    refine ln sli24 h fun a w h => ?_
    refine sbr ((ks.length : Int) - 1) (w64 (by omega) (by omega)) h fun a w h => ?_
    refine au [6,2,4,8,0,6,0,3,0,4,1,2,0,0,0,3] h ?_; intro a w h
    refine cdB h (fun c41 => ?_) (fun c41 => ?_)
    ·refine rg0 ?_
     refine ldH t1_209 (hbc.mono l_H_Hf) h fun a w h => ?_
     refine fa fl26_1 (r := 1) h fun a w h => ?_
     refine ldH t1_9 (Hc.of (LE.rfl _ _ hf4) rfl) h fun a w h => ?_
     refine lk1 (f := fb1) (q := nm) 1 keyS mapSI zr3 h fun a w h => ?_
     rw [hb1 nm] at h
     have hbn := hbs nm
     refine adr ((b nm + 1 : Nat) : Int) ?_ h fun a w h => ?_
     ·rw [w64 (by omega) (by omega)]; omega
     have h := h.pull 1 rfl rfl
     refine mu 0 keyS mapSI h fun a w h => ?_
     have h : S _ _ _ _ _ (.blk _ (IsMap encS (upd fb1 nm (some (.int .i64 ((b nm + 1 : Nat) : Int))))) :: _) _ _ := h
     obtain ⟨fb2, hfb2⟩ : ∃ f, f = upd fb1 nm (some (.int .i64 ((b nm + 1 : Nat) : Int))) := ⟨_, rfl⟩
     rw [← hfb2] at h
     have hb2 : ∀ x, (fb2 x).getD (.int .i64 0) = .int .i64 ((inc1 b nm x : Nat) : Int) := fun x => by rw [hfb2]; unfold upd inc1; split; (rename_i e; subst e; rfl); exact hb1 x
     refine au [0,2] h ?_
     refine ldH t1_210 (hwc.mono l_H_Hf) h fun a w h => ?_
     refine ldW 1 tN26 h fun a w h => ?_
     have h := h.pull 2 rfl rfl
     have h := h.pull 1 rfl rfl
     refine cl bod116 (ih _ (List.getElem_mem c27) _ E Hf _ gbc gmc gwc gb gm fb2 fm2 (inc1 b nm) hvt hb2 (fun x => ?_) hi2 (hbc.mono l_H_Hf) (hmc.mono l_H_Hf) (hwc.mono l_H_Hf)) h fun r49 H49 L49 a w le49 R h => ?_
     ·have := hbs x; unfold inc1; split <;> omega
     obtain ⟨rfl, rfl, fb4, fm3, rfl, hb4, hm3, hi3⟩ := R
     refine au [0,2,0,0,0,3] h ?_; intro a w h
     refine cdB h (fun c50 => ?_) (fun c50 => ?_)
     ·refine rg0 ?_
      refine ldH t1_209 (hbc.mono l_H_Hf) h fun a w h => ?_
      refine fa fl26_1 (r := 1) h fun a w h => ?_
      refine ldH t1_9 (Hc.of (LE.rfl _ _ hf4) rfl) h fun a w h => ?_
      refine lk1 (f := fb4) (q := nm) 0 keyS mapSI zr3 h fun a w h => ?_
      have e4 : (fb4 nm).getD (.int .i64 0) = .int .i64 ((b nm + 1 : Nat) : Int) := by rw [hb4 nm]; unfold inc1; rw [if_pos rfl]
      rw [e4] at h
      refine sbr ((b nm : Nat) : Int) ?_ h fun a w h => ?_
      ·have hbn := hbs nm; rw [w64 (by omega) (by omega)]; omega
      refine mu 0 keyS mapSI h fun a w h => ?_
      have h : S _ _ _ _ _ (.blk _ (IsMap encS (upd fb4 nm (some (.int .i64 ((b nm : Nat) : Int))))) :: _) _ _ := h
      obtain ⟨fb5, hfb5⟩ : ∃ f, f = upd fb4 nm (some (.int .i64 ((b nm : Nat) : Int))) := ⟨_, rfl⟩
      rw [← hfb5] at h
      refine au [1,1,1,7,1,0,0,5] h ?_
      have h := h.pull 1 rfl rfl
      have h := h.pull 1 rfl rfl
      have h := h.del 2
      have hin : (bnd kd && k + 1 == ks.length) = true := by rw [show bnd kd = true from c32]; have := eq_of_beq c41; simp; omega
      have hb3 : ∀ x, (fb5 x).getD (.int .i64 0) = .int .i64 ((b x : Nat) : Int) := fun x => by
       rw [hfb5]; unfold X.upd; split
       ·rename_i e; subst e; rfl
       ·rename_i e; have := hb4 x; unfold inc1 at this; rw [if_neg e] at this; exact this
      obtain ⟨fb3, hfb3⟩ : ∃ f, f = fb5 := ⟨_, rfl⟩
      rw [← hfb3] at h hb3
      refine inc ?_ h fun a w h => ?_
      ·omega
      refine au [0,0,0,3] h ?_; intro a w h
      exact ⟨(k + 1, fb3, fm3), ⟨⟨by omega, hb3, fun x => by rw [hm3 x, hm2 x, frT_succ _ _ _ _ _ c27, hin]; simp only [Bool.or_assoc]; rfl, hi3⟩, h.to 0 _⟩, by show _ - (k + 1) < _ - k; omega⟩
     ·exact absurd (c41.symm.trans c50) (by decide)
    ·refine au [1,8,1,0,1,2] h ?_
     refine ldH t1_210 (hwc.mono l_H_Hf) h fun a w h => ?_
     refine ldW 0 tN26 h fun a w h => ?_
     have h := h.pull 2 rfl rfl
     have h := h.pull 2 rfl rfl
     refine cl bod116 (ih _ (List.getElem_mem c27) _ E Hf _ gbc gmc gwc gb gm fb1 fm2 b hvt hb1 (fun x => ?_) hi2 (hbc.mono l_H_Hf) (hmc.mono l_H_Hf) (hwc.mono l_H_Hf)) h fun r49 H49 L49 a w le49 R h => ?_
     ·have := hbs x; omega
     obtain ⟨rfl, rfl, fb4, fm3, rfl, hb4, hm3, hi3⟩ := R
     refine au [0,2,0,0,0,3] h ?_; intro a w h
     refine cdB h (fun c50 => ?_) (fun c50 => ?_)
     ·exact absurd (c41.symm.trans c50) (by decide)
     ·refine au [1,8,1,7,1,0,0,5] h ?_
      have h := h.pull 1 rfl rfl
      have h := h.pull 1 rfl rfl
      have h := h.del 2
      have hin : (bnd kd && k + 1 == ks.length) = false := by rw [show bnd kd = true from c32]; have := ne_of_beq_false c41; simp; omega
      have fb3E := hb4
      obtain ⟨fb3, hfb3⟩ : ∃ f, f = fb4 := ⟨_, rfl⟩
      rw [← hfb3] at h
      have hb3 : ∀ x, (fb3 x).getD (.int .i64 0) = .int .i64 ((b x : Nat) : Int) := by rw [hfb3]; exact hb4
      refine inc ?_ h fun a w h => ?_
      ·omega
      refine au [0,0,0,3] h ?_; intro a w h
      exact ⟨(k + 1, fb3, fm3), ⟨⟨by omega, hb3, fun x => by rw [hm3 x, hm2 x, frT_succ _ _ _ _ _ c27, hin]; simp only [Bool.or_assoc]; rfl, hi3⟩, h.to 0 _⟩, by show _ - (k + 1) < _ - k; omega⟩
   ·refine au [0,0,0,1,0,1,0,1,0,1,0,1,0,1,5,0,0,6,0,3,0,4,1,2,0,0,0,3,2,1,1,8,1,0,1,2] h ?_; intro a w h
    refine ldH t1_210 (hwc.mono l_H_Hf) h fun a w h => ?_
    refine ldW 0 tN26 h fun a w h => ?_
    have h := h.pull 2 rfl rfl
    have h := h.pull 2 rfl rfl
    refine cl bod116 (ih _ (List.getElem_mem c27) _ E Hf _ gbc gmc gwc gb gm fb1 fm2 b hvt hb1 (fun x => ?_) hi2 (hbc.mono l_H_Hf) (hmc.mono l_H_Hf) (hwc.mono l_H_Hf)) h fun r49 H49 L49 a w le49 R h => ?_
    ·have := hbs x; omega
    obtain ⟨rfl, rfl, fb4, fm3, rfl, hb4, hm3, hi3⟩ := R
    refine au [0,2,0,0,0,3,2,1,1,8,1,7,1,0,0,5] h ?_; intro a w h
    have h := h.pull 1 rfl rfl
    have h := h.pull 1 rfl rfl
    have h := h.del 2
    have hin : (bnd kd && k + 1 == ks.length) = false := by rw [show bnd kd = false from c32]; rfl
    have fb3E := hb4
    obtain ⟨fb3, hfb3⟩ : ∃ f, f = fb4 := ⟨_, rfl⟩
    rw [← hfb3] at h
    have hb3 : ∀ x, (fb3 x).getD (.int .i64 0) = .int .i64 ((b x : Nat) : Int) := by rw [hfb3]; exact hb4
    refine inc ?_ h fun a w h => ?_
    ·omega
    refine au [0,0,0,3] h ?_; intro a w h
    exact ⟨(k + 1, fb3, fm3), ⟨⟨by omega, hb3, fun x => by rw [hm3 x, hm2 x, frT_succ _ _ _ _ _ c27, hin]; simp only [Bool.or_assoc]; rfl, hi3⟩, h.to 0 _⟩, by show _ - (k + 1) < _ - k; omega⟩
  ·have hkk : k = ks.length := by simp at c27; omega
   refine au [2,5,2,2,2,2,2,3] h ?_
   refine finN0 0 (h.less l_H_Hf) LE.rfl ?_
   refine ⟨rfl, rfl, fb1, fm2, rfl, hb1, fun x => ?_, hi2⟩
   rw [hm2 x, hkk, frT_all]; simp only [Tm.fr]
theorem Free_ok (t : Tm) (v : Value) (E : World) (H : GH) (L : List It) (hv : VT H v t) (hlg : t.long < 1000000000000) (hsz : t.size < 1000000000000) :
   Ok Tryz.prog 63 #[v] E H L fun r H' L' => ∃ A c ss, r = .slice A ss.length c ∧ H = H' ∧ L' = .row (.slice A ss.length c) 9 1 ss.length (ss.map encS) :: L ∧ IsSet ss (t.fr none0) := by
 have hv0 := hv
 obtain ⟨A, c, rfl, hks⟩ := hv
 have hv := hv0
 refine enter (N := 15) [(0, _)] Tryz.func63 rfl rfl rfl rfl fun a w h => ?_
 refine au [1,2] h ?_
 refine bxA h fun g1 a w h => ?_
 refine au [0,6,0,2] h ?_; intro a w h
 refine mk0 (enc := encS) h fun m6 a w h => ?_
 refine al zr209 h fun g3 a w h => ?_
 refine au [5,1,0,2] h ?_; intro a w h
 refine mk0 (enc := encS) h fun m7 a w h => ?_
 refine al zr209 h fun g4 a w h => ?_
 refine au [5,1,0,2] h ?_; intro a w h
 refine al zr210 h fun g5 a w h => ?_
 refine au [0,2,7,3,5,1,0,2] h ?_; intro a w h
 obtain ⟨H1, leH1, h, hfw⟩ := h.frz 0
 have l_H_H1 : LE H H1 := leH1
 obtain ⟨H2, leH2, h, hfb⟩ := h.frz 0
 have l_H_H2 : LE H H2 := l_H_H1.trans leH2
 have l_H1_H2 : LE H1 H2 := leH2
 obtain ⟨H3, leH3, h, hfm⟩ := h.frz 1
 have l_H_H3 : LE H H3 := l_H_H2.trans leH3
 have l_H1_H3 : LE H1 H3 := l_H1_H2.trans leH3
 have l_H2_H3 : LE H2 H3 := leH3
 have qb : Hc H3 g4 0 (.map (some m7)) := Hc.of (l_H2_H3 _ _ hfb) rfl
 have qm : Hc H3 g3 0 (.map (some m6)) := Hc.of hfm rfl
 have qw : Hc H3 g5 0 (.func (.func 116) #[] #[.pointer (some ⟨g4, 0, none⟩), .pointer (some ⟨g3, 0, none⟩), .pointer (some ⟨g5, 0, none⟩)]) := Hc.of (l_H1_H3 _ _ hfw) rfl
 refine ldH t1_210 (Hc.of (l_H1_H3 _ _ hfw) rfl) h fun a w h => ?_
 refine ldW 2 tN26 h fun a w h => ?_
 refine cl bod116 (walk_ok t _ E H3 _ g4 g3 g5 m7 m6 (fun _ => none) (fun _ => none) none0 (hv.mono l_H_H3) (fun _ => rfl) (fun x => by unfold none0; omega) (fun _ _ h => by cases h) qb qm qw) h fun r11 H11 L11 a w le11 R h => ?_
 obtain ⟨rfl, rfl, fb1, fm1, rfl, hb1, hm1, hi1⟩ := R
 have hm2 : ∀ x, (fm1 x).isSome = t.fr none0 x := fun x => by rw [hm1 x]; rfl
 refine au [0,2] h ?_
 refine ldH t1_209 (Hc.of (LE.rfl _ _ hfm) rfl) h fun a w h => ?_
 refine cl bod119 (keys_ok m6 E H3 _) h fun r13 H13 L13 a w le13 R h => ?_
 obtain ⟨g13, rfl, rfl, rfl⟩ := R
 refine cl bod118 (sorted_ok m6 g13 fm1 2 E H3 _ rfl rfl (fun x hx => by have := names_long t x (fr_names t _ x (by rw [← hm2]; exact hx)); omega) (fun l hl hs => by have := sub_len (m := t.names) hl (fun x hx => fr_names t _ x (by rw [← hm2]; exact hs x hx)); rw [names_len] at this; omega)) h fun r14 H14 L14 a w le14 R h => ?_
 obtain ⟨A14, c14, ss, rfl, rfl, rfl, hset⟩ := R
 refine au [0,6,0,3,1,3] h ?_; intro a w h
 have h := h.del 4
 have h := h.del 3
 have h := h.del 2
 have h := h.del 1
 refine fin1 2 0 (h.less l_H_H3) LE.rfl ?_
 exact ⟨A14, c14, ss, rfl, rfl, rfl, by rw [show (fun x => (fm1 x).isSome) = t.fr none0 from funext hm2] at hset; exact hset⟩
open Go.Proofs
theorem mapSS : mapT Tryz.prog 80 = some (9, 9) := by kernel_rfl
def RenOk (t : Tm) : Prop := ∀ (v : Value) (E : World) (H : GH) (L : List It) (gr gt : Nat) (σ : Bs → Option Bs) (f : Bs → Option Value) (n : Int), VT H v t → Laid H → (∀ x, f x = (σ x).map encS) → In64 n →
   Ok Tryz.prog 120 #[.pointer (some ⟨gr, 0, none⟩), v] E H (.obj gr (.cells #[.map (some gt), .int .i64 n] 217 (0, 0)) :: .blk gt (IsMap encS f) :: L) fun r H' L' => VT H' r (t.ren σ n).1 ∧ L' = .obj gr (.cells #[.map (some gt), .int .i64 (t.ren σ n).2] 217 (0, 0)) :: .blk gt (IsMap encS f) :: L
theorem kidr_ok (ks : List Tm) (k : Nat) (hk : k < ks.length) (hr : RenOk ks[k]) (A : Option Addr) (c p2 p3 p9 gr gt : Nat) (σ : Bs → Option Bs) (f : Bs → Option Value) (n : Int) (E : World) (H : GH) (L : List It) (hks : KS H A c ks) (h2 : Hc H p2 0 (.pointer (some ⟨gr, 0, none⟩)))
   (h3 : Hc H p3 3 (.slice A ks.length c)) (h9 : Hc H p9 0 (.int .i64 (k : Int))) (hL : Laid H) (hf : ∀ x, f x = (σ x).map encS) (hn : In64 n) : Ok Tryz.prog 157 #[.pointer (some ⟨p2, 0, none⟩), .pointer (some ⟨p3, 0, none⟩), .pointer (some ⟨p9, 0, none⟩)] E H (.obj gr (.cells #[.map (some gt), .int .i64 n] 217 (0, 0)) :: .blk gt (IsMap encS f) :: L)
     fun r H' L' => VT H' r (ks[k].ren σ n).1 ∧ L' = .obj gr (.cells #[.map (some gt), .int .i64 (ks[k].ren σ n).2] 217 (0, 0)) :: .blk gt (IsMap encS f) :: L := by
 obtain ⟨g, off, A2, c2, rfl, hvt, hcell⟩ := KS.get hks hk
 refine enter (N := 11) [(0, _), (1, _), (2, _)] Tryz.func157 rfl rfl rfl rfl fun a w h => ?_
 refine au [1,2] h ?_
 refine al zr26 h fun g3 a w h => ?_
 refine au [0,3,0,4] h ?_
 refine rgd [] [] [1, 0] [0, 2, 3, 5] 1 mix (by kernel_rfl) h (fun a w h => ?_)
 refine ldHD t1_215 (h2) h fun a w h => ?_
 refine fa fl26_3 (r := 3) h fun a w h => ?_
 refine ldHD t1_24 (h3) h fun a w h => ?_
 refine ldHD t1_3 (h9) h fun a w h => ?_
 refine ia sli24 sz26 rfl hk h fun a w h => ?_
 refine ldHND tN26 rfl hcell h fun a w h => ?_
 have h := h.pull 2 rfl rfl
 have h := h.pull 2 rfl rfl
 refine cl bod120 (hr _ E H _ gr gt σ f n hvt hL hf hn) h fun r10 H10 L10 a w le10 R h => ?_
 obtain ⟨⟨A10, c10, rfl, hk10⟩, rfl⟩ := R
 have l_H_H10 : LE H H10 := le10
 refine au [5,7,0,3,1,3] h ?_; intro a w h
 exact fin (rs := [.cell 3 26]) (vs := [.agg #[_, _, _, _]]) h rfl (.agg (k0 := 2) tN26 rfl rfl rfl .nil) rfl le10 ⟨LE.rfl, (h.del 2).st⟩ ⟨⟨A10, c10, rfl, hk10⟩, rfl⟩
theorem dfr_ok (hd : Bool) (old nm : Bs) (p10 p9 p4 p5 gr gt : Nat) (f : Bs → Option Value) (n : Int) (E : World) (H : GH) (L : List It) (h10 : Hc H p10 0 (.bool hd)) (h9 : Hc H p9 0 (str old)) (h4 : Hc H p4 0 (.pointer (some ⟨gr, 0, none⟩))) (h5 : Hc H p5 0 (str nm)) :
   OkD Tryz.prog 197 #[.pointer (some ⟨p10, 0, none⟩), .pointer (some ⟨p9, 0, none⟩), .pointer (some ⟨p4, 0, none⟩), .pointer (some ⟨p5, 0, none⟩)] E H (.obj gr (.cells #[.map (some gt), .int .i64 n] 217 (0, 0)) :: .blk gt (IsMap encS f) :: L) fun r H' L' => H = H' ∧ L' = .obj gr (.cells #[.map (some gt), .int .i64 n] 217 (0, 0)) :: .blk gt (IsMap encS (upd f nm (if hd then some (str old) else none))) :: L := by
 refine enterR (N := 16) [(0, _), (1, _), (2, _), (3, _)] Tryz.func197 rfl rfl rfl rfl fun a w h => ?_
 refine au [1,2] h ?_
 refine ldH t1_4 (h10) h fun a w h => ?_
 refine au [0,3] h ?_
 refine cdB h (fun c4 => ?_) (fun c4 => ?_)
 ·refine rgd [0] [_] [0] [0, 3, 4, 5] 1 mix (by kernel_rfl) h (fun a w h => ?_)
  refine ldHD t1_215 (h4) h fun a w h => ?_
  refine au [7,2,0,7,4,2] h ?_; intro a w h
  refine ldHD t1_9 (h5) h fun a w h => ?_
  refine ldHD t1_9 (h9) h fun a w h => ?_
  have h := h.pull 1 rfl rfl
  refine mu 0 keyS mapSS h fun a w h => ?_
  refine nl0 ?_
  have h := h.pull 1 rfl rfl
  refine finN0 0 h LE.rfl ?_
  exact ⟨rfl, by rw [show hd = true from c4]; rfl⟩
 ·refine rgd [0] [_] [0] [0, 3, 4] 0 mix (by kernel_rfl) h (fun a w h => ?_)
  refine ldHD t1_215 (h4) h fun a w h => ?_
  refine au [7,2,0,7,4,2] h ?_; intro a w h
  refine ldHD t1_9 (h5) h fun a w h => ?_
  have h := h.pull 1 rfl rfl
  refine dl 0 keyS mapSS h fun a w h => ?_
  refine nl0 ?_
  have h := h.pull 1 rfl rfl
  refine finN0 0 h LE.rfl ?_
  exact ⟨rfl, by rw [show hd = false from c4]; rfl⟩
theorem bind_ok (nm to : Bs) (fd : FuncId) (caps : Array Value) (gr gt : Nat) (σ : Bs → Option Bs) (f : Bs → Option Value) (n n' : Int) (u : Tm) (E : World) (H : GH) (L : List It) (hf : ∀ x, f x = (σ x).map encS) (hbod : bodT Tryz.prog fd = true)
   (hdo : ∀ (H1 : GH) (L1 : List It), LE H H1 → Ok Tryz.prog fd (#[] ++ [].toArray ++ caps) E H1 (.obj gr (.cells #[.map (some gt), .int .i64 n] 217 (0, 0)) :: .blk gt (IsMap encS (upd f nm (some (str to)))) :: L1) fun r H' L' => VT H' r u ∧ L' = .obj gr (.cells #[.map (some gt), .int .i64 n'] 217 (0, 0)) :: .blk gt (IsMap encS (upd f nm (some (str to)))) :: L1) :
   Ok Tryz.prog 158 #[.pointer (some ⟨gr, 0, none⟩), str nm, str to, .func (.func fd) #[] caps] E H (.obj gr (.cells #[.map (some gt), .int .i64 n] 217 (0, 0)) :: .blk gt (IsMap encS f) :: L) fun r H' L' => VT H' r u ∧ L' = .obj gr (.cells #[.map (some gt), .int .i64 n'] 217 (0, 0)) :: .blk gt (IsMap encS f) :: L := by
 obtain ⟨old, hold⟩ : ∃ old, (f nm).getD (.string ⟨#[]⟩) = str old := by
   rw [hf nm]; cases σ nm with
   | none => exact ⟨[], rfl⟩
   | some u => exact ⟨u, rfl⟩
 have hback : upd (upd f nm (some (str to))) nm (if (f nm).isSome then some (str old) else none) = f := by
   funext x
   unfold X.upd
   by_cases e : x = nm
   · subst e
     rw [if_pos rfl]
     rw [hf x] at hold ⊢
     cases hs : σ x with
     | none => rfl
     | some u => rw [hs] at hold; simp at hold ⊢; exact hold.symm
   · rw [if_neg e, if_neg e]
 refine enterD (N := 29) [(0, _), (1, _), (2, _), (3, _)] Tryz.func158 rfl rfl rfl rfl fun a w h => ?_
 refine au [1,2] h ?_
 refine bx1 h fun g4 a w h => ?_
 refine bx1 h fun g5 a w h => ?_
 refine al zr26 h fun g8 a w h => ?_
 refine au [0,3,0,4] h ?_
 obtain ⟨H1, leH1, h, hf4⟩ := h.frz 2
 have l_H_H1 : LE H H1 := leH1
 obtain ⟨H2, leH2, h, hf5⟩ := h.frz 1
 have l_H_H2 : LE H H2 := l_H_H1.trans leH2
 have l_H1_H2 : LE H1 H2 := leH2
 refine rgxF [1, 2] [_, _] [0, 3, 4, 5] 13 mix h (fun a w h => ?_)
 refine tkl 0 true (by kernel_rfl) ?_ (hQ := fun _ _ _ _ _ h => False.elim h)
 refine ldHT t1_215 (Hc.of (l_H1_H2 _ _ hf4) rfl) h fun a w h => ?_
 refine tk0 ?_
 refine tkl 1 false (by kernel_rfl) ?_ (hQ := fun _ _ _ _ _ h => False.elim h)
 refine au [7,2,2,6] h ?_; intro a w h
 refine tkl 2 false (by kernel_rfl) ?_ (hQ := fun _ _ _ _ _ h => False.elim h)
 refine au [0,7,2,6] h ?_; intro a w h
 refine tkl 3 true (by kernel_rfl) ?_ (hQ := fun _ _ _ _ _ h => False.elim h)
 refine au [3,8,2,6] h ?_; intro a w h
 refine tkl 4 true (by kernel_rfl) ?_ (hQ := fun _ _ _ _ _ h => False.elim h)
 refine ldHT t1_9 (Hc.of (LE.rfl _ _ hf5) rfl) h fun a w h => ?_
 refine tk0 ?_
 refine tkl 5 true (by kernel_rfl) ?_ (hQ := fun _ _ _ _ _ h => False.elim h)
 refine lkT (f := f) (q := nm) 1 keyS mapSS zr9 h fun a w h => ?_
 rw [hold] at h
 refine tk0 ?_
 refine tkl 6 false (by kernel_rfl) ?_ (hQ := fun _ _ _ _ _ h => False.elim h)
 refine au [0,0,2,6] h ?_; intro a w h
 refine tkl 7 false (by kernel_rfl) ?_ (hQ := fun _ _ _ _ _ h => False.elim h)
 refine au [4,7,2,6] h ?_; intro a w h
 refine tkl 8 false (by kernel_rfl) ?_ (hQ := fun _ _ _ _ _ h => False.elim h)
 refine au [4,7,2,6] h ?_; intro a w h
 refine brl2 9 10 true true (by kernel_rfl) (by kernel_rfl) (by kernel_rfl) (fun _ => h.st.sees' (by first | exact LE.rfl | assumption) (by simp)) ?_ ?_
 ·refine al zr9 h fun g9 a w h => ?_
  refine br0 ?_
  refine brl1 10 true (by kernel_rfl) (by kernel_rfl) (fun _ => h.st.sees' (by first | exact LE.rfl | assumption) (by simp)) ?_
  refine al zr4 h fun g10 a w h => ?_
  refine br0 ?_
  refine brl1 11 false (by kernel_rfl) (by kernel_rfl) (fun _ => h.st.sees' (by first | exact LE.rfl | assumption) (by simp)) ?_
  refine au [5,2,2,7] h ?_; intro a w h
  refine brl1 12 false (by kernel_rfl) (by kernel_rfl) (fun _ => h.st.sees' (by first | exact LE.rfl | assumption) (by simp)) ?_
  refine au [5,1,2,7] h ?_; intro a w h
  refine en (by kernel_rfl) ?_
  refine npN ?_
  refine au [1,0,0,4] h ?_
  obtain ⟨H3, leH3, h, hf9⟩ := h.frz 1
  have l_H_H3 : LE H H3 := l_H_H2.trans leH3
  have l_H1_H3 : LE H1 H3 := l_H1_H2.trans leH3
  have l_H2_H3 : LE H2 H3 := leH3
  obtain ⟨H4, leH4, h, hf10⟩ := h.frz 0
  have l_H_H4 : LE H H4 := l_H_H3.trans leH4
  have l_H1_H4 : LE H1 H4 := l_H1_H3.trans leH4
  have l_H2_H4 : LE H2 H4 := l_H2_H3.trans leH4
  have l_H3_H4 : LE H3 H4 := leH4
  refine au [0,5,7,3] h ?_; intro a w h
  refine df h fun a w h => ?_
  refine au [0,3,0,4] h ?_
  refine rgdF [1] [_] [0] [0, 3, 4] 1 mix (by kernel_rfl) h (fun a w h => ?_)
  refine ldHD t1_215 (Hc.of (l_H1_H4 _ _ hf4) rfl) h fun a w h => ?_
  refine au [7,2,0,7,4,2] h ?_; intro a w h
  refine ldHD t1_9 (Hc.of (l_H2_H4 _ _ hf5) rfl) h fun a w h => ?_
  refine mv h fun a w h => ?_
  have h := h.pull 2 rfl rfl
  refine mu 0 keyS mapSS h fun a w h => ?_
  refine nl0 ?_
  refine npN ?_
  refine au [1,0,1,2,0,0] h ?_; intro a w h
  have h := h.pull 2 rfl rfl
  refine cl hbod (hdo H4 _ l_H_H4) h fun r28 H28 L28 a w le28 R h => ?_
  obtain ⟨⟨A28, c28, rfl, hk28⟩, rfl⟩ := R
  have l_H_H28 : LE H H28 := l_H_H4.trans le28
  have l_H1_H28 : LE H1 H28 := l_H1_H4.trans le28
  have l_H2_H28 : LE H2 H28 := l_H2_H4.trans le28
  have l_H3_H28 : LE H3 H28 := l_H3_H4.trans le28
  have l_H4_H28 : LE H4 H28 := le28
  refine au [5,7,0,3,1,3] h ?_; intro a w h
  have h := h.pull 1 rfl rfl
  have h := h.pull 1 rfl rfl
  refine finD h bod197 (dfr_ok (f nm).isSome old nm g10 g9 g4 g5 gr gt _ n' E H28 _ (Hc.of (l_H4_H28 _ _ hf10) rfl) (Hc.of (l_H3_H28 _ _ hf9) rfl) (Hc.of (l_H1_H28 _ _ hf4) rfl) (Hc.of (l_H2_H28 _ _ hf5) rfl)) l_H_H28 fun r0 H0 L0 w' le0 R hS => ?_
  obtain ⟨rfl, rfl⟩ := R
  rw [hback] at hS
  exact ⟨_, _, _, run_results (rs := [.cell 8 26]) (vs := [.agg #[_, _, _, _]]) rfl (.agg (k0 := 2) tN26 rfl rfl rfl .nil) hS, l_H_H28, (hS.del 2).st, ⟨⟨A28, c28, rfl, hk28⟩, rfl⟩⟩
 ·refine al zr4 h fun g10 a w h => ?_
  refine br0 ?_
  refine brl1 9 true (by kernel_rfl) (by kernel_rfl) (fun _ => h.st.sees' (by first | exact LE.rfl | assumption) (by simp)) ?_
  refine al zr9 h fun g9 a w h => ?_
  refine br0 ?_
  refine brl1 11 false (by kernel_rfl) (by kernel_rfl) (fun _ => h.st.sees' (by first | exact LE.rfl | assumption) (by simp)) ?_
  refine au [5,1,2,7] h ?_; intro a w h
  refine brl1 12 false (by kernel_rfl) (by kernel_rfl) (fun _ => h.st.sees' (by first | exact LE.rfl | assumption) (by simp)) ?_
  refine au [5,2,2,7] h ?_; intro a w h
  refine en (by kernel_rfl) ?_
  refine npN ?_
  refine au [1,0,0,4] h ?_
  obtain ⟨H3, leH3, h, hf9⟩ := h.frz 0
  have l_H_H3 : LE H H3 := l_H_H2.trans leH3
  have l_H1_H3 : LE H1 H3 := l_H1_H2.trans leH3
  have l_H2_H3 : LE H2 H3 := leH3
  obtain ⟨H4, leH4, h, hf10⟩ := h.frz 0
  have l_H_H4 : LE H H4 := l_H_H3.trans leH4
  have l_H1_H4 : LE H1 H4 := l_H1_H3.trans leH4
  have l_H2_H4 : LE H2 H4 := l_H2_H3.trans leH4
  have l_H3_H4 : LE H3 H4 := leH4
  refine au [0,5,7,3] h ?_; intro a w h
  refine df h fun a w h => ?_
  refine au [0,3,0,4] h ?_
  refine rgdF [1] [_] [0] [0, 3, 4] 1 mix (by kernel_rfl) h (fun a w h => ?_)
  refine ldHD t1_215 (Hc.of (l_H1_H4 _ _ hf4) rfl) h fun a w h => ?_
  refine au [7,2,0,7,4,2] h ?_; intro a w h
  refine ldHD t1_9 (Hc.of (l_H2_H4 _ _ hf5) rfl) h fun a w h => ?_
  refine mv h fun a w h => ?_
  have h := h.pull 2 rfl rfl
  refine mu 0 keyS mapSS h fun a w h => ?_
  refine nl0 ?_
  refine npN ?_
  refine au [1,0,1,2,0,0] h ?_; intro a w h
  have h := h.pull 2 rfl rfl
  refine cl hbod (hdo H4 _ l_H_H4) h fun r28 H28 L28 a w le28 R h => ?_
  obtain ⟨⟨A28, c28, rfl, hk28⟩, rfl⟩ := R
  have l_H_H28 : LE H H28 := l_H_H4.trans le28
  have l_H1_H28 : LE H1 H28 := l_H1_H4.trans le28
  have l_H2_H28 : LE H2 H28 := l_H2_H4.trans le28
  have l_H3_H28 : LE H3 H28 := l_H3_H4.trans le28
  have l_H4_H28 : LE H4 H28 := le28
  refine au [5,7,0,3,1,3] h ?_; intro a w h
  have h := h.pull 1 rfl rfl
  have h := h.pull 1 rfl rfl
  refine finD h bod197 (dfr_ok (f nm).isSome old nm g10 g9 g4 g5 gr gt _ n' E H28 _ (Hc.of (l_H4_H28 _ _ hf10) rfl) (Hc.of (l_H3_H28 _ _ hf9) rfl) (Hc.of (l_H1_H28 _ _ hf4) rfl) (Hc.of (l_H2_H28 _ _ hf5) rfl)) l_H_H28 fun r0 H0 L0 w' le0 R hS => ?_
  obtain ⟨rfl, rfl⟩ := R
  rw [hback] at hS
  exact ⟨_, _, _, run_results (rs := [.cell 8 26]) (vs := [.agg #[_, _, _, _]]) rfl (.agg (k0 := 2) tN26 rfl rfl rfl .nil) hS, l_H_H28, (hS.del 2).st, ⟨⟨A28, c28, rfl, hk28⟩, rfl⟩⟩
theorem sub1 {σ : Bs → Option Bs} {f : Bs → Option Value} {nm old : Bs} (hf : ∀ x, f x = (σ x).map encS) (hold : (f nm).getD (.string ⟨#[]⟩) = str old) (hs : (f nm).isSome = true) : σ nm = some old := by
 rw [hf nm] at hold hs
 cases h : σ nm with
 | none => rw [h] at hs; cases hs
 | some u => rw [h] at hold; simp at hold; rw [hold]
theorem sub0 {σ : Bs → Option Bs} {f : Bs → Option Value} {nm : Bs} (hf : ∀ x, f x = (σ x).map encS) (hs : (f nm).isSome = false) : σ nm = none := by
 rw [hf nm] at hs
 cases h : σ nm with
 | none => rfl
 | some u => rw [h] at hs; cases hs
theorem vt_of {H : GH} {B : Option Addr} {k cp : Nat} {ys : List Tm} {kd : Int} {s : Bs} {n : Int} (hk : k = ys.length) (h : RS RT 4 H (.slice B k cp) ys) : VT H (.agg #[.int .i64 kd, str s, .int .i64 n, .slice B k cp]) (.mk kd s n ys) := by
 subst hk; exact ⟨B, cp, rfl, h⟩
theorem ren_ok : ∀ t : Tm, t.size < 1000000000000 → RenOk t := by
 intro t
 induction t using Tm.ind with
 | h kd nm nn ks ih =>
 intro hsz v E H L gr gt σ f n hv hL hf hn
 obtain ⟨A, c, rfl, hks⟩ := hv
 have hks : KS H A c ks := hks
 simp only [Tm.size] at hsz
 have hlen := length_le_sizeL ks
 obtain ⟨old, hold⟩ : ∃ old, (f nm).getD (.string ⟨#[]⟩) = str old := by
   rw [hf nm]; cases σ nm with
   | none => exact ⟨[], rfl⟩
   | some u => exact ⟨u, rfl⟩
 refine enter (N := 89) [(0, _), (1, _)] Tryz.func120 rfl rfl rfl rfl fun a w h => ?_
 refine au [1,2] h ?_
 refine bx1 h fun g2 a w h => ?_
 refine bxA h fun g3 a w h => ?_
 refine al zr26 h fun g4 a w h => ?_
 refine au [0,3,0,4] h ?_
 obtain ⟨H1, leH1, h, hf2⟩ := h.frz 2
 have l_H_H1 : LE H H1 := leH1
 obtain ⟨H2, leH2, h, hf3⟩ := h.frz 1
 have l_H_H2 : LE H H2 := l_H_H1.trans leH2
 have l_H1_H2 : LE H1 H2 := leH2
 have q2 : Hc H2 g2 0 (.pointer (some ⟨gr, 0, none⟩)) := Hc.of (l_H1_H2 _ _ hf2) rfl
 have q3 : Hc H2 g3 3 (.slice A ks.length c) := Hc.of hf3 rfl
 have hks2 := hks.up l_H_H2
 have hL2 := hL.up l_H_H2
 refine au [0,5,0,7] h ?_; intro a w h
 refine ldH t1_3 (Hc.of (LE.rfl _ _ hf3) rfl) h fun a w h => ?_
 refine fa fl26_1 (r := 1) h fun a w h => ?_
 refine ldH t1_9 (Hc.of (LE.rfl _ _ hf3) rfl) h fun a w h => ?_
 refine fa fl26_2 (r := 2) h fun a w h => ?_
 refine ldH t1_2 (Hc.of (LE.rfl _ _ hf3) rfl) h fun a w h => ?_
 refine bdl lay26 zr26 h fun a w h => ?_
 refine al zr26 h fun g5 a w h => ?_
 refine au [5,5,0,3] h ?_; intro a w h
 refine sqc (fun a w => S E H2 89 [] [(2, .pointer (some ⟨g2, 0, none⟩)), (3, .pointer (some ⟨g3, 0, none⟩)), (4, .pointer (some ⟨g4, 0, none⟩)), (5, .pointer (some ⟨g5, 0, none⟩))] (.obj g5 (.cells #[.int .i64 kd, str (if kd == 2 then (σ nm).getD nm else nm), .int .i64 nn, .slice none 0 0] 26 (0, 0)) :: .obj g4 (.cells #[.int .i64 0, .string ⟨#[]⟩, .int .i64 0, .slice none 0 0] 26 (0, 0)) :: .obj gr (.cells #[.map (some gt), .int .i64 n] 217 (0, 0)) :: .blk gt (IsMap encS f) :: L) a w) ?_ ?_
 ·refine sq ?_
  refine rgd [2, 3] [_, _] [] [0, 3, 5, 6] 2 mix (by kernel_rfl) h (fun a w h => ?_)
  refine ldHD t1_215 (Hc.of (l_H1_H2 _ _ hf2) rfl) h fun a w h => ?_
  refine au [7,2,0,7,4,2,0,7] h ?_; intro a w h
  refine ldHD t1_9 (Hc.of (LE.rfl _ _ hf3) rfl) h fun a w h => ?_
  refine lkD (f := f) (q := nm) 1 keyS mapSS zr9 h fun a w h => ?_
  rw [hold] at h
  refine au [0,0,4,7,4,7,0,6,0,6,0,2,0,0] h ?_; intro a w h
  refine h.spl (fun c28 h => ?_) (fun c28 h => ?_)
  ·refine au [0,0,0,7] h ?_; intro a w h
   refine ldH t1_3 (Hc.of (LE.rfl _ _ hf3) rfl) h fun a w h => ?_
   refine au [6,2,4,8,0,3] h ?_; intro a w h
   refine cdB h (fun c33 => ?_) (fun c33 => ?_)
   ·refine au [0,5,0,0,0,7,5,1,0,3] h ?_; intro a w h
    have h := h.pull 3 rfl rfl
    have h := h.pull 3 rfl rfl
    have h := h.pull 3 rfl rfl
    have h := h.pull 3 rfl rfl
    have e1 : (if kd == 2 then (σ nm).getD nm else nm) = old := by rw [if_pos (show (kd == 2) = true from c33), sub1 hf hold c28, Option.getD_some]
    rw [e1]
    exact h.to 0 _
   ·refine au [1,8,1,0] h ?_
    have h := h.pull 3 rfl rfl
    have h := h.pull 3 rfl rfl
    have h := h.pull 3 rfl rfl
    have h := h.pull 3 rfl rfl
    have e1 : (if kd == 2 then (σ nm).getD nm else nm) = nm := if_neg (by rw [show (kd == 2) = false from c33]; simp)
    rw [e1]
    exact h.to 0 _
  ·refine au [0,0,0,1,0,1,0,1,5,0,0,3,2,1,1,8,1,0] h ?_; intro a w h
   have h := h.pull 3 rfl rfl
   have h := h.pull 3 rfl rfl
   have h := h.pull 3 rfl rfl
   have h := h.pull 3 rfl rfl
   have e1 : (if kd == 2 then (σ nm).getD nm else nm) = nm := by rw [sub0 hf c28]; split <;> rfl
   rw [e1]
   exact h.to 0 _
 ·rintro a w h
  refine au [1,2] h ?_
  refine ldHN tN26 rfl (Hc.all (LE.rfl _ _ hf3)) h fun a w h => ?_
  refine cl bod117 (Binder_ok _ _ _ _ E H2 _) h fun r37 H37 L37 a w le37 R h => ?_
  obtain ⟨rfl, rfl, rfl⟩ := R
  refine au [0,6,0,3] h ?_; intro a w h
  obtain ⟨s', hs'⟩ : ∃ s', s' = renN kd nm σ n := ⟨_, rfl⟩
  obtain ⟨n1, hn1⟩ : ∃ n1, n1 = if bnd kd then nx n else n := ⟨_, rfl⟩
  refine sqc (fun a w => S E H2 89 [] [(2, .pointer (some ⟨g2, 0, none⟩)), (3, .pointer (some ⟨g3, 0, none⟩)), (4, .pointer (some ⟨g4, 0, none⟩)), (5, .pointer (some ⟨g5, 0, none⟩)), (8, .bool (bnd kd))] (.obj g5 (.cells #[.int .i64 kd, str s', .int .i64 nn, .slice none 0 0] 26 (0, 0)) :: .obj g4 (.cells #[.int .i64 0, .string ⟨#[]⟩, .int .i64 0, .slice none 0 0] 26 (0, 0)) :: .obj gr (.cells #[.map (some gt), .int .i64 n1] 217 (0, 0)) :: .blk gt (IsMap encS f) :: L) a w) ?_ ?_
  ·refine au [1,2,0,0,0,3] h ?_; intro a w h
   refine cdB h (fun c38 => ?_) (fun c38 => ?_)
   ·refine au [1,2] h ?_
    refine ldH t1_215 (Hc.of (l_H1_H2 _ _ hf2) rfl) h fun a w h => ?_
    refine au [7,2,0,7,3,0] h ?_; intro a w h
    refine cl bod56 (Itoa_ok n E H2 _ hL2 hn.1 hn.2) h fun r43 H43 L43 a w le43 R h => ?_
    obtain ⟨rfl, rfl, rfl⟩ := R
    refine au [0,7,5,1,0,3,0,5] h ?_; intro a w h
    refine ldH t1_215 (Hc.of (l_H1_H2 _ _ hf2) rfl) h fun a w h => ?_
    refine au [7,2,0,7,3,0] h ?_; intro a w h
    refine adr (nx n) rfl h fun a w h => ?_
    refine au [7,2,0,7,5,3,0,3] h ?_; intro a w h
    have h := h.pull 3 rfl rfl
    have h := h.pull 3 rfl rfl
    have h := h.pull 3 rfl rfl
    have h := h.pull 3 rfl rfl
    rw [hs', hn1]
    unfold renN
    have hb : bnd kd = true := c38
    rw [if_pos hb, if_pos hb]
    exact h.to 0 _
   ·refine au [1,8,1,0] h ?_
    have h := h.pull 3 rfl rfl
    have h := h.pull 3 rfl rfl
    have h := h.pull 3 rfl rfl
    have h := h.pull 3 rfl rfl
    rw [hs', hn1]
    unfold renN
    have hb : ¬ (bnd kd = true) := by rw [show bnd kd = false from c38]; simp
    rw [if_neg hb, if_neg hb]
    exact h.to 0 _
  ·rintro a w h
   refine au [0,4,0,4] h ?_
   have hn1i : In64 n1 := by rw [hn1]; split; exact nx_in n; exact hn
   have h := h.row (e := 26) (sz := 4)
   refine au [0,5,0,7] h ?_; intro a w h
   refine ldH t1_24 (Hc.of (LE.rfl _ _ hf3) rfl) h fun a w h => ?_
   refine au [6,0,0,0,0,3,1,5] h ?_; intro a w h
   refine lp (β := Nat × GH × Option Addr × Nat × List Value) (fun x a w => match x with | (k, H3, B, cp, xs) => (k ≤ ks.length ∧ LE H2 H3 ∧ RowR RT 4 H3 xs (renT (bnd kd) nm s' ks σ n1 k).1) ∧ S E H3 89 [] [(2, .pointer (some ⟨g2, 0, none⟩)), (3, .pointer (some ⟨g3, 0, none⟩)), (4, .pointer (some ⟨g4, 0, none⟩)), (5, .pointer (some ⟨g5, 0, none⟩)), (8, .bool (bnd kd)), (55, .int .i64 (k : Int)), (54, .int .i64 (ks.length : Int))] (.row (.slice B k cp) 26 4 k xs :: .obj g5 (.cells #[.int .i64 kd, str s', .int .i64 nn, .slice B k cp] 26 (0, 0)) :: .obj g4 (.cells #[.int .i64 0, .string ⟨#[]⟩, .int .i64 0, .slice none 0 0] 26 (0, 0)) :: .obj gr (.cells #[.map (some gt), .int .i64 (renT (bnd kd) nm s' ks σ n1 k).2] 217 (0, 0)) :: .blk gt (IsMap encS f) :: L) a w)
    (fun x => match x with | (k, H3, B, cp, xs) => ks.length - k) (0, H2, none, 0, []) ⟨⟨Nat.zero_le _, LE.rfl, RowR.nil⟩, h.to 0 _⟩ ?_
   rintro ⟨k, H3, B, cp, xs⟩ a w ⟨pre, h⟩
   obtain ⟨hk, l_H2_H3, hrow⟩ := pre
   have l_H_H3 := l_H_H2.trans l_H2_H3
   have l_H1_H3 := l_H1_H2.trans l_H2_H3
   have hnk : In64 (renT (bnd kd) nm s' ks σ n1 k).2 := renT_in hn1i k
   refine au [1,2,6,4,0,3,0,4] h ?_; intro a w h
   refine cdB h (fun c56 => ?_) (fun c56 => ?_)
   ·have c56 : k < ks.length := by simpa using c56
    have hsz := size_get_le c56
    refine au [1,8,1,0,0,4,1,5,1,2,0,0] h ?_; intro a w h
    refine al zr3 h fun g9 a w h => ?_
    refine au [5,1,0,3,0,4] h ?_; intro a w h
    obtain ⟨H4, leH4, h, hf9⟩ := h.frz 0
    have l_H_H4 : LE H H4 := l_H_H3.trans leH4
    have l_H1_H4 : LE H1 H4 := l_H1_H3.trans leH4
    have l_H2_H4 : LE H2 H4 := l_H2_H3.trans leH4
    have l_H3_H4 : LE H3 H4 := leH4
    refine au [0,5,7,3,0,6,0,3,0,4,1,2,0,0] h ?_; intro a w h
    refine h.spl (fun c59 h => ?_) (fun c59 h => ?_)
    ·refine mv h fun a w h => ?_
     refine ldH t1_3 (Hc.of (LE.rfl _ _ hf9) rfl) h fun a w h => ?_
     refine fa fl26_3 (r := 3) h fun a w h => ?_
     refine ldH t1_24 (Hc.of (l_H2_H4 _ _ hf3) rfl) h fun a w h => ?_
     refine ln sli24 h fun a w h => ?_
     refine sbr ((ks.length : Int) - 1) ?_ h fun a w h => ?_
     ·show IntKind.i64.wrap ((ks.length : Int) - 1) = _; exact w64 (by omega) (by omega)
     refine au [6,2,4,8,0,3] h ?_; intro a w h
     refine cdB h (fun c67 => ?_) (fun c67 => ?_)
     ·refine sq ?_
      refine rgx [1] [_] [1, 2, 4, 6] 13 mix h (fun a w h => ?_)
      refine au [8,0,0,7,2,6,8,1,3,8,2,6,8,2] h ?_; intro a w h
      refine ldHT t1_215 (Hc.of (l_H1_H4 _ _ hf2) rfl) h fun a w h => ?_
      refine au [2,6,8,3,0,7,2,6,8,4] h ?_; intro a w h
      refine ldHT t1_9 (Hc.of (l_H2_H4 _ _ hf3) rfl) h fun a w h => ?_
      refine au [2,6,8,5,0,7,2,6,8,6,3,8,2,6,8,7,0,0,2,6] h ?_; intro a w h
      refine brl1 8 true (by kernel_rfl) (by kernel_rfl) (fun _ => h.st.sees' (by first | exact LE.rfl | assumption) (by simp)) ?_
      have h := h.pull 4 rfl rfl
      have h := h.pull 4 rfl rfl
      have hfu : ∀ x, upd f nm (some (str s')) x = (updS σ nm s' x).map encS := fun x => by unfold X.upd updS; split; rfl; exact hf x
      refine cl bod158 (bind_ok nm s' 157 #[.pointer (some ⟨g2, 0, none⟩), .pointer (some ⟨g3, 0, none⟩), .pointer (some ⟨g9, 0, none⟩)] gr gt σ f _ _ _ E H4 _ hf bod157 (fun Hx Lx lx => kidr_ok ks k c56 (ih _ (List.getElem_mem c56) (by omega)) A c g2 g3 g9 gr gt (updS σ nm s') (upd f nm (some (str s'))) _ E Hx _ (hks2.up (l_H2_H4.trans lx)) (q2.mono (l_H2_H4.trans lx)) (q3.mono (l_H2_H4.trans lx)) ((Hc.of hf9 rfl).mono (lx)) (hL2.up (l_H2_H4.trans lx)) hfu hnk)) h (fun r76 H76 L76 a w le76 R h => ?_) (hS := fun _ _ _ _ _ le R hw => by obtain ⟨_, rfl⟩ := R; exact hw.sees' (by first | exact le | exact LE.trans (by assumption) le) (by simp))
      obtain ⟨⟨A76, c76, rfl, hk76⟩, rfl⟩ := R
      have l_H_H76 : LE H H76 := l_H_H4.trans le76
      have l_H1_H76 : LE H1 H76 := l_H1_H4.trans le76
      have l_H2_H76 : LE H2 H76 := l_H2_H4.trans le76
      have l_H3_H76 : LE H3 H76 := l_H3_H4.trans le76
      have l_H4_H76 : LE H4 H76 := le76
      refine br0 ?_
      refine brl1 9 true (by kernel_rfl) (by kernel_rfl) (fun _ => h.st.sees' (by first | exact LE.rfl | assumption) (by simp)) ?_
      refine bsl bs24 h fun g77 a w h => ?_
      refine br0 ?_
      refine brl1 10 true (by kernel_rfl) (by kernel_rfl) (fun _ => h.st.sees' (by first | exact LE.rfl | assumption) (by simp)) ?_
      refine apb 3 0 (L' := fun i => _ :: _ :: _ :: i :: _) [_, _, _, _] row24 h ?_ ?_ fun v78 a w hone h => ?_
      ·omega
      ·omega
      obtain ⟨B2, cp2, rfl⟩ := h.rowv 3
      have hin : (bnd kd && k + 1 == ks.length) = true := by rw [c59]; have := eq_of_beq c67; simp; omega
      have hsucc : (renT (bnd kd) nm s' ks σ n1 (k + 1)) = ((renT (bnd kd) nm s' ks σ n1 k).1 ++ [(ks[k].ren (updS σ nm s') (renT (bnd kd) nm s' ks σ n1 k).2).1], (ks[k].ren (updS σ nm s') (renT (bnd kd) nm s' ks σ n1 k).2).2) := by rw [renT_succ c56, hin]; rfl
      have hrow2 : RowR RT 4 H76 (xs ++ [.int .i64 (ks[k].ren (updS σ nm s') (renT (bnd kd) nm s' ks σ n1 k).2).1.kind, str (ks[k].ren (updS σ nm s') (renT (bnd kd) nm s' ks σ n1 k).2).1.name, .int .i64 (ks[k].ren (updS σ nm s') (renT (bnd kd) nm s' ks σ n1 k).2).1.n, .slice A76 (ks[k].ren (updS σ nm s') (renT (bnd kd) nm s' ks σ n1 k).2).1.kids.length c76]) (renT (bnd kd) nm s' ks σ n1 (k + 1)).1 := by rw [hsucc]; exact (hrow.mono fun cs y _ hr => RT.mono l_H3_H76 y hr).snoc rfl (rt_of_vt (cs := [_, _, _, _]) ⟨A76, c76, rfl, hk76⟩)
      have hnx : (ks[k].ren (updS σ nm s') (renT (bnd kd) nm s' ks σ n1 k).2).2 = (renT (bnd kd) nm s' ks σ n1 (k + 1)).2 := by rw [hsucc]
      rw [hnx] at h
      refine au [2,7,8,11,0,7,2,6] h ?_; intro a w h
      refine brl1 12 false (by kernel_rfl) (by kernel_rfl) (fun _ => h.st.sees' (by first | exact LE.rfl | assumption) (by simp)) ?_
      refine st4 (l := [_, _, _, _]) t1_24 h fun a w h => ?_
      refine br0 ?_
      refine en (by kernel_rfl) ?_
      refine au [1,0,2,5,2,2,2,3,1,0,0,5] h ?_
      have h := h.pull 2 rfl rfl
      have h := h.pull 2 rfl rfl
      have h := h.pull 5 rfl rfl
      have h := h.pull 5 rfl rfl
      have h := h.pull 5 rfl rfl
      have h := h.del 5
      refine inc ?_ h fun a w h => ?_
      ·omega
      refine au [0,0,0,3] h ?_; intro a w h
      exact ⟨(k + 1, H76, B2, cp2, _), ⟨⟨by omega, l_H2_H76, hrow2⟩, h.to 0 _⟩, by show _ - (k + 1) < _ - k; omega⟩
     ·refine au [1,8,1,0] h ?_
      refine rgx [1] [_] [1] 8 mix h (fun a w h => ?_)
      refine au [8,0,0,7,2,6,8,1,3,8,2,6,8,2,0,0,2,6] h ?_; intro a w h
      refine brl1 3 true (by kernel_rfl) (by kernel_rfl) (fun _ => h.st.sees' (by first | exact LE.rfl | assumption) (by simp)) ?_
      have h := h.pull 4 rfl rfl
      have h := h.pull 4 rfl rfl
      refine cl bod157 (kidr_ok ks k c56 (ih _ (List.getElem_mem c56) (by omega)) A c g2 g3 g9 gr gt σ f _ E H4 _ (hks2.up (l_H2_H4.trans LE.rfl)) (q2.mono (l_H2_H4.trans LE.rfl)) (q3.mono (l_H2_H4.trans LE.rfl)) ((Hc.of hf9 rfl).mono (LE.rfl)) (hL2.up (l_H2_H4.trans LE.rfl)) hf hnk) h (fun r83 H83 L83 a w le83 R h => ?_) (hS := fun _ _ _ _ _ le R hw => by obtain ⟨_, rfl⟩ := R; exact hw.sees' (by first | exact le | exact LE.trans (by assumption) le) (by simp))
      obtain ⟨⟨A83, c83, rfl, hk83⟩, rfl⟩ := R
      have l_H_H83 : LE H H83 := l_H_H4.trans le83
      have l_H1_H83 : LE H1 H83 := l_H1_H4.trans le83
      have l_H2_H83 : LE H2 H83 := l_H2_H4.trans le83
      have l_H3_H83 : LE H3 H83 := l_H3_H4.trans le83
      have l_H4_H83 : LE H4 H83 := le83
      refine br0 ?_
      refine brl1 4 true (by kernel_rfl) (by kernel_rfl) (fun _ => h.st.sees' (by first | exact LE.rfl | assumption) (by simp)) ?_
      refine bsl bs24 h fun g84 a w h => ?_
      refine br0 ?_
      refine brl1 5 false (by kernel_rfl) (by kernel_rfl) (fun _ => h.st.sees' (by first | exact LE.rfl | assumption) (by simp)) ?_
      refine apb 3 0 (L' := fun i => _ :: _ :: _ :: i :: _) [_, _, _, _] row24 h ?_ ?_ fun v85 a w hone h => ?_
      ·omega
      ·omega
      obtain ⟨B2, cp2, rfl⟩ := h.rowv 3
      have hin : (bnd kd && k + 1 == ks.length) = false := by rw [c59]; have := ne_of_beq_false c67; simp; omega
      have hsucc : (renT (bnd kd) nm s' ks σ n1 (k + 1)) = ((renT (bnd kd) nm s' ks σ n1 k).1 ++ [(ks[k].ren σ (renT (bnd kd) nm s' ks σ n1 k).2).1], (ks[k].ren σ (renT (bnd kd) nm s' ks σ n1 k).2).2) := by rw [renT_succ c56, hin]; rfl
      have hrow2 : RowR RT 4 H83 (xs ++ [.int .i64 (ks[k].ren σ (renT (bnd kd) nm s' ks σ n1 k).2).1.kind, str (ks[k].ren σ (renT (bnd kd) nm s' ks σ n1 k).2).1.name, .int .i64 (ks[k].ren σ (renT (bnd kd) nm s' ks σ n1 k).2).1.n, .slice A83 (ks[k].ren σ (renT (bnd kd) nm s' ks σ n1 k).2).1.kids.length c83]) (renT (bnd kd) nm s' ks σ n1 (k + 1)).1 := by rw [hsucc]; exact (hrow.mono fun cs y _ hr => RT.mono l_H3_H83 y hr).snoc rfl (rt_of_vt (cs := [_, _, _, _]) ⟨A83, c83, rfl, hk83⟩)
      have hnx : (ks[k].ren σ (renT (bnd kd) nm s' ks σ n1 k).2).2 = (renT (bnd kd) nm s' ks σ n1 (k + 1)).2 := by rw [hsucc]
      rw [hnx] at h
      refine au [2,7,8,6,0,7,2,6] h ?_; intro a w h
      refine brl1 7 false (by kernel_rfl) (by kernel_rfl) (fun _ => h.st.sees' (by first | exact LE.rfl | assumption) (by simp)) ?_
      refine st4 (l := [_, _, _, _]) t1_24 h fun a w h => ?_
      refine br0 ?_
      refine en (by kernel_rfl) ?_
      refine au [1,7,1,0,0,5] h ?_
      have h := h.pull 2 rfl rfl
      have h := h.pull 2 rfl rfl
      have h := h.pull 5 rfl rfl
      have h := h.pull 5 rfl rfl
      have h := h.pull 5 rfl rfl
      have h := h.del 5
      refine inc ?_ h fun a w h => ?_
      ·omega
      refine au [0,0,0,3] h ?_; intro a w h
      exact ⟨(k + 1, H83, B2, cp2, _), ⟨⟨by omega, l_H2_H83, hrow2⟩, h.to 0 _⟩, by show _ - (k + 1) < _ - k; omega⟩
    ·refine au [0,0,0,1,0,1,0,1,0,1,0,1,0,1,5,0,0,3,2,1,1,8,1,0] h ?_; intro a w h
     refine rgx [1] [_] [1] 8 mix h (fun a w h => ?_)
     refine au [8,0,0,7,2,6,8,1,3,8,2,6,8,2,0,0,2,6] h ?_; intro a w h
     refine brl1 3 true (by kernel_rfl) (by kernel_rfl) (fun _ => h.st.sees' (by first | exact LE.rfl | assumption) (by simp)) ?_
     have h := h.pull 4 rfl rfl
     have h := h.pull 4 rfl rfl
     refine cl bod157 (kidr_ok ks k c56 (ih _ (List.getElem_mem c56) (by omega)) A c g2 g3 g9 gr gt σ f _ E H4 _ (hks2.up (l_H2_H4.trans LE.rfl)) (q2.mono (l_H2_H4.trans LE.rfl)) (q3.mono (l_H2_H4.trans LE.rfl)) ((Hc.of hf9 rfl).mono (LE.rfl)) (hL2.up (l_H2_H4.trans LE.rfl)) hf hnk) h (fun r83 H83 L83 a w le83 R h => ?_) (hS := fun _ _ _ _ _ le R hw => by obtain ⟨_, rfl⟩ := R; exact hw.sees' (by first | exact le | exact LE.trans (by assumption) le) (by simp))
     obtain ⟨⟨A83, c83, rfl, hk83⟩, rfl⟩ := R
     have l_H_H83 : LE H H83 := l_H_H4.trans le83
     have l_H1_H83 : LE H1 H83 := l_H1_H4.trans le83
     have l_H2_H83 : LE H2 H83 := l_H2_H4.trans le83
     have l_H3_H83 : LE H3 H83 := l_H3_H4.trans le83
     have l_H4_H83 : LE H4 H83 := le83
     refine br0 ?_
     refine brl1 4 true (by kernel_rfl) (by kernel_rfl) (fun _ => h.st.sees' (by first | exact LE.rfl | assumption) (by simp)) ?_
     refine bsl bs24 h fun g84 a w h => ?_
     refine br0 ?_
     refine brl1 5 false (by kernel_rfl) (by kernel_rfl) (fun _ => h.st.sees' (by first | exact LE.rfl | assumption) (by simp)) ?_
     refine apb 3 0 (L' := fun i => _ :: _ :: _ :: i :: _) [_, _, _, _] row24 h ?_ ?_ fun v85 a w hone h => ?_
     ·omega
     ·omega
     obtain ⟨B2, cp2, rfl⟩ := h.rowv 3
     have hin : (bnd kd && k + 1 == ks.length) = false := by rw [c59]; rfl
     have hsucc : (renT (bnd kd) nm s' ks σ n1 (k + 1)) = ((renT (bnd kd) nm s' ks σ n1 k).1 ++ [(ks[k].ren σ (renT (bnd kd) nm s' ks σ n1 k).2).1], (ks[k].ren σ (renT (bnd kd) nm s' ks σ n1 k).2).2) := by rw [renT_succ c56, hin]; rfl
     have hrow2 : RowR RT 4 H83 (xs ++ [.int .i64 (ks[k].ren σ (renT (bnd kd) nm s' ks σ n1 k).2).1.kind, str (ks[k].ren σ (renT (bnd kd) nm s' ks σ n1 k).2).1.name, .int .i64 (ks[k].ren σ (renT (bnd kd) nm s' ks σ n1 k).2).1.n, .slice A83 (ks[k].ren σ (renT (bnd kd) nm s' ks σ n1 k).2).1.kids.length c83]) (renT (bnd kd) nm s' ks σ n1 (k + 1)).1 := by rw [hsucc]; exact (hrow.mono fun cs y _ hr => RT.mono l_H3_H83 y hr).snoc rfl (rt_of_vt (cs := [_, _, _, _]) ⟨A83, c83, rfl, hk83⟩)
     have hnx : (ks[k].ren σ (renT (bnd kd) nm s' ks σ n1 k).2).2 = (renT (bnd kd) nm s' ks σ n1 (k + 1)).2 := by rw [hsucc]
     rw [hnx] at h
     refine au [2,7,8,6,0,7,2,6] h ?_; intro a w h
     refine brl1 7 false (by kernel_rfl) (by kernel_rfl) (fun _ => h.st.sees' (by first | exact LE.rfl | assumption) (by simp)) ?_
     refine st4 (l := [_, _, _, _]) t1_24 h fun a w h => ?_
     refine br0 ?_
     refine en (by kernel_rfl) ?_
     refine au [1,7,1,0,0,5] h ?_
     have h := h.pull 2 rfl rfl
     have h := h.pull 2 rfl rfl
     have h := h.pull 5 rfl rfl
     have h := h.pull 5 rfl rfl
     have h := h.pull 5 rfl rfl
     have h := h.del 5
     refine inc ?_ h fun a w h => ?_
     ·omega
     refine au [0,0,0,3] h ?_; intro a w h
     exact ⟨(k + 1, H83, B2, cp2, _), ⟨⟨by omega, l_H2_H83, hrow2⟩, h.to 0 _⟩, by show _ - (k + 1) < _ - k; omega⟩
   ·have hkk : k = ks.length := by simp at c56; omega
    refine au [2,5,2,2,2,2,2,3,1,0,1,2,3,4,5,7,0,3,1,3] h ?_; intro a w h
    obtain ⟨H5, le5, h, hrs⟩ := h.frw 0 hrow (renT_length hk).symm (fun H6 l6 cs y _ hr => RT.mono l6 y hr)
    have l_H_H5 : LE H H5 := l_H_H3.trans le5
    have l_H1_H5 : LE H1 H5 := l_H1_H3.trans le5
    have l_H2_H5 : LE H2 H5 := l_H2_H3.trans le5
    have l_H3_H5 : LE H3 H5 := le5
    have h := h.pull 3 rfl rfl
    have h := h.pull 3 rfl rfl
    have h := h.pull 3 rfl rfl
    have h := h.del 3
    have e : ((Tm.mk kd nm nn ks).ren σ n) = (.mk kd s' nn (renT (bnd kd) nm s' ks σ n1 k).1, (renT (bnd kd) nm s' ks σ n1 k).2) := by rw [hkk, renT_all]; simp only [Tm.ren]; rw [← hs', ← hn1]
    exact fin (rs := [.cell 4 26]) (vs := [.agg #[_, _, _, _]]) h rfl (.agg (k0 := 0) tN26 rfl rfl rfl .nil) rfl l_H_H5 ⟨LE.rfl, h.st.drop 1⟩ (by rw [e]; exact ⟨vt_of (renT_length hk).symm hrs, rfl⟩)
def noS : Bs → Option Bs := fun _ => none
theorem Rename_ok (t : Tm) (v : Value) (n : Int) (E : World) (H : GH) (L : List It) (hv : VT H v t) (hL : Laid H) (hn : In64 n) (hsz : t.size < 1000000000000) :
   Ok Tryz.prog 66 #[v, .int .i64 n] E H L fun r H' L' => ∃ v', r = .tuple #[v', .int .i64 (t.ren noS n).2] ∧ VT H' v' (t.ren noS n).1 ∧ L' = L := by
 have hv0 := hv
 obtain ⟨A, c, rfl, hks⟩ := hv
 have hv := hv0
 refine enter (N := 20) [(0, _), (1, _)] Tryz.func66 rfl rfl rfl rfl fun a w h => ?_
 refine au [1,2] h ?_
 refine bxA h fun g2 a w h => ?_
 refine al zr26 h fun g4 a w h => ?_
 refine au [0,6,0,2] h ?_; intro a w h
 refine mk0 (enc := encS) h fun gt a w h => ?_
 refine au [0,0,7,5] h ?_; intro a w h
 refine bxA h fun gr a w h => ?_
 refine au [0,6,0,2,0,0,3,6] h ?_; intro a w h
 have h := h.pull 1 rfl rfl
 have h := h.pull 1 rfl rfl
 refine cl bod120 (ren_ok t hsz _ E H _ gr gt (fun _ => none) (fun _ => none) n hv hL (fun _ => rfl) hn) h fun r14 H14 L14 a w le14 R h => ?_
 obtain ⟨⟨A14, c14, rfl, hk14⟩, rfl⟩ := R
 have l_H_H14 : LE H H14 := le14
 refine al zr26 h fun g7 a w h => ?_
 refine au [5,5,0,3,0,4] h ?_; intro a w h
 refine rgd [0, 1] [_, _] [1] [0, 4] 1 mix (by kernel_rfl) h (fun a w h => ?_)
 refine ldWD 0 tN26 h fun a w h => ?_
 refine au [0,0,7,2,0,7,4,3,5,8,0,6,0,3,1,3] h ?_; intro a w h
 exact fin (rs := [.cell 4 26, .tmp 5]) (vs := [.agg #[_, _, _, _], .int .i64 _]) h rfl (.agg (k0 := 3) tN26 rfl rfl rfl (.tmp rfl .nil)) rfl le14 ⟨LE.rfl, h.st.drop 5⟩ ⟨_, rfl, ⟨A14, c14, rfl, hk14⟩, rfl⟩
open Go.Proofs Go.RowKit Go.Shelf
theorem St.rowNil {E w : World} {H : GH} {L : List It} {e sz : Nat} (h : St E H L w) : St E H (.row (.slice none 0 0) e sz 0 [] :: L) w :=
 ⟨h.os, h.tape, h.output, h.fro, fun i hi => by
   cases hi with
   | head => exact World.ownsRow_nil _ _ _ _
   | tail _ hi => exact h.holds i hi, fun i hi g hg => by
   cases hi with
   | head => simp [It.own, Value.ownBlock] at hg
   | tail _ hi => exact h.off i hi g hg, List.pairwise_cons.2 ⟨fun i hi g hg => by simp [It.own, Value.ownBlock] at hg, h.apart⟩⟩
theorem grow_ok (n : Nat) (hn : n < 1000000000000) (E : World) (H : GH) (L : List It) : Ok Tryz.prog 114 #[.slice none 0 0, .int .i64 (n : Int)] E H L fun r H' L' => ∃ A c, r = .slice A 0 c ∧ H = H' ∧ L' = .row (.slice A 0 c) 82 3 0 [] :: L := fun w hw => by
 rcases Nat.eq_zero_or_pos n with rfl | hpos
 · exact (Any8.slices_Grow_room Tryz.grow114 none 0 0 0 w (by omega) (by omega) (by omega) (by omega)).mono fun e w' ⟨h, hw'⟩ => ⟨_, H, _, h, LE.rfl, by subst hw'; exact St.rowNil hw, none, 0, rfl, rfl, rfl⟩
 · obtain ⟨_, i, z, hi, hz, hs, hb, hzs, h0⟩ := row_of row22
   refine (Any8.slices_Grow_grow Tryz.grow114 i z hi hz (by rw [hs]; omega) none 0 0 n [] w (by omega) (by omega) (by rw [hb]; omega) (by omega) (by simp) (fun _ => rfl) (fun a h => by cases h)).mono fun e w' ⟨h, hw'⟩ => ?_
   have hge := grownCap_ge w (0 + n) 0 82
   have hle := grownCap_le_maxLen w (0 + n) 0 82 (by simp only [maxLen]; omega)
   refine ⟨_, H, _, h, LE.rfl, ?_, _, _, rfl, rfl, rfl⟩
   subst hw'
   have hd : St E H L w.drew := hw.drew _
   refine (hd.alloc _).set (k := 0) (i := .obj _ _) (j := .row (.slice (some ⟨w.heap.size, 0, none⟩) 0 (grownCap w (0 + n) 0 82)) 82 3 0 []) rfl ?_ (fun x hx => .inl (by simpa [It.own, Value.ownBlock] using hx)) rfl rfl rfl (fun _ _ _ => rfl)
   refine ⟨rfl, .inr ⟨w.heap.size, _, _, rfl, Nat.zero_le _, (hd.alloc _).holds _ (List.mem_cons_self ..), Nat.zero_le _, hle, ?_, by simp⟩⟩
   have e25 : Tryz.grow114_ren.t 25 = 82 := rfl
   simp only [Array.size_append, size_zeroCells, hzs, List.size_toArray, List.length_nil, e25]
   omega
def RCS (H : GH) (cs : List Value) (ds : List Dc) : Prop := ∃ A c, cs = [.slice A ds.length c] ∧ CS H A c ds
theorem rdc_one {H : GH} {ds : List Dc} : ∀ cs y, y ∈ ds → RDc H cs y → ∀ u ∈ cs, u.oneCell' = true := by
 intro cs y _ h u hu
 unfold RDc at h; subst h
 simp at hu; rcases hu with rfl | rfl | rfl <;> rfl
def lenS (dss : List (List Dc)) : Nat := (dss.map List.length).sum
theorem lenS_flat : ∀ dss : List (List Dc), dss.flatten.length = lenS dss
 | [] => rfl
 | d :: l => by simp [lenS, lenS_flat l]
theorem lenS_take {dss : List (List Dc)} {k : Nat} (h : k < dss.length) : lenS (dss.take (k + 1)) = lenS (dss.take k) + dss[k].length := by
 unfold lenS; rw [List.take_succ_eq_append_getElem h, List.map_append, List.sum_append]; simp
theorem lenS_le (dss : List (List Dc)) (k : Nat) : lenS (dss.take k) ≤ lenS dss := by
 rw [← lenS_flat, ← lenS_flat]
 conv => rhs; rw [← List.take_append_drop k dss, List.flatten_append, List.length_append]
 omega
theorem flat_take2 {dss : List (List Dc)} {k : Nat} (h : k < dss.length) : (dss.take (k + 1)).flatten = (dss.take k).flatten ++ dss[k] := by
 rw [List.take_succ_eq_append_getElem h, List.flatten_append]; simp
theorem Concat_ok (dss : List (List Dc)) (v : Value) (E : World) (H : GH) (L : List It) (hss : RS RCS 1 H v dss) (hb : lenS dss < 1000000000000) (hb2 : dss.length < 1000000000000) :
   Ok Tryz.prog 58 #[v] E H L fun r H' L' => ∃ B cp xs, r = .slice B dss.flatten.length cp ∧ H = H' ∧ L' = .row (.slice B dss.flatten.length cp) 82 3 dss.flatten.length xs :: L ∧ RowR RDc 3 H xs dss.flatten := by
 obtain ⟨A, c, rfl, hsc⟩ := id hss
 refine enter (N := 36) [(0, _)] Tryz.func58 rfl rfl rfl rfl fun a w h => ?_
 refine au [1,2,0,6,0,2,0,6,0,3,0,4,1,2,0,0,6,0,0,0,0,3,1,5] h ?_; intro a w h
 refine lp (β := Nat) (fun k a w => (k ≤ dss.length) ∧ S E H 36 [] [(11, .int .i64 (k : Int)), (10, .int .i64 (dss.length : Int)), (9, .slice A dss.length c), (0, .slice A dss.length c), (3, .int .i64 ((lenS (dss.take k) : Nat) : Int))] (L) a w)
  (fun k => dss.length - k) 0 ⟨Nat.zero_le _, h.to 0 _⟩ ?_
 rintro k a w ⟨pre, h⟩
 refine au [1,2,6,4,0,3,0,4] h ?_; intro a w h
 refine cdB h (fun c12 => ?_) (fun c12 => ?_)
 ·have c12 : k < dss.length := by simpa using c12
  obtain ⟨g, off, cs, rfl, hl, ⟨A2, c2, rfl, hds⟩, hcell⟩ := RS.at_ hss (List.getElem?_eq_getElem c12)
  have hts := lenS_take c12
  have hls := lenS_le dss (k + 1)
  refine au [1,8,1,0,0,4,1,5,1,2] h ?_
  refine ia sli206 sz22 rfl c12 h fun a w h => ?_
  refine ldH t1_22 (hcell 0 _ rfl) h fun a w h => ?_
  refine au [0,6,0,2,0,0,0,0,6,0] h ?_; intro a w h
  refine adr ((lenS (dss.take (k + 1)) : Nat) : Int) ?_ h fun a w h => ?_
  ·rw [w64 (by omega) (by omega)]; omega
  refine au [0,6,0,2,0,0,6,4,0,3] h ?_; intro a w h
  refine cdB h (fun c20 => ?_) (fun c20 => ?_)
  ·exact absurd (of_decide_eq_true c20) (by omega)
  ·refine au [1,8,1,7,1,0,0,5] h ?_
   refine inc ?_ h fun a w h => ?_
   ·omega
   refine au [0,0,0,3] h ?_; intro a w h
   exact ⟨(k + 1), ⟨by omega, h.to 0 _⟩, by show _ - (k + 1) < _ - k; omega⟩
 ·have hk : k = dss.length := by simp at c12; omega
  rw [hk, List.take_length] at h
  refine au [2,5,2,2,2,2,2,3,1,0,1,2,0,0] h ?_; intro a w h
  refine cl bod114 (grow_ok (lenS dss) hb E H _) h fun r24 H24 L24 a w le24 R h => ?_
  obtain ⟨A24, c24, rfl, rfl, rfl⟩ := R
  refine au [0,6,0,3,0,4,1,2,0,0,6,0,0,0,0,3,1,5] h ?_; intro a w h
  refine lp (β := Nat × Option Addr × Nat × Nat × List Value) (fun x a w => match x with | (k, B, n, cp, xs) => (k ≤ dss.length ∧ n = lenS (dss.take k) ∧ RowR RDc 3 H xs (dss.take k).flatten) ∧ S E H 36 [] [(27, .int .i64 (k : Int)), (26, .int .i64 (dss.length : Int)), (25, .slice A dss.length c), (6, .slice B n cp)] (.row (.slice B n cp) 82 3 n xs :: L) a w)
   (fun x => match x with | (k, B, n, cp, xs) => dss.length - k) (0, A24, 0, c24, []) ⟨⟨Nat.zero_le _, rfl, RowR.nil⟩, h.to 0 _⟩ ?_
  rintro ⟨k, B, n, cp, xs⟩ a w ⟨pre, h⟩
  obtain ⟨hk, hn, hrow⟩ := pre
  refine au [1,2,6,4,0,3,0,4] h ?_; intro a w h
  refine cdB h (fun c28 => ?_) (fun c28 => ?_)
  ·have c28 : k < dss.length := by simpa using c28
   obtain ⟨g, off, cs, rfl, hl, ⟨A2, c2, rfl, hds⟩, hcell⟩ := RS.at_ hss (List.getElem?_eq_getElem c28)
   have hts := lenS_take c28
   have hls := lenS_le dss (k + 1)
   refine au [1,8,1,0,0,4,1,5,1,2] h ?_
   refine ia sli206 sz22 rfl c28 h fun a w h => ?_
   refine ldH t1_22 (hcell 0 _ rfl) h fun a w h => ?_
   refine au [0,6,0,3,0,5,0,0,0,0] h ?_; intro a w h
   refine aps 0 (L' := fun i => i :: _) row22 hds rdc_one h ?_ ?_ fun v33 news a w hone hnews h => ?_
   ·omega
   ·omega
   obtain ⟨B2, cp2, rfl⟩ := h.rowv 0
   have hr2 : RowR RDc 3 H (xs ++ news) (dss.take (k + 1)).flatten := by rw [flat_take2 c28]; exact hrow.app hnews
   refine au [0,6,1,1,1,7,1,0,0,5] h ?_; intro a w h
   refine inc ?_ h fun a w h => ?_
   ·omega
   refine au [0,0,0,3] h ?_; intro a w h
   exact ⟨(k + 1, B2, _, cp2, _), ⟨⟨by omega, by rw [lenS_take c28, ← hn], hr2⟩, h.to 0 _⟩, by show _ - (k + 1) < _ - k; omega⟩
  ·have hkk : k = dss.length := by simp at c28; omega
   rw [hkk, List.take_length] at hrow hn
   rw [← lenS_flat] at hn
   subst hn
   refine au [2,5,2,2,2,2,2,3,1,0,1,2,0,0,0,6,0,3,1,3] h ?_; intro a w h
   refine fin1 2 0 h LE.rfl ?_
   exact ⟨B, cp, xs, rfl, rfl, rfl, hrow⟩
theorem Clip_ok (A : Option Addr) (n c : Nat) (hc : n ≤ c) (E : World) (H : GH) (L : List It) :
   Ok Tryz.prog 59 #[.slice A n c] E H L fun r H' L' => r = .slice A n n ∧ H = H' ∧ L = L' := by
 refine enter (N := 9) [(0, _)] Tryz.func59 rfl rfl rfl rfl fun a w h => ?_
 refine au [1,2,0,6,0,2,0,0,0,0,6,0,0,0,6,0] h ?_; intro a w h
 refine sl (l := 0) (h' := n) (m := n) sli54 sz9 (fun w => ?_) h fun a w h => ?_
 ·simp [Instr.sliceBounds, h.ag.ev (x := .tmp 5) rfl, h.ag.ev (x := .tmp 7) rfl, asIntOf, Instr.sliceBound, hc]
 refine au [0,6,0,3,1,3] h ?_; intro a w h
 refine fin1 2 0 h LE.rfl ?_
 have e : (if n = 0 then A else A.map (·.add (0 * 1))) = A := by
  split; rfl
  cases A with
  | none => rfl
  | some q => simp [Addr.add]
 exact ⟨by rw [e]; rfl, rfl, rfl⟩
theorem isnew_ok (known : List Bs) (s : Bs) (B : Option Addr) (cp gk : Nat) (E : World) (H : GH) (L : List It) (hk : SS H B cp known) (hc : Hc H gk 0 (.slice B known.length cp)) (hb : known.length < 1000000000000) :
   Ok Tryz.prog 64 #[str s, .pointer (some ⟨gk, 0, none⟩)] E H L fun r H' L' => r = .bool (!known.contains s) ∧ H = H' ∧ L = L' := by
 refine enter (N := 8) [(0, _), (1, _)] Tryz.func64 rfl rfl rfl rfl fun a w h => ?_
 refine au [1,2,0,6,0,2] h ?_; intro a w h
 refine ldH t1_54 hc h fun a w h => ?_
 refine mv h fun a w h => ?_
 refine cl bod65 (Contains_ok known s B cp E H _ hk hb) h fun r6 H6 L6 a w le6 R h => ?_
 obtain ⟨rfl, rfl, rfl⟩ := R
 refine au [7,1,0,6,0,3,1,3] h ?_; intro a w h
 refine fin1 3 0 h LE.rfl ?_
 exact ⟨rfl, rfl, rfl⟩
theorem rowS {H : GH} : ∀ ss : List Bs, RowR RStr 1 H (ss.map encS) ss
 | [] => RowR.nil
 | s :: l => RowR.cons1 rfl (rowS l)
theorem strange_ok (t : Tm) (v : Value) (known : List Bs) (B : Option Addr) (cp gk : Nat) (E : World) (H : GH) (L : List It) (hv : VT H v t) (hlg : t.long < 1000000000000) (hsz : t.size < 1000000000000) (hk : SS H B cp known) (hc : Hc H gk 0 (.slice B known.length cp)) (hb : known.length < 1000000000000) :
   Ok Tryz.prog 61 #[v, .pointer (some ⟨gk, 0, none⟩)] E H L fun r H' L' => r = .bool (t.strange known) ∧ H = H' ∧ L = L' := by
 have hv0 := hv
 obtain ⟨A, c, rfl, hks⟩ := hv
 have hv := hv0
 refine enter (N := 8) [(0, _), (1, _)] Tryz.func61 rfl rfl rfl rfl fun a w h => ?_
 refine au [1,2] h ?_
 refine bxA h fun g2 a w h => ?_
 refine au [0,6,0,2,3,3] h ?_; intro a w h
 refine cl bod63 (Free_ok t _ E H _ hv hlg hsz) h fun r5 H5 L5 a w le5 R h => ?_
 obtain ⟨A5, c5, ss, rfl, rfl, rfl, hset⟩ := R
 refine mf h fun a w h => ?_
 obtain ⟨H2, le2, h, hrs⟩ := h.frw 0 (rowS ss) rfl (fun _ _ _ _ _ h => h)
 have l_H_H2 : LE H H2 := le2
 have hsl : ss.length < 1000000000000 := by have := sub_len (m := t.names) hset.1 (fun x hx => fr_names t _ x ((hset.2.1 x).1 hx)); rw [names_len] at this; omega
 refine cl bod62 (ContainsFunc_Bs_ok ss A5 c5 (fun s => !known.contains s) 64 #[.pointer (some ⟨gk, 0, none⟩)] E H2 _ hrs hsl bod64 (fun j hj v hvj => by subst hvj; exact isnew_ok known _ B cp gk E H2 _ (hk.up le2) (hc.mono le2) hb)) h fun r7 H7 L7 a w le7 R h => ?_
 obtain ⟨rfl, rfl, rfl⟩ := R
 refine au [0,6,0,3,1,3] h ?_; intro a w h
 have h := h.del 0
 refine fin1 3 0 (h.less le2) LE.rfl ?_
 exact ⟨by rw [strange_of hset], rfl, rfl⟩
theorem known_succ (p : Pg) {k : Nat} (h : k < p.defs.length) : p.known (k + 1) = p.known k ++ [p.defs[k].name] := by
 unfold Pg.known; rw [List.take_succ_eq_append_getElem h]; simp only [List.map_append, List.append_assoc]; rfl
theorem known_len (p : Pg) (k : Nat) : (p.known k).length ≤ p.inputs.length + p.cells.length + p.defs.length := by
 unfold Pg.known; simp only [List.length_append, List.length_map, List.length_take]; omega
theorem rs_le {α : Type} {R : GH → List Value → α → Prop} {sz : Nat} {H : GH} {A : Option Addr} {n c : Nat} {ys : List α} (h : RS R sz H (.slice A n c) ys) : n ≤ c := by
 obtain ⟨A', c', e, h1, _⟩ := h
 cases e; exact h1
theorem rs_clip {α : Type} {R : GH → List Value → α → Prop} {sz : Nat} {H : GH} {A : Option Addr} {c : Nat} {ys : List α} (h : RS R sz H (.slice A ys.length c) ys) : RS R sz H (.slice A ys.length ys.length) ys := by
 obtain ⟨A', c', e, h1, h2⟩ := h
 cases e
 exact ⟨A, ys.length, rfl, Nat.le_refl _, h2⟩
theorem go_none {p : Pg} {k : Nat} (h : p.go k = none) : ∀ m, k ≤ m → p.go m = none := by
 intro m hm
 induction m with
 | zero => have : k = 0 := by omega
           subst this; exact h
 | succ m ih =>
   by_cases e : k = m + 1
   · subst e; exact h
   · simp only [Pg.go, ih (by omega)]
theorem go_succ {p : Pg} {k : Nat} {ds : List Df} {n : Int} (h : p.go k = some (ds, n)) (hk : k < p.defs.length) :
   p.go (k + 1) = if p.defs[k].t.strange (p.known k) then none else some (ds ++ [⟨p.defs[k].name, (p.defs[k].t.ren (fun _ => none) n).1⟩], (p.defs[k].t.ren (fun _ => none) n).2) := by
 simp only [Pg.go, h, List.getElem?_eq_getElem hk]
theorem vp_zero (H : GH) : VP H (.agg #[.slice none 0 0, .slice none 0 0, .slice none 0 0, .int .i64 0, str [], .int .i64 0, .slice none 0 0]) Pg.zero :=
 ⟨none, 0, none, 0, none, 0, none, 0, rfl, RS.nil _ _ _, RS.nil _ _ _, RS.nil _ _ _, RS.nil _ _ _⟩
theorem twice_yes {p : Pg} {k : Nat} (hk : k < (p.known p.defs.length).length) (h : decide (indexL (p.known p.defs.length) (p.known p.defs.length)[k] < (k : Int)) = true) : p.twice = true := by
 unfold Pg.twice
 rw [List.any_eq_true]
 exact ⟨k, List.mem_range.2 hk, by simpa [List.getD, List.getElem?_eq_getElem hk] using h⟩
theorem twice_no {p : Pg} (h : ∀ j (hj : j < (p.known p.defs.length).length), decide (indexL (p.known p.defs.length) (p.known p.defs.length)[j] < (j : Int)) = false) : p.twice = false := by
 unfold Pg.twice
 rw [List.any_eq_false]
 intro j hj
 have hj := List.mem_range.1 hj
 have := h j hj
 simp only [List.getD, List.getElem?_eq_getElem hj, Option.getD_some, this]
 simp
section
variable {P : Program} {ops : Array Oper} {Q : Exit → Act → World → Prop} {γ : Gd P ops Q} {rest : List Oper} {o : Oper} {E w : World} {H : GH} {N : Nat} {D : List Deferred} {F : List (Nat × Value)} {L : List It} {a : Act}
variable {t : TypeId} {x y : Operand} {g off : Nat} {cs : Array Value} {ty : TypeId}
theorem stN (k0 : Nat) {n : Nat} {vs : List Value} {L' : List It} (ht : tyN P t n = true) (h : S E H N D F L a w) (k : ∀ a w, S E H N D F L' a w → γ.G rest a w) (out : List Value)
   (ho : o.op = .store t x y := by rfl) (hx : ev F x = some (.pointer (some ⟨g, off, none⟩)) := by rfl) (hy : ev F y = some (.agg vs.toArray) := by rfl)
   (hk : L[k0]? = some (.obj g (.cells cs ty (0, 0))) := by rfl) (hout : (wr cs off vs).toList = out := by rfl) (hL : L.set k0 (.obj g (.cells out.toArray ty (0, 0))) = L' := by rfl) (hn : vs.length = n := by rfl) (hf : Nat.ble (off + n) cs.size = true := by rfl) (h1 : vs.all (·.oneCell') = true := by rfl)
   (hw : wn ops F o = some true := by rfl) (hd : o.dst = none := by rfl) (hE : γ.isE rest.length = true := by rfl) (hS : γ.isN rest.length = true → ∀ w, St E H L' w → γ.S w := by exact fun e => Bool.noConfusion (show false = true from e)) : γ.G (o :: rest) a w := by
 obtain ⟨w', hrun, r1, r2, r3, r4, r5⟩ := run_stores (P := P) (g := g) (off := off) (ty := ty) vs 0 cs w (item_at h.st.sees hk) (by simp [Nat.ble_eq] at hf; omega) (fun v hv => List.all_eq_true.1 h1 v hv)
 subst hL
 have hoa : out.toArray = wr cs off vs := by rw [← hout]
 refine unit_ h hw hd hE hS (w' := w') ?_ (h.st.wrote hk r1 r2 r3 (by rw [hoa]; simpa using r5)) k
 obtain ⟨d', hu, hr, hi⟩ := und_ofN ht
 obtain ⟨i, hi', hs⟩ := Option.map_eq_some_iff.1 hi
 simp [execOp, ho, h.ag.ev hx, h.ag.ev hy, Instr.storeAt, Instr.sureAddr, storeVar, sizeOf, typeInfo, hi', hs, Value.cells, hn, hrun]
end
theorem vp_of {H : GH} {p : Pg} {A1 A2 C A4 : Option Addr} {c1 c2 k cq c4 : Nat} {ds : List Df} {t : Tm} (h1 : CS H A1 c1 p.inputs) (h2 : CS H A2 c2 p.cells) (hk : k = ds.length) (h3 : RS RDf 5 H (.slice C k cq) ds) (h4 : KS H A4 c4 t.kids) :
   VP H (.agg #[.slice A1 p.inputs.length c1, .slice A2 p.cells.length c2, .slice C k cq, .int .i64 t.kind, str t.name, .int .i64 t.n, .slice A4 t.kids.length c4]) ⟨p.inputs, p.cells, ds, t⟩ := by
 subst hk; exact ⟨A1, c1, A2, c2, C, cq, A4, c4, rfl, h1, h2, h3, h4⟩
theorem fits_right {p : Pg} (h : p.right = true) : p.fits = true := by
 unfold Pg.right Pg.print at h
 by_cases hf : p.fits = true
 · exact hf
 · rw [if_neg hf] at h; simp at h
theorem Resolve_ok (p : Pg) (v : Value) (E : World) (H : GH) (L : List It) (hv : VP H v p) (hL : Laid H) (hb : Mild p) :
   Ok Tryz.prog 29 #[v] E H L fun r H' L' => ∃ v', r = .tuple #[v', .int .i64 p.resolve.2] ∧ VP H' v' p.resolve.1 ∧ L' = L := by
 have hv0 := hv
 obtain ⟨A1, c1, A2, c2, A3, c3, A4, c4, rfl, hi, hc, hd, hk⟩ := hv
 have hv := hv0
 have b1 := hb.li
 have b2 := hb.lc
 have b3 := hb.lf
 refine enter (N := 124) [(0, _)] Tryz.func29 rfl rfl rfl rfl fun a w h => ?_
 refine au [1,2] h ?_
 refine bxA h fun g1 a w h => ?_
 refine al zr28 h fun g2 a w h => ?_
 refine au [0,6,0,3,0,4,0,4] h ?_; intro a w h
 obtain ⟨Hf, leHf, h, hf1⟩ := h.frz 1
 have l_H_Hf : LE H Hf := leHf
 have hvf := hv.mono l_H_Hf
 have hLf := hL.up l_H_Hf
 have hif := hi.up l_H_Hf
 have hcf := hc.up l_H_Hf
 have hdf := hd.up l_H_Hf
 have hkf := hk.up l_H_Hf
 refine rg0 ?_
 refine ldHN tN28 rfl (Hc.all (LE.rfl _ _ hf1)) h fun a w h => ?_
 refine cl bod27 (RightP_ok p _ E Hf _ hvf hLf hb) h fun r20 H20 L20 a w le20 R h => ?_
 obtain ⟨rfl, rfl, rfl⟩ := R
 refine au [7,1,0,3] h ?_; intro a w h
 refine cdB h (fun c21 => ?_) (fun c21 => ?_)
 ·have er : p.resolve = (Pg.zero, 11) := by unfold Pg.resolve; rw [if_pos c21]
  refine au [1,2,7,5,5,5,0,6,0,3,1,3,1,4] h ?_; intro a w h
  rw [er]
  exact fin (rs := [.cell 2 28, .tmp 3]) (vs := [.agg #[_, _, _, _, _, _, _], .int .i64 _]) h rfl (.agg (k0 := 0) tN28 rfl rfl rfl (.tmp rfl .nil)) rfl l_H_Hf ⟨LE.rfl, h.st.drop 1⟩ ⟨_, rfl, vp_zero _, rfl⟩
 ·have hrt : p.right = true := by simpa using c21
  have hfit := fits_right hrt
  obtain ⟨hl1, hl2, hl3, _, _, hw3, hbr⟩ := fits_of hfit
  refine au [1,8,1,0,1,2] h ?_
  refine al zr54 h fun g4 a w h => ?_
  refine au [0,3,0,4,1,2,0,7] h ?_; intro a w h
  refine ldH t1_22 (Hc.of (LE.rfl _ _ hf1) rfl) h fun a w h => ?_
  refine fa fl28_1 (r := 1) h fun a w h => ?_
  refine ldH t1_22 (Hc.of (LE.rfl _ _ hf1) rfl) h fun a w h => ?_
  refine bsl bs206 h fun g27 a w h => ?_
  obtain ⟨Hl, leHl, h, hpl⟩ := h.fsl (α := List Dc) (R := RCS) 0 (ys := [p.inputs, p.cells]) (.cons1 ⟨A1, c1, rfl, hif⟩ (.cons1 ⟨A2, c2, rfl, hcf⟩ .nil)) (fun _ l _ _ _ ⟨A, c, e, hr⟩ => ⟨A, c, e, hr.up l⟩)
  have l_H_Hl : LE H Hl := l_H_Hf.trans leHl
  have l_Hf_Hl : LE Hf Hl := leHl
  refine cl bod58 (Concat_ok [p.inputs, p.cells] _ E Hl _ hpl (by simp only [lenS, List.map_cons, List.map_nil, List.sum_cons, List.sum_nil]; omega) (by simp only [List.length_cons, List.length_nil]; omega)) h fun r28 H28 L28 a w le28 R h => ?_
  obtain ⟨B28, cp28, xs28, rfl, rfl, rfl, hr28⟩ := R
  rw [show [p.inputs, p.cells].flatten = p.inputs ++ p.cells from by simp] at h hr28
  obtain ⟨Hd, leHd, h, hds⟩ := h.frw 0 (n := (p.inputs ++ p.cells).length) hr28 rfl (fun _ _ _ _ _ h => h)
  have l_H_Hd : LE H Hd := l_H_Hl.trans leHd
  have l_Hf_Hd : LE Hf Hd := l_Hf_Hl.trans leHd
  have l_Hl_Hd : LE Hl Hd := leHd
  have hdsl : (p.inputs ++ p.cells).length ≤ 64 := by rw [List.length_append]; omega
  refine ln sli22 h fun a w h => ?_
  have h := h.row (e := 9) (sz := 1)
  refine au [0,0,0,3,1,5] h ?_; intro a w h
  have h := h.pull 2 rfl rfl
  have h := h.pull 1 rfl rfl
  have h := h.pull 2 rfl rfl
  refine lp (β := Nat × Option Addr × Nat × List Value) (fun x a w => match x with | (k, B, cp, xs) => (k ≤ (p.inputs ++ p.cells).length ∧ RowR RStr 1 Hd xs (((p.inputs ++ p.cells).take k).map (·.name))) ∧ S E Hd 124 [] [(30, .int .i64 (k : Int)), (29, .int .i64 ((p.inputs ++ p.cells).length : Int)), (28, .slice B28 (p.inputs ++ p.cells).length cp28), (1, .pointer (some ⟨g1, 0, none⟩)), (2, .pointer (some ⟨g2, 0, none⟩)), (4, .pointer (some ⟨g4, 0, none⟩)), (3, .int .i64 0)] (.obj g4 (.cells #[.slice B k cp] 54 (0, 0)) :: .row (.slice B k cp) 9 1 k xs :: .obj g2 (.cells #[.slice none 0 0, .slice none 0 0, .slice none 0 0, .int .i64 0, .string ⟨#[]⟩, .int .i64 0, .slice none 0 0] 28 (0, 0)) :: L) a w)
   (fun x => match x with | (k, B, cp, xs) => (p.inputs ++ p.cells).length - k) (0, none, 0, []) ⟨⟨Nat.zero_le _, RowR.nil⟩, h.to 0 _⟩ ?_
  rintro ⟨k, B, cp, xs⟩ a w ⟨pre, h⟩
  refine au [1,2,6,4,0,3,0,4] h ?_; intro a w h
  refine cdB h (fun c31 => ?_) (fun c31 => ?_)
  ·have c31 : k < (p.inputs ++ p.cells).length := by have := of_decide_eq_true c31; omega
   obtain ⟨g, off, rfl, hvt, hcell⟩ := CS.get hds c31
   refine au [1,8,1,0,0,4,1,5,1,2] h ?_
   refine ia sli22 sz82 rfl c31 h fun a w h => ?_
   refine ldHN tN82 rfl hcell h fun a w h => ?_
   refine al zr82 h fun g6 a w h => ?_
   refine au [5,5,0,3,0,5,2,8,0,7,0,8] h ?_; intro a w h
   refine bsl bs54 h fun g37 a w h => ?_
   refine apb 3 0 (L' := fun i => _ :: _ :: _ :: i :: _) [_] row54 h ?_ ?_ fun v38 a w hone h => ?_
   ·omega
   ·omega
   obtain ⟨B2, cp2, rfl⟩ := h.rowv 3
   have hr2 : RowR RStr 1 Hd (xs ++ [str (p.inputs ++ p.cells)[k].name]) (((p.inputs ++ p.cells).take (k + 1)).map (·.name)) := by rw [List.take_succ_eq_append_getElem c31, List.map_append]; exact pre.2.app (.one rfl rfl)
   refine au [5,3,1,1,1,7,1,0,0,5] h ?_; intro a w h
   have h := h.pull 4 rfl rfl
   have h := h.pull 4 rfl rfl
   have h := h.pull 4 rfl rfl
   have h := h.del 4
   have h := h.del 3
   refine inc ?_ h fun a w h => ?_
   ·omega
   refine au [0,0,0,3] h ?_; intro a w h
   exact ⟨(k + 1, B2, cp2, _), ⟨⟨by omega, hr2⟩, h.to 0 _⟩, by show _ - (k + 1) < _ - k; omega⟩
  ·have hkk : k = (p.inputs ++ p.cells).length := by have := of_decide_eq_false c31; omega
   have hrow := pre.2
   rw [hkk, List.take_length, show (p.inputs ++ p.cells).map (·.name) = p.known 0 from by simp [Pg.known]] at hrow
   have hk2 : k = (p.known 0).length := by rw [hkk]; simp [Pg.known]
   subst hk2
   refine au [2,5,2,2,2,2,2,3,1,0,1,2,0,8,0,6,0,3,0,4,0,4] h ?_; intro a w h
   obtain ⟨Hk, leHk, h, hk0, back1⟩ := h.lendR 1 (ys := p.known 0) hrow rfl (fun _ _ _ _ _ h => h)
   have l_H_Hk : LE H Hk := l_H_Hd.trans leHk
   have l_Hf_Hk : LE Hf Hk := l_Hf_Hd.trans leHk
   have l_Hl_Hk : LE Hl Hk := l_Hl_Hd.trans leHk
   have l_Hd_Hk : LE Hd Hk := leHk
   refine au [0,5,0,7] h ?_; intro a w h
   refine ldH t1_23 (Hc.of (l_Hf_Hk _ _ hf1) rfl) h fun a w h => ?_
   refine au [6,0,0,0,0,3,1,5] h ?_; intro a w h
   refine lp (β := Nat × GH × Option Addr × Nat) (fun x a w => match x with | (k, H3, Aa, ca) => (k ≤ p.defs.length ∧ LE Hk H3 ∧ SS H3 Aa ca (p.known k)) ∧ S E H3 124 [] [(44, .int .i64 (k : Int)), (43, .int .i64 (p.defs.length : Int)), (42, .slice A3 p.defs.length c3), (7, .slice Aa (p.known k).length ca), (1, .pointer (some ⟨g1, 0, none⟩)), (2, .pointer (some ⟨g2, 0, none⟩)), (4, .pointer (some ⟨g4, 0, none⟩)), (3, .int .i64 0)] (.obj g4 (.cells #[.slice B (p.known 0).length cp] 54 (0, 0)) :: .obj g2 (.cells #[.slice none 0 0, .slice none 0 0, .slice none 0 0, .int .i64 0, .string ⟨#[]⟩, .int .i64 0, .slice none 0 0] 28 (0, 0)) :: L) a w)
    (fun x => match x with | (k, H3, Aa, ca) => p.defs.length - k) (0, Hk, B, cp) ⟨⟨Nat.zero_le _, LE.rfl, hk0⟩, h.to 0 _⟩ ?_
   rintro ⟨k, H3, Aa, ca⟩ a w ⟨pre, h⟩
   obtain ⟨hkk, l_Hk_H3, hsa⟩ := pre
   have l_Hd_H3 := l_Hd_Hk.trans l_Hk_H3
   have l_Hf_H3 := l_Hf_Hk.trans l_Hk_H3
   have l_H_H3 := l_H_Hk.trans l_Hk_H3
   have hkn := known_len p k
   refine au [1,2,6,4,0,3,0,4] h ?_; intro a w h
   refine cdB h (fun c45 => ?_) (fun c45 => ?_)
   ·have c45 : k < p.defs.length := by simpa using c45
    obtain ⟨g, off, A6, c6, rfl, hvt, hcell⟩ := FS.get (hdf.up l_Hf_H3) c45
    refine au [1,8,1,0,0,4,1,5,1,2] h ?_
    refine ia sli23 sz93 rfl c45 h fun a w h => ?_
    refine ldHN tN93 rfl hcell h fun a w h => ?_
    refine al zr93 h fun g9 a w h => ?_
    refine au [5,5,0,3] h ?_; intro a w h
    refine rgx [0] [_] [3] 7 mix h (fun a w h => ?_)
    refine au [8,0,0,0,2,6,8,2,0,7,2,6,8,3,3,8,2,6] h ?_; intro a w h
    refine brl2 1 4 true false (by kernel_rfl) (by kernel_rfl) (by kernel_rfl) (fun _ => h.st.sees' (by first | exact LE.rfl | assumption) (by simp)) ?_ ?_
    ·refine cl bod59 (Clip_ok Aa (p.known k).length ca (rs_le hsa) E H3 _) h (fun r49 H49 L49 a w le49 R h => ?_) (hS := fun _ _ _ _ _ le R hw => by obtain ⟨rfl, rfl, rfl⟩ := R; exact hw.sees' (by first | exact le | exact LE.trans (by assumption) le) (by simp))
     obtain ⟨rfl, rfl, rfl⟩ := R
     refine br0 ?_
     refine brl1 4 false (by kernel_rfl) (by kernel_rfl) (fun _ => h.st.sees' (by first | exact LE.rfl | assumption) (by simp)) ?_
     refine bsl bs54 h fun g52 a w h => ?_
     refine br0 ?_
     refine brl1 5 true (by kernel_rfl) (by kernel_rfl) (fun _ => h.st.sees' (by first | exact LE.rfl | assumption) (by simp)) ?_
     refine apc 0 [_] row54 (rs_clip hsa) h ?_ ?_ fun A53 c53 olds a w hol h => ?_
     ·omega
     ·omega
     have hkl : (p.known k).length + 1 = (p.known (k + 1)).length := by rw [known_succ p c45, List.length_append]; rfl
     have hr53 : RowR RStr 1 H3 (olds ++ [str p.defs[k].name]) (p.known (k + 1)) := by rw [known_succ p c45]; exact hol.snoc rfl rfl
     rw [hkl] at h
     obtain ⟨H4, leH4, h, hsa2⟩ := h.frw 0 (ys := p.known (k + 1)) hr53 rfl (fun _ _ _ _ _ h => h)
     have l_H_H4 : LE H H4 := l_H_H3.trans leH4
     have l_Hf_H4 : LE Hf H4 := l_Hf_H3.trans leH4
     have l_Hd_H4 : LE Hd H4 := l_Hd_H3.trans leH4
     have l_Hk_H4 : LE Hk H4 := l_Hk_H3.trans leH4
     have l_H3_H4 : LE H3 H4 := leH4
     refine au [2,7,8,6,0,6,2,6] h ?_; intro a w h
     refine en (by kernel_rfl) ?_
     refine au [1,7,1,0,0,5] h ?_
     have h := h.pull 3 rfl rfl
     have h := h.pull 3 rfl rfl
     have h := h.del 3
     have h := h.del 2
     refine inc ?_ h fun a w h => ?_
     ·omega
     refine au [0,0,0,3] h ?_; intro a w h
     exact ⟨(k + 1, H4, A53, c53), ⟨⟨by omega, l_Hk_H4, hsa2⟩, h.to 0 _⟩, by show _ - (k + 1) < _ - k; omega⟩
    ·refine bsl bs54 h fun g52 a w h => ?_
     refine br0 ?_
     refine brl1 1 true (by kernel_rfl) (by kernel_rfl) (fun _ => h.st.sees' (by first | exact LE.rfl | assumption) (by simp)) ?_
     refine cl bod59 (Clip_ok Aa (p.known k).length ca (rs_le hsa) E H3 _) h (fun r49 H49 L49 a w le49 R h => ?_) (hS := fun _ _ _ _ _ le R hw => by obtain ⟨rfl, rfl, rfl⟩ := R; exact hw.sees' (by first | exact le | exact LE.trans (by assumption) le) (by simp))
     obtain ⟨rfl, rfl, rfl⟩ := R
     refine br0 ?_
     refine brl1 5 true (by kernel_rfl) (by kernel_rfl) (fun _ => h.st.sees' (by first | exact LE.rfl | assumption) (by simp)) ?_
     refine apc 0 [_] row54 (rs_clip hsa) h ?_ ?_ fun A53 c53 olds a w hol h => ?_
     ·omega
     ·omega
     have hkl : (p.known k).length + 1 = (p.known (k + 1)).length := by rw [known_succ p c45, List.length_append]; rfl
     have hr53 : RowR RStr 1 H3 (olds ++ [str p.defs[k].name]) (p.known (k + 1)) := by rw [known_succ p c45]; exact hol.snoc rfl rfl
     rw [hkl] at h
     obtain ⟨H4, leH4, h, hsa2⟩ := h.frw 0 (ys := p.known (k + 1)) hr53 rfl (fun _ _ _ _ _ h => h)
     have l_H_H4 : LE H H4 := l_H_H3.trans leH4
     have l_Hf_H4 : LE Hf H4 := l_Hf_H3.trans leH4
     have l_Hd_H4 : LE Hd H4 := l_Hd_H3.trans leH4
     have l_Hk_H4 : LE Hk H4 := l_Hk_H3.trans leH4
     have l_H3_H4 : LE H3 H4 := leH4
     refine au [2,7,8,6,0,6,2,6] h ?_; intro a w h
     refine en (by kernel_rfl) ?_
     refine au [1,7,1,0,0,5] h ?_
     have h := h.pull 3 rfl rfl
     have h := h.pull 3 rfl rfl
     have h := h.del 3
     have h := h.del 2
     refine inc ?_ h fun a w h => ?_
     ·omega
     refine au [0,0,0,3] h ?_; intro a w h
     exact ⟨(k + 1, H4, A53, c53), ⟨⟨by omega, l_Hk_H4, hsa2⟩, h.to 0 _⟩, by show _ - (k + 1) < _ - k; omega⟩
   ·have hke : k = p.defs.length := by simp at c45; omega
    subst hke
    refine au [2,5,2,2,2,2,2,3,1,0,0,4,1,2,0,0,6,0,0,0,0,3,1,5] h ?_; intro a w h
    refine lp (β := Nat) (fun j a w => (j ≤ (p.known p.defs.length).length ∧ ∀ i (hi : i < (p.known p.defs.length).length), i < j → decide (indexL (p.known p.defs.length) (p.known p.defs.length)[i] < (i : Int)) = false) ∧ S E H3 124 [] [(57, .int .i64 (j : Int)), (56, .int .i64 ((p.known p.defs.length).length : Int)), (55, .slice Aa (p.known p.defs.length).length ca), (7, .slice Aa (p.known p.defs.length).length ca), (1, .pointer (some ⟨g1, 0, none⟩)), (2, .pointer (some ⟨g2, 0, none⟩)), (4, .pointer (some ⟨g4, 0, none⟩)), (3, .int .i64 0)] (.obj g4 (.cells #[.slice B (p.known 0).length cp] 54 (0, 0)) :: .obj g2 (.cells #[.slice none 0 0, .slice none 0 0, .slice none 0 0, .int .i64 0, .string ⟨#[]⟩, .int .i64 0, .slice none 0 0] 28 (0, 0)) :: L) a w)
     (fun j => (p.known p.defs.length).length - j) 0 ⟨⟨Nat.zero_le _, fun i hi h0 => absurd h0 (by omega)⟩, h.to 0 _⟩ ?_
    rintro j a w ⟨pre, h⟩
    refine au [1,2,6,4,0,3,0,4] h ?_; intro a w h
    refine cdB h (fun c58 => ?_) (fun c58 => ?_)
    ·have c58 : j < (p.known p.defs.length).length := by simpa using c58
     obtain ⟨g, off, rfl, hcell⟩ := SS.get hsa c58
     refine au [1,8,1,0,0,4,1,5,1,2,0,0] h ?_; intro a w h
     refine ia sli54 sz9 rfl c58 h fun a w h => ?_
     refine ldH t1_9 hcell h fun a w h => ?_
     refine au [0,6,0,6,0,2,0,0,0,0] h ?_; intro a w h
     refine cl bod60 (Index_ok (p.known p.defs.length) _ _ ca E H3 _ hsa (by omega)) h fun r64 H64 L64 a w le64 R h => ?_
     obtain ⟨rfl, rfl, rfl⟩ := R
     refine au [0,0,6,4,0,3] h ?_; intro a w h
     refine cdB h (fun c66 => ?_) (fun c66 => ?_)
     ·have er : p.resolve = (Pg.zero, 6) := by unfold Pg.resolve; rw [if_neg (by rw [hrt]; simp), if_pos (twice_yes c58 c66)]
      refine au [1,2,7,5,5,6,0,6,0,3,1,3,1,6,1,4,1,4,1,6,1,4] h ?_; intro a w h
      rw [er]
      exact fin (rs := [.cell 2 28, .tmp 3]) (vs := [.agg #[_, _, _, _, _, _, _], .int .i64 _]) h rfl (.agg (k0 := 1) tN28 rfl rfl rfl (.tmp rfl .nil)) rfl l_H_H3 ⟨LE.rfl, h.st.drop 2⟩ ⟨_, rfl, vp_zero _, rfl⟩
     ·refine au [1,8,1,7,1,0,0,5] h ?_
      have h := h.pull 1 rfl rfl
      have h := h.pull 1 rfl rfl
      refine inc ?_ h fun a w h => ?_
      ·omega
      refine au [0,0,0,3] h ?_; intro a w h
      exact ⟨(j + 1), ⟨⟨by omega, fun i hi hij => by rcases Nat.lt_succ_iff_lt_or_eq.1 hij with h0 | rfl <;> first | exact c66 | exact pre.2 i hi h0⟩, h.to 0 _⟩, by show _ - (j + 1) < _ - j; omega⟩
    ·have hje : j = (p.known p.defs.length).length := by simp at c58; omega
     have htw : p.twice = false := twice_no fun i hi => pre.2 i hi (by omega)
     refine au [2,5,2,2,2,2,2,3,1,0,0,4] h ?_
     have h := back1.get l_Hk_H3 h
     refine au [0,5,7,3,0,6,0,3,0,4] h ?_; intro a w h
     have e0 : (p.known 0).length ≤ 64 := by have := known_len p 0; unfold Pg.known at *; simp at *; omega
     refine au [0,5,0,7] h ?_; intro a w h
     refine ldH t1_22 (Hc.of (l_Hf_Hd _ _ hf1) rfl) h fun a w h => ?_
     refine fa fl28_1 (r := 1) h fun a w h => ?_
     refine ldH t1_22 (Hc.of (l_Hf_Hd _ _ hf1) rfl) h fun a w h => ?_
     refine bdl lay28 zr28 h fun a w h => ?_
     refine al zr28 h fun g13 a w h => ?_
     refine au [5,5,0,2,0,6,0,3,0,4,0,4] h ?_; intro a w h
     have h := h.row (e := 93) (sz := 5)
     have hdg := hdf.up l_Hf_Hd
     have hkg := hkf.up l_Hf_Hd
     have hLg := hLf.up l_Hf_Hd
     refine au [0,5,0,7] h ?_; intro a w h
     refine ldH t1_23 (Hc.of (l_Hf_Hd _ _ hf1) rfl) h fun a w h => ?_
     refine au [6,0,0,0,0,3,1,5] h ?_; intro a w h
     have h := h.pull 4 rfl rfl
     have h := h.pull 1 rfl rfl
     have h := h.pull 2 rfl rfl
     have h := h.pull 3 rfl rfl
     have h := h.pull 4 rfl rfl
     refine lp (β := Nat × GH × List Df × Int × Option Addr × Nat × List Value × Option Addr × Nat × List Value) (fun x a w => match x with | (k, H5, ds, n, B5, cp5, xs5, C, cq, ys) => (k ≤ p.defs.length ∧ LE Hd H5 ∧ p.go k = some (ds, n) ∧ In64 n ∧ ds.length = k ∧ RowR RStr 1 H5 xs5 (p.known k) ∧ RowR RDf 5 H5 ys ds) ∧ S E H5 124 [] [(78, .int .i64 (k : Int)), (77, .int .i64 (p.defs.length : Int)), (76, .slice A3 p.defs.length c3), (12, .func (.func 61) #[] #[.pointer (some ⟨g4, 0, none⟩)]), (14, .int .i64 n), (1, .pointer (some ⟨g1, 0, none⟩)), (2, .pointer (some ⟨g2, 0, none⟩)), (4, .pointer (some ⟨g4, 0, none⟩)), (13, .pointer (some ⟨g13, 0, none⟩)), (3, .int .i64 0)] (.obj g4 (.cells #[.slice B5 (p.known k).length cp5] 54 (0, 0)) :: .row (.slice B5 (p.known k).length cp5) 9 1 (p.known k).length xs5 :: .obj g13 (.cells #[.slice A1 p.inputs.length c1, .slice A2 p.cells.length c2, .slice C k cq, .int .i64 0, .string ⟨#[]⟩, .int .i64 0, .slice none 0 0] 28 (0, 0)) :: .row (.slice C k cq) 93 5 k ys :: .obj g2 (.cells #[.slice none 0 0, .slice none 0 0, .slice none 0 0, .int .i64 0, .string ⟨#[]⟩, .int .i64 0, .slice none 0 0] 28 (0, 0)) :: L) a w)
      (fun x => match x with | (k, H5, ds, n, B5, cp5, xs5, C, cq, ys) => p.defs.length - k) (0, Hd, [], 1, B, cp, xs, none, 0, []) ⟨⟨Nat.zero_le _, LE.rfl, rfl, ⟨by decide, by decide⟩, rfl, hrow, RowR.nil⟩, h.to 0 _⟩ ?_
     rintro ⟨k, H5, ds, n, B5, cp5, xs5, C, cq, ys⟩ a w ⟨pre, h⟩
     obtain ⟨hkk, l_Hd_H5, hgo, hn, hdl, hrk, hrd⟩ := pre
     have l_Hf_H5 := l_Hf_Hd.trans l_Hd_H5
     have l_H_H5 := l_H_Hd.trans l_Hd_H5
     have hkn := known_len p k
     refine au [1,2,6,4,0,3,0,4] h ?_; intro a w h
     refine cdB h (fun c79 => ?_) (fun c79 => ?_)
     ·have c79 : k < p.defs.length := by simpa using c79
      obtain ⟨g, off, A6, c6, rfl, hvt, hcell⟩ := FS.get (hdg.up l_Hd_H5) c79
      obtain ⟨A7, c7, e7, hkt⟩ := hvt
      cases e7
      refine au [1,8,1,0,0,4,1,5,1,2] h ?_
      refine ia sli23 sz93 rfl c79 h fun a w h => ?_
      refine ldHN tN93 rfl hcell h fun a w h => ?_
      refine al zr93 h fun g16 a w h => ?_
      refine au [5,5,0,3,0,4,1,2,0,0,0,7] h ?_; intro a w h
      refine ldN 0 tN26 h fun a w h => ?_
      obtain ⟨Ha, leHa, h, hka, backa⟩ := h.lendR 2 (ys := (p.known k)) hrk rfl (fun _ _ _ _ _ h => h)
      obtain ⟨Hb, leHb, h, hfb, backb⟩ := h.lendO 1
      refine cl bod61 (strange_ok p.defs[k].t _ (p.known k) B5 cp5 g4 E Hb _ (VDf.t (hkt.up (leHa.trans leHb))) ((hb.f _ (List.getElem_mem c79)).2.1) ((hb.f _ (List.getElem_mem c79)).2.2) (SS.up hka leHb) (Hc.of hfb rfl) (by omega)) h fun r85 H85 L85 a w le85 R h => ?_
      obtain ⟨rfl, rfl, rfl⟩ := R
      have h := backb.get LE.rfl h
      have h := backa.get LE.rfl h
      refine au [0,3] h ?_
      refine cdB h (fun c85 => ?_) (fun c85 => ?_)
      ·have hgo3 : p.go (k + 1) = none := by rw [go_succ hgo c79, if_pos c85]
       have er : p.resolve = (Pg.zero, 5) := by unfold Pg.resolve; rw [if_neg (by rw [hrt]; simp), if_neg (by rw [htw]; simp), go_none hgo3 _ (by omega)]
       refine au [1,2,7,5] h ?_; intro a w h
       refine sw5 tN28 h fun a w h => ?_
       refine au [0,6,0,3,1,3,1,4,1,6,1,4,1,4,1,6,1,4] h ?_; intro a w h
       rw [er]
       exact fin (rs := [.cell 2 28, .tmp 3]) (vs := [.agg #[_, _, _, _, _, _, _], .int .i64 _]) h rfl (.agg (k0 := 5) tN28 rfl rfl rfl (.tmp rfl .nil)) rfl l_H_H5 ⟨LE.rfl, h.st.drop 6⟩ ⟨_, rfl, vp_zero _, rfl⟩
      ·have hgo2 : p.go (k + 1) = some (ds ++ [⟨p.defs[k].name, (p.defs[k].t.ren noS n).1⟩], (p.defs[k].t.ren noS n).2) := by rw [go_succ hgo c79, if_neg (by rw [c85]; simp)]; rfl
       refine au [1,8,1,0,1,2,0,7] h ?_; intro a w h
       refine ldN 2 tN26 h fun a w h => ?_
       refine mv h fun a w h => ?_
       refine cl bod66 (Rename_ok p.defs[k].t _ n E H5 _ (VDf.t hkt) (hLg.up l_Hd_H5) hn ((hb.f _ (List.getElem_mem c79)).2.2)) h fun r91 H91 L91 a w le91 R h => ?_
       obtain ⟨v91, rfl, ⟨A91, c91, rfl, hk91⟩, rfl⟩ := R
       have l_H_H91 : LE H H91 := l_H_H5.trans le91
       have l_Hf_H91 : LE Hf H91 := l_Hf_H5.trans le91
       have l_Hd_H91 : LE Hd H91 := l_Hd_H5.trans le91
       have l_H5_H91 : LE H5 H91 := le91
       refine au [0,0,4,7,4,7] h ?_; intro a w h
       refine al zr26 h fun g17 a w h => ?_
       refine au [5,5,0,6,0,2,0,0,0,6,0,2,0,7,3,2,0,7,3,1,3,3,7,5] h ?_; intro a w h
       refine bsl bs23 h fun g101 a w h => ?_
       refine apb 6 0 (L' := fun i => _ :: _ :: _ :: _ :: _ :: _ :: i :: _) [_, _, _, _, _] row23 h ?_ ?_ fun v102 a w hone h => ?_
       ·omega
       ·omega
       obtain ⟨C8, cq8, rfl⟩ := h.rowv 6
       have hrd2 : RowR RDf 5 H91 (ys ++ [str p.defs[k].name, .int .i64 (p.defs[k].t.ren noS n).1.kind, str (p.defs[k].t.ren noS n).1.name, .int .i64 (p.defs[k].t.ren noS n).1.n, .slice A91 (p.defs[k].t.ren noS n).1.kids.length c91]) (ds ++ [⟨p.defs[k].name, (p.defs[k].t.ren noS n).1⟩]) := (hrd.mono fun cs y _ hr => RDf.mono l_H5_H91 hr).snoc rfl ⟨_, rfl, rt_of_vt (cs := [_, _, _, _]) ⟨A91, c91, rfl, hk91⟩⟩
       refine fa fl28_2 (r := 2) h fun a w h => ?_
       refine st5 (l := [_, _, _, _, _, _, _]) t1_23 h fun a w h => ?_
       refine au [0,3,0,5,3,1,0,7,3,2] h ?_; intro a w h
       refine bsl bs54 h fun g107 a w h => ?_
       refine apb 3 0 (L' := fun i => _ :: _ :: _ :: i :: _) [_] row54 h ?_ ?_ fun v108 a w hone h => ?_
       ·omega
       ·omega
       obtain ⟨B8, cp8, rfl⟩ := h.rowv 3
       have hrk2 : RowR RStr 1 H91 (xs5 ++ [str p.defs[k].name]) (p.known (k + 1)) := by rw [known_succ p c79]; exact (hrk.mono fun _ _ _ h => h).snoc rfl rfl
       have hkl : (p.known k).length + 1 = (p.known (k + 1)).length := by rw [known_succ p c79, List.length_append]; rfl
       rw [hkl] at h
       refine st4 (l := [_]) t1_54 h fun a w h => ?_
       refine au [1,1,1,7,1,0,0,5] h ?_
       have h := h.pull 8 rfl rfl
       have h := h.pull 8 rfl rfl
       have h := h.pull 8 rfl rfl
       have h := h.pull 6 rfl rfl
       have h := h.pull 7 rfl rfl
       have h := h.del 8
       have h := h.del 7
       have h := h.del 6
       have h := h.del 5
       refine inc ?_ h fun a w h => ?_
       ·omega
       refine au [0,0,0,3] h ?_; intro a w h
       exact ⟨(k + 1, H91, _, _, B8, cp8, _, C8, cq8, _), ⟨⟨by omega, l_Hd_H91, hgo2, ren_in _ _ _ hn, by rw [List.length_append, hdl]; rfl, hrk2, hrd2⟩, h.to 0 _⟩, by show _ - (k + 1) < _ - k; omega⟩
     ·have hke : k = p.defs.length := by simp at c79; omega
      subst hke
      refine au [2,5,2,2,2,2,2,3,1,0,0,4,1,2,0,0,0,7] h ?_; intro a w h
      refine ldHN (l := [_, _, _, _]) tN26 rfl (Hc.sub 3 4 (l_Hf_H5 _ _ hf1)) h fun a w h => ?_
      obtain ⟨Ha, leHa, h, hka, backa⟩ := h.lendR 1 (ys := (p.known p.defs.length)) hrk rfl (fun _ _ _ _ _ h => h)
      obtain ⟨Hb, leHb, h, hfb, backb⟩ := h.lendO 0
      refine cl bod61 (strange_ok p.body _ (p.known p.defs.length) B5 cp5 g4 E Hb _ (⟨A4, c4, rfl, hkg.up ((l_Hd_H5).trans (leHa.trans leHb))⟩) (hb.b1) (hb.b2) (SS.up hka leHb) (Hc.of hfb rfl) (by omega)) h fun r113 H113 L113 a w le113 R h => ?_
      obtain ⟨rfl, rfl, rfl⟩ := R
      have h := backb.get LE.rfl h
      have h := backa.get LE.rfl h
      refine au [0,3] h ?_
      refine cdB h (fun c113 => ?_) (fun c113 => ?_)
      ·have er : p.resolve = (Pg.zero, 5) := by unfold Pg.resolve; rw [if_neg (by rw [hrt]; simp), if_neg (by rw [htw]; simp), hgo]; exact if_pos c113
       refine au [1,2,7,5] h ?_; intro a w h
       refine sw4 tN28 h fun a w h => ?_
       refine au [0,6,0,3,1,3,1,4] h ?_; intro a w h
       rw [er]
       exact fin (rs := [.cell 2 28, .tmp 3]) (vs := [.agg #[_, _, _, _, _, _, _], .int .i64 _]) h rfl (.agg (k0 := 4) tN28 rfl rfl rfl (.tmp rfl .nil)) rfl l_H_H5 ⟨LE.rfl, h.st.drop 5⟩ ⟨_, rfl, vp_zero _, rfl⟩
      ·have er : p.resolve = (⟨p.inputs, p.cells, ds, (p.body.ren noS n).1⟩, 0) := by unfold Pg.resolve; rw [if_neg (by rw [hrt]; simp), if_neg (by rw [htw]; simp), hgo]; exact if_neg (by rw [c113]; simp)
       refine au [1,8,1,0,1,2,0,7] h ?_; intro a w h
       refine ldHN (l := [_, _, _, _]) tN26 rfl (Hc.sub 3 4 (l_Hf_H5 _ _ hf1)) h fun a w h => ?_
       refine mv h fun a w h => ?_
       refine cl bod66 (Rename_ok p.body _ n E H5 _ (⟨A4, c4, rfl, hkg.up l_Hd_H5⟩) (hLg.up l_Hd_H5) hn (hb.b2)) h fun r119 H119 L119 a w le119 R h => ?_
       obtain ⟨v119, rfl, ⟨A119, c119, rfl, hk119⟩, rfl⟩ := R
       have l_H_H119 : LE H H119 := l_H_H5.trans le119
       have l_Hf_H119 : LE Hf H119 := l_Hf_H5.trans le119
       have l_Hd_H119 : LE Hd H119 := l_Hd_H5.trans le119
       have l_H5_H119 : LE H5 H119 := le119
       refine au [0,0,4,7,4,7,0,7] h ?_; intro a w h
       refine stN (vs := [_, _, _, _]) 2 tN26 h (fun a w h => ?_) [_, _, _, _, _, _, _]
       refine au [0,2,3,5] h ?_; intro a w h
       refine sw4 tN28 h fun a w h => ?_
       refine au [0,6,0,3,1,3] h ?_; intro a w h
       obtain ⟨He, leHe, h, hrs⟩ := h.frw (R := RDf) 3 (hrd.mono fun cs y _ hr => RDf.mono l_H5_H119 hr) hdl.symm (fun H6 l6 cs y _ hr => RDf.mono l6 hr)
       have l_H_He : LE H He := l_H_H119.trans leHe
       have l_Hf_He : LE Hf He := l_Hf_H119.trans leHe
       have l_Hd_He : LE Hd He := l_Hd_H119.trans leHe
       have l_H5_He : LE H5 He := l_H5_H119.trans leHe
       have l_H119_He : LE H119 He := leHe
       rw [er]
       exact fin (rs := [.cell 2 28, .tmp 3]) (vs := [.agg #[_, _, _, _, _, _, _], .int .i64 _]) h rfl (.agg (k0 := 3) tN28 rfl rfl rfl (.tmp rfl .nil)) rfl l_H_He ⟨LE.rfl, h.st.drop 4⟩ ⟨_, rfl, vp_of (hi.up l_H_He) (hc.up l_H_He) hdl.symm hrs (KS.up hk119 l_H119_He), rfl⟩
theorem whole_ok (E : World) (H : GH) (L : List It) : Ok Tryz.prog 87 #[] E H L fun r H' L' => VSh H' r (.mk 1 0 []) ∧ L = L' := by
 refine enter (N := 2) [] Tryz.func87 rfl rfl rfl rfl fun a w h => ?_
 refine au [1,2] h ?_
 refine al zr31 h fun g0 a w h => ?_
 refine au [0,2,7,5,5,5,0,3,1,3] h ?_; intro a w h
 exact fin (rs := [.cell 0 31]) (vs := [.agg #[_, _, _]]) h rfl (.agg (k0 := 0) tN31 rfl rfl rfl .nil) rfl LE.rfl ⟨LE.rfl, h.st.drop 1⟩ ⟨⟨_, _, rfl, RS.nil _ _ _⟩, rfl⟩
theorem cellS_ok (E : World) (H : GH) (L : List It) : Ok Tryz.prog 88 #[] E H L fun r H' L' => VSh H' r (.mk 2 0 []) ∧ L = L' := by
 refine enter (N := 2) [] Tryz.func88 rfl rfl rfl rfl fun a w h => ?_
 refine au [1,2] h ?_
 refine al zr31 h fun g0 a w h => ?_
 refine au [0,2,7,5,5,5,0,3,1,3] h ?_; intro a w h
 exact fin (rs := [.cell 0 31]) (vs := [.agg #[_, _, _]]) h rfl (.agg (k0 := 0) tN31 rfl rfl rfl .nil) rfl LE.rfl ⟨LE.rfl, h.st.drop 1⟩ ⟨⟨_, _, rfl, RS.nil _ _ _⟩, rfl⟩
theorem funS_ok (p q : Sh) (v v2 : Value) (E : World) (H : GH) (L : List It) (hp : VSh H v p) (hq : VSh H v2 q) :
   Ok Tryz.prog 166 #[v, v2] E H L fun r H' L' => VSh H' r (.mk 3 0 [p, q]) ∧ L = L' := by
 obtain ⟨Ap0, cp0, rfl, hp0⟩ := hp
 obtain ⟨Aq0, cq0, rfl, hq0⟩ := hq
 refine enter (N := 9) [(0, _), (1, _)] Tryz.func166 rfl rfl rfl rfl fun a w h => ?_
 refine au [1,2] h ?_
 refine bxA h fun g2 a w h => ?_
 refine bxA h fun g3 a w h => ?_
 refine al zr31 h fun g4 a w h => ?_
 refine au [0,2,3,5,3,4] h ?_; intro a w h
 refine bsl bs29 h fun g7 a w h => ?_
 obtain ⟨Hq, leHq, h, hsq⟩ := h.fsl (R := RSh) (sz := 3) (ys := [p, q]) 0 (RowR.cons rfl (rsh_of_v (cs := [_, _, _]) ⟨_, _, rfl, HS.up hp0 LE.rfl⟩) (RowR.one rfl (rsh_of_v (cs := [_, _, _]) ⟨_, _, rfl, HS.up hq0 LE.rfl⟩))) (fun _ l cs y _ hr => RSh.mono l y hr)
 refine au [7,5,5,5,0,3,1,3] h ?_; intro a w h
 exact fin (rs := [.cell 4 31]) (vs := [.agg #[_, _, _]]) h rfl (.agg (k0 := 0) tN31 rfl rfl rfl .nil) rfl leHq ⟨LE.rfl, h.st.drop 3⟩ ⟨⟨_, _, rfl, hsq⟩, rfl⟩
theorem Bare_ok : ∀ (t : Tr) (v : Value) (E : World) (H : GH) (L : List It), VTr H v t → t.size < 1000000000000 →
   Ok Tryz.prog 16 #[v] E H L fun r H' L' => VT H' r t.bare ∧ L = L' := by
 intro t
 induction t using Tr.ind with
 | h kd nm nn s b ks ih =>
 intro v E H L hv hb
 obtain ⟨At0, ct0, At1, ct1, At2, ct2, rfl, ht0, ht1, ht2⟩ := hv
 dsimp only [Tr.kind, Tr.name, Tr.n, Tr.s, Tr.b, Tr.kids] at ht0 ht1 ht2 ⊢
 simp only [Tr.size] at hb
 have hlen := tr_len_le ks
 refine enter (N := 29) [(0, _)] Tryz.func16 rfl rfl rfl rfl fun a w h => ?_
 refine au [1,2] h ?_
 refine bxA h fun g1 a w h => ?_
 refine al zr26 h fun g2 a w h => ?_
 refine au [0,2,0,7,2,8,0,7,2,8,0,7,2,8,7,5] h ?_; intro a w h
 refine al zr26 h fun g3 a w h => ?_
 refine au [5,5,0,3,0,4,1,2,0,7,3,0,6,0,0,0,0,3,1,5] h ?_; intro a w h
 have h := h.row (e := 26) (sz := 4)
 have h := h.del 3
 refine lp (β := Nat × GH × (Option Addr) × Nat × (List Value)) (fun x a w => match x with | (k, HL0, Brk, prk, xrk) => ((k ≤ ks.length) ∧ (LE H HL0) ∧ (RowR RT 4 HL0 xrk ((ks.take k).map Tr.bare))) ∧ S E HL0 29 [] [(2, .pointer (some ⟨g2, 0, none⟩)), (3, .pointer (some ⟨g3, 0, none⟩)), (14, .slice At2 ks.length ct2), (15, .int .i64 (ks.length : Int)), (16, .int .i64 (k : Int))] (.row (.slice Brk (((ks.take k).map Tr.bare).length) prk) 26 4 (((ks.take k).map Tr.bare).length) xrk :: .obj g3 (.cells #[.int .i64 kd, str nm, .int .i64 nn, .slice Brk (((ks.take k).map Tr.bare).length) prk] 26 (0, 0)) :: .obj g2 (.cells #[.int .i64 0, str [], .int .i64 0, .slice none 0 0] 26 (0, 0)) :: L) a w)
  (fun x => match x with | (k, HL0, Brk, prk, xrk) => ks.length - k) (0, H, none, 0, []) ⟨⟨Nat.zero_le _, LE.rfl, (RowR.nil : RowR RT 4 H [] ([] : List Tm))⟩, h.to 0 _⟩ ?_
 rintro ⟨k, HL0, Brk, prk, xrk⟩ a w ⟨⟨hk, leHL0, hrrk⟩, h⟩
 refine au [1,2,6,4,0,3,0,4] h ?_; intro a w h
 refine cdB h (fun c17 => ?_) (fun c17 => ?_)
 ·have d17 : k < ks.length := cd_ c17
  refine au [1,8,1,0,0,4,1,5,1,2] h ?_
  have hj18 : k < ks.length := by first | assumption | omega | (simp; done) | (simp; omega)
  obtain ⟨g18, o18, A18_0, c18_0, A18_1, c18_1, A18_2, c18_2, e18, hv18, hc18⟩ := TrS.get (TrS.up ht2 leHL0) hj18
  obtain ⟨_, _, _, _, _, _, q18, hk18_0, hk18_1, hk18_2⟩ := hv18; cases q18
  refine iaE sli32 sz34 rfl hj18 e18 h fun a w h => ?_
  refine ldHN tN34 rfl hc18 h fun a w h => ?_
  refine al zr34 h fun g5 a w h => ?_
  refine au [5,5,0,3] h ?_; intro a w h
  refine rgd [2, 0] [_, _] [4, 3, 2, 0] [1, 2] 2 mix (by kernel_rfl) h (fun a w h => ?_)
  refine au [0,7,4,2] h ?_; intro a w h
  refine ldWD 1 tN34 h fun a w h => ?_
  refine cl bod16 (ih _ (List.getElem_mem d17) _ E HL0 _ ⟨A18_0, c18_0, A18_1, c18_1, A18_2, c18_2, rfl, hk18_0, hk18_1, hk18_2⟩ (by have := tr_size_le (List.getElem_mem d17); omega)) h (fun r23 H23 L23 a w le23 R h => ?_)
  obtain ⟨⟨A23_0, c23_0, rfl, hk23_0⟩, rfl⟩ := R
  refine bsl bs24 h fun g24 a w h => ?_
  refine apn (n := (((ks.take k).map Tr.bare).length)) (m := 1) 2 0 (L' := fun i => _ :: _ :: i :: _) [_, _, _, _] ((((ks.take k).map Tr.bare) ++ [(ks[k].bare)]).length) (by first | (simp; done) | (simp; omega)) row24 h (by first | omega | (simp; done) | (simp; omega) | (simp; omega)) (by first | omega | (simp; done) | (simp; omega) | (simp; omega)) fun v25 a w hone25 h => ?_
  obtain ⟨B25, cp25, rfl⟩ := h.rowv 2
  have hr25 : RowR RT 4 H23 (xrk ++ [.int .i64 ((ks[k].bare).kind), str ((ks[k].bare).name), .int .i64 ((ks[k].bare).n), .slice A23_0 ((ks[k].bare).kids).length c23_0]) (((ks.take k).map Tr.bare) ++ [(ks[k].bare)]) := (hrrk.mono fun cs y _ hr => RT.mono le23 y hr).snoc rfl (rt_of_vt (cs := [_, _, _, _]) ⟨_, _, rfl, hk23_0⟩)
  refine au [0,7,5,4,1,1,1,7,1,0,0,5] h ?_; intro a w h
  refine inc ?_ h fun a w h => ?_
  ·omega
  refine au [0,0,0,3] h ?_; intro a w h
  have h := h.del 0
  have h := h.del 0
  have l_H_H23 : LE H H23 := leHL0.trans le23
  exact ⟨((k + 1), H23, B25, cp25, _), ⟨⟨by omega, l_H_H23, (by have q := hr25; rwa [show (((ks.take k).map Tr.bare) ++ [(ks[k].bare)]) = ((ks.take (k + 1)).map Tr.bare) from by rw [map_take_succ d17]] at q)⟩, (by show S _ _ _ _ _ _ _ _; rw [show (((ks.take (k + 1)).map Tr.bare).length) = (((ks.take k).map Tr.bare) ++ [(ks[k].bare)]).length from Eq.symm (by rw [map_take_succ d17])]; exact h.to 0 _)⟩, by show _ - (k + 1) < _ - k; omega⟩
 ·have d17 : ks.length ≤ k := cd_ c17
  refine au [2,5,2,2,2,2,2,3,1,0,1,2,3,4,5,7,0,3,1,3] h ?_; intro a w h
  have e9 : (ks.take k).map Tr.bare = ks.map Tr.bare := by rw [List.take_of_length_le (by omega)]
  obtain ⟨Hrrk, leHrrk, h, hsHrrk⟩ := h.frw 0 hrrk rfl (fun _ l cs y _ hr => RT.mono l y hr)
  have l_H_Hrrk : LE H Hrrk := leHL0.trans leHrrk
  exact fin (rs := [.cell 2 26]) (vs := [.agg #[_, _, _, _]]) h rfl (.agg (k0 := 1) tN26 rfl rfl rfl .nil) rfl l_H_Hrrk ⟨LE.rfl, h.st.drop 2⟩ ⟨by simp only [Tr.bare]; rw [bareL_map, ← e9]; exact ⟨_, _, rfl, hsHrrk⟩, rfl⟩
open Classical in
noncomputable def uniR (l : List Bd) (a b : Sh) : Option (List Bd) := if h : ∃ r f, uni f l a b = some r then h.choose else none
theorem uniR_of {l : List Bd} {a b : Sh} {f : Nat} {r : Option (List Bd)} (h : uni f l a b = some r) : uniR l a b = r := by
 have hx : ∃ r f, uni f l a b = some r := ⟨r, f, h⟩
 unfold uniR
 rw [dif_pos hx]
 obtain ⟨g, hg⟩ := hx.choose_spec
 have h1 := uni_mono f l a b _ h (max f g) (Nat.le_max_left ..)
 have h2 := uni_mono g l a b _ hg (max f g) (Nat.le_max_right ..)
 rw [h1] at h2
 exact (Option.some.inj h2).symm
theorem uniR_ex {l : List Bd} {a b : Sh} (ho : Ord l) (ha : a.right = true) (hb : b.right = true) : ∃ f, uni f l a b = some (uniR l a b) := by
 obtain ⟨f, r, h, _⟩ := uni_total ho ha hb
 exact ⟨f, by rw [h, uniR_of h]⟩
structure Es where
 sub : List Bd
 nx : Nat
 nm : Bs → Option Sh
def wh : Sh := .mk 1 0 []
def ce : Sh := .mk 2 0 []
def fu (a b : Sh) : Sh := .mk 3 0 [a, b]
def Es.hole (e : Es) : Es × Sh := (⟨e.sub, e.nx + 1, e.nm⟩, .mk 4 (e.nx : Int) [])
noncomputable def Es.same (e : Es) (a b : Sh) : Option Es := (uniR e.sub a b).map fun l => ⟨l, e.nx, e.nm⟩
def Es.put (e : Es) (x : Bs) (s : Sh) : Es := ⟨e.sub, e.nx, fun y => if y = x then some s else e.nm y⟩
def Es.bound (e : Es) (kd : Int) (acc : List Tr) : Es × Sh := if kd = 3 then e.hole else if kd = 5 then (e, (acc.map Tr.s).headD (.mk 0 0 [])) else (e, wh)
noncomputable def Es.shape3 (e : Es) (kd : Int) (nm : Bs) (b k0 k1 k2 : Sh) : Option (Es × Sh) :=
 if kd = 2 then some (e, (e.nm nm).getD (.mk 0 0 []))
 else if kd = 3 then some (e, fu b k0)
 else if kd = 4 then (e.hole.1.same k0 (fu k1 e.hole.2)).map fun e' => (e', e.hole.2)
 else if kd = 6 then (e.same k0 wh).bind fun e1 => (e1.same k1 k2).map fun e2 => (e2, k1)
 else if kd = 8 then (e.same k0 wh).map fun e1 => e1.hole
 else if kd = 9 then (e.same k0 k1).map fun e1 => (e1, k1)
 else if kd = 7 then (e.same k0 wh).map fun e1 => (e1, wh)
 else if kd = 10 then (e.same k0 ce).map fun e1 => (e1, wh)
 else if kd = 11 then (e.same k0 ce).bind fun e1 => (e1.same k1 wh).map fun e2 => (e2, wh)
 else if kd = 12 then (e.same k0 wh).bind fun e1 => (e1.same k1 wh).map fun e2 => (e2, wh)
 else if kd = 5 ∨ kd = 13 then some (e, k1)
 else some (e, wh)
noncomputable def Es.shape (e : Es) (kd : Int) (nm : Bs) (b : Sh) (ss : List Sh) : Option (Es × Sh) := e.shape3 kd nm b (ss.getD 0 (.mk 0 0 [])) (ss.getD 1 (.mk 0 0 [])) (ss.getD 2 (.mk 0 0 []))
mutual
noncomputable def Tm.el (e : Es) : Tm → Option (Es × Tr)
 | .mk kd nm n ks => match elL kd nm e (.mk 0 0 []) [] ks with
   | none => none
   | some (e1, b, ts) => match e1.shape kd nm b (ts.map Tr.s) with
     | none => none
     | some (e2, s) => some (e2, .mk kd nm n s b ts)
noncomputable def elL (kd : Int) (nm : Bs) (e : Es) (b : Sh) (acc : List Tr) : List Tm → Option (Es × Sh × List Tr)
 | [] => some (e, b, acc)
 | t :: l =>
   let p := if bnd kd && l.isEmpty then (((e.bound kd acc).1.put nm (e.bound kd acc).2), (e.bound kd acc).2) else (e, b)
   match t.el p.1 with
   | none => none
   | some (e2, tr) => elL kd nm e2 p.2 (acc ++ [tr]) l
end
def endS (l : List Bd) (s : Sh) : Option Sh := if 100 < (s.ap (look l)).size then none else some ((s.ap (look l)).ap fun _ => some wh)
mutual
def Tr.done (l : List Bd) : Tr → Option Tr
 | .mk kd nm n s b ks => (endS l s).bind fun s' => (endS l b).bind fun b' => (doneL l ks).map fun ks' => .mk kd nm n s' b' ks'
def doneL (l : List Bd) : List Tr → Option (List Tr)
 | [] => some []
 | t :: ts => (t.done l).bind fun t' => (doneL l ts).map fun ts' => t' :: ts'
end
def SmS (l : List Bd) (s : Sh) : Prop := s.size < 1000000000000 ∧ (s.ap (look l)).size < 1000000000000
mutual
def Tr.sm (l : List Bd) : Tr → Prop
 | .mk _ _ _ s b ks => SmS l s ∧ SmS l b ∧ smL l ks
def smL (l : List Bd) : List Tr → Prop
 | [] => True
 | t :: ts => t.sm l ∧ smL l ts
end
theorem smL_mem {l : List Bd} : ∀ {ts : List Tr}, smL l ts → ∀ t ∈ ts, t.sm l
 | [], _, t, h => by cases h
 | u :: ts, h, t, ht => by
   simp only [smL] at h
   rcases List.mem_cons.1 ht with rfl | ht
   · exact h.1
   · exact smL_mem h.2 t ht
theorem doneL_len {l : List Bd} : ∀ {ts ds : List Tr}, doneL l ts = some ds → ds.length = ts.length
 | [], ds, h => by simp only [doneL, Option.some.injEq] at h; subst h; rfl
 | t :: ts, ds, h => by
   simp only [doneL, Option.bind_eq_some_iff, Option.map_eq_some_iff] at h
   obtain ⟨t', _, ts2, h2, rfl⟩ := h
   simp [doneL_len h2]
theorem doneL_snoc (l : List Bd) : ∀ (ts : List Tr) (t : Tr), doneL l (ts ++ [t]) = (doneL l ts).bind fun ds => (t.done l).map fun t' => ds ++ [t']
 | [], t => by simp only [List.nil_append, doneL]; cases t.done l <;> rfl
 | u :: ts, t => by
   simp only [List.cons_append, doneL, doneL_snoc l ts t]
   cases u.done l <;> simp
   cases doneL l ts <;> simp
   cases t.done l <;> simp
theorem doneL_none {l : List Bd} {ts : List Tr} {k : Nat} (hk : k < ts.length) {ds : List Tr} (h : doneL l (ts.take k) = some ds) (hn : ts[k].done l = none) : doneL l ts = none := by
 have key : ∀ us : List Tr, doneL l (ts.take (k + 1) ++ us) = none := by
   intro us
   have h1 : doneL l (ts.take (k + 1)) = none := by rw [List.take_succ_eq_append_getElem hk, doneL_snoc, h, hn]; rfl
   generalize ts.take (k + 1) = vs at h1
   clear hk h hn
   induction vs with
   | nil => simp [doneL] at h1
   | cons v vs ih =>
     simp only [List.cons_append, doneL] at h1 ⊢
     cases e : v.done l with
     | none => rfl
     | some v' =>
       rw [e] at h1
       simp only [Option.bind_some, Option.map_eq_none_iff] at h1 ⊢
       exact ih h1
 have := key (ts.drop (k + 1))
 rwa [List.take_append_drop] at this
theorem doneL_step {l : List Bd} {ts : List Tr} {k : Nat} (hk : k < ts.length) {ds : List Tr} {t' : Tr} (h : doneL l (ts.take k) = some ds) (hn : ts[k].done l = some t') : doneL l (ts.take (k + 1)) = some (ds ++ [t']) := by
 rw [List.take_succ_eq_append_getElem hk, doneL_snoc, h, hn]; rfl
mutual
theorem done_bare (l : List Bd) : ∀ (t t' : Tr), t.done l = some t' → t'.bare = t.bare
 | .mk kd nm n s b ks, t', h => by
   simp only [Tr.done, Option.bind_eq_some_iff, Option.map_eq_some_iff] at h
   obtain ⟨s', _, b', _, ks', h3, rfl⟩ := h
   simp only [Tr.bare, doneL_bare l ks ks' h3]
theorem doneL_bare (l : List Bd) : ∀ (ts ts' : List Tr), doneL l ts = some ts' → bareL ts' = bareL ts
 | [], ts', h => by simp only [doneL, Option.some.injEq] at h; subst h; rfl
 | t :: ts, ts', h => by
   simp only [doneL, Option.bind_eq_some_iff, Option.map_eq_some_iff] at h
   obtain ⟨t', h1, ts2, h2, rfl⟩ := h
   simp only [bareL, done_bare l t t' h1, doneL_bare l ts ts2 h2]
end
theorem bareL_append (a b : List Tr) : bareL (a ++ b) = bareL a ++ bareL b := by
 induction a with
 | nil => rfl
 | cons t a ih => simp only [List.cons_append, bareL, ih]
mutual
theorem el_bare : ∀ (t : Tm) (e e' : Es) (r : Tr), t.el e = some (e', r) → r.bare = t
 | .mk kd nm n ks, e, e', r, h => by
   simp only [Tm.el] at h
   split at h
   · cases h
   · rename_i e1 b ts h1
     split at h
     · cases h
     · rename_i e2 s h2
       simp only [Option.some.injEq, Prod.mk.injEq] at h
       obtain ⟨_, rfl⟩ := h
       have := elL_bare kd nm ks e (.mk 0 0 []) [] e1 b ts h1
       simp only [Tr.bare, this, bareL, List.nil_append]
theorem elL_bare (kd : Int) (nm : Bs) : ∀ (ks : List Tm) (e : Es) (b : Sh) (acc : List Tr) (e' : Es) (b' : Sh) (ts : List Tr), elL kd nm e b acc ks = some (e', b', ts) → bareL ts = bareL acc ++ ks
 | [], e, b, acc, e', b', ts, h => by
   simp only [elL, Option.some.injEq, Prod.mk.injEq] at h
   obtain ⟨_, _, rfl⟩ := h; simp
 | t :: l, e, b, acc, e', b', ts, h => by
   simp only [elL] at h
   split at h
   · cases h
   · rename_i e2 tr h1
     have q1 := el_bare t _ _ _ h1
     have q2 := elL_bare kd nm l _ _ _ _ _ _ h
     rw [q2, bareL_append]
     simp only [bareL, q1, List.append_assoc, List.singleton_append]
end
theorem hole_ok (e : Es) (A : Option Addr) (c gs gm : Nat) (E : World) (H : GH) (L : List It) (hn : e.nx < 1000000000) :
   Ok Tryz.prog 165 #[.pointer (some ⟨gs, 0, none⟩)] E H (.obj gs (.cells #[.slice A e.sub.length c, .int .i64 (e.nx : Int), .map (some gm)] 127 (0, 0)) :: L) fun r H' L' => VSh H' r e.hole.2 ∧ H = H' ∧ L' = .obj gs (.cells #[.slice A e.hole.1.sub.length c, .int .i64 (e.hole.1.nx : Int), .map (some gm)] 127 (0, 0)) :: L := by
 refine enter (N := 16) [(0, _)] Tryz.func165 rfl rfl rfl rfl fun a w h => ?_
 refine au [1,2] h ?_
 refine al zr31 h fun g2 a w h => ?_
 refine au [0,2,0,0,7,2,0,7,2,8] h ?_; intro a w h
 refine adr ((e.nx + 1 : Nat) : Int) ?_ h fun a w h => ?_
 ·rw [w64 (by omega) (by omega)]; omega
 refine au [7,2,0,7,5,2,0,2,0,0,7,2,0,7,2,8] h ?_; intro a w h
 refine sbr ((e.nx : Nat) : Int) ?_ h fun a w h => ?_
 ·rw [w64 (by omega) (by omega)]; omega
 refine au [7,5,5,5,0,3,1,3] h ?_; intro a w h
 exact fin (rs := [.cell 2 31]) (vs := [.agg #[_, _, _]]) h rfl (.agg (k0 := 0) tN31 rfl rfl rfl .nil) rfl LE.rfl ⟨LE.rfl, h.st.drop 1⟩ ⟨⟨_, _, rfl, RS.nil _ _ _⟩, rfl, rfl⟩
theorem same_ok (e : Es) (A : Option Addr) (c gs gm : Nat) (p q : Sh) (v v2 : Value) (E : World) (H : GH) (L : List It) (hua : UArg e.sub p q) (hsub : BdS H A c e.sub) (hp : VSh H v p) (hq : VSh H v2 q) :
   OkP Tryz.prog 90 #[.pointer (some ⟨gs, 0, none⟩), v, v2] E H (.obj gs (.cells #[.slice A e.sub.length c, .int .i64 (e.nx : Int), .map (some gm)] 127 (0, 0)) :: L) (.iface 121 (.agg #[])) (e.same p q = none) L fun r H' L' => ∃ (l : List Bd) (A' : Option Addr) (c' : Nat), e.same p q = some ⟨l, e.nx, e.nm⟩ ∧ uniR e.sub p q = some l ∧ r = .tuple #[] ∧ BdS H' A' c' l ∧ L' = .obj gs (.cells #[.slice A' l.length c', .int .i64 (e.nx : Int), .map (some gm)] 127 (0, 0)) :: L := by
 obtain ⟨f, hf⟩ := uniR_ex hua.ord hua.ra hua.rb
 obtain ⟨Ap0, cp0, rfl, hp0⟩ := hp
 obtain ⟨Aq0, cq0, rfl, hq0⟩ := hq
 refine enterP (N := 26) [(0, _), (1, _), (2, _)] Tryz.func90 rfl rfl rfl rfl fun a w h => ?_
 refine au [1,2] h ?_
 refine bxA h fun g4 a w h => ?_
 refine bxA h fun g5 a w h => ?_
 refine au [0,3,0,4] h ?_
 refine rgd [2, 1, 0] [_, _, _] [5] [3, 4, 5] 2 mix (by kernel_rfl) h (fun a w h => ?_)
 refine au [0,0,7,2,0,7,4,2] h ?_; intro a w h
 refine ldWD 1 tN31 h fun a w h => ?_
 refine ldWD 2 tN31 h fun a w h => ?_
 refine cl bod131 (Unify_ok f e.sub p q _ _ _ _ _ E H _ hf hua hsub ⟨Ap0, cp0, rfl, hp0⟩ ⟨Aq0, cq0, rfl, hq0⟩) h (fun r15 H15 L15 a w le15 R h => ?_)
 obtain ⟨⟨A15, c15, l15, ok15, rfl, hb15, hx15⟩, rfl⟩ := R
 refine au [0,0,4,7,4,7,0,6,0,6,0,3,0,4,1,2,0,0,7,1,0,3] h ?_; intro a w h
 refine cdB h (fun c19 => ?_) (fun c19 => ?_)
 ·have d19 : ok15 = false := cd_ c19
  refine au [0,5,7,5,7,6] h ?_; intro a w h
  refine pn h ?_
  exact pfin h (by unfold Es.same; rw [hx15, show ok15 = false by simpa using c19]; rfl) le15 (by repeat (first | exact List.Sublist.refl _ | apply List.Sublist.cons))
 ·have d19 : ok15 = true := cd_ c19
  refine au [1,8,1,0,0,5,0,0,0,0,7,2,0,7,5,3,1,1] h ?_; intro a w h
  exact FinP.nrm (finN0 2 h le15 ⟨l15, _, _, by unfold Es.same; rw [hx15, show ok15 = true by simpa using c19]; rfl, by rw [hx15, show ok15 = true by simpa using c19]; rfl, rfl, hb15, rfl⟩)
theorem final_ok (e : Es) (A : Option Addr) (c gs gm : Nat) (p : Sh) (v : Value) (E : World) (H : GH) (L : List It) (hb : e.sub.length < 1000000000000) (hs : p.size < 1000000000000) (hs2 : (p.ap (look e.sub)).size < 1000000000000) (hsub : BdS H A c e.sub) (hp : VSh H v p) :
   OkP Tryz.prog 132 #[.pointer (some ⟨gs, 0, none⟩), v] E H (.obj gs (.cells #[.slice A e.sub.length c, .int .i64 (e.nx : Int), .map (some gm)] 127 (0, 0)) :: L) (.iface 121 (.agg #[])) (endS e.sub p = none) L fun r H' L' => ∃ s : Sh, endS e.sub p = some s ∧ VSh H' r s ∧ L' = .obj gs (.cells #[.slice A e.sub.length c, .int .i64 (e.nx : Int), .map (some gm)] 127 (0, 0)) :: L := by
 obtain ⟨Ap0, cp0, rfl, hp0⟩ := hp
 refine enterP (N := 19) [(0, _), (1, _)] Tryz.func132 rfl rfl rfl rfl fun a w h => ?_
 refine au [1,2] h ?_
 refine bxA h fun g3 a w h => ?_
 refine al zr31 h fun g4 a w h => ?_
 refine au [0,3,0,4] h ?_
 refine rgx [2, 1] [_, _] [3, 4] 8 mix h (fun a w h => ?_)
 refine au [8,0,0,0,2,6,8,1,7,2,2,6,8,2,0,7,2,6,8,3,3,8,2,6,8,4,4,6,2,6] h ?_; intro a w h
 refine bg2 5 6 false true h ?_ ?_
 ·refine cl bod169 (Apply_ok e.sub p _ _ _ E H _ hsub ⟨Ap0, cp0, rfl, hp0⟩ (by first | assumption | omega) (by first | assumption | omega)) h (fun r11 H11 L11 a w le11 R h => ?_)
  obtain ⟨⟨A11_0, c11_0, rfl, hk11_0⟩, rfl⟩ := R
  refine br0 ?_
  refine bg1 6 true h ?_
  refine al zr31 h fun g5 a w h => ?_
  refine br0 ?_
  refine bf1 7 ?_
  refine au [5,5,2,7] h ?_; intro a w h
  refine en (by kernel_rfl) ?_
  refine au [1,0,0,4,1,2,3,3] h ?_; intro a w h
  refine cl bod54 (ShSize_ok (p.ap (look e.sub)) _ E H11 _ ⟨A11_0, c11_0, rfl, hk11_0⟩ (by first | assumption | omega)) h (fun r13 H13 L13 a w le13 R h => ?_)
  obtain ⟨rfl, rfl, rfl⟩ := R
  refine au [6,6,0,3] h ?_; intro a w h
  refine cdB h (fun c14 => ?_) (fun c14 => ?_)
  ·have d14 : 100 < (p.ap (look e.sub)).size := cd_ c14
   refine au [0,5,7,5,7,6] h ?_; intro a w h
   refine pn h ?_
   exact pfin h (by unfold endS; rw [if_pos (by omega)]) le11 (by repeat (first | exact List.Sublist.refl _ | apply List.Sublist.cons))
  ·have d14 : (p.ap (look e.sub)).size ≤ 100 := cd_ c14
   refine au [1,8,1,0,1,2,3,3] h ?_; intro a w h
   refine cl bod170 (Ground_ok (p.ap (look e.sub)) _ E H11 _ ⟨A11_0, c11_0, rfl, hk11_0⟩ (by first | assumption | omega)) h (fun r18 H18 L18 a w le18 R h => ?_)
   obtain ⟨⟨A18_0, c18_0, rfl, hk18_0⟩, rfl⟩ := R
   refine au [5,6,0,3,1,3] h ?_; intro a w h
   have l_H_H18 : LE H H18 := le11.trans le18
   exact FinP.ret (fin (rs := [.cell 4 31]) (vs := [.agg #[_, _, _]]) h rfl (.agg (k0 := 1) tN31 rfl rfl rfl .nil) rfl l_H_H18 ⟨LE.rfl, h.st.drop 3⟩ ⟨_, by unfold endS; rw [if_neg (by omega)]; rfl, ⟨_, _, rfl, hk18_0⟩, rfl⟩)
 ·refine al zr31 h fun g5 a w h => ?_
  refine br0 ?_
  refine bf1 5 ?_
  refine cl bod169 (Apply_ok e.sub p _ _ _ E H _ hsub ⟨Ap0, cp0, rfl, hp0⟩ (by first | assumption | omega) (by first | assumption | omega)) h (fun r11 H11 L11 a w le11 R h => ?_)
  obtain ⟨⟨A11_0, c11_0, rfl, hk11_0⟩, rfl⟩ := R
  refine br0 ?_
  refine bf1 7 ?_
  refine au [5,5,2,7] h ?_; intro a w h
  refine en (by kernel_rfl) ?_
  refine au [1,0,0,4,1,2,3,3] h ?_; intro a w h
  refine cl bod54 (ShSize_ok (p.ap (look e.sub)) _ E H11 _ ⟨A11_0, c11_0, rfl, hk11_0⟩ (by first | assumption | omega)) h (fun r13 H13 L13 a w le13 R h => ?_)
  obtain ⟨rfl, rfl, rfl⟩ := R
  refine au [6,6,0,3] h ?_; intro a w h
  refine cdB h (fun c14 => ?_) (fun c14 => ?_)
  ·have d14 : 100 < (p.ap (look e.sub)).size := cd_ c14
   refine au [0,5,7,5,7,6] h ?_; intro a w h
   refine pn h ?_
   exact pfin h (by unfold endS; rw [if_pos (by omega)]) le11 (by repeat (first | exact List.Sublist.refl _ | apply List.Sublist.cons))
  ·have d14 : (p.ap (look e.sub)).size ≤ 100 := cd_ c14
   refine au [1,8,1,0,1,2,3,3] h ?_; intro a w h
   refine cl bod170 (Ground_ok (p.ap (look e.sub)) _ E H11 _ ⟨A11_0, c11_0, rfl, hk11_0⟩ (by first | assumption | omega)) h (fun r18 H18 L18 a w le18 R h => ?_)
   obtain ⟨⟨A18_0, c18_0, rfl, hk18_0⟩, rfl⟩ := R
   refine au [5,6,0,3,1,3] h ?_; intro a w h
   have l_H_H18 : LE H H18 := le11.trans le18
   exact FinP.ret (fin (rs := [.cell 4 31]) (vs := [.agg #[_, _, _]]) h rfl (.agg (k0 := 1) tN31 rfl rfl rfl .nil) rfl l_H_H18 ⟨LE.rfl, h.st.drop 3⟩ ⟨_, by unfold endS; rw [if_neg (by omega)]; rfl, ⟨_, _, rfl, hk18_0⟩, rfl⟩)
theorem done_ok : ∀ (t : Tr) (v : Value) (e : Es) (A : Option Addr) (c gs gm : Nat) (E : World) (H : GH) (L : List It), e.sub.length < 1000000000000 → t.sm e.sub → BdS H A c e.sub → VTr H v t → t.size < 1000000000000 →
   OkP Tryz.prog 91 #[.pointer (some ⟨gs, 0, none⟩), v] E H (.obj gs (.cells #[.slice A e.sub.length c, .int .i64 (e.nx : Int), .map (some gm)] 127 (0, 0)) :: L) (.iface 121 (.agg #[])) (t.done e.sub = none) L fun r H' L' => ∃ t' : Tr, t.done e.sub = some t' ∧ VTr H' r t' ∧ L' = .obj gs (.cells #[.slice A e.sub.length c, .int .i64 (e.nx : Int), .map (some gm)] 127 (0, 0)) :: L := by
 intro t
 induction t using Tr.ind with
 | h kd nm nn s b ks ih =>
 intro v e A c gs gm E H L hb hsm hsub hv hbt
 obtain ⟨At0, ct0, At1, ct1, At2, ct2, rfl, ht0, ht1, ht2⟩ := hv
 dsimp only [Tr.kind, Tr.name, Tr.n, Tr.s, Tr.b, Tr.kids] at ht0 ht1 ht2 ⊢
 simp only [Tr.size] at hbt
 simp only [Tr.sm] at hsm
 obtain ⟨hsm17, hsm21, hsm3⟩ := hsm
 have hlen := tr_len_le ks
 refine enterP (N := 40) [(0, _), (1, _)] Tryz.func91 rfl rfl rfl rfl fun a w h => ?_
 refine au [1,2] h ?_
 refine bxA h fun g3 a w h => ?_
 refine al zr34 h fun g4 a w h => ?_
 refine au [0,3,0,4] h ?_
 refine rgx [1] [_] [1, 3, 5, 8, 12] 17 mix h (fun a w h => ?_)
 refine au [8,0,0,7,2,6,8,1,3,8,2,6,8,2,0,7,2,6,8,3,3,8,2,6,8,4,0,7,2,6,8,5,3,8,2,6,8,6,0,0,2,6,8,7,0,7,2,6,8,8] h ?_; intro a w h
 refine ldNT (l := [_, _, _]) 0 tN31 h fun a w h => ?_
 refine au [2,6,8,10,0,0,2,6,8,11,0,7,2,6,8,12] h ?_; intro a w h
 refine ldNT (l := [_, _, _]) 0 tN31 h fun a w h => ?_
 refine tk0 ?_
 refine bg2 9 15 true true h ?_ ?_
 ·have h := h.pull 2 rfl rfl
  refine clP bod132 (final_ok e A c gs gm s _ E H _ hb hsm17.1 hsm17.2 hsub ⟨At0, ct0, rfl, ht0⟩) h (fun Hp a w hpn lep h => by (repeat (first | refine thP ?_ | refine ibP ?_)); exact pfin h (by simp only [Tr.done, hpn]; rfl) (LE.trans LE.rfl lep) (by repeat (first | exact List.Sublist.refl _ | apply List.Sublist.cons))) (fun r17 H17 L17 a w le17 R h => ?_) (hS := fun _ _ _ _ _ le R hw => by obtain ⟨_, _, _, rfl⟩ := R; exact hw.sees' (by first | exact le | exact LE.trans (by assumption) le) (by simp))
  obtain ⟨s17, hf17, ⟨A17, c17, rfl, hk17⟩, rfl⟩ := R
  refine br0 ?_
  refine bg2 13 15 true true h ?_ ?_
  ·refine clP bod132 (final_ok e A c gs gm b _ E H17 _ hb hsm21.1 hsm21.2 (BdS.up hsub le17) ⟨At1, ct1, rfl, (HS.up ht1 le17)⟩) h (fun Hp a w hpn lep h => by (repeat (first | refine thP ?_ | refine ibP ?_)); exact pfin h (by simp only [Tr.done, hf17, hpn]; rfl) (LE.trans le17 lep) (by repeat (first | exact List.Sublist.refl _ | apply List.Sublist.cons))) (fun r21 H21 L21 a w le21 R h => ?_) (hS := fun _ _ _ _ _ le R hw => by obtain ⟨_, _, _, rfl⟩ := R; exact hw.sees' (by first | exact le | exact LE.trans (by assumption) le) (by simp))
   obtain ⟨s21, hf21, ⟨A21, c21, rfl, hk21⟩, rfl⟩ := R
   refine au [2,7,8,14,7,5,2,6] h ?_; intro a w h
   have l_H_H21 : LE H H21 := le17.trans le21
   refine bg1 15 true h ?_
   refine al zr34 h fun g5 a w h => ?_
   refine br0 ?_
   refine bf1 16 ?_
   refine au [5,5,2,7] h ?_; intro a w h
   refine en (by kernel_rfl) ?_
   refine au [1,0,0,4,1,2,0,7,3,1,6,0,0,0,0,3,1,5] h ?_; intro a w h
   have h := h.row (e := 34) (sz := 10)
   have h := h.del 4
   refine lp (β := Nat × GH × (Option Addr) × Nat × (List Value) × (List Tr)) (fun x a w => match x with | (k, HL0, Brk, prk, xrk, ds) => ((k ≤ ks.length) ∧ (LE H21 HL0) ∧ (RowR RTr 10 HL0 xrk ds) ∧ (doneL e.sub (ks.take k) = some ds)) ∧ S E HL0 40 [] [(0, .pointer (some ⟨gs, 0, none⟩)), (4, .pointer (some ⟨g4, 0, none⟩)), (5, .pointer (some ⟨g5, 0, none⟩)), (24, .slice At2 ks.length ct2), (25, .int .i64 (ks.length : Int)), (26, .int .i64 (k : Int))] (.row (.slice Brk ds.length prk) 34 10 ds.length xrk :: .obj g5 (.cells #[.int .i64 kd, str nm, .int .i64 nn, .int .i64 s17.kind, .int .i64 s17.n, .slice A17 s17.kids.length c17, .int .i64 s21.kind, .int .i64 s21.n, .slice A21 s21.kids.length c21, .slice Brk ds.length prk] 34 (0, 0)) :: .obj gs (.cells #[.slice A e.sub.length c, .int .i64 (e.nx : Int), .map (some gm)] 127 (0, 0)) :: .obj g4 (.cells #[.int .i64 0, str [], .int .i64 0, .int .i64 0, .int .i64 0, .slice none 0 0, .int .i64 0, .int .i64 0, .slice none 0 0, .slice none 0 0] 34 (0, 0)) :: L) a w)
    (fun x => match x with | (k, HL0, Brk, prk, xrk, ds) => ks.length - k) (0, H21, none, 0, [], ([] : List Tr)) ⟨⟨Nat.zero_le _, LE.rfl, (RowR.nil : RowR RTr 10 H21 [] ([] : List Tr)), rfl⟩, h.to 0 _⟩ ?_
   rintro ⟨k, HL0, Brk, prk, xrk, ds⟩ a w ⟨⟨hk, leHL0, hrrk, hi⟩, h⟩
   have hdl : ds.length = k := by rw [doneL_len hi, List.length_take]; omega
   refine au [1,2,6,4,0,3,0,4] h ?_; intro a w h
   refine cdB h (fun c27 => ?_) (fun c27 => ?_)
   ·have d27 : k < ks.length := cd_ c27
    refine au [1,8,1,0,0,4,1,5,1,2] h ?_
    have l_H_HL0 : LE H HL0 := (le17.trans le21).trans leHL0
    have hj28 : k < ks.length := by first | assumption | omega | (simp; done) | (simp; omega)
    obtain ⟨g28, o28, A28_0, c28_0, A28_1, c28_1, A28_2, c28_2, e28, hv28, hc28⟩ := TrS.get (TrS.up ht2 l_H_HL0) hj28
    obtain ⟨_, _, _, _, _, _, q28, hk28_0, hk28_1, hk28_2⟩ := hv28; cases q28
    refine iaE sli32 sz34 rfl hj28 e28 h fun a w h => ?_
    refine ldHN tN34 rfl hc28 h fun a w h => ?_
    refine al zr34 h fun g7 a w h => ?_
    refine au [5,5,0,3] h ?_; intro a w h
    refine rgd [2, 0] [_, _] [4, 3, 2, 0] [1, 3] 2 mix (by kernel_rfl) h (fun a w h => ?_)
    refine au [0,7,4,2,0,0] h ?_; intro a w h
    refine ldWD 1 tN34 h fun a w h => ?_
    have h := h.pull 3 rfl rfl
    refine clP bod91 (ih _ (List.getElem_mem d27) _ e A c gs gm E HL0 _ hb (smL_mem hsm3 _ (List.getElem_mem d27)) (BdS.up hsub l_H_HL0) ⟨A28_0, c28_0, A28_1, c28_1, A28_2, c28_2, rfl, hk28_0, hk28_1, hk28_2⟩ (by have := tr_size_le (List.getElem_mem d27); omega)) h (fun Hp a w hpn lep h => by (repeat (first | refine thP ?_ | refine ibP ?_)); exact pfin h (by simp only [Tr.done, hf17, hf21, doneL_none d27 hi hpn]; rfl) (LE.trans l_H_HL0 lep) (by repeat (first | exact List.Sublist.refl _ | apply List.Sublist.cons))) (fun r34 H34 L34 a w le34 R h => ?_) (hS := fun _ _ _ _ _ le R hw => by obtain ⟨_, _, _, rfl⟩ := R; exact hw.sees' (by first | exact le | exact LE.trans (by assumption) le) (by simp))
    obtain ⟨t34, hd34, ⟨A34_0, c34_0, A34_1, c34_1, A34_2, c34_2, rfl, hk34_0, hk34_1, hk34_2⟩, rfl⟩ := R
    refine bsl bs32 h fun g35 a w h => ?_
    refine apn (n := ds.length) (m := 1) 3 0 (L' := fun i => _ :: _ :: _ :: i :: _) [_, _, _, _, _, _, _, _, _, _] ((ds ++ [t34]).length) (by first | (simp; done) | (simp; omega)) row32 h (by first | omega | (simp; done) | (simp; omega) | (simp; omega)) (by first | omega | (simp; done) | (simp; omega) | (simp; omega)) fun v36 a w hone36 h => ?_
    obtain ⟨B36, cp36, rfl⟩ := h.rowv 3
    have hr36 : RowR RTr 10 H34 (xrk ++ [.int .i64 t34.kind, str t34.name, .int .i64 t34.n, .int .i64 t34.s.kind, .int .i64 t34.s.n, .slice A34_0 t34.s.kids.length c34_0, .int .i64 t34.b.kind, .int .i64 t34.b.n, .slice A34_1 t34.b.kids.length c34_1, .slice A34_2 t34.kids.length c34_2]) (ds ++ [t34]) := (hrrk.mono fun cs y _ hr => RTr.mono le34 y hr).snoc rfl (rtr_of_v (cs := [_, _, _, _, _, _, _, _, _, _]) ⟨_, _, _, _, _, _, rfl, hk34_0, hk34_1, hk34_2⟩)
    refine fa fl34_5 (r := 9) h fun a w h => ?_
    refine st4 (l := [_, _, _, _, _, _, _, _, _, _]) t1_32 h fun a w h => ?_
    refine au [1,1,1,7,1,0,0,5] h ?_
    refine inc ?_ h fun a w h => ?_
    ·omega
    refine au [0,0,0,3] h ?_; intro a w h
    have h := h.del 0
    have h := h.del 1
    have h := h.pull 3 rfl rfl
    have h := h.pull 1 rfl rfl
    have h := h.pull 3 rfl rfl
    have h := h.pull 3 rfl rfl
    have l_H21_H34 : LE H21 H34 := leHL0.trans le34
    exact ⟨((k + 1), H34, B36, cp36, _, (ds ++ [t34])), ⟨⟨by omega, l_H21_H34, hr36, doneL_step d27 hi hd34⟩, h.to 0 _⟩, by show _ - (k + 1) < _ - k; omega⟩
   ·have d27 : ks.length ≤ k := cd_ c27
    refine au [2,5,2,2,2,2,2,3,1,0,1,2,3,4,5,8,0,3,1,3] h ?_; intro a w h
    have h := h.pull 2 rfl rfl
    have h := h.pull 3 rfl rfl
    have h := h.pull 3 rfl rfl
    have h := h.pull 3 rfl rfl
    have dl : doneL e.sub ks = some ds := by rw [← hi, List.take_of_length_le (by omega)]
    obtain ⟨Hrrk, leHrrk, h, hsHrrk⟩ := h.frw 0 hrrk rfl (fun _ l cs y _ hr => RTr.mono l y hr)
    have l_H17_Hrrk : LE H17 Hrrk := (le21.trans leHL0).trans leHrrk
    have l_H21_Hrrk : LE H21 Hrrk := leHL0.trans leHrrk
    have l_H_Hrrk : LE H Hrrk := ((le17.trans le21).trans leHL0).trans leHrrk
    exact FinP.ret (fin (rs := [.cell 4 34]) (vs := [.agg #[_, _, _, _, _, _, _, _, _, _]]) h rfl (.agg (k0 := 1) tN34 rfl rfl rfl .nil) rfl l_H_Hrrk ⟨LE.rfl, h.st.drop 2⟩ ⟨Tr.mk kd nm nn s17 s21 ds, by simp only [Tr.done, hf17, hf21, dl]; rfl, ⟨_, _, _, _, _, _, rfl, (HS.up hk17 l_H17_Hrrk), (HS.up hk21 l_H21_Hrrk), hsHrrk⟩, rfl⟩)
  ·refine al zr34 h fun g5 a w h => ?_
   refine br0 ?_
   refine bg1 13 true h ?_
   have h := h.pull 1 rfl rfl
   refine clP bod132 (final_ok e A c gs gm b _ E H17 _ hb hsm21.1 hsm21.2 (BdS.up hsub le17) ⟨At1, ct1, rfl, (HS.up ht1 le17)⟩) h (fun Hp a w hpn lep h => by (repeat (first | refine thP ?_ | refine ibP ?_)); exact pfin h (by simp only [Tr.done, hf17, hpn]; rfl) (LE.trans le17 lep) (by repeat (first | exact List.Sublist.refl _ | apply List.Sublist.cons))) (fun r21 H21 L21 a w le21 R h => ?_) (hS := fun _ _ _ _ _ le R hw => by obtain ⟨_, _, _, rfl⟩ := R; exact hw.sees' (by first | exact le | exact LE.trans (by assumption) le) (by simp))
   obtain ⟨s21, hf21, ⟨A21, c21, rfl, hk21⟩, rfl⟩ := R
   refine au [2,7,8,14,7,5,2,6] h ?_; intro a w h
   have l_H_H21 : LE H H21 := le17.trans le21
   refine bf1 16 ?_
   refine au [5,6,2,7] h ?_; intro a w h
   refine en (by kernel_rfl) ?_
   refine au [1,0,0,4,1,2,0,7,3,1,6,0,0,0,0,3,1,5] h ?_; intro a w h
   have h := h.row (e := 34) (sz := 10)
   have h := h.del 4
   refine lp (β := Nat × GH × (Option Addr) × Nat × (List Value) × (List Tr)) (fun x a w => match x with | (k, HL0, Brk, prk, xrk, ds) => ((k ≤ ks.length) ∧ (LE H21 HL0) ∧ (RowR RTr 10 HL0 xrk ds) ∧ (doneL e.sub (ks.take k) = some ds)) ∧ S E HL0 40 [] [(0, .pointer (some ⟨gs, 0, none⟩)), (4, .pointer (some ⟨g4, 0, none⟩)), (5, .pointer (some ⟨g5, 0, none⟩)), (24, .slice At2 ks.length ct2), (25, .int .i64 (ks.length : Int)), (26, .int .i64 (k : Int))] (.row (.slice Brk ds.length prk) 34 10 ds.length xrk :: .obj gs (.cells #[.slice A e.sub.length c, .int .i64 (e.nx : Int), .map (some gm)] 127 (0, 0)) :: .obj g5 (.cells #[.int .i64 kd, str nm, .int .i64 nn, .int .i64 s17.kind, .int .i64 s17.n, .slice A17 s17.kids.length c17, .int .i64 s21.kind, .int .i64 s21.n, .slice A21 s21.kids.length c21, .slice Brk ds.length prk] 34 (0, 0)) :: .obj g4 (.cells #[.int .i64 0, str [], .int .i64 0, .int .i64 0, .int .i64 0, .slice none 0 0, .int .i64 0, .int .i64 0, .slice none 0 0, .slice none 0 0] 34 (0, 0)) :: L) a w)
    (fun x => match x with | (k, HL0, Brk, prk, xrk, ds) => ks.length - k) (0, H21, none, 0, [], ([] : List Tr)) ⟨⟨Nat.zero_le _, LE.rfl, (RowR.nil : RowR RTr 10 H21 [] ([] : List Tr)), rfl⟩, h.to 0 _⟩ ?_
   rintro ⟨k, HL0, Brk, prk, xrk, ds⟩ a w ⟨⟨hk, leHL0, hrrk, hi⟩, h⟩
   have hdl : ds.length = k := by rw [doneL_len hi, List.length_take]; omega
   refine au [1,2,6,4,0,3,0,4] h ?_; intro a w h
   refine cdB h (fun c27 => ?_) (fun c27 => ?_)
   ·have d27 : k < ks.length := cd_ c27
    refine au [1,8,1,0,0,4,1,5,1,2] h ?_
    have l_H_HL0 : LE H HL0 := (le17.trans le21).trans leHL0
    have hj28 : k < ks.length := by first | assumption | omega | (simp; done) | (simp; omega)
    obtain ⟨g28, o28, A28_0, c28_0, A28_1, c28_1, A28_2, c28_2, e28, hv28, hc28⟩ := TrS.get (TrS.up ht2 l_H_HL0) hj28
    obtain ⟨_, _, _, _, _, _, q28, hk28_0, hk28_1, hk28_2⟩ := hv28; cases q28
    refine iaE sli32 sz34 rfl hj28 e28 h fun a w h => ?_
    refine ldHN tN34 rfl hc28 h fun a w h => ?_
    refine al zr34 h fun g7 a w h => ?_
    refine au [5,5,0,3] h ?_; intro a w h
    refine rgd [3, 0] [_, _] [4, 3, 2, 0] [1, 3] 2 mix (by kernel_rfl) h (fun a w h => ?_)
    refine au [0,7,4,2,0,0] h ?_; intro a w h
    refine ldWD 1 tN34 h fun a w h => ?_
    have h := h.pull 2 rfl rfl
    refine clP bod91 (ih _ (List.getElem_mem d27) _ e A c gs gm E HL0 _ hb (smL_mem hsm3 _ (List.getElem_mem d27)) (BdS.up hsub l_H_HL0) ⟨A28_0, c28_0, A28_1, c28_1, A28_2, c28_2, rfl, hk28_0, hk28_1, hk28_2⟩ (by have := tr_size_le (List.getElem_mem d27); omega)) h (fun Hp a w hpn lep h => by (repeat (first | refine thP ?_ | refine ibP ?_)); exact pfin h (by simp only [Tr.done, hf17, hf21, doneL_none d27 hi hpn]; rfl) (LE.trans l_H_HL0 lep) (by repeat (first | exact List.Sublist.refl _ | apply List.Sublist.cons))) (fun r34 H34 L34 a w le34 R h => ?_) (hS := fun _ _ _ _ _ le R hw => by obtain ⟨_, _, _, rfl⟩ := R; exact hw.sees' (by first | exact le | exact LE.trans (by assumption) le) (by simp))
    obtain ⟨t34, hd34, ⟨A34_0, c34_0, A34_1, c34_1, A34_2, c34_2, rfl, hk34_0, hk34_1, hk34_2⟩, rfl⟩ := R
    refine bsl bs32 h fun g35 a w h => ?_
    refine apn (n := ds.length) (m := 1) 3 0 (L' := fun i => _ :: _ :: _ :: i :: _) [_, _, _, _, _, _, _, _, _, _] ((ds ++ [t34]).length) (by first | (simp; done) | (simp; omega)) row32 h (by first | omega | (simp; done) | (simp; omega) | (simp; omega)) (by first | omega | (simp; done) | (simp; omega) | (simp; omega)) fun v36 a w hone36 h => ?_
    obtain ⟨B36, cp36, rfl⟩ := h.rowv 3
    have hr36 : RowR RTr 10 H34 (xrk ++ [.int .i64 t34.kind, str t34.name, .int .i64 t34.n, .int .i64 t34.s.kind, .int .i64 t34.s.n, .slice A34_0 t34.s.kids.length c34_0, .int .i64 t34.b.kind, .int .i64 t34.b.n, .slice A34_1 t34.b.kids.length c34_1, .slice A34_2 t34.kids.length c34_2]) (ds ++ [t34]) := (hrrk.mono fun cs y _ hr => RTr.mono le34 y hr).snoc rfl (rtr_of_v (cs := [_, _, _, _, _, _, _, _, _, _]) ⟨_, _, _, _, _, _, rfl, hk34_0, hk34_1, hk34_2⟩)
    refine fa fl34_5 (r := 9) h fun a w h => ?_
    refine st4 (l := [_, _, _, _, _, _, _, _, _, _]) t1_32 h fun a w h => ?_
    refine au [1,1,1,7,1,0,0,5] h ?_
    refine inc ?_ h fun a w h => ?_
    ·omega
    refine au [0,0,0,3] h ?_; intro a w h
    have h := h.del 0
    have h := h.del 1
    have h := h.pull 3 rfl rfl
    have h := h.pull 3 rfl rfl
    have h := h.pull 2 rfl rfl
    have h := h.pull 3 rfl rfl
    have l_H21_H34 : LE H21 H34 := leHL0.trans le34
    exact ⟨((k + 1), H34, B36, cp36, _, (ds ++ [t34])), ⟨⟨by omega, l_H21_H34, hr36, doneL_step d27 hi hd34⟩, h.to 0 _⟩, by show _ - (k + 1) < _ - k; omega⟩
   ·have d27 : ks.length ≤ k := cd_ c27
    refine au [2,5,2,2,2,2,2,3,1,0,1,2,3,5,5,8,0,3,1,3] h ?_; intro a w h
    have h := h.pull 1 rfl rfl
    have h := h.pull 3 rfl rfl
    have h := h.pull 3 rfl rfl
    have h := h.pull 3 rfl rfl
    have dl : doneL e.sub ks = some ds := by rw [← hi, List.take_of_length_le (by omega)]
    obtain ⟨Hrrk, leHrrk, h, hsHrrk⟩ := h.frw 0 hrrk rfl (fun _ l cs y _ hr => RTr.mono l y hr)
    have l_H17_Hrrk : LE H17 Hrrk := (le21.trans leHL0).trans leHrrk
    have l_H21_Hrrk : LE H21 Hrrk := leHL0.trans leHrrk
    have l_H_Hrrk : LE H Hrrk := ((le17.trans le21).trans leHL0).trans leHrrk
    exact FinP.ret (fin (rs := [.cell 4 34]) (vs := [.agg #[_, _, _, _, _, _, _, _, _, _]]) h rfl (.agg (k0 := 1) tN34 rfl rfl rfl .nil) rfl l_H_Hrrk ⟨LE.rfl, h.st.drop 2⟩ ⟨Tr.mk kd nm nn s17 s21 ds, by simp only [Tr.done, hf17, hf21, dl]; rfl, ⟨_, _, _, _, _, _, rfl, (HS.up hk17 l_H17_Hrrk), (HS.up hk21 l_H21_Hrrk), hsHrrk⟩, rfl⟩)
 ·refine al zr34 h fun g5 a w h => ?_
  refine br0 ?_
  refine bg1 9 true h ?_
  have h := h.pull 3 rfl rfl
  refine clP bod132 (final_ok e A c gs gm s _ E H _ hb hsm17.1 hsm17.2 hsub ⟨At0, ct0, rfl, ht0⟩) h (fun Hp a w hpn lep h => by (repeat (first | refine thP ?_ | refine ibP ?_)); exact pfin h (by simp only [Tr.done, hpn]; rfl) (LE.trans LE.rfl lep) (by repeat (first | exact List.Sublist.refl _ | apply List.Sublist.cons))) (fun r17 H17 L17 a w le17 R h => ?_) (hS := fun _ _ _ _ _ le R hw => by obtain ⟨_, _, _, rfl⟩ := R; exact hw.sees' (by first | exact le | exact LE.trans (by assumption) le) (by simp))
  obtain ⟨s17, hf17, ⟨A17, c17, rfl, hk17⟩, rfl⟩ := R
  refine br0 ?_
  refine bg1 13 true h ?_
  refine clP bod132 (final_ok e A c gs gm b _ E H17 _ hb hsm21.1 hsm21.2 (BdS.up hsub le17) ⟨At1, ct1, rfl, (HS.up ht1 le17)⟩) h (fun Hp a w hpn lep h => by (repeat (first | refine thP ?_ | refine ibP ?_)); exact pfin h (by simp only [Tr.done, hf17, hpn]; rfl) (LE.trans le17 lep) (by repeat (first | exact List.Sublist.refl _ | apply List.Sublist.cons))) (fun r21 H21 L21 a w le21 R h => ?_) (hS := fun _ _ _ _ _ le R hw => by obtain ⟨_, _, _, rfl⟩ := R; exact hw.sees' (by first | exact le | exact LE.trans (by assumption) le) (by simp))
  obtain ⟨s21, hf21, ⟨A21, c21, rfl, hk21⟩, rfl⟩ := R
  refine au [2,7,8,14,7,5,2,6] h ?_; intro a w h
  have l_H_H21 : LE H H21 := le17.trans le21
  refine bf1 16 ?_
  refine au [5,6,2,7] h ?_; intro a w h
  refine en (by kernel_rfl) ?_
  refine au [1,0,0,4,1,2,0,7,3,1,6,0,0,0,0,3,1,5] h ?_; intro a w h
  have h := h.row (e := 34) (sz := 10)
  have h := h.del 4
  refine lp (β := Nat × GH × (Option Addr) × Nat × (List Value) × (List Tr)) (fun x a w => match x with | (k, HL0, Brk, prk, xrk, ds) => ((k ≤ ks.length) ∧ (LE H21 HL0) ∧ (RowR RTr 10 HL0 xrk ds) ∧ (doneL e.sub (ks.take k) = some ds)) ∧ S E HL0 40 [] [(0, .pointer (some ⟨gs, 0, none⟩)), (4, .pointer (some ⟨g4, 0, none⟩)), (5, .pointer (some ⟨g5, 0, none⟩)), (24, .slice At2 ks.length ct2), (25, .int .i64 (ks.length : Int)), (26, .int .i64 (k : Int))] (.row (.slice Brk ds.length prk) 34 10 ds.length xrk :: .obj gs (.cells #[.slice A e.sub.length c, .int .i64 (e.nx : Int), .map (some gm)] 127 (0, 0)) :: .obj g5 (.cells #[.int .i64 kd, str nm, .int .i64 nn, .int .i64 s17.kind, .int .i64 s17.n, .slice A17 s17.kids.length c17, .int .i64 s21.kind, .int .i64 s21.n, .slice A21 s21.kids.length c21, .slice Brk ds.length prk] 34 (0, 0)) :: .obj g4 (.cells #[.int .i64 0, str [], .int .i64 0, .int .i64 0, .int .i64 0, .slice none 0 0, .int .i64 0, .int .i64 0, .slice none 0 0, .slice none 0 0] 34 (0, 0)) :: L) a w)
   (fun x => match x with | (k, HL0, Brk, prk, xrk, ds) => ks.length - k) (0, H21, none, 0, [], ([] : List Tr)) ⟨⟨Nat.zero_le _, LE.rfl, (RowR.nil : RowR RTr 10 H21 [] ([] : List Tr)), rfl⟩, h.to 0 _⟩ ?_
  rintro ⟨k, HL0, Brk, prk, xrk, ds⟩ a w ⟨⟨hk, leHL0, hrrk, hi⟩, h⟩
  have hdl : ds.length = k := by rw [doneL_len hi, List.length_take]; omega
  refine au [1,2,6,4,0,3,0,4] h ?_; intro a w h
  refine cdB h (fun c27 => ?_) (fun c27 => ?_)
  ·have d27 : k < ks.length := cd_ c27
   refine au [1,8,1,0,0,4,1,5,1,2] h ?_
   have l_H_HL0 : LE H HL0 := (le17.trans le21).trans leHL0
   have hj28 : k < ks.length := by first | assumption | omega | (simp; done) | (simp; omega)
   obtain ⟨g28, o28, A28_0, c28_0, A28_1, c28_1, A28_2, c28_2, e28, hv28, hc28⟩ := TrS.get (TrS.up ht2 l_H_HL0) hj28
   obtain ⟨_, _, _, _, _, _, q28, hk28_0, hk28_1, hk28_2⟩ := hv28; cases q28
   refine iaE sli32 sz34 rfl hj28 e28 h fun a w h => ?_
   refine ldHN tN34 rfl hc28 h fun a w h => ?_
   refine al zr34 h fun g7 a w h => ?_
   refine au [5,5,0,3] h ?_; intro a w h
   refine rgd [3, 0] [_, _] [4, 3, 2, 0] [1, 3] 2 mix (by kernel_rfl) h (fun a w h => ?_)
   refine au [0,7,4,2,0,0] h ?_; intro a w h
   refine ldWD 1 tN34 h fun a w h => ?_
   have h := h.pull 2 rfl rfl
   refine clP bod91 (ih _ (List.getElem_mem d27) _ e A c gs gm E HL0 _ hb (smL_mem hsm3 _ (List.getElem_mem d27)) (BdS.up hsub l_H_HL0) ⟨A28_0, c28_0, A28_1, c28_1, A28_2, c28_2, rfl, hk28_0, hk28_1, hk28_2⟩ (by have := tr_size_le (List.getElem_mem d27); omega)) h (fun Hp a w hpn lep h => by (repeat (first | refine thP ?_ | refine ibP ?_)); exact pfin h (by simp only [Tr.done, hf17, hf21, doneL_none d27 hi hpn]; rfl) (LE.trans l_H_HL0 lep) (by repeat (first | exact List.Sublist.refl _ | apply List.Sublist.cons))) (fun r34 H34 L34 a w le34 R h => ?_) (hS := fun _ _ _ _ _ le R hw => by obtain ⟨_, _, _, rfl⟩ := R; exact hw.sees' (by first | exact le | exact LE.trans (by assumption) le) (by simp))
   obtain ⟨t34, hd34, ⟨A34_0, c34_0, A34_1, c34_1, A34_2, c34_2, rfl, hk34_0, hk34_1, hk34_2⟩, rfl⟩ := R
   refine bsl bs32 h fun g35 a w h => ?_
   refine apn (n := ds.length) (m := 1) 3 0 (L' := fun i => _ :: _ :: _ :: i :: _) [_, _, _, _, _, _, _, _, _, _] ((ds ++ [t34]).length) (by first | (simp; done) | (simp; omega)) row32 h (by first | omega | (simp; done) | (simp; omega) | (simp; omega)) (by first | omega | (simp; done) | (simp; omega) | (simp; omega)) fun v36 a w hone36 h => ?_
   obtain ⟨B36, cp36, rfl⟩ := h.rowv 3
   have hr36 : RowR RTr 10 H34 (xrk ++ [.int .i64 t34.kind, str t34.name, .int .i64 t34.n, .int .i64 t34.s.kind, .int .i64 t34.s.n, .slice A34_0 t34.s.kids.length c34_0, .int .i64 t34.b.kind, .int .i64 t34.b.n, .slice A34_1 t34.b.kids.length c34_1, .slice A34_2 t34.kids.length c34_2]) (ds ++ [t34]) := (hrrk.mono fun cs y _ hr => RTr.mono le34 y hr).snoc rfl (rtr_of_v (cs := [_, _, _, _, _, _, _, _, _, _]) ⟨_, _, _, _, _, _, rfl, hk34_0, hk34_1, hk34_2⟩)
   refine fa fl34_5 (r := 9) h fun a w h => ?_
   refine st4 (l := [_, _, _, _, _, _, _, _, _, _]) t1_32 h fun a w h => ?_
   refine au [1,1,1,7,1,0,0,5] h ?_
   refine inc ?_ h fun a w h => ?_
   ·omega
   refine au [0,0,0,3] h ?_; intro a w h
   have h := h.del 0
   have h := h.del 1
   have h := h.pull 3 rfl rfl
   have h := h.pull 3 rfl rfl
   have h := h.pull 2 rfl rfl
   have h := h.pull 3 rfl rfl
   have l_H21_H34 : LE H21 H34 := leHL0.trans le34
   exact ⟨((k + 1), H34, B36, cp36, _, (ds ++ [t34])), ⟨⟨by omega, l_H21_H34, hr36, doneL_step d27 hi hd34⟩, h.to 0 _⟩, by show _ - (k + 1) < _ - k; omega⟩
  ·have d27 : ks.length ≤ k := cd_ c27
   refine au [2,5,2,2,2,2,2,3,1,0,1,2,3,5,5,8,0,3,1,3] h ?_; intro a w h
   have h := h.pull 1 rfl rfl
   have h := h.pull 3 rfl rfl
   have h := h.pull 3 rfl rfl
   have h := h.pull 3 rfl rfl
   have dl : doneL e.sub ks = some ds := by rw [← hi, List.take_of_length_le (by omega)]
   obtain ⟨Hrrk, leHrrk, h, hsHrrk⟩ := h.frw 0 hrrk rfl (fun _ l cs y _ hr => RTr.mono l y hr)
   have l_H17_Hrrk : LE H17 Hrrk := (le21.trans leHL0).trans leHrrk
   have l_H21_Hrrk : LE H21 Hrrk := leHL0.trans leHrrk
   have l_H_Hrrk : LE H Hrrk := ((le17.trans le21).trans leHL0).trans leHrrk
   exact FinP.ret (fin (rs := [.cell 4 34]) (vs := [.agg #[_, _, _, _, _, _, _, _, _, _]]) h rfl (.agg (k0 := 1) tN34 rfl rfl rfl .nil) rfl l_H_Hrrk ⟨LE.rfl, h.st.drop 2⟩ ⟨Tr.mk kd nm nn s17 s21 ds, by simp only [Tr.done, hf17, hf21, dl]; rfl, ⟨_, _, _, _, _, _, rfl, (HS.up hk17 l_H17_Hrrk), (HS.up hk21 l_H21_Hrrk), hsHrrk⟩, rfl⟩)
theorem rs_mt {xs : List Sh} {H H' : GH} {A : Option Addr} {c : Nat} (hx : xs = []) (h : HS H A c xs) : HS H' A c xs := by
 subst hx; obtain ⟨A', c', e, h1, h2⟩ := h; exact ⟨A', c', e, h1, fun j x hx => by simp at hx⟩
abbrev TrS0 (H0 H : GH) (A : Option Addr) (c : Nat) (xs : List Tr) : Prop := RS (fun _ cs x => RTr H0 cs x) 10 H (.slice A xs.length c) xs
theorem TrS0.get {H0 H : GH} {A : Option Addr} {c : Nat} {xs : List Tr} (h : TrS0 H0 H A c xs) {j : Nat} (hj : j < xs.length) :
   ∃ g off A0 c0 A1 c1 A2 c2, A = some ⟨g, off, none⟩ ∧ VTr H0 (.agg #[.int .i64 xs[j].kind, str xs[j].name, .int .i64 xs[j].n, .int .i64 xs[j].s.kind, .int .i64 xs[j].s.n, .slice A0 xs[j].s.kids.length c0, .int .i64 xs[j].b.kind, .int .i64 xs[j].b.n, .slice A1 xs[j].b.kids.length c1, .slice A2 xs[j].kids.length c2]) xs[j] ∧ ∀ i u, [.int .i64 xs[j].kind, str xs[j].name, .int .i64 xs[j].n, .int .i64 xs[j].s.kind, .int .i64 xs[j].s.n, .slice A0 xs[j].s.kids.length c0, .int .i64 xs[j].b.kind, .int .i64 xs[j].b.n, .slice A1 xs[j].b.kids.length c1, .slice A2 xs[j].kids.length c2][i]? = some u → Hc H g (off + j * 10 + i) u := by
 obtain ⟨g, off, cs, hA, hl, hr, hc⟩ := RS.at_ h (List.getElem?_eq_getElem hj)
 rw [rtr_iff] at hr
 obtain ⟨A0, c0, A1, c1, A2, c2, rfl, h0, h1, h2⟩ := hr
 exact ⟨g, off, A0, c0, A1, c1, A2, c2, hA, ⟨A0, c0, A1, c1, A2, c2, rfl, h0, h1, h2⟩, hc⟩
theorem bhead {acc : List Tr} (h : 0 < acc.length) : (acc.map Tr.s).headD (.mk 0 0 []) = acc[0].s := by
 cases acc with
 | nil => simp at h
 | cons t l => rfl
theorem bound_ok (e : Es) (A : Option Addr) (c gs gm : Nat) (t : Tm) (acc : List Tr) (A2 : Option Addr) (c2 : Nat) (v : Value) (H0 : GH) (E : World) (H : GH) (L : List It) (hn : e.nx < 1000000000) (hv : VT H v t) (hacc : TrS0 H0 H A2 c2 acc) (h5 : t.kind = 5 → 0 < acc.length) (hsub : BdS H A c e.sub) :
   Ok Tryz.prog 129 #[.pointer (some ⟨gs, 0, none⟩), v, .slice A2 acc.length c2] E H (.obj gs (.cells #[.slice A e.sub.length c, .int .i64 (e.nx : Int), .map (some gm)] 127 (0, 0)) :: L) fun r H' L' => VSh H0 r (e.bound t.kind acc).2 ∧ L' = .obj gs (.cells #[.slice A e.sub.length c, .int .i64 ((e.bound t.kind acc).1.nx : Int), .map (some gm)] 127 (0, 0)) :: L := by
 obtain ⟨At0, ct0, rfl, ht0⟩ := hv
 refine enter (N := 20) [(0, _), (1, _), (2, _)] Tryz.func129 rfl rfl rfl rfl fun a w h => ?_
 refine au [1,2] h ?_
 refine bxA h fun g4 a w h => ?_
 refine al zr31 h fun g6 a w h => ?_
 refine au [0,3,0,4,1,2,0,7,2,8,0,3,1,5,1,2,6,2,0,6,0,3] h ?_; intro a w h
 refine cdB h (fun c9 => ?_) (fun c9 => ?_)
 ·have d9 : t.kind = 3 := cd_ c9
  refine au [1,2,0,0] h ?_; intro a w h
  have h := h.pull 2 rfl rfl
  refine cl bod165 (hole_ok e A c gs gm E H _ hn) h (fun r12 H12 L12 a w le12 R h => ?_)
  obtain ⟨⟨A12, c12, rfl, hk12⟩, rfl, rfl⟩ := R
  refine au [5,6,0,3,1,3,1,6,1,4] h ?_; intro a w h
  have h := h.pull 2 rfl rfl
  have h := h.pull 2 rfl rfl
  have eb : e.bound t.kind acc = e.hole := by unfold Es.bound; rw [if_pos d9]
  exact fin (rs := [.cell 6 31]) (vs := [.agg #[_, _, _]]) h rfl (.agg (k0 := 0) tN31 rfl rfl rfl .nil) rfl LE.rfl ⟨LE.rfl, h.st.drop 2⟩ ⟨by rw [eb]; exact ⟨_, _, rfl, (rs_mt rfl hk12)⟩, by rw [eb]; rfl⟩
 ·have d9 : t.kind ≠ 3 := cd_ c9
  refine au [1,2,6,2,0,6,0,3] h ?_; intro a w h
  refine cdB h (fun c13 => ?_) (fun c13 => ?_)
  ·have d13 : t.kind = 5 := cd_ c13
   refine au [1,2,0,0] h ?_; intro a w h
   have hj16 : 0 < acc.length := h5 d13
   obtain ⟨g16, o16, A16_0, c16_0, A16_1, c16_1, A16_2, c16_2, e16, hv16, hc16⟩ := TrS0.get hacc hj16
   obtain ⟨_, _, _, _, _, _, q16, hk16_0, hk16_1, hk16_2⟩ := hv16; cases q16
   refine iaE sli32 sz34 rfl hj16 e16 h fun a w h => ?_
   refine fa fl34_3 (r := o16 + 0 * 10 + 3) h fun a w h => ?_
   refine ldHN (l := [_, _, _]) tN31 rfl (sbL 3 3 hc16) h fun a w h => ?_
   refine au [5,5,0,3,1,3,1,6,1,4] h ?_; intro a w h
   have eb : e.bound t.kind acc = (e, acc[0].s) := by unfold Es.bound; rw [if_neg d9, if_pos d13, bhead hj16]
   exact fin (rs := [.cell 6 31]) (vs := [.agg #[_, _, _]]) h rfl (.agg (k0 := 0) tN31 rfl rfl rfl .nil) rfl LE.rfl ⟨LE.rfl, h.st.drop 2⟩ ⟨by rw [eb]; exact ⟨_, _, rfl, hk16_0⟩, by rw [eb]; rfl⟩
  ·have d13 : t.kind ≠ 5 := cd_ c13
   refine au [1,8,1,7,1,0,1,2] h ?_
   refine cl bod87 (whole_ok E H _) h (fun r19 H19 L19 a w le19 R h => ?_)
   obtain ⟨⟨A19_0, c19_0, rfl, hk19_0⟩, rfl⟩ := R
   refine au [5,5,0,3,1,3] h ?_; intro a w h
   have eb : e.bound t.kind acc = (e, wh) := by unfold Es.bound; rw [if_neg d9, if_neg d13]
   exact fin (rs := [.cell 6 31]) (vs := [.agg #[_, _, _]]) h rfl (.agg (k0 := 0) tN31 rfl rfl rfl .nil) rfl le19 ⟨LE.rfl, h.st.drop 2⟩ ⟨by rw [eb]; exact ⟨_, _, rfl, (rs_mt rfl hk19_0)⟩, by rw [eb]; rfl⟩
structure EOk (e : Es) : Prop where
 ord : Ord e.sub
 sml : Sml e.sub
structure Gd1 (M nx : Nat) (s : Sh) : Prop where
 right : s.right = true
 hl : ∀ x ∈ s.hl, x < (nx : Int)
 size : s.size ≤ M
theorem Gd1.mono {M M' nx nx' : Nat} {s : Sh} (h : Gd1 M nx s) (hM : M ≤ M') (hn : nx ≤ nx') : Gd1 M' nx' s := ⟨h.right, fun x hx => by have := h.hl x hx; omega, Nat.le_trans h.size hM⟩
theorem gd_wh {M nx : Nat} (h : 1 ≤ M) : Gd1 M nx wh := ⟨by decide, fun x hx => by simp [wh, Sh.hl, hlL] at hx, by simpa [wh, Sh.size, sizeSL] using h⟩
theorem gd_ce {M nx : Nat} (h : 1 ≤ M) : Gd1 M nx ce := ⟨by decide, fun x hx => by simp [ce, Sh.hl, hlL] at hx, by simpa [ce, Sh.size, sizeSL] using h⟩
theorem gd_hole {M : Nat} {e : Es} (h : 1 ≤ M) : Gd1 M e.hole.1.nx e.hole.2 := by
 refine ⟨?_, fun x hx => ?_, ?_⟩
 · simp only [Es.hole, Sh.right, rightSL, Bool.and_true, nodeSh, List.length_nil]
   simp
 · simp [Es.hole, Sh.hl, hlL] at hx
   subst hx
   simp only [Es.hole]; omega
 · simpa [Es.hole, Sh.size, sizeSL] using h
theorem gd_fu {M M1 M2 nx : Nat} {a b : Sh} (ha : Gd1 M1 nx a) (hb : Gd1 M2 nx b) (h : M1 + M2 + 1 ≤ M) : Gd1 M nx (fu a b) := by
 refine ⟨?_, fun x hx => ?_, ?_⟩
 · simp only [fu, Sh.right, rightSL, ha.right, hb.right, Bool.and_true, nodeSh, List.length_cons, List.length_nil]
   decide
 · simp only [fu, Sh.hl, hlL, List.mem_append] at hx
   rcases hx with hx | hx
   · split at hx
     · rename_i h4; exact absurd h4 (by decide)
     · cases hx
   · rcases hx with hx | hx | hx
     · exact ha.hl x hx
     · exact hb.hl x hx
     · cases hx
 · have := ha.size; have := hb.size
   simp only [fu, Sh.size, sizeSL]; omega
theorem uarg_gd {M nx : Nat} {e : Es} {a b : Sh} (he : EOk e) (ha : Gd1 M nx a) (hb : Gd1 M nx b) (hM : M ≤ 10000000) (hn : nx ≤ 1000000000) : UArg e.sub a b :=
 UArg.of he.ord he.sml ha.right hb.right (fun x hx => by have := ha.hl x hx; omega) (fun x hx => by have := hb.hl x hx; omega) (Nat.le_trans ha.size hM) (Nat.le_trans hb.size hM)
theorem same_eok {e e' : Es} {a b : Sh} (he : EOk e) (hu : UArg e.sub a b) (h : e.same a b = some e') : EOk e' ∧ e'.nx = e.nx ∧ e'.nm = e.nm := by
 obtain ⟨f, hf⟩ := uniR_ex hu.ord hu.ra hu.rb
 unfold Es.same at h
 rw [Option.map_eq_some_iff] at h
 obtain ⟨l, hl, rfl⟩ := h
 rw [hl] at hf
 exact ⟨⟨(uni_sound f _ _ _ _ hf he.ord hu.ra hu.rb).1, uni_sml f _ _ _ _ hf he.sml hu.ha hu.hb⟩, rfl, rfl⟩
end Go.Proofs.YthnhddjlgjecdaaGreatDoor
