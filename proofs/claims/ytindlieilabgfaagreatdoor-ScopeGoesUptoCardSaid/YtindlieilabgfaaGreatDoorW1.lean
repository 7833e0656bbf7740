/- Walks: package term: Binder, Size, Depth; Count of package scope. -/
import Derived.Test.YtindlieilabgfaaGreatDoorT1
import Derived.Test.YtindlieilabgfaaGreatDoorF
set_option linter.unusedVariables false
set_option linter.unusedSimpArgs false
set_option linter.unusedSectionVars false
set_option autoImplicit false
set_option relaxedAutoImplicit false
set_option maxRecDepth 10000
namespace Go.Proofs.YtindlieilabgfaaGreatDoor
open Go X
theorem Binder_ok (k n : Int) (s : Bs) (v : Value) (E : World) (H : GH) (L : List It) : Ok Tryz.prog 38 #[.agg #[.int .i64 k, str s, .int .i64 n, v]] E H L fun r H' L' => r = .bool (bnd k) ∧ H = H' ∧ L = L' := by
  refine enter (N := 16) [(0, _)] Tryz.func38 rfl rfl rfl rfl fun a w h => ?_
  refine sq ?_
  refine rg0 ?_
  refine bxA h fun g1 a w h => ?_
  refine as_ h fun a w h => ?_
  refine nl0 ?_
  refine thN ?_
  refine sq ?_
  refine rg0 ?_
  refine fa fl24_0 (r := 0) h fun a w h => ?_
  refine ld 0 t1_3 h fun a w h => ?_
  refine eqi h fun a w h => ?_
  refine h.spl (fun c5 h => ?_) (fun c5 h => ?_)
  · refine mv h fun a w h => ?_
    refine sk h (k := fun a w h => ?_)
    refine sk h (k := fun a w h => ?_)
    refine sk h (k := fun a w h => ?_)
    refine pkT h fun a w h => ?_
    refine mv h fun a w h => ?_
    refine sk h (k := fun a w h => ?_)
    refine sk h (k := fun a w h => ?_)
    refine sk h (k := fun a w h => ?_)
    refine pkT h fun a w h => ?_
    refine as_ h fun a w h => ?_
    refine nl0 ?_
    refine thN ?_
    refine ret_ ?_
    refine fin1 2 1 h LE.rfl ?_
    exact ⟨by first | (simp only [bnd, *]; done) | (simp only [bnd, *]; rfl), rfl, rfl⟩
  · refine mv h fun a w h => ?_
    refine fa fl24_0 (r := 0) h fun a w h => ?_
    refine ld 0 t1_3 h fun a w h => ?_
    refine eqi h fun a w h => ?_
    refine pkF h fun a w h => ?_
    refine h.spl (fun c10 h => ?_) (fun c10 h => ?_)
    · refine mv h fun a w h => ?_
      refine sk h (k := fun a w h => ?_)
      refine sk h (k := fun a w h => ?_)
      refine sk h (k := fun a w h => ?_)
      refine pkT h fun a w h => ?_
      refine as_ h fun a w h => ?_
      refine nl0 ?_
      refine thN ?_
      refine ret_ ?_
      refine fin1 2 1 h LE.rfl ?_
      exact ⟨by first | (simp only [bnd, *]; done) | (simp only [bnd, *]; rfl), rfl, rfl⟩
    · refine mv h fun a w h => ?_
      refine fa fl24_0 (r := 0) h fun a w h => ?_
      refine ld 0 t1_3 h fun a w h => ?_
      refine eqi h fun a w h => ?_
      refine pkF h fun a w h => ?_
      refine as_ h fun a w h => ?_
      refine nl0 ?_
      refine thN ?_
      refine ret_ ?_
      refine fin1 2 1 h LE.rfl ?_
      exact ⟨by first | (simp only [bnd, *]; done) | (simp only [bnd, *]; rfl), rfl, rfl⟩

theorem Size_ok : ∀ (t : Tm) (v : Value) (E : World) (H : GH) (L : List It), VT H v t → t.size < 1000000000000 →
    Ok Tryz.prog 24 #[v] E H L fun r H' L' => r = .int .i64 t.size ∧ H = H' ∧ L = L' := by
  intro t
  induction t using Tm.ind with
  | h kd nm nn ks ih =>
  intro v E H L hv hb
  obtain ⟨A, c, rfl, hks⟩ := hv
  simp only [Tm.size] at hb
  have hks : KS H A c ks := hks
  have hlen := length_le_sizeL ks
  refine enter (N := 19) [(0, _)] Tryz.func24 rfl rfl rfl rfl fun a w h => ?_
  refine sq ?_
  refine rg0 ?_
  refine bxA h fun g1 a w h => ?_
  refine as_ h fun a w h => ?_
  refine nl0 ?_
  refine thN ?_
  refine sq ?_
  refine rg0 ?_
  refine as_ h fun a w h => ?_
  refine nl0 ?_
  refine thN ?_
  refine sq ?_
  refine sq ?_
  refine rg0 ?_
  refine fa fl24_3 (r := 3) h fun a w h => ?_
  refine ld 0 t1_22 h fun a w h => ?_
  refine ln sli22 h fun a w h => ?_
  refine mv h fun a w h => ?_
  refine nl0 ?_
  refine thN ?_
  refine blk ?_
  refine lp (β := Nat) (fun k a w => (k ≤ ks.length) ∧ S E H 19 [] [(9, .int .i64 (k : Int)), (3, .int .i64 ((1 + sizeL (ks.take k) : Nat) : Int)), (7, .slice A ks.length c), (8, .int .i64 (ks.length : Int))] (L) a w)
    (fun k => ks.length - k) 0 ⟨Nat.zero_le _, h.to 1 _⟩ ?_
  rintro k a w ⟨pre, h⟩
  refine sq ?_
  refine rg0 ?_
  refine lt h fun a w h => ?_
  refine nl0 ?_
  refine thN ?_
  refine sq ?_
  refine cdB h (fun c10 => ?_) (fun c10 => ?_)
  · have c10 : k < ks.length := by simpa using c10
    obtain ⟨g, off, A2, c2, rfl, hvt, hcell⟩ := KS.get hks c10
    have hsz := size_get_le c10
    have hts := take_size c10
    have hlt := size_take_le ks (k + 1)
    refine sk_ ?_
    refine thN ?_
    refine sq ?_
    refine blk ?_
    refine sq ?_
    refine rg0 ?_
    refine ia sli22 sz24 rfl c10 h fun a w h => ?_
    refine ldHN tN24 rfl hcell h fun a w h => ?_
    refine al zr24 h fun g5 a w h => ?_
    refine sw0 tN24 h fun a w h => ?_
    refine nl0 ?_
    refine thN ?_
    refine rg0 ?_
    refine mv h fun a w h => ?_
    refine ldW 0 tN24 h fun a w h => ?_
    refine cl bod24 (ih _ (List.getElem_mem c10) _ E H _ hvt (by omega)) h fun r15 H15 L15 a w le15 R h => ?_
    obtain ⟨rfl, rfl, rfl⟩ := R
    refine adr (((1 + sizeL (ks.take (k + 1)) : Nat) : Int)) ?_ h fun a w h => ?_
    · rw [w64 (by omega) (by omega)]; exact hts
    refine as_ h fun a w h => ?_
    refine nl0 ?_
    refine ibN ?_
    refine thN ?_
    refine rg0 ?_
    refine inc ?_ h fun a w h => ?_
    · omega
    refine mv h fun a w h => ?_
    refine nl0 ?_
    refine thN ?_
    exact ⟨(k + 1), ⟨by omega, h.to 1 _⟩, by show _ - (k + 1) < _ - k; omega⟩
  · have hk : k = ks.length := by simp at c10; omega
    refine exit_ ?_
    refine thE ?_
    refine thE ?_
    refine ibH ?_
    refine thN ?_
    refine sq ?_
    refine rg0 ?_
    refine mv h fun a w h => ?_
    refine as_ h fun a w h => ?_
    refine nl0 ?_
    refine thN ?_
    refine ret_ ?_
    refine fin1 2 0 h LE.rfl ?_
    refine ⟨?_, rfl, rfl⟩
    rw [hk, List.take_length]; rfl

theorem Depth_ok : ∀ (t : Tm) (v : Value) (E : World) (H : GH) (L : List It), VT H v t → t.size < 1000000000000 →
    Ok Tryz.prog 25 #[v] E H L fun r H' L' => r = .int .i64 t.depth ∧ H = H' ∧ L = L' := by
  intro t
  induction t using Tm.ind with
  | h kd nm nn ks ih =>
  intro v E H L hv hb
  obtain ⟨A, c, rfl, hks⟩ := hv
  simp only [Tm.size] at hb
  have hks : KS H A c ks := hks
  have hlen := length_le_sizeL ks
  refine enter (N := 20) [(0, _)] Tryz.func25 rfl rfl rfl rfl fun a w h => ?_
  refine sq ?_
  refine rg0 ?_
  refine bxA h fun g1 a w h => ?_
  refine as_ h fun a w h => ?_
  refine nl0 ?_
  refine thN ?_
  refine sq ?_
  refine rg0 ?_
  refine as_ h fun a w h => ?_
  refine nl0 ?_
  refine thN ?_
  refine sq ?_
  refine sq ?_
  refine rg0 ?_
  refine fa fl24_3 (r := 3) h fun a w h => ?_
  refine ld 0 t1_22 h fun a w h => ?_
  refine ln sli22 h fun a w h => ?_
  refine mv h fun a w h => ?_
  refine nl0 ?_
  refine thN ?_
  refine blk ?_
  refine lp (β := Nat) (fun k a w => (k ≤ ks.length) ∧ S E H 20 [] [(9, .int .i64 (k : Int)), (3, .int .i64 ((depthL (ks.take k) : Nat) : Int)), (7, .slice A ks.length c), (8, .int .i64 (ks.length : Int))] (L) a w)
    (fun k => ks.length - k) 0 ⟨Nat.zero_le _, h.to 1 _⟩ ?_
  rintro k a w ⟨pre, h⟩
  refine sq ?_
  refine rg0 ?_
  refine lt h fun a w h => ?_
  refine nl0 ?_
  refine thN ?_
  refine sq ?_
  refine cdB h (fun c10 => ?_) (fun c10 => ?_)
  · have c10 : k < ks.length := by simpa using c10
    obtain ⟨g, off, A2, c2, rfl, hvt, hcell⟩ := KS.get hks c10
    have hsz := size_get_le c10
    have htd := take_depth c10
    have hmx : (if ((depthL (ks.take k) : Nat) : Int) < (ks[k].depth : Int) then (ks[k].depth : Int) else ((depthL (ks.take k) : Nat) : Int)) = ((depthL (ks.take (k + 1)) : Nat) : Int) := by rw [htd]; split <;> omega
    refine sk_ ?_
    refine thN ?_
    refine sq ?_
    refine blk ?_
    refine sq ?_
    refine rg0 ?_
    refine ia sli22 sz24 rfl c10 h fun a w h => ?_
    refine ldHN tN24 rfl hcell h fun a w h => ?_
    refine al zr24 h fun g5 a w h => ?_
    refine sw0 tN24 h fun a w h => ?_
    refine nl0 ?_
    refine thN ?_
    refine rg0 ?_
    refine mv h fun a w h => ?_
    refine ldW 0 tN24 h fun a w h => ?_
    refine cl bod25 (ih _ (List.getElem_mem c10) _ E H _ hvt (by omega)) h fun r15 H15 L15 a w le15 R h => ?_
    obtain ⟨rfl, rfl, rfl⟩ := R
    refine mx h fun a w h => ?_
    rw [hmx] at h
    refine as_ h fun a w h => ?_
    refine nl0 ?_
    refine ibN ?_
    refine thN ?_
    refine rg0 ?_
    refine inc ?_ h fun a w h => ?_
    · omega
    refine mv h fun a w h => ?_
    refine nl0 ?_
    refine thN ?_
    exact ⟨(k + 1), ⟨by omega, h.to 1 _⟩, by show _ - (k + 1) < _ - k; omega⟩
  · have hk : k = ks.length := by simp at c10; omega
    refine exit_ ?_
    refine thE ?_
    refine thE ?_
    refine ibH ?_
    refine thN ?_
    refine sq ?_
    refine rg0 ?_
    refine mv h fun a w h => ?_
    refine adr (((depthL ks + 1 : Nat) : Int)) ?_ h fun a w h => ?_
    · have := depthL_le ks; rw [hk, List.take_length, w64 (by omega) (by omega)]; omega
    refine as_ h fun a w h => ?_
    refine nl0 ?_
    refine thN ?_
    refine ret_ ?_
    refine fin1 2 0 h LE.rfl ?_
    exact ⟨rfl, rfl, rfl⟩

theorem Count_ok : ∀ (t : Tm) (v : Value) (E : World) (H : GH) (L : List It), VT H v t → t.size < 1000000000000 →
    Ok Tryz.prog 14 #[v] E H L fun r H' L' => r = .int .i64 t.count ∧ H = H' ∧ L = L' := by
  intro t
  induction t using Tm.ind with
  | h kd nm nn ks ih =>
  intro v E H L hv hb
  obtain ⟨A, c, rfl, hks⟩ := hv
  simp only [Tm.size] at hb
  have hks : KS H A c ks := hks
  have hlen := length_le_sizeL ks
  refine enter (N := 23) [(0, _)] Tryz.func14 rfl rfl rfl rfl fun a w h => ?_
  refine sq ?_
  refine rg0 ?_
  refine bxA h fun g1 a w h => ?_
  refine as_ h fun a w h => ?_
  refine nl0 ?_
  refine thN ?_
  refine sq ?_
  refine rg0 ?_
  refine as_ h fun a w h => ?_
  refine nl0 ?_
  refine thN ?_
  refine sq ?_
  refine sq ?_
  refine rg0 ?_
  refine ldW 0 tN24 h fun a w h => ?_
  refine cl bod38 (Binder_ok _ _ _ _ _ _ _) h fun r7 H7 L7 a w le7 R h => ?_
  obtain ⟨rfl, rfl, rfl⟩ := R
  refine nl0 ?_
  refine thN ?_
  refine cdB h (fun c7 => ?_) (fun c7 => ?_)
  · have c7 : bnd kd = true := c7
    refine rg0 ?_
    refine mv h fun a w h => ?_
    refine adr (((if bnd kd then 1 else 0 : Nat) : Int)) ?_ h fun a w h => ?_
    · rw [c7]; rfl
    refine as_ h fun a w h => ?_
    refine nl0 ?_
    refine thN ?_
    refine sq ?_
    refine sq ?_
    refine rg0 ?_
    refine fa fl24_3 (r := 3) h fun a w h => ?_
    refine ld 0 t1_22 h fun a w h => ?_
    refine ln sli22 h fun a w h => ?_
    refine mv h fun a w h => ?_
    refine nl0 ?_
    refine thN ?_
    refine blk ?_
    refine lp (β := Nat) (fun k a w => (k ≤ ks.length) ∧ S E H 23 [] [(13, .int .i64 (k : Int)), (3, .int .i64 (((if bnd kd then 1 else 0) + countL (ks.take k) : Nat) : Int)), (11, .slice A ks.length c), (12, .int .i64 (ks.length : Int))] (L) a w)
      (fun k => ks.length - k) 0 ⟨Nat.zero_le _, h.to 1 _⟩ ?_
    rintro k a w ⟨pre, h⟩
    refine sq ?_
    refine rg0 ?_
    refine lt h fun a w h => ?_
    refine nl0 ?_
    refine thN ?_
    refine sq ?_
    refine cdB h (fun c14 => ?_) (fun c14 => ?_)
    · have c14 : k < ks.length := by simpa using c14
      obtain ⟨g, off, A2, c2, rfl, hvt, hcell⟩ := KS.get hks c14
      have hsz := size_get_le c14
      have hts := take_count c14
      refine sk_ ?_
      refine thN ?_
      refine sq ?_
      refine blk ?_
      refine sq ?_
      refine rg0 ?_
      refine ia sli22 sz24 rfl c14 h fun a w h => ?_
      refine ldHN tN24 rfl hcell h fun a w h => ?_
      refine al zr24 h fun g5 a w h => ?_
      refine sw0 tN24 h fun a w h => ?_
      refine nl0 ?_
      refine thN ?_
      refine rg0 ?_
      refine mv h fun a w h => ?_
      refine ldW 0 tN24 h fun a w h => ?_
      refine cl bod14 (ih _ (List.getElem_mem c14) _ E H _ hvt (by omega)) h fun r19 H19 L19 a w le19 R h => ?_
      obtain ⟨rfl, rfl, rfl⟩ := R
      refine adr ((((if bnd kd then 1 else 0) + countL (ks.take (k + 1)) : Nat) : Int)) ?_ h fun a w h => ?_
      · have : countL (ks.take (k + 1)) ≤ sizeL ks := Nat.le_trans (countL_le _) (size_take_le ks _); rw [hts] at this ⊢; rw [w64 (by split <;> omega) (by split <;> omega)]; omega
      refine as_ h fun a w h => ?_
      refine nl0 ?_
      refine ibN ?_
      refine thN ?_
      refine rg0 ?_
      refine inc ?_ h fun a w h => ?_
      · omega
      refine mv h fun a w h => ?_
      refine nl0 ?_
      refine thN ?_
      exact ⟨(k + 1), ⟨by omega, h.to 1 _⟩, by show _ - (k + 1) < _ - k; omega⟩
    · have hk : k = ks.length := by simp at c14; omega
      refine exit_ ?_
      refine thE ?_
      refine thE ?_
      refine ibH ?_
      refine thN ?_
      refine sq ?_
      refine rg0 ?_
      refine mv h fun a w h => ?_
      refine as_ h fun a w h => ?_
      refine nl0 ?_
      refine thN ?_
      refine ret_ ?_
      refine fin1 2 0 h LE.rfl ?_
      refine ⟨?_, rfl, rfl⟩
      rw [hk, List.take_length]; rfl
  · have c7 : bnd kd = false := c7
    have e0 : (0 : Int) = ((if bnd kd then 1 else 0 : Nat) : Int) := by rw [c7]; rfl
    rw [e0] at h
    refine sk_ ?_
    refine thN ?_
    refine sq ?_
    refine sq ?_
    refine rg0 ?_
    refine fa fl24_3 (r := 3) h fun a w h => ?_
    refine ld 0 t1_22 h fun a w h => ?_
    refine ln sli22 h fun a w h => ?_
    refine mv h fun a w h => ?_
    refine nl0 ?_
    refine thN ?_
    refine blk ?_
    refine lp (β := Nat) (fun k a w => (k ≤ ks.length) ∧ S E H 23 [] [(13, .int .i64 (k : Int)), (3, .int .i64 (((if bnd kd then 1 else 0) + countL (ks.take k) : Nat) : Int)), (11, .slice A ks.length c), (12, .int .i64 (ks.length : Int))] (L) a w)
      (fun k => ks.length - k) 0 ⟨Nat.zero_le _, h.to 1 _⟩ ?_
    rintro k a w ⟨pre, h⟩
    refine sq ?_
    refine rg0 ?_
    refine lt h fun a w h => ?_
    refine nl0 ?_
    refine thN ?_
    refine sq ?_
    refine cdB h (fun c14 => ?_) (fun c14 => ?_)
    · have c14 : k < ks.length := by simpa using c14
      obtain ⟨g, off, A2, c2, rfl, hvt, hcell⟩ := KS.get hks c14
      have hsz := size_get_le c14
      have hts := take_count c14
      refine sk_ ?_
      refine thN ?_
      refine sq ?_
      refine blk ?_
      refine sq ?_
      refine rg0 ?_
      refine ia sli22 sz24 rfl c14 h fun a w h => ?_
      refine ldHN tN24 rfl hcell h fun a w h => ?_
      refine al zr24 h fun g5 a w h => ?_
      refine sw0 tN24 h fun a w h => ?_
      refine nl0 ?_
      refine thN ?_
      refine rg0 ?_
      refine mv h fun a w h => ?_
      refine ldW 0 tN24 h fun a w h => ?_
      refine cl bod14 (ih _ (List.getElem_mem c14) _ E H _ hvt (by omega)) h fun r19 H19 L19 a w le19 R h => ?_
      obtain ⟨rfl, rfl, rfl⟩ := R
      refine adr ((((if bnd kd then 1 else 0) + countL (ks.take (k + 1)) : Nat) : Int)) ?_ h fun a w h => ?_
      · have : countL (ks.take (k + 1)) ≤ sizeL ks := Nat.le_trans (countL_le _) (size_take_le ks _); rw [hts] at this ⊢; rw [w64 (by split <;> omega) (by split <;> omega)]; omega
      refine as_ h fun a w h => ?_
      refine nl0 ?_
      refine ibN ?_
      refine thN ?_
      refine rg0 ?_
      refine inc ?_ h fun a w h => ?_
      · omega
      refine mv h fun a w h => ?_
      refine nl0 ?_
      refine thN ?_
      exact ⟨(k + 1), ⟨by omega, h.to 1 _⟩, by show _ - (k + 1) < _ - k; omega⟩
    · have hk : k = ks.length := by simp at c14; omega
      refine exit_ ?_
      refine thE ?_
      refine thE ?_
      refine ibH ?_
      refine thN ?_
      refine sq ?_
      refine rg0 ?_
      refine mv h fun a w h => ?_
      refine as_ h fun a w h => ?_
      refine nl0 ?_
      refine thN ?_
      refine ret_ ?_
      refine fin1 2 0 h LE.rfl ?_
      refine ⟨?_, rfl, rfl⟩
      rw [hk, List.take_length]; rfl
end Go.Proofs.YtindlieilabgfaaGreatDoor
