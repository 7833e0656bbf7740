/- ScopeAlike: for all arguments of bulk at most 1048576 the law answers true, and they read as before. -/
import Derived.Test.YtindlieilabgfaaGreatDoorZa5
import Derived.Test.YtindlieilabgfaaGreatDoorCards
import Derived.Test.YtindlieilabgfaaGreatDoorTie
import Derived.WalkKit
import Derived.ProofKit
import Derived.OpenShut
import Derived.Deep.DeepHandedRow
/- Walk: put; the law ScopeAlike. -/
set_option linter.unusedVariables false
set_option linter.unusedSimpArgs false
set_option linter.unusedSectionVars false
set_option autoImplicit false
set_option relaxedAutoImplicit false
set_option maxRecDepth 10000
set_option maxHeartbeats 2000000
namespace Go.Proofs.YtindlieilabgfaaGreatDoor
open Go X
theorem stop_eq {b1 b2 : Bool} {k n : Nat} : (b1 && (b2 && ((k : Int) == (n : Int) - 1))) = ((b1 && b2) && (k + 1 == n)) := by
  have : ((k : Int) == (n : Int) - 1) = (k + 1 == n) := by
    rw [Bool.eq_iff_iff, beq_iff_eq, beq_iff_eq]; omega
  rw [this, Bool.and_assoc]
theorem put_end {H : GH} {s nm : Bs} {u : Tm} {kd nn : Int} {ks : List Tm} {k c : Nat} {B : Option Addr} (hc : ((kd == 2) && decide (nm = s)) = false) (hk : k = ks.length) (h : RS RT 4 H (.slice B (putT s u (bnd kd && decide (nm = s)) ks k).length c) (putT s u (bnd kd && decide (nm = s)) ks k)) :
    VT H (.agg #[.int .i64 kd, str nm, .int .i64 nn, .slice B (putT s u (bnd kd && decide (nm = s)) ks k).length c]) ((Tm.mk kd nm nn ks).put s u) := by
  subst hk
  rw [putT_all] at h ⊢
  simp only [Tm.put]
  rw [if_neg (by rw [hc]; simp)]
  exact ⟨B, c, rfl, h⟩
theorem put_ok (s : Bs) (u : Tm) : ∀ (t : Tm) (v v' : Value) (E : World) (H : GH) (L : List It), VT H v t → VT H v' u → t.size < 1000000000000 →
    Ok Tryz.prog 29 #[v, str s, v'] E H L fun r H' L' => VT H' r (t.put s u) ∧ L = L' := by
  intro t
  induction t using Tm.ind with
  | h kd nm nn ks ih =>
  intro v v' E H L hv hu hb
  obtain ⟨At0, ct0, rfl, ht0⟩ := hv
  dsimp only [Tm.kind, Tm.name, Tm.n, Tm.kids] at ht0 ⊢
  obtain ⟨Au0, cu0, rfl, hu0⟩ := hu
  simp only [Tm.size] at hb
  have hlen := length_le_sizeL ks
  refine enter (N := 73) [(0, _), (1, _), (2, _)] Tryz.func29 rfl rfl rfl rfl fun a w h => ?_
  refine sqr ?_
  refine bxA h fun g3 a w h => ?_
  refine bxA h fun g5 a w h => ?_
  refine al zr24 h fun g6 a w h => ?_
  refine nlt ?_
  refine sq ?_
  refine sqc (fun a w => S E H 73 [] [(1, str s), (3, .pointer (some ⟨g3, 0, none⟩)), (5, .pointer (some ⟨g5, 0, none⟩)), (6, .pointer (some ⟨g6, 0, none⟩)), (17, .bool (((kd : Int) == 2) && (decide (nm = s))))] (.obj g6 (.cells #[.int .i64 0, str [], .int .i64 0, .slice none 0 0] 24 (0, 0)) :: .obj g5 (.cells #[.int .i64 u.kind, str u.name, .int .i64 u.n, .slice Au0 u.kids.length cu0] 24 (0, 0)) :: .obj g3 (.cells #[.int .i64 kd, str nm, .int .i64 nn, .slice At0 ks.length ct0] 24 (0, 0)) :: L) a w) ?_ ?_
  ·refine rg0 ?_
   refine fa fl24_0 (r := 0) h fun a w h => ?_
   refine ld 2 t1_3 h fun a w h => ?_
   refine eqi h fun a w h => ?_
   refine h.spl (fun c11 h => ?_) (fun c11 h => ?_)
   ·have d11 : kd = 2 := by first | (simpa using c11) | (simp at c11; omega)
    refine mv h fun a w h => ?_
    refine fa fl24_1 (r := 1) h fun a w h => ?_
    refine ld 2 t1_9 h fun a w h => ?_
    refine mv h fun a w h => ?_
    refine eqb h fun a w h => ?_
    refine pkT h fun a w h => ?_
    refine nlt ?_
    have h2 : S E H 73 [] [(1, str s), (3, .pointer (some ⟨g3, 0, none⟩)), (5, .pointer (some ⟨g5, 0, none⟩)), (6, .pointer (some ⟨g6, 0, none⟩)), (17, .bool (((kd : Int) == 2) && (decide (nm = s))))] (.obj g6 (.cells #[.int .i64 0, str [], .int .i64 0, .slice none 0 0] 24 (0, 0)) :: .obj g5 (.cells #[.int .i64 u.kind, str u.name, .int .i64 u.n, .slice Au0 u.kids.length cu0] 24 (0, 0)) :: .obj g3 (.cells #[.int .i64 kd, str nm, .int .i64 nn, .slice At0 ks.length ct0] 24 (0, 0)) :: L) a w := by rw [show (.bool (((kd : Int) == 2) && (decide (nm = s))) : Value) = .bool (decide (nm = s)) from Eq.symm (by (try rw [c11]) <;> (try simp only [Bool.true_or, Bool.or_true, Bool.false_or, Bool.or_false, Bool.true_and, Bool.and_true, Bool.false_and, Bool.and_false, Bool.not_true, Bool.not_false, cond_true, cond_false]))]; exact h.to 0 _
    exact h2
   ·have d11 : kd ≠ 2 := by first | (simpa using c11) | (simp at c11; omega)
    refine mv h fun a w h => ?_
    refine sk h (k := fun a w h => ?_)
    refine sk h (k := fun a w h => ?_)
    refine sk h (k := fun a w h => ?_)
    refine sk h (k := fun a w h => ?_)
    refine pkF h fun a w h => ?_
    refine nlt ?_
    have h2 : S E H 73 [] [(1, str s), (3, .pointer (some ⟨g3, 0, none⟩)), (5, .pointer (some ⟨g5, 0, none⟩)), (6, .pointer (some ⟨g6, 0, none⟩)), (17, .bool (((kd : Int) == 2) && (decide (nm = s))))] (.obj g6 (.cells #[.int .i64 0, str [], .int .i64 0, .slice none 0 0] 24 (0, 0)) :: .obj g5 (.cells #[.int .i64 u.kind, str u.name, .int .i64 u.n, .slice Au0 u.kids.length cu0] 24 (0, 0)) :: .obj g3 (.cells #[.int .i64 kd, str nm, .int .i64 nn, .slice At0 ks.length ct0] 24 (0, 0)) :: L) a w := by rw [show (.bool (((kd : Int) == 2) && (decide (nm = s))) : Value) = .bool false from Eq.symm (by (try rw [c11]) <;> (try simp only [Bool.true_or, Bool.or_true, Bool.false_or, Bool.or_false, Bool.true_and, Bool.and_true, Bool.false_and, Bool.and_false, Bool.not_true, Bool.not_false, cond_true, cond_false]))]; exact h.to 0 _
    exact h2
  ·rintro a w h
   refine cdB h (fun c17 => ?_) (fun c17 => ?_)
   ·refine sqr ?_
    refine ldW 1 tN24 h fun a w h => ?_
    refine sw0 tN24 h fun a w h => ?_
    refine nlt ?_
    refine ret_ ?_
    refine thR ?_
    exact fin (rs := [.cell 6 24]) (vs := [.agg #[_, _, _, _]]) h rfl (.agg (k0 := 0) tN24 rfl rfl rfl .nil) rfl LE.rfl ⟨LE.rfl, h.st.drop 3⟩ ⟨by simp only [Tm.put]; rw [if_pos c17]; exact ⟨_, _, rfl, hu0⟩, rfl⟩
   ·refine skt ?_
    refine sqr ?_
    refine fa fl24_0 (r := 0) h fun a w h => ?_
    refine ld 2 t1_3 h fun a w h => ?_
    refine fa fl24_1 (r := 1) h fun a w h => ?_
    refine ld 2 t1_9 h fun a w h => ?_
    refine fa fl24_2 (r := 2) h fun a w h => ?_
    refine ld 2 t1_2 h fun a w h => ?_
    refine bdl lay24 zr24 h fun a w h => ?_
    refine al zr24 h fun g7 a w h => ?_
    refine sw0 tN24 h fun a w h => ?_
    refine nlt ?_
    refine sq ?_
    refine sqr ?_
    refine as_ h fun a w h => ?_
    refine nlt ?_
    refine blk ?_
    have h := h.row (e := 24) (sz := 4)
    obtain ⟨Hg5, leHg5, h, hfg5⟩ := h.frz 3
    obtain ⟨Hg3, leHg3, h, hfg3⟩ := h.frz 3
    have l_H_Hg3 : LE H Hg3 := leHg5.trans leHg3
    have h2 : S E Hg3 73 [] [(1, str s), (3, .pointer (some ⟨g3, 0, none⟩)), (5, .pointer (some ⟨g5, 0, none⟩)), (6, .pointer (some ⟨g6, 0, none⟩)), (7, .pointer (some ⟨g7, 0, none⟩)), (8, .int .i64 (0 : Int))] (.row (.slice none ((putT s u (bnd kd && decide (nm = s)) ks 0).length) 0) 24 4 ((putT s u (bnd kd && decide (nm = s)) ks 0).length) [] :: .obj g7 (.cells #[.int .i64 kd, str nm, .int .i64 nn, .slice none ((putT s u (bnd kd && decide (nm = s)) ks 0).length) 0] 24 (0, 0)) :: .obj g6 (.cells #[.int .i64 0, str [], .int .i64 0, .slice none 0 0] 24 (0, 0)) :: L) a w := h.to 0 _
    refine lp (β := Nat × GH × (Option Addr) × Nat × (List Value)) (fun x a w => match x with | (k, HL0, Brk, prk, xrk) => ((k ≤ ks.length) ∧ (LE Hg3 HL0) ∧ (RowR RT 4 HL0 xrk (putT s u (bnd kd && decide (nm = s)) ks k))) ∧ S E HL0 73 [] [(1, str s), (3, .pointer (some ⟨g3, 0, none⟩)), (5, .pointer (some ⟨g5, 0, none⟩)), (6, .pointer (some ⟨g6, 0, none⟩)), (7, .pointer (some ⟨g7, 0, none⟩)), (8, .int .i64 (k : Int))] (.row (.slice Brk ((putT s u (bnd kd && decide (nm = s)) ks k).length) prk) 24 4 ((putT s u (bnd kd && decide (nm = s)) ks k).length) xrk :: .obj g7 (.cells #[.int .i64 kd, str nm, .int .i64 nn, .slice Brk ((putT s u (bnd kd && decide (nm = s)) ks k).length) prk] 24 (0, 0)) :: .obj g6 (.cells #[.int .i64 0, str [], .int .i64 0, .slice none 0 0] 24 (0, 0)) :: L) a w)
     (fun x => match x with | (k, HL0, Brk, prk, xrk) => ks.length - k) (0, Hg3, none, 0, []) ⟨⟨Nat.zero_le _, LE.rfl, ((RowR.nil : RowR RT 4 H [] ([] : List Tm)).mono fun cs y _ hr => RT.mono l_H_Hg3 y hr)⟩, h2⟩ ?_
    rintro ⟨k, HL0, Brk, prk, xrk⟩ a w ⟨⟨hk, leHL0, hrrk⟩, h⟩
    refine sq ?_
    refine sqr ?_
    refine mv h fun a w h => ?_
    refine fa fl24_3 (r := 3) h fun a w h => ?_
    refine ldH t1_22 (Hc.of (leHL0 _ _ hfg3) rfl) h fun a w h => ?_
    refine ln sli22 h fun a w h => ?_
    refine lt h fun a w h => ?_
    refine nlt ?_
    refine cdB h (fun c30 => ?_) (fun c30 => ?_)
    ·have d30 : k < ks.length := by first | (simpa using c30) | (simp at c30; omega)
     refine skt ?_
     refine sq ?_
     refine blk ?_
     refine sq ?_
     refine sqc (fun a w => S E HL0 73 [] [(1, str s), (3, .pointer (some ⟨g3, 0, none⟩)), (5, .pointer (some ⟨g5, 0, none⟩)), (6, .pointer (some ⟨g6, 0, none⟩)), (7, .pointer (some ⟨g7, 0, none⟩)), (8, .int .i64 (k : Int)), (26, .int .i64 (k : Int)), (27, .pointer (some ⟨g3, 3, none⟩)), (28, .slice At0 ks.length ct0), (29, .int .i64 (ks.length : Int)), (30, .bool (decide (((k : Int) : Int) < (ks.length : Int)))), (33, .agg #[.int .i64 kd, str nm, .int .i64 nn, .slice At0 ks.length ct0]), (34, .bool (bnd kd)), (35, .bool (bnd kd)), (40, .bool ((bnd kd) && (decide (nm = s)))), (41, .bool ((bnd kd) && (decide (nm = s)))), (48, .bool ((bnd kd) && ((decide (nm = s)) && (((k : Int) : Int) == ((ks.length : Int) - 1)))))] (.row (.slice Brk ((putT s u (bnd kd && decide (nm = s)) ks k).length) prk) 24 4 ((putT s u (bnd kd && decide (nm = s)) ks k).length) xrk :: .obj g7 (.cells #[.int .i64 kd, str nm, .int .i64 nn, .slice Brk ((putT s u (bnd kd && decide (nm = s)) ks k).length) prk] 24 (0, 0)) :: .obj g6 (.cells #[.int .i64 0, str [], .int .i64 0, .slice none 0 0] 24 (0, 0)) :: L) a w) ?_ ?_
     ·refine rg0 ?_
      refine ldHN tN24 rfl (Hc.all (leHL0 _ _ hfg3)) h fun a w h => ?_
      refine cl bod38 (Binder_ok _ _ _ _ _ _ _) h (fun r34 H34 L34 a w le34 R h => ?_)
      obtain ⟨rfl, rfl, rfl⟩ := R
      refine h.spl (fun c34 h => ?_) (fun c34 h => ?_)
      ·refine mv h fun a w h => ?_
       refine fa fl24_1 (r := 1) h fun a w h => ?_
       refine ldH t1_9 (Hc.of (leHL0 _ _ hfg3) rfl) h fun a w h => ?_
       refine mv h fun a w h => ?_
       refine eqb h fun a w h => ?_
       refine pkT h fun a w h => ?_
       refine h.spl (fun c40 h => ?_) (fun c40 h => ?_)
       ·have d40 : nm = s := by first | (simpa using c40) | (simp at c40; omega)
        refine mv h fun a w h => ?_
        refine mv h fun a w h => ?_
        refine fa fl24_3 (r := 3) h fun a w h => ?_
        refine ldH t1_22 (Hc.of (leHL0 _ _ hfg3) rfl) h fun a w h => ?_
        refine ln sli22 h fun a w h => ?_
        refine sbr ((ks.length : Int) - 1) (w64 (by omega) (by omega)) h fun a w h => ?_
        refine eqi h fun a w h => ?_
        refine pkT h fun a w h => ?_
        refine nlt ?_
        have h2 : S E HL0 73 [] [(1, str s), (3, .pointer (some ⟨g3, 0, none⟩)), (5, .pointer (some ⟨g5, 0, none⟩)), (6, .pointer (some ⟨g6, 0, none⟩)), (7, .pointer (some ⟨g7, 0, none⟩)), (8, .int .i64 (k : Int)), (26, .int .i64 (k : Int)), (27, .pointer (some ⟨g3, 3, none⟩)), (28, .slice At0 ks.length ct0), (29, .int .i64 (ks.length : Int)), (30, .bool (decide (((k : Int) : Int) < (ks.length : Int)))), (33, .agg #[.int .i64 kd, str nm, .int .i64 nn, .slice At0 ks.length ct0]), (34, .bool (bnd kd)), (35, .bool (bnd kd)), (40, .bool ((bnd kd) && (decide (nm = s)))), (41, .bool ((bnd kd) && (decide (nm = s)))), (48, .bool ((bnd kd) && ((decide (nm = s)) && (((k : Int) : Int) == ((ks.length : Int) - 1)))))] (.row (.slice Brk ((putT s u (bnd kd && decide (nm = s)) ks k).length) prk) 24 4 ((putT s u (bnd kd && decide (nm = s)) ks k).length) xrk :: .obj g7 (.cells #[.int .i64 kd, str nm, .int .i64 nn, .slice Brk ((putT s u (bnd kd && decide (nm = s)) ks k).length) prk] 24 (0, 0)) :: .obj g6 (.cells #[.int .i64 0, str [], .int .i64 0, .slice none 0 0] 24 (0, 0)) :: L) a w := by rw [show (.bool (bnd kd) : Value) = .bool true from Eq.symm (by (try rw [c34]) <;> (try rw [c40]) <;> (try simp only [Bool.true_or, Bool.or_true, Bool.false_or, Bool.or_false, Bool.true_and, Bool.and_true, Bool.false_and, Bool.and_false, Bool.not_true, Bool.not_false, cond_true, cond_false])), show (.bool ((bnd kd) && (decide (nm = s))) : Value) = .bool true from Eq.symm (by (try rw [c34]) <;> (try rw [c40]) <;> (try simp only [Bool.true_or, Bool.or_true, Bool.false_or, Bool.or_false, Bool.true_and, Bool.and_true, Bool.false_and, Bool.and_false, Bool.not_true, Bool.not_false, cond_true, cond_false])), show (.bool ((bnd kd) && ((decide (nm = s)) && (((k : Int) : Int) == ((ks.length : Int) - 1)))) : Value) = .bool (((k : Int) : Int) == ((ks.length : Int) - 1)) from Eq.symm (by (try rw [c34]) <;> (try rw [c40]) <;> (try simp only [Bool.true_or, Bool.or_true, Bool.false_or, Bool.or_false, Bool.true_and, Bool.and_true, Bool.false_and, Bool.and_false, Bool.not_true, Bool.not_false, cond_true, cond_false]))]; exact h.to 0 _
        exact h2
       ·have d40 : nm ≠ s := by first | (simpa using c40) | (simp at c40; omega)
        refine mv h fun a w h => ?_
        refine sk h (k := fun a w h => ?_)
        refine sk h (k := fun a w h => ?_)
        refine sk h (k := fun a w h => ?_)
        refine sk h (k := fun a w h => ?_)
        refine sk h (k := fun a w h => ?_)
        refine sk h (k := fun a w h => ?_)
        refine pkF h fun a w h => ?_
        refine nlt ?_
        have h2 : S E HL0 73 [] [(1, str s), (3, .pointer (some ⟨g3, 0, none⟩)), (5, .pointer (some ⟨g5, 0, none⟩)), (6, .pointer (some ⟨g6, 0, none⟩)), (7, .pointer (some ⟨g7, 0, none⟩)), (8, .int .i64 (k : Int)), (26, .int .i64 (k : Int)), (27, .pointer (some ⟨g3, 3, none⟩)), (28, .slice At0 ks.length ct0), (29, .int .i64 (ks.length : Int)), (30, .bool (decide (((k : Int) : Int) < (ks.length : Int)))), (33, .agg #[.int .i64 kd, str nm, .int .i64 nn, .slice At0 ks.length ct0]), (34, .bool (bnd kd)), (35, .bool (bnd kd)), (40, .bool ((bnd kd) && (decide (nm = s)))), (41, .bool ((bnd kd) && (decide (nm = s)))), (48, .bool ((bnd kd) && ((decide (nm = s)) && (((k : Int) : Int) == ((ks.length : Int) - 1)))))] (.row (.slice Brk ((putT s u (bnd kd && decide (nm = s)) ks k).length) prk) 24 4 ((putT s u (bnd kd && decide (nm = s)) ks k).length) xrk :: .obj g7 (.cells #[.int .i64 kd, str nm, .int .i64 nn, .slice Brk ((putT s u (bnd kd && decide (nm = s)) ks k).length) prk] 24 (0, 0)) :: .obj g6 (.cells #[.int .i64 0, str [], .int .i64 0, .slice none 0 0] 24 (0, 0)) :: L) a w := by rw [show (.bool (bnd kd) : Value) = .bool true from Eq.symm (by (try rw [c34]) <;> (try rw [c40]) <;> (try simp only [Bool.true_or, Bool.or_true, Bool.false_or, Bool.or_false, Bool.true_and, Bool.and_true, Bool.false_and, Bool.and_false, Bool.not_true, Bool.not_false, cond_true, cond_false])), show (.bool ((bnd kd) && (decide (nm = s))) : Value) = .bool false from Eq.symm (by (try rw [c34]) <;> (try rw [c40]) <;> (try simp only [Bool.true_or, Bool.or_true, Bool.false_or, Bool.or_false, Bool.true_and, Bool.and_true, Bool.false_and, Bool.and_false, Bool.not_true, Bool.not_false, cond_true, cond_false])), show (.bool ((bnd kd) && ((decide (nm = s)) && (((k : Int) : Int) == ((ks.length : Int) - 1)))) : Value) = .bool false from Eq.symm (by (try rw [c34]) <;> (try rw [c40]) <;> (try simp only [Bool.true_or, Bool.or_true, Bool.false_or, Bool.or_false, Bool.true_and, Bool.and_true, Bool.false_and, Bool.and_false, Bool.not_true, Bool.not_false, cond_true, cond_false]))]; exact h.to 0 _
        exact h2
      ·refine mv h fun a w h => ?_
       refine sk h (k := fun a w h => ?_)
       refine sk h (k := fun a w h => ?_)
       refine sk h (k := fun a w h => ?_)
       refine sk h (k := fun a w h => ?_)
       refine pkF h fun a w h => ?_
       refine mv h fun a w h => ?_
       refine sk h (k := fun a w h => ?_)
       refine sk h (k := fun a w h => ?_)
       refine sk h (k := fun a w h => ?_)
       refine sk h (k := fun a w h => ?_)
       refine sk h (k := fun a w h => ?_)
       refine sk h (k := fun a w h => ?_)
       refine pkF h fun a w h => ?_
       refine nlt ?_
       have h2 : S E HL0 73 [] [(1, str s), (3, .pointer (some ⟨g3, 0, none⟩)), (5, .pointer (some ⟨g5, 0, none⟩)), (6, .pointer (some ⟨g6, 0, none⟩)), (7, .pointer (some ⟨g7, 0, none⟩)), (8, .int .i64 (k : Int)), (26, .int .i64 (k : Int)), (27, .pointer (some ⟨g3, 3, none⟩)), (28, .slice At0 ks.length ct0), (29, .int .i64 (ks.length : Int)), (30, .bool (decide (((k : Int) : Int) < (ks.length : Int)))), (33, .agg #[.int .i64 kd, str nm, .int .i64 nn, .slice At0 ks.length ct0]), (34, .bool (bnd kd)), (35, .bool (bnd kd)), (40, .bool ((bnd kd) && (decide (nm = s)))), (41, .bool ((bnd kd) && (decide (nm = s)))), (48, .bool ((bnd kd) && ((decide (nm = s)) && (((k : Int) : Int) == ((ks.length : Int) - 1)))))] (.row (.slice Brk ((putT s u (bnd kd && decide (nm = s)) ks k).length) prk) 24 4 ((putT s u (bnd kd && decide (nm = s)) ks k).length) xrk :: .obj g7 (.cells #[.int .i64 kd, str nm, .int .i64 nn, .slice Brk ((putT s u (bnd kd && decide (nm = s)) ks k).length) prk] 24 (0, 0)) :: .obj g6 (.cells #[.int .i64 0, str [], .int .i64 0, .slice none 0 0] 24 (0, 0)) :: L) a w := by rw [show (.bool (bnd kd) : Value) = .bool false from Eq.symm (by (try rw [c34]) <;> (try simp only [Bool.true_or, Bool.or_true, Bool.false_or, Bool.or_false, Bool.true_and, Bool.and_true, Bool.false_and, Bool.and_false, Bool.not_true, Bool.not_false, cond_true, cond_false])), show (.bool ((bnd kd) && (decide (nm = s))) : Value) = .bool false from Eq.symm (by (try rw [c34]) <;> (try simp only [Bool.true_or, Bool.or_true, Bool.false_or, Bool.or_false, Bool.true_and, Bool.and_true, Bool.false_and, Bool.and_false, Bool.not_true, Bool.not_false, cond_true, cond_false])), show (.bool ((bnd kd) && ((decide (nm = s)) && (((k : Int) : Int) == ((ks.length : Int) - 1)))) : Value) = .bool false from Eq.symm (by (try rw [c34]) <;> (try simp only [Bool.true_or, Bool.or_true, Bool.false_or, Bool.or_false, Bool.true_and, Bool.and_true, Bool.false_and, Bool.and_false, Bool.not_true, Bool.not_false, cond_true, cond_false]))]; exact h.to 0 _
       exact h2
     ·rintro a w h
      refine cdB h (fun c48 => ?_) (fun c48 => ?_)
      ·refine sq ?_
       refine rgd [1] [_] [3, 2, 0] [1, 3, 6] 2 mix (by kernel_rfl) h (fun a w h => ?_)
       refine fa fl24_3 (r := 3) h fun a w h => ?_
       refine ldD 0 t1_22 h fun a w h => ?_
       refine fa fl24_3 (r := 3) h fun a w h => ?_
       refine ldHD t1_22 (Hc.of (leHL0 _ _ hfg3) rfl) h fun a w h => ?_
       refine mv h fun a w h => ?_
       have l_H_HL0 : LE H HL0 := (leHg5.trans leHg3).trans leHL0
       have hj54 : k < ks.length := by first | assumption | omega | (simp; done) | (simp; omega)
       obtain ⟨g54, o54, A54_0, c54_0, e54, hv54, hc54⟩ := KS.get (KS.up ht0 l_H_HL0) hj54
       obtain ⟨_, _, q54, hk54_0⟩ := hv54; cases q54
       refine iaE sli22 sz24 rfl hj54 e54 h fun a w h => ?_
       refine ldHND tN24 rfl hc54 h fun a w h => ?_
       refine bsl bs22 h fun g56 a w h => ?_
       refine apn (n := ((putT s u (bnd kd && decide (nm = s)) ks k).length)) (m := 1) 1 0 (L' := fun i => _ :: i :: _) [_, _, _, _] (((putT s u (bnd kd && decide (nm = s)) ks k) ++ [ks[k]]).length) (by first | (simp; done) | (simp; omega)) row22 h (by first | omega | (simp; done) | (simp; omega) | (have q := putT_len (x := s) (u := u) (stop := (bnd kd && decide (nm = s))) (ks := ks) (k := k) (by omega); simp; omega)) (by first | omega | (simp; done) | (simp; omega) | (have q := putT_len (x := s) (u := u) (stop := (bnd kd && decide (nm = s))) (ks := ks) (k := k) (by omega); simp; omega)) fun v57 a w hone57 h => ?_
       obtain ⟨B57, cp57, rfl⟩ := h.rowv 1
       have hr57 : RowR RT 4 HL0 (xrk ++ [.int .i64 ks[k].kind, str ks[k].name, .int .i64 ks[k].n, .slice A54_0 ks[k].kids.length c54_0]) ((putT s u (bnd kd && decide (nm = s)) ks k) ++ [ks[k]]) := hrrk.snoc rfl (rt_of_vt (cs := [_, _, _, _]) ⟨_, _, rfl, hk54_0⟩)
       refine fa fl24_3 (r := 3) h fun a w h => ?_
       refine st2 (l := [_, _, _, _]) t1_22 h fun a w h => ?_
       refine nlt ?_
       refine exit_ ?_
       refine thE ?_
       refine ibH ?_
       refine thN ?_
       refine rg0 ?_
       refine mv h fun a w h => ?_
       refine inc ?_ h fun a w h => ?_
       ·omega
       refine as_ h fun a w h => ?_
       refine nlt ?_
       have h := h.del 0
       have h2 : S E HL0 73 [] [(1, str s), (3, .pointer (some ⟨g3, 0, none⟩)), (5, .pointer (some ⟨g5, 0, none⟩)), (6, .pointer (some ⟨g6, 0, none⟩)), (7, .pointer (some ⟨g7, 0, none⟩)), (8, .int .i64 ((k + 1) : Int))] (.row (.slice B57 ((putT s u (bnd kd && decide (nm = s)) ks (k + 1)).length) cp57) 24 4 ((putT s u (bnd kd && decide (nm = s)) ks (k + 1)).length) (xrk ++ [.int .i64 ks[k].kind, str ks[k].name, .int .i64 ks[k].n, .slice A54_0 ks[k].kids.length c54_0]) :: .obj g7 (.cells #[.int .i64 kd, str nm, .int .i64 nn, .slice B57 ((putT s u (bnd kd && decide (nm = s)) ks (k + 1)).length) cp57] 24 (0, 0)) :: .obj g6 (.cells #[.int .i64 0, str [], .int .i64 0, .slice none 0 0] 24 (0, 0)) :: L) a w := by rw [show ((putT s u (bnd kd && decide (nm = s)) ks (k + 1)).length) = ((putT s u (bnd kd && decide (nm = s)) ks k) ++ [ks[k]]).length from Eq.symm (by rw [putT_succ d30]; simp)]; exact h.to 0 _
       exact ⟨((k + 1), HL0, B57, cp57, (xrk ++ [.int .i64 ks[k].kind, str ks[k].name, .int .i64 ks[k].n, .slice A54_0 ks[k].kids.length c54_0])), ⟨⟨by omega, leHL0, (by have q := hr57; rwa [show ((putT s u (bnd kd && decide (nm = s)) ks k) ++ [ks[k]]) = (putT s u (bnd kd && decide (nm = s)) ks (k + 1)) from by rw [putT_succ d30, ← stop_eq, c48]; rfl] at q)⟩, h2⟩, by show _ - (k + 1) < _ - k; omega⟩
      ·refine skt ?_
       refine rgd [1] [_] [4, 3, 2, 0] [1, 3, 6, 8] 2 mix (by kernel_rfl) h (fun a w h => ?_)
       refine fa fl24_3 (r := 3) h fun a w h => ?_
       refine ldD 0 t1_22 h fun a w h => ?_
       refine fa fl24_3 (r := 3) h fun a w h => ?_
       refine ldHD t1_22 (Hc.of (leHL0 _ _ hfg3) rfl) h fun a w h => ?_
       refine mv h fun a w h => ?_
       have l_H_HL0 : LE H HL0 := (leHg5.trans leHg3).trans leHL0
       have hj64 : k < ks.length := by first | assumption | omega | (simp; done) | (simp; omega)
       obtain ⟨g64, o64, A64_0, c64_0, e64, hv64, hc64⟩ := KS.get (KS.up ht0 l_H_HL0) hj64
       obtain ⟨_, _, q64, hk64_0⟩ := hv64; cases q64
       refine iaE sli22 sz24 rfl hj64 e64 h fun a w h => ?_
       refine ldHND tN24 rfl hc64 h fun a w h => ?_
       refine mv h fun a w h => ?_
       have l_Hg5_HL0 : LE Hg5 HL0 := leHg3.trans leHL0
       refine ldHND tN24 rfl (Hc.all (l_Hg5_HL0 _ _ hfg5)) h fun a w h => ?_
       have hz := size_get_le d30
       refine cl bod29 (ih _ (List.getElem_mem d30) _ _ E HL0 _ ⟨A64_0, c64_0, rfl, hk64_0⟩ ⟨Au0, cu0, rfl, (KS.up hu0 l_H_HL0)⟩ (by omega)) h (fun r68 H68 L68 a w le68 R h => ?_) (hS := fun _ _ _ _ _ le R hw => by obtain ⟨_, rfl⟩ := R; exact hw.sees' (by first | exact le | exact LE.trans (by assumption) le) (by simp))
       obtain ⟨⟨A68_0, c68_0, rfl, hk68_0⟩, rfl⟩ := R
       refine bsl bs22 h fun g69 a w h => ?_
       refine apn (n := ((putT s u (bnd kd && decide (nm = s)) ks k).length)) (m := 1) 1 0 (L' := fun i => _ :: i :: _) [_, _, _, _] (((putT s u (bnd kd && decide (nm = s)) ks k) ++ [(ks[k].put s u)]).length) (by first | (simp; done) | (simp; omega)) row22 h (by first | omega | (simp; done) | (simp; omega) | (have q := putT_len (x := s) (u := u) (stop := (bnd kd && decide (nm = s))) (ks := ks) (k := k) (by omega); simp; omega)) (by first | omega | (simp; done) | (simp; omega) | (have q := putT_len (x := s) (u := u) (stop := (bnd kd && decide (nm = s))) (ks := ks) (k := k) (by omega); simp; omega)) fun v70 a w hone70 h => ?_
       obtain ⟨B70, cp70, rfl⟩ := h.rowv 1
       have hr70 : RowR RT 4 H68 (xrk ++ [.int .i64 ((ks[k].put s u).kind), str ((ks[k].put s u).name), .int .i64 ((ks[k].put s u).n), .slice A68_0 ((ks[k].put s u).kids).length c68_0]) ((putT s u (bnd kd && decide (nm = s)) ks k) ++ [(ks[k].put s u)]) := (hrrk.mono fun cs y _ hr => RT.mono le68 y hr).snoc rfl (rt_of_vt (cs := [_, _, _, _]) ⟨_, _, rfl, hk68_0⟩)
       refine fa fl24_3 (r := 3) h fun a w h => ?_
       refine st2 (l := [_, _, _, _]) t1_22 h fun a w h => ?_
       refine nl0 ?_
       refine ibN ?_
       refine thN ?_
       refine rg0 ?_
       refine mv h fun a w h => ?_
       refine inc ?_ h fun a w h => ?_
       ·omega
       refine as_ h fun a w h => ?_
       refine nlt ?_
       have h := h.del 0
       have h2 : S E H68 73 [] [(1, str s), (3, .pointer (some ⟨g3, 0, none⟩)), (5, .pointer (some ⟨g5, 0, none⟩)), (6, .pointer (some ⟨g6, 0, none⟩)), (7, .pointer (some ⟨g7, 0, none⟩)), (8, .int .i64 ((k + 1) : Int))] (.row (.slice B70 ((putT s u (bnd kd && decide (nm = s)) ks (k + 1)).length) cp70) 24 4 ((putT s u (bnd kd && decide (nm = s)) ks (k + 1)).length) (xrk ++ [.int .i64 ((ks[k].put s u).kind), str ((ks[k].put s u).name), .int .i64 ((ks[k].put s u).n), .slice A68_0 ((ks[k].put s u).kids).length c68_0]) :: .obj g7 (.cells #[.int .i64 kd, str nm, .int .i64 nn, .slice B70 ((putT s u (bnd kd && decide (nm = s)) ks (k + 1)).length) cp70] 24 (0, 0)) :: .obj g6 (.cells #[.int .i64 0, str [], .int .i64 0, .slice none 0 0] 24 (0, 0)) :: L) a w := by rw [show ((putT s u (bnd kd && decide (nm = s)) ks (k + 1)).length) = ((putT s u (bnd kd && decide (nm = s)) ks k) ++ [(ks[k].put s u)]).length from Eq.symm (by rw [putT_succ d30]; simp)]; exact h.to 0 _
       have l_Hg3_H68 : LE Hg3 H68 := leHL0.trans le68
       exact ⟨((k + 1), H68, B70, cp70, (xrk ++ [.int .i64 ((ks[k].put s u).kind), str ((ks[k].put s u).name), .int .i64 ((ks[k].put s u).n), .slice A68_0 ((ks[k].put s u).kids).length c68_0])), ⟨⟨by omega, l_Hg3_H68, (by have q := hr70; rwa [show ((putT s u (bnd kd && decide (nm = s)) ks k) ++ [(ks[k].put s u)]) = (putT s u (bnd kd && decide (nm = s)) ks (k + 1)) from by rw [putT_succ d30, ← stop_eq, c48]; rfl] at q)⟩, h2⟩, by show _ - (k + 1) < _ - k; omega⟩
    ·have d30 : ks.length ≤ k := by first | (simpa using c30) | (simp at c30; omega)
     refine exit_ ?_
     refine thE ?_
     refine thE ?_
     refine ibH ?_
     refine thN ?_
     refine sqr ?_
     refine ldW 1 tN24 h fun a w h => ?_
     refine sw2 tN24 h fun a w h => ?_
     refine nlt ?_
     refine ret_ ?_
     obtain ⟨Hrrk, leHrrk, h, hsHrrk⟩ := h.frw 0 hrrk rfl (fun _ l cs y _ hr => RT.mono l y hr)
     have l_H_Hrrk : LE H Hrrk := ((leHg5.trans leHg3).trans leHL0).trans leHrrk
     exact fin (rs := [.cell 6 24]) (vs := [.agg #[_, _, _, _]]) h rfl (.agg (k0 := 1) tN24 rfl rfl rfl .nil) rfl l_H_Hrrk ⟨LE.rfl, h.st.drop 2⟩ ⟨put_end c17 (by omega) hsHrrk, rfl⟩
theorem alike_ok (l : List UInt8) (k : Nat) (A : Option Addr) (c : Nat) (E : World) (H : GH) (L : List It) (hl : US H A c l) (hb : l.length < 1000000000000) (hL : Laid H) :
    Ok Tryz.prog 6 #[.slice A l.length c, .int .u8 (k : Int)] E H L fun r H' L' => r = .bool true ∧ L = L' := by
  refine enter (N := 49) [(0, _), (1, _)] Tryz.func6 rfl rfl rfl rfl fun a w h => ?_
  refine sqr ?_
  refine as_ h fun a w h => ?_
  refine nsr ?_
  refine cl bod9 (examples_ok E H _ (hL.up LE.rfl)) h (fun r12 H12 L12 a w le12 R h => ?_)
  obtain ⟨rfl, hl12⟩ := R
  subst L12
  refine as_ h fun a w h => ?_
  refine nlt ?_
  refine sq ?_
  refine sqr ?_
  refine mv h fun a w h => ?_
  refine nt h fun a w h => ?_
  refine nlt ?_
  refine cdF h ?_
  refine skt ?_
  refine sqr ?_
  refine mv h fun a w h => ?_
  refine cl bod21 (made_ok l _ _ E H12 _ (US.up hl le12) hb) h (fun r16 H16 L16 a w le16 R h => ?_)
  obtain ⟨t16, hmk16, ⟨A16, c16, rfl, hk16⟩, rfl⟩ := R
  have hsz16 := mk_size hmk16
  have hnum16 := mk_num hmk16
  have hlg16 := mk_long hmk16
  have hct16 := count_le_size t16
  refine al zr24 h fun g6 a w h => ?_
  refine sw0 tN24 h fun a w h => ?_
  refine nsr ?_
  refine bsl bs58 h fun g17 a w h => ?_
  refine mv h fun a w h => ?_
  refine rm k 5 (by decide) h fun a w h => ?_
  obtain ⟨Hq20, leHq20, h, hsHq20⟩ := h.fsl (R := RStr) (sz := 1) (ys := names5) 0 (rstr_row names5) (fun _ _ _ _ _ hr => hr)
  have hj20 : (k % 5) < names5.length := by show _ < 5; omega
  obtain ⟨g20, o20, e20, hc20⟩ := SS.get hsHq20 hj20
  refine iaE sli58 sz9 rfl hj20 e20 h fun a w h => ?_
  refine ldH t1_9 (hc20) h fun a w h => ?_
  refine as_ h fun a w h => ?_
  refine nlt ?_
  refine sq ?_
  have hk5 : k % 5 < names5.length := by show _ < 5; omega
  have hs1 : (Tm.mk 3 names5[(k % 5)] 0 [t16]).size < 1000000000000 := by simp [Tm.size, sizeL]; omega
  have hps := put_size names5[(k % 5)] (Tm.mk 2 [102, 114, 101, 115, 104] 0 []) rfl t16 hmk16.2.2
  have hs2 : (Tm.mk 3 [102, 114, 101, 115, 104] 0 [(t16.put names5[(k % 5)] (Tm.mk 2 [102, 114, 101, 115, 104] 0 []))]).size < 1000000000000 := by simp only [Tm.size, sizeL]; omega
  have hs3 : ((Tm.mk 3 names5[(k % 5)] 0 [t16]).ren noS 1).1.size < 1000000000000 := by rw [ren_size]; exact hs1
  have hn1 : In64 1 := ⟨by decide, by decide⟩
  have hal : (Tm.mk 3 [102, 114, 101, 115, 104] 0 [(t16.put names5[(k % 5)] (Tm.mk 2 [102, 114, 101, 115, 104] 0 []))]).ren noS 1 = (Tm.mk 3 names5[(k % 5)] 0 [t16]).ren noS 1 := alike hmk16.2.2 (fun hm => absurd (hmk16.2.1 _ hm) (by decide)) (fun e => absurd (List.getElem_mem (l := names5) hk5) (by rw [e]; decide))
  refine rg0 ?_
  refine mv h fun a w h => ?_
  refine ldW 0 tN24 h fun a w h => ?_
  refine cl bod28 (fun_ok (names5[(k % 5)]) t16 _ E Hq20 _ ⟨A16, c16, rfl, (KS.up hk16 leHq20)⟩) h (fun r25 H25 L25 a w le25 R h => ?_)
  obtain ⟨A25, rfl, hk25, hl25⟩ := R
  subst L25
  have l_H_H25 : LE H H25 := ((le12.trans le16).trans leHq20).trans le25
  refine cl bod10 (Rename_ok (Tm.mk 3 (names5[(k % 5)]) 0 [t16]) _ 1 E H25 _ ⟨A25, 1, rfl, hk25⟩ (hL.up l_H_H25) (by first | assumption | omega) (by first | assumption | omega)) h (fun r26 H26 L26 a w le26 R h => ?_)
  obtain ⟨_, rfl, ⟨A26_0_0, c26_0_0, rfl, hk26_0_0⟩, hl26⟩ := R
  subst L26
  refine mv h fun a w h => ?_
  refine ex h fun a w h => ?_
  refine ex h fun a w h => ?_
  refine al zr24 h fun g8 a w h => ?_
  refine sw0 tN24 h fun a w h => ?_
  refine as_ h fun a w h => ?_
  refine nlt ?_
  refine sqc (fun a w => ∃ (HJ75 : GH) (g10 : Nat) (Aj75_0 : Option Addr) (cj75_0 : Nat), (LE H26 HJ75) ∧ (KS HJ75 Aj75_0 cj75_0 ((((Tm.mk 3 ([102, 114, 101, 115, 104]) 0 [(t16.put (names5[(k % 5)]) (Tm.mk 2 ([102, 114, 101, 115, 104]) 0 []))]).ren noS 1).1).kids)) ∧ S E HJ75 49 [] [(4, .bool false), (5, .bool true), (8, .pointer (some ⟨g8, 0, none⟩)), (9, .int .i64 (((Tm.mk 3 (names5[(k % 5)]) 0 [t16]).ren noS 1).2)), (10, .pointer (some ⟨g10, 0, none⟩)), (11, .int .i64 (((Tm.mk 3 ([102, 114, 101, 115, 104]) 0 [(t16.put (names5[(k % 5)]) (Tm.mk 2 ([102, 114, 101, 115, 104]) 0 []))]).ren noS 1).2))] (.obj g10 (.cells #[.int .i64 ((((Tm.mk 3 ([102, 114, 101, 115, 104]) 0 [(t16.put (names5[(k % 5)]) (Tm.mk 2 ([102, 114, 101, 115, 104]) 0 []))]).ren noS 1).1).kind), str ((((Tm.mk 3 ([102, 114, 101, 115, 104]) 0 [(t16.put (names5[(k % 5)]) (Tm.mk 2 ([102, 114, 101, 115, 104]) 0 []))]).ren noS 1).1).name), .int .i64 ((((Tm.mk 3 ([102, 114, 101, 115, 104]) 0 [(t16.put (names5[(k % 5)]) (Tm.mk 2 ([102, 114, 101, 115, 104]) 0 []))]).ren noS 1).1).n), .slice Aj75_0 ((((Tm.mk 3 ([102, 114, 101, 115, 104]) 0 [(t16.put (names5[(k % 5)]) (Tm.mk 2 ([102, 114, 101, 115, 104]) 0 []))]).ren noS 1).1).kids).length cj75_0] 24 (0, 0)) :: .obj g8 (.cells #[.int .i64 ((((Tm.mk 3 (names5[(k % 5)]) 0 [t16]).ren noS 1).1).kind), str ((((Tm.mk 3 (names5[(k % 5)]) 0 [t16]).ren noS 1).1).name), .int .i64 ((((Tm.mk 3 (names5[(k % 5)]) 0 [t16]).ren noS 1).1).n), .slice A26_0_0 ((((Tm.mk 3 (names5[(k % 5)]) 0 [t16]).ren noS 1).1).kids).length c26_0_0] 24 (0, 0)) :: .obj g6 (.cells #[.int .i64 t16.kind, str t16.name, .int .i64 t16.n, .slice A16 t16.kids.length c16] 24 (0, 0)) :: L) a w) ?_ ?_
  ·refine rgx [1] [_] [0] 12 mix h (fun a w h => ?_)
   refine tkl 0 true (by kernel_rfl) ?_
   refine ldWT 0 tN24 h fun a w h => ?_
   refine tk0 ?_
   refine tkl 1 false (by kernel_rfl) ?_
   refine mv h fun a w h => ?_
   refine tk0 ?_
   refine brl2 2 9 true true (by kernel_rfl) (by kernel_rfl) (by kernel_rfl) (fun _ => h.st.sees' LE.rfl (by simp)) ?_ ?_
   ·refine cl bod30 (of_ok ([102, 114, 101, 115, 104]) E H26 _) h (fun r32 H32 L32 a w le32 R h => ?_)
    obtain ⟨rfl, rfl, rfl⟩ := R
    refine br0 ?_
    refine brl2 3 9 false true (by kernel_rfl) (by kernel_rfl) (by kernel_rfl) (fun _ => h.st.sees' LE.rfl (by simp)) ?_ ?_
    ·have l_H16_H26 : LE H16 H26 := (leHq20.trans le25).trans le26
     refine cl bod29 (put_ok (names5[(k % 5)]) (Tm.mk 2 ([102, 114, 101, 115, 104]) 0 []) t16 _ _ E H26 _ ⟨A16, c16, rfl, (KS.up hk16 l_H16_H26)⟩ ⟨none, 0, rfl, RS.nil _ _ _⟩ (by omega)) h (fun r33 H33 L33 a w le33 R h => ?_)
     obtain ⟨⟨A33_0, c33_0, rfl, hk33_0⟩, rfl⟩ := R
     refine br0 ?_
     refine brl2 4 9 true true (by kernel_rfl) (by kernel_rfl) (by kernel_rfl) (fun _ => h.st.sees' le33 (by simp)) ?_ ?_
     ·refine cl bod28 (fun_ok ([102, 114, 101, 115, 104]) (t16.put (names5[(k % 5)]) (Tm.mk 2 ([102, 114, 101, 115, 104]) 0 [])) _ E H33 _ ⟨A33_0, c33_0, rfl, hk33_0⟩) h (fun r34 H34 L34 a w le34 R h => ?_)
      obtain ⟨A34, rfl, hk34, hl34⟩ := R
      subst L34
      refine br0 ?_
      have l_H26_H34 : LE H26 H34 := le33.trans le34
      refine brl2 5 9 true true (by kernel_rfl) (by kernel_rfl) (by kernel_rfl) (fun _ => h.st.sees' l_H26_H34 (by simp)) ?_ ?_
      ·have l_H_H34 : LE H H34 := (((((le12.trans le16).trans leHq20).trans le25).trans le26).trans le33).trans le34
       refine cl bod10 (Rename_ok (Tm.mk 3 ([102, 114, 101, 115, 104]) 0 [(t16.put (names5[(k % 5)]) (Tm.mk 2 ([102, 114, 101, 115, 104]) 0 []))]) _ 1 E H34 _ ⟨A34, 1, rfl, hk34⟩ (hL.up l_H_H34) (by first | assumption | omega) (by first | assumption | omega)) h (fun r35 H35 L35 a w le35 R h => ?_)
       obtain ⟨_, rfl, ⟨A35_0_0, c35_0_0, rfl, hk35_0_0⟩, hl35⟩ := R
       subst L35
       refine br0 ?_
       refine tkl 6 false (by kernel_rfl) ?_
       refine mv h fun a w h => ?_
       refine tk0 ?_
       refine tkl 7 false (by kernel_rfl) ?_
       refine ex h fun a w h => ?_
       refine tk0 ?_
       refine tkl 8 false (by kernel_rfl) ?_
       refine ex h fun a w h => ?_
       refine tk0 ?_
       have l_H26_H35 : LE H26 H35 := (le33.trans le34).trans le35
       refine brl1 9 true (by kernel_rfl) (by kernel_rfl) (fun _ => h.st.sees' l_H26_H35 (by simp)) ?_
       refine al zr24 h fun g10 a w h => ?_
       refine br0 ?_
       refine brl1 10 false (by kernel_rfl) (by kernel_rfl) (fun _ => h.st.sees' l_H26_H35 (by simp)) ?_
       refine sw0 tN24 h fun a w h => ?_
       refine br0 ?_
       refine tkl 11 false (by kernel_rfl) ?_
       refine as_ h fun a w h => ?_
       refine tk0 ?_
       refine en (by kernel_rfl) ?_
       refine thN ?_
       have h2 : S E H35 49 [] [(4, .bool false), (5, .bool true), (8, .pointer (some ⟨g8, 0, none⟩)), (9, .int .i64 (((Tm.mk 3 (names5[(k % 5)]) 0 [t16]).ren noS 1).2)), (10, .pointer (some ⟨g10, 0, none⟩)), (11, .int .i64 (((Tm.mk 3 ([102, 114, 101, 115, 104]) 0 [(t16.put (names5[(k % 5)]) (Tm.mk 2 ([102, 114, 101, 115, 104]) 0 []))]).ren noS 1).2))] (.obj g10 (.cells #[.int .i64 ((((Tm.mk 3 ([102, 114, 101, 115, 104]) 0 [(t16.put (names5[(k % 5)]) (Tm.mk 2 ([102, 114, 101, 115, 104]) 0 []))]).ren noS 1).1).kind), str ((((Tm.mk 3 ([102, 114, 101, 115, 104]) 0 [(t16.put (names5[(k % 5)]) (Tm.mk 2 ([102, 114, 101, 115, 104]) 0 []))]).ren noS 1).1).name), .int .i64 ((((Tm.mk 3 ([102, 114, 101, 115, 104]) 0 [(t16.put (names5[(k % 5)]) (Tm.mk 2 ([102, 114, 101, 115, 104]) 0 []))]).ren noS 1).1).n), .slice A35_0_0 ((((Tm.mk 3 ([102, 114, 101, 115, 104]) 0 [(t16.put (names5[(k % 5)]) (Tm.mk 2 ([102, 114, 101, 115, 104]) 0 []))]).ren noS 1).1).kids).length c35_0_0] 24 (0, 0)) :: .obj g8 (.cells #[.int .i64 ((((Tm.mk 3 (names5[(k % 5)]) 0 [t16]).ren noS 1).1).kind), str ((((Tm.mk 3 (names5[(k % 5)]) 0 [t16]).ren noS 1).1).name), .int .i64 ((((Tm.mk 3 (names5[(k % 5)]) 0 [t16]).ren noS 1).1).n), .slice A26_0_0 ((((Tm.mk 3 (names5[(k % 5)]) 0 [t16]).ren noS 1).1).kids).length c26_0_0] 24 (0, 0)) :: .obj g6 (.cells #[.int .i64 t16.kind, str t16.name, .int .i64 t16.n, .slice A16 t16.kids.length c16] 24 (0, 0)) :: L) a w := h.to 0 _
       exact ⟨H35, g10, A35_0_0, c35_0_0, l_H26_H35, hk35_0_0, h2⟩
      ·refine al zr24 h fun g10 a w h => ?_
       refine br0 ?_
       refine brl1 5 true (by kernel_rfl) (by kernel_rfl) (fun _ => h.st.sees' l_H26_H34 (by simp)) ?_
       have l_H_H34 : LE H H34 := (((((le12.trans le16).trans leHq20).trans le25).trans le26).trans le33).trans le34
       refine cl bod10 (Rename_ok (Tm.mk 3 ([102, 114, 101, 115, 104]) 0 [(t16.put (names5[(k % 5)]) (Tm.mk 2 ([102, 114, 101, 115, 104]) 0 []))]) _ 1 E H34 _ ⟨A34, 1, rfl, hk34⟩ (hL.up l_H_H34) (by first | assumption | omega) (by first | assumption | omega)) h (fun r35 H35 L35 a w le35 R h => ?_)
       obtain ⟨_, rfl, ⟨A35_0_0, c35_0_0, rfl, hk35_0_0⟩, hl35⟩ := R
       subst L35
       refine br0 ?_
       refine tkl 6 false (by kernel_rfl) ?_
       refine mv h fun a w h => ?_
       refine tk0 ?_
       refine tkl 7 false (by kernel_rfl) ?_
       refine ex h fun a w h => ?_
       refine tk0 ?_
       refine tkl 8 false (by kernel_rfl) ?_
       refine ex h fun a w h => ?_
       refine tk0 ?_
       have l_H26_H35 : LE H26 H35 := (le33.trans le34).trans le35
       refine brl1 10 false (by kernel_rfl) (by kernel_rfl) (fun _ => h.st.sees' l_H26_H35 (by simp)) ?_
       refine sw0 tN24 h fun a w h => ?_
       refine br0 ?_
       refine tkl 11 false (by kernel_rfl) ?_
       refine as_ h fun a w h => ?_
       refine tk0 ?_
       refine en (by kernel_rfl) ?_
       refine thN ?_
       have h2 : S E H35 49 [] [(4, .bool false), (5, .bool true), (8, .pointer (some ⟨g8, 0, none⟩)), (9, .int .i64 (((Tm.mk 3 (names5[(k % 5)]) 0 [t16]).ren noS 1).2)), (10, .pointer (some ⟨g10, 0, none⟩)), (11, .int .i64 (((Tm.mk 3 ([102, 114, 101, 115, 104]) 0 [(t16.put (names5[(k % 5)]) (Tm.mk 2 ([102, 114, 101, 115, 104]) 0 []))]).ren noS 1).2))] (.obj g10 (.cells #[.int .i64 ((((Tm.mk 3 ([102, 114, 101, 115, 104]) 0 [(t16.put (names5[(k % 5)]) (Tm.mk 2 ([102, 114, 101, 115, 104]) 0 []))]).ren noS 1).1).kind), str ((((Tm.mk 3 ([102, 114, 101, 115, 104]) 0 [(t16.put (names5[(k % 5)]) (Tm.mk 2 ([102, 114, 101, 115, 104]) 0 []))]).ren noS 1).1).name), .int .i64 ((((Tm.mk 3 ([102, 114, 101, 115, 104]) 0 [(t16.put (names5[(k % 5)]) (Tm.mk 2 ([102, 114, 101, 115, 104]) 0 []))]).ren noS 1).1).n), .slice A35_0_0 ((((Tm.mk 3 ([102, 114, 101, 115, 104]) 0 [(t16.put (names5[(k % 5)]) (Tm.mk 2 ([102, 114, 101, 115, 104]) 0 []))]).ren noS 1).1).kids).length c35_0_0] 24 (0, 0)) :: .obj g8 (.cells #[.int .i64 ((((Tm.mk 3 (names5[(k % 5)]) 0 [t16]).ren noS 1).1).kind), str ((((Tm.mk 3 (names5[(k % 5)]) 0 [t16]).ren noS 1).1).name), .int .i64 ((((Tm.mk 3 (names5[(k % 5)]) 0 [t16]).ren noS 1).1).n), .slice A26_0_0 ((((Tm.mk 3 (names5[(k % 5)]) 0 [t16]).ren noS 1).1).kids).length c26_0_0] 24 (0, 0)) :: .obj g6 (.cells #[.int .i64 t16.kind, str t16.name, .int .i64 t16.n, .slice A16 t16.kids.length c16] 24 (0, 0)) :: L) a w := h.to 0 _
       exact ⟨H35, g10, A35_0_0, c35_0_0, l_H26_H35, hk35_0_0, h2⟩
     ·refine al zr24 h fun g10 a w h => ?_
      refine br0 ?_
      refine brl1 4 true (by kernel_rfl) (by kernel_rfl) (fun _ => h.st.sees' le33 (by simp)) ?_
      refine cl bod28 (fun_ok ([102, 114, 101, 115, 104]) (t16.put (names5[(k % 5)]) (Tm.mk 2 ([102, 114, 101, 115, 104]) 0 [])) _ E H33 _ ⟨A33_0, c33_0, rfl, hk33_0⟩) h (fun r34 H34 L34 a w le34 R h => ?_)
      obtain ⟨A34, rfl, hk34, hl34⟩ := R
      subst L34
      refine br0 ?_
      have l_H26_H34 : LE H26 H34 := le33.trans le34
      refine brl1 5 true (by kernel_rfl) (by kernel_rfl) (fun _ => h.st.sees' l_H26_H34 (by simp)) ?_
      have l_H_H34 : LE H H34 := (((((le12.trans le16).trans leHq20).trans le25).trans le26).trans le33).trans le34
      refine cl bod10 (Rename_ok (Tm.mk 3 ([102, 114, 101, 115, 104]) 0 [(t16.put (names5[(k % 5)]) (Tm.mk 2 ([102, 114, 101, 115, 104]) 0 []))]) _ 1 E H34 _ ⟨A34, 1, rfl, hk34⟩ (hL.up l_H_H34) (by first | assumption | omega) (by first | assumption | omega)) h (fun r35 H35 L35 a w le35 R h => ?_)
      obtain ⟨_, rfl, ⟨A35_0_0, c35_0_0, rfl, hk35_0_0⟩, hl35⟩ := R
      subst L35
      refine br0 ?_
      refine tkl 6 false (by kernel_rfl) ?_
      refine mv h fun a w h => ?_
      refine tk0 ?_
      refine tkl 7 false (by kernel_rfl) ?_
      refine ex h fun a w h => ?_
      refine tk0 ?_
      refine tkl 8 false (by kernel_rfl) ?_
      refine ex h fun a w h => ?_
      refine tk0 ?_
      have l_H26_H35 : LE H26 H35 := (le33.trans le34).trans le35
      refine brl1 10 false (by kernel_rfl) (by kernel_rfl) (fun _ => h.st.sees' l_H26_H35 (by simp)) ?_
      refine sw0 tN24 h fun a w h => ?_
      refine br0 ?_
      refine tkl 11 false (by kernel_rfl) ?_
      refine as_ h fun a w h => ?_
      refine tk0 ?_
      refine en (by kernel_rfl) ?_
      refine thN ?_
      have h2 : S E H35 49 [] [(4, .bool false), (5, .bool true), (8, .pointer (some ⟨g8, 0, none⟩)), (9, .int .i64 (((Tm.mk 3 (names5[(k % 5)]) 0 [t16]).ren noS 1).2)), (10, .pointer (some ⟨g10, 0, none⟩)), (11, .int .i64 (((Tm.mk 3 ([102, 114, 101, 115, 104]) 0 [(t16.put (names5[(k % 5)]) (Tm.mk 2 ([102, 114, 101, 115, 104]) 0 []))]).ren noS 1).2))] (.obj g10 (.cells #[.int .i64 ((((Tm.mk 3 ([102, 114, 101, 115, 104]) 0 [(t16.put (names5[(k % 5)]) (Tm.mk 2 ([102, 114, 101, 115, 104]) 0 []))]).ren noS 1).1).kind), str ((((Tm.mk 3 ([102, 114, 101, 115, 104]) 0 [(t16.put (names5[(k % 5)]) (Tm.mk 2 ([102, 114, 101, 115, 104]) 0 []))]).ren noS 1).1).name), .int .i64 ((((Tm.mk 3 ([102, 114, 101, 115, 104]) 0 [(t16.put (names5[(k % 5)]) (Tm.mk 2 ([102, 114, 101, 115, 104]) 0 []))]).ren noS 1).1).n), .slice A35_0_0 ((((Tm.mk 3 ([102, 114, 101, 115, 104]) 0 [(t16.put (names5[(k % 5)]) (Tm.mk 2 ([102, 114, 101, 115, 104]) 0 []))]).ren noS 1).1).kids).length c35_0_0] 24 (0, 0)) :: .obj g8 (.cells #[.int .i64 ((((Tm.mk 3 (names5[(k % 5)]) 0 [t16]).ren noS 1).1).kind), str ((((Tm.mk 3 (names5[(k % 5)]) 0 [t16]).ren noS 1).1).name), .int .i64 ((((Tm.mk 3 (names5[(k % 5)]) 0 [t16]).ren noS 1).1).n), .slice A26_0_0 ((((Tm.mk 3 (names5[(k % 5)]) 0 [t16]).ren noS 1).1).kids).length c26_0_0] 24 (0, 0)) :: .obj g6 (.cells #[.int .i64 t16.kind, str t16.name, .int .i64 t16.n, .slice A16 t16.kids.length c16] 24 (0, 0)) :: L) a w := h.to 0 _
      exact ⟨H35, g10, A35_0_0, c35_0_0, l_H26_H35, hk35_0_0, h2⟩
    ·refine al zr24 h fun g10 a w h => ?_
     refine br0 ?_
     refine brl1 3 false (by kernel_rfl) (by kernel_rfl) (fun _ => h.st.sees' LE.rfl (by simp)) ?_
     have l_H16_H26 : LE H16 H26 := (leHq20.trans le25).trans le26
     refine cl bod29 (put_ok (names5[(k % 5)]) (Tm.mk 2 ([102, 114, 101, 115, 104]) 0 []) t16 _ _ E H26 _ ⟨A16, c16, rfl, (KS.up hk16 l_H16_H26)⟩ ⟨none, 0, rfl, RS.nil _ _ _⟩ (by omega)) h (fun r33 H33 L33 a w le33 R h => ?_)
     obtain ⟨⟨A33_0, c33_0, rfl, hk33_0⟩, rfl⟩ := R
     refine br0 ?_
     refine brl1 4 true (by kernel_rfl) (by kernel_rfl) (fun _ => h.st.sees' le33 (by simp)) ?_
     refine cl bod28 (fun_ok ([102, 114, 101, 115, 104]) (t16.put (names5[(k % 5)]) (Tm.mk 2 ([102, 114, 101, 115, 104]) 0 [])) _ E H33 _ ⟨A33_0, c33_0, rfl, hk33_0⟩) h (fun r34 H34 L34 a w le34 R h => ?_)
     obtain ⟨A34, rfl, hk34, hl34⟩ := R
     subst L34
     refine br0 ?_
     have l_H26_H34 : LE H26 H34 := le33.trans le34
     refine brl1 5 true (by kernel_rfl) (by kernel_rfl) (fun _ => h.st.sees' l_H26_H34 (by simp)) ?_
     have l_H_H34 : LE H H34 := (((((le12.trans le16).trans leHq20).trans le25).trans le26).trans le33).trans le34
     refine cl bod10 (Rename_ok (Tm.mk 3 ([102, 114, 101, 115, 104]) 0 [(t16.put (names5[(k % 5)]) (Tm.mk 2 ([102, 114, 101, 115, 104]) 0 []))]) _ 1 E H34 _ ⟨A34, 1, rfl, hk34⟩ (hL.up l_H_H34) (by first | assumption | omega) (by first | assumption | omega)) h (fun r35 H35 L35 a w le35 R h => ?_)
     obtain ⟨_, rfl, ⟨A35_0_0, c35_0_0, rfl, hk35_0_0⟩, hl35⟩ := R
     subst L35
     refine br0 ?_
     refine tkl 6 false (by kernel_rfl) ?_
     refine mv h fun a w h => ?_
     refine tk0 ?_
     refine tkl 7 false (by kernel_rfl) ?_
     refine ex h fun a w h => ?_
     refine tk0 ?_
     refine tkl 8 false (by kernel_rfl) ?_
     refine ex h fun a w h => ?_
     refine tk0 ?_
     have l_H26_H35 : LE H26 H35 := (le33.trans le34).trans le35
     refine brl1 10 false (by kernel_rfl) (by kernel_rfl) (fun _ => h.st.sees' l_H26_H35 (by simp)) ?_
     refine sw0 tN24 h fun a w h => ?_
     refine br0 ?_
     refine tkl 11 false (by kernel_rfl) ?_
     refine as_ h fun a w h => ?_
     refine tk0 ?_
     refine en (by kernel_rfl) ?_
     refine thN ?_
     have h2 : S E H35 49 [] [(4, .bool false), (5, .bool true), (8, .pointer (some ⟨g8, 0, none⟩)), (9, .int .i64 (((Tm.mk 3 (names5[(k % 5)]) 0 [t16]).ren noS 1).2)), (10, .pointer (some ⟨g10, 0, none⟩)), (11, .int .i64 (((Tm.mk 3 ([102, 114, 101, 115, 104]) 0 [(t16.put (names5[(k % 5)]) (Tm.mk 2 ([102, 114, 101, 115, 104]) 0 []))]).ren noS 1).2))] (.obj g10 (.cells #[.int .i64 ((((Tm.mk 3 ([102, 114, 101, 115, 104]) 0 [(t16.put (names5[(k % 5)]) (Tm.mk 2 ([102, 114, 101, 115, 104]) 0 []))]).ren noS 1).1).kind), str ((((Tm.mk 3 ([102, 114, 101, 115, 104]) 0 [(t16.put (names5[(k % 5)]) (Tm.mk 2 ([102, 114, 101, 115, 104]) 0 []))]).ren noS 1).1).name), .int .i64 ((((Tm.mk 3 ([102, 114, 101, 115, 104]) 0 [(t16.put (names5[(k % 5)]) (Tm.mk 2 ([102, 114, 101, 115, 104]) 0 []))]).ren noS 1).1).n), .slice A35_0_0 ((((Tm.mk 3 ([102, 114, 101, 115, 104]) 0 [(t16.put (names5[(k % 5)]) (Tm.mk 2 ([102, 114, 101, 115, 104]) 0 []))]).ren noS 1).1).kids).length c35_0_0] 24 (0, 0)) :: .obj g8 (.cells #[.int .i64 ((((Tm.mk 3 (names5[(k % 5)]) 0 [t16]).ren noS 1).1).kind), str ((((Tm.mk 3 (names5[(k % 5)]) 0 [t16]).ren noS 1).1).name), .int .i64 ((((Tm.mk 3 (names5[(k % 5)]) 0 [t16]).ren noS 1).1).n), .slice A26_0_0 ((((Tm.mk 3 (names5[(k % 5)]) 0 [t16]).ren noS 1).1).kids).length c26_0_0] 24 (0, 0)) :: .obj g6 (.cells #[.int .i64 t16.kind, str t16.name, .int .i64 t16.n, .slice A16 t16.kids.length c16] 24 (0, 0)) :: L) a w := h.to 0 _
     exact ⟨H35, g10, A35_0_0, c35_0_0, l_H26_H35, hk35_0_0, h2⟩
   ·refine al zr24 h fun g10 a w h => ?_
    refine br0 ?_
    refine brl1 2 true (by kernel_rfl) (by kernel_rfl) (fun _ => h.st.sees' LE.rfl (by simp)) ?_
    refine cl bod30 (of_ok ([102, 114, 101, 115, 104]) E H26 _) h (fun r32 H32 L32 a w le32 R h => ?_)
    obtain ⟨rfl, rfl, rfl⟩ := R
    refine br0 ?_
    refine brl1 3 false (by kernel_rfl) (by kernel_rfl) (fun _ => h.st.sees' LE.rfl (by simp)) ?_
    have l_H16_H26 : LE H16 H26 := (leHq20.trans le25).trans le26
    refine cl bod29 (put_ok (names5[(k % 5)]) (Tm.mk 2 ([102, 114, 101, 115, 104]) 0 []) t16 _ _ E H26 _ ⟨A16, c16, rfl, (KS.up hk16 l_H16_H26)⟩ ⟨none, 0, rfl, RS.nil _ _ _⟩ (by omega)) h (fun r33 H33 L33 a w le33 R h => ?_)
    obtain ⟨⟨A33_0, c33_0, rfl, hk33_0⟩, rfl⟩ := R
    refine br0 ?_
    refine brl1 4 true (by kernel_rfl) (by kernel_rfl) (fun _ => h.st.sees' le33 (by simp)) ?_
    refine cl bod28 (fun_ok ([102, 114, 101, 115, 104]) (t16.put (names5[(k % 5)]) (Tm.mk 2 ([102, 114, 101, 115, 104]) 0 [])) _ E H33 _ ⟨A33_0, c33_0, rfl, hk33_0⟩) h (fun r34 H34 L34 a w le34 R h => ?_)
    obtain ⟨A34, rfl, hk34, hl34⟩ := R
    subst L34
    refine br0 ?_
    have l_H26_H34 : LE H26 H34 := le33.trans le34
    refine brl1 5 true (by kernel_rfl) (by kernel_rfl) (fun _ => h.st.sees' l_H26_H34 (by simp)) ?_
    have l_H_H34 : LE H H34 := (((((le12.trans le16).trans leHq20).trans le25).trans le26).trans le33).trans le34
    refine cl bod10 (Rename_ok (Tm.mk 3 ([102, 114, 101, 115, 104]) 0 [(t16.put (names5[(k % 5)]) (Tm.mk 2 ([102, 114, 101, 115, 104]) 0 []))]) _ 1 E H34 _ ⟨A34, 1, rfl, hk34⟩ (hL.up l_H_H34) (by first | assumption | omega) (by first | assumption | omega)) h (fun r35 H35 L35 a w le35 R h => ?_)
    obtain ⟨_, rfl, ⟨A35_0_0, c35_0_0, rfl, hk35_0_0⟩, hl35⟩ := R
    subst L35
    refine br0 ?_
    refine tkl 6 false (by kernel_rfl) ?_
    refine mv h fun a w h => ?_
    refine tk0 ?_
    refine tkl 7 false (by kernel_rfl) ?_
    refine ex h fun a w h => ?_
    refine tk0 ?_
    refine tkl 8 false (by kernel_rfl) ?_
    refine ex h fun a w h => ?_
    refine tk0 ?_
    have l_H26_H35 : LE H26 H35 := (le33.trans le34).trans le35
    refine brl1 10 false (by kernel_rfl) (by kernel_rfl) (fun _ => h.st.sees' l_H26_H35 (by simp)) ?_
    refine sw0 tN24 h fun a w h => ?_
    refine br0 ?_
    refine tkl 11 false (by kernel_rfl) ?_
    refine as_ h fun a w h => ?_
    refine tk0 ?_
    refine en (by kernel_rfl) ?_
    refine thN ?_
    have h2 : S E H35 49 [] [(4, .bool false), (5, .bool true), (8, .pointer (some ⟨g8, 0, none⟩)), (9, .int .i64 (((Tm.mk 3 (names5[(k % 5)]) 0 [t16]).ren noS 1).2)), (10, .pointer (some ⟨g10, 0, none⟩)), (11, .int .i64 (((Tm.mk 3 ([102, 114, 101, 115, 104]) 0 [(t16.put (names5[(k % 5)]) (Tm.mk 2 ([102, 114, 101, 115, 104]) 0 []))]).ren noS 1).2))] (.obj g10 (.cells #[.int .i64 ((((Tm.mk 3 ([102, 114, 101, 115, 104]) 0 [(t16.put (names5[(k % 5)]) (Tm.mk 2 ([102, 114, 101, 115, 104]) 0 []))]).ren noS 1).1).kind), str ((((Tm.mk 3 ([102, 114, 101, 115, 104]) 0 [(t16.put (names5[(k % 5)]) (Tm.mk 2 ([102, 114, 101, 115, 104]) 0 []))]).ren noS 1).1).name), .int .i64 ((((Tm.mk 3 ([102, 114, 101, 115, 104]) 0 [(t16.put (names5[(k % 5)]) (Tm.mk 2 ([102, 114, 101, 115, 104]) 0 []))]).ren noS 1).1).n), .slice A35_0_0 ((((Tm.mk 3 ([102, 114, 101, 115, 104]) 0 [(t16.put (names5[(k % 5)]) (Tm.mk 2 ([102, 114, 101, 115, 104]) 0 []))]).ren noS 1).1).kids).length c35_0_0] 24 (0, 0)) :: .obj g8 (.cells #[.int .i64 ((((Tm.mk 3 (names5[(k % 5)]) 0 [t16]).ren noS 1).1).kind), str ((((Tm.mk 3 (names5[(k % 5)]) 0 [t16]).ren noS 1).1).name), .int .i64 ((((Tm.mk 3 (names5[(k % 5)]) 0 [t16]).ren noS 1).1).n), .slice A26_0_0 ((((Tm.mk 3 (names5[(k % 5)]) 0 [t16]).ren noS 1).1).kids).length c26_0_0] 24 (0, 0)) :: .obj g6 (.cells #[.int .i64 t16.kind, str t16.name, .int .i64 t16.n, .slice A16 t16.kids.length c16] 24 (0, 0)) :: L) a w := h.to 0 _
    exact ⟨H35, g10, A35_0_0, c35_0_0, l_H26_H35, hk35_0_0, h2⟩
  ·rintro a w ⟨HJ75, g10, Aj75_0, cj75_0, leHJ75, hj75_0, h⟩
   refine sqc (fun a w => S E HJ75 49 [] [(4, .bool (((((Tm.mk 3 (names5[(k % 5)]) 0 [t16]).ren noS 1).1).same (((Tm.mk 3 ([102, 114, 101, 115, 104]) 0 [(t16.put (names5[(k % 5)]) (Tm.mk 2 ([102, 114, 101, 115, 104]) 0 []))]).ren noS 1).1)) && ((((Tm.mk 3 (names5[(k % 5)]) 0 [t16]).ren noS 1).2 : Int) == ((Tm.mk 3 ([102, 114, 101, 115, 104]) 0 [(t16.put (names5[(k % 5)]) (Tm.mk 2 ([102, 114, 101, 115, 104]) 0 []))]).ren noS 1).2)))] (.obj g10 (.cells #[.int .i64 ((((Tm.mk 3 ([102, 114, 101, 115, 104]) 0 [(t16.put (names5[(k % 5)]) (Tm.mk 2 ([102, 114, 101, 115, 104]) 0 []))]).ren noS 1).1).kind), str ((((Tm.mk 3 ([102, 114, 101, 115, 104]) 0 [(t16.put (names5[(k % 5)]) (Tm.mk 2 ([102, 114, 101, 115, 104]) 0 []))]).ren noS 1).1).name), .int .i64 ((((Tm.mk 3 ([102, 114, 101, 115, 104]) 0 [(t16.put (names5[(k % 5)]) (Tm.mk 2 ([102, 114, 101, 115, 104]) 0 []))]).ren noS 1).1).n), .slice Aj75_0 ((((Tm.mk 3 ([102, 114, 101, 115, 104]) 0 [(t16.put (names5[(k % 5)]) (Tm.mk 2 ([102, 114, 101, 115, 104]) 0 []))]).ren noS 1).1).kids).length cj75_0] 24 (0, 0)) :: .obj g8 (.cells #[.int .i64 ((((Tm.mk 3 (names5[(k % 5)]) 0 [t16]).ren noS 1).1).kind), str ((((Tm.mk 3 (names5[(k % 5)]) 0 [t16]).ren noS 1).1).name), .int .i64 ((((Tm.mk 3 (names5[(k % 5)]) 0 [t16]).ren noS 1).1).n), .slice A26_0_0 ((((Tm.mk 3 (names5[(k % 5)]) 0 [t16]).ren noS 1).1).kids).length c26_0_0] 24 (0, 0)) :: .obj g6 (.cells #[.int .i64 t16.kind, str t16.name, .int .i64 t16.n, .slice A16 t16.kids.length c16] 24 (0, 0)) :: L) a w) ?_ ?_
   ·refine rg0 ?_
    refine mv h fun a w h => ?_
    refine mv h fun a w h => ?_
    refine ldW 1 tN24 h fun a w h => ?_
    refine ldW 0 tN24 h fun a w h => ?_
    refine cl bod27 (Same_ok (((Tm.mk 3 (names5[(k % 5)]) 0 [t16]).ren noS 1).1) (((Tm.mk 3 ([102, 114, 101, 115, 104]) 0 [(t16.put (names5[(k % 5)]) (Tm.mk 2 ([102, 114, 101, 115, 104]) 0 []))]).ren noS 1).1) _ _ E HJ75 _ ⟨A26_0_0, c26_0_0, rfl, (KS.up hk26_0_0 leHJ75)⟩ ⟨Aj75_0, cj75_0, rfl, hj75_0⟩ (by first | assumption | omega)) h (fun r42 H42 L42 a w le42 R h => ?_)
    obtain ⟨rfl, rfl, rfl⟩ := R
    refine pkT h fun a w h => ?_
    refine h.spl (fun c43 h => ?_) (fun c43 h => ?_)
    ·refine mv h fun a w h => ?_
     refine mv h fun a w h => ?_
     refine mv h fun a w h => ?_
     refine eqi h fun a w h => ?_
     refine pkT h fun a w h => ?_
     refine as_ h fun a w h => ?_
     refine nlt ?_
     have h2 : S E HJ75 49 [] [(4, .bool (((((Tm.mk 3 (names5[(k % 5)]) 0 [t16]).ren noS 1).1).same (((Tm.mk 3 ([102, 114, 101, 115, 104]) 0 [(t16.put (names5[(k % 5)]) (Tm.mk 2 ([102, 114, 101, 115, 104]) 0 []))]).ren noS 1).1)) && ((((Tm.mk 3 (names5[(k % 5)]) 0 [t16]).ren noS 1).2 : Int) == ((Tm.mk 3 ([102, 114, 101, 115, 104]) 0 [(t16.put (names5[(k % 5)]) (Tm.mk 2 ([102, 114, 101, 115, 104]) 0 []))]).ren noS 1).2)))] (.obj g10 (.cells #[.int .i64 ((((Tm.mk 3 ([102, 114, 101, 115, 104]) 0 [(t16.put (names5[(k % 5)]) (Tm.mk 2 ([102, 114, 101, 115, 104]) 0 []))]).ren noS 1).1).kind), str ((((Tm.mk 3 ([102, 114, 101, 115, 104]) 0 [(t16.put (names5[(k % 5)]) (Tm.mk 2 ([102, 114, 101, 115, 104]) 0 []))]).ren noS 1).1).name), .int .i64 ((((Tm.mk 3 ([102, 114, 101, 115, 104]) 0 [(t16.put (names5[(k % 5)]) (Tm.mk 2 ([102, 114, 101, 115, 104]) 0 []))]).ren noS 1).1).n), .slice Aj75_0 ((((Tm.mk 3 ([102, 114, 101, 115, 104]) 0 [(t16.put (names5[(k % 5)]) (Tm.mk 2 ([102, 114, 101, 115, 104]) 0 []))]).ren noS 1).1).kids).length cj75_0] 24 (0, 0)) :: .obj g8 (.cells #[.int .i64 ((((Tm.mk 3 (names5[(k % 5)]) 0 [t16]).ren noS 1).1).kind), str ((((Tm.mk 3 (names5[(k % 5)]) 0 [t16]).ren noS 1).1).name), .int .i64 ((((Tm.mk 3 (names5[(k % 5)]) 0 [t16]).ren noS 1).1).n), .slice A26_0_0 ((((Tm.mk 3 (names5[(k % 5)]) 0 [t16]).ren noS 1).1).kids).length c26_0_0] 24 (0, 0)) :: .obj g6 (.cells #[.int .i64 t16.kind, str t16.name, .int .i64 t16.n, .slice A16 t16.kids.length c16] 24 (0, 0)) :: L) a w := by rw [show (.bool (((((Tm.mk 3 (names5[(k % 5)]) 0 [t16]).ren noS 1).1).same (((Tm.mk 3 ([102, 114, 101, 115, 104]) 0 [(t16.put (names5[(k % 5)]) (Tm.mk 2 ([102, 114, 101, 115, 104]) 0 []))]).ren noS 1).1)) && ((((Tm.mk 3 (names5[(k % 5)]) 0 [t16]).ren noS 1).2 : Int) == ((Tm.mk 3 ([102, 114, 101, 115, 104]) 0 [(t16.put (names5[(k % 5)]) (Tm.mk 2 ([102, 114, 101, 115, 104]) 0 []))]).ren noS 1).2)) : Value) = .bool ((((Tm.mk 3 (names5[(k % 5)]) 0 [t16]).ren noS 1).2 : Int) == ((Tm.mk 3 ([102, 114, 101, 115, 104]) 0 [(t16.put (names5[(k % 5)]) (Tm.mk 2 ([102, 114, 101, 115, 104]) 0 []))]).ren noS 1).2) from Eq.symm (by (try rw [c43]) <;> (try simp only [Bool.true_or, Bool.or_true, Bool.false_or, Bool.or_false, Bool.true_and, Bool.and_true, Bool.false_and, Bool.and_false, Bool.not_true, Bool.not_false, cond_true, cond_false]))]; exact h.to 0 _
     exact h2
    ·refine mv h fun a w h => ?_
     refine sk h (k := fun a w h => ?_)
     refine sk h (k := fun a w h => ?_)
     refine sk h (k := fun a w h => ?_)
     refine pkF h fun a w h => ?_
     refine as_ h fun a w h => ?_
     refine nlt ?_
     have h2 : S E HJ75 49 [] [(4, .bool (((((Tm.mk 3 (names5[(k % 5)]) 0 [t16]).ren noS 1).1).same (((Tm.mk 3 ([102, 114, 101, 115, 104]) 0 [(t16.put (names5[(k % 5)]) (Tm.mk 2 ([102, 114, 101, 115, 104]) 0 []))]).ren noS 1).1)) && ((((Tm.mk 3 (names5[(k % 5)]) 0 [t16]).ren noS 1).2 : Int) == ((Tm.mk 3 ([102, 114, 101, 115, 104]) 0 [(t16.put (names5[(k % 5)]) (Tm.mk 2 ([102, 114, 101, 115, 104]) 0 []))]).ren noS 1).2)))] (.obj g10 (.cells #[.int .i64 ((((Tm.mk 3 ([102, 114, 101, 115, 104]) 0 [(t16.put (names5[(k % 5)]) (Tm.mk 2 ([102, 114, 101, 115, 104]) 0 []))]).ren noS 1).1).kind), str ((((Tm.mk 3 ([102, 114, 101, 115, 104]) 0 [(t16.put (names5[(k % 5)]) (Tm.mk 2 ([102, 114, 101, 115, 104]) 0 []))]).ren noS 1).1).name), .int .i64 ((((Tm.mk 3 ([102, 114, 101, 115, 104]) 0 [(t16.put (names5[(k % 5)]) (Tm.mk 2 ([102, 114, 101, 115, 104]) 0 []))]).ren noS 1).1).n), .slice Aj75_0 ((((Tm.mk 3 ([102, 114, 101, 115, 104]) 0 [(t16.put (names5[(k % 5)]) (Tm.mk 2 ([102, 114, 101, 115, 104]) 0 []))]).ren noS 1).1).kids).length cj75_0] 24 (0, 0)) :: .obj g8 (.cells #[.int .i64 ((((Tm.mk 3 (names5[(k % 5)]) 0 [t16]).ren noS 1).1).kind), str ((((Tm.mk 3 (names5[(k % 5)]) 0 [t16]).ren noS 1).1).name), .int .i64 ((((Tm.mk 3 (names5[(k % 5)]) 0 [t16]).ren noS 1).1).n), .slice A26_0_0 ((((Tm.mk 3 (names5[(k % 5)]) 0 [t16]).ren noS 1).1).kids).length c26_0_0] 24 (0, 0)) :: .obj g6 (.cells #[.int .i64 t16.kind, str t16.name, .int .i64 t16.n, .slice A16 t16.kids.length c16] 24 (0, 0)) :: L) a w := by rw [show (.bool (((((Tm.mk 3 (names5[(k % 5)]) 0 [t16]).ren noS 1).1).same (((Tm.mk 3 ([102, 114, 101, 115, 104]) 0 [(t16.put (names5[(k % 5)]) (Tm.mk 2 ([102, 114, 101, 115, 104]) 0 []))]).ren noS 1).1)) && ((((Tm.mk 3 (names5[(k % 5)]) 0 [t16]).ren noS 1).2 : Int) == ((Tm.mk 3 ([102, 114, 101, 115, 104]) 0 [(t16.put (names5[(k % 5)]) (Tm.mk 2 ([102, 114, 101, 115, 104]) 0 []))]).ren noS 1).2)) : Value) = .bool false from Eq.symm (by (try rw [c43]) <;> (try simp only [Bool.true_or, Bool.or_true, Bool.false_or, Bool.or_false, Bool.true_and, Bool.and_true, Bool.false_and, Bool.and_false, Bool.not_true, Bool.not_false, cond_true, cond_false]))]; exact h.to 0 _
     exact h2
   ·rintro a w h
    refine ret_ ?_
    have l_H_HJ75 : LE H HJ75 := ((((le12.trans le16).trans leHq20).trans le25).trans le26).trans leHJ75
    refine fin1 4 3 h l_H_HJ75 ?_
    exact ⟨by rw [hal]; exact congrArg Value.bool (by rw [(same_iff _ _).2 rfl]; simp), rfl⟩
end Go.Proofs.YtindlieilabgfaaGreatDoor
/- ScopeAlike: for all arguments of bulk at most 1048576 the law answers true, and they read as before. -/
set_option linter.unusedVariables false
set_option linter.unusedSectionVars false
set_option linter.unusedSimpArgs false
set_option autoImplicit false
set_option relaxedAutoImplicit false
set_option maxRecDepth 100000
namespace Go.Proofs.YtindlieilabgfaaGreatDoor.alike
open Go X Go.ChangeShapes Go.WideShapes Go.ChangeAt Go.RowKit
theorem own : ownKnob Tryz.prog.godebug = none := by kernel_rfl
theorem contract (H : Type) (enc : TypeId × Value → H) (W : World) (base : Nat) (args : Array Value) (ds gs : List (DataW H)) (before : List MemPlace)
    (hval : ∀ (j : Nat) t v, Tryz.f6.params[j]? = some t → args[j]? = some v → Value.okWide Tryz.prog W .any base t v)
    (hW : DataW.Whole enc Tryz.prog Tryz.f6.params.toList Rows.scopeAlikeSpec.vars false W args.toList ds gs before) (hk : Rows.uptoSmall H (ds ++ gs) = true) (hL : laidMetH Tryz.prog Rows.scopeAlikeUptoRow.laid W) :
    Calls Tryz.prog 6 args W fun e W' => ∃ v, e = .returned v ∧ Rows.scopeAlikeSpec.post enc Tryz.prog Tryz.f6 false true false false W args v W' := by
  have hW' := hW
  obtain ⟨p, q, hA, hV, rfl, hfz, hnd⟩ := hW
  rw [show Tryz.f6.params = #[29, 5] from rfl] at hA hval
  obtain ⟨v0, vs0, d0, ds0, p0, q0, ha0, rfl, rfl, h0, r0⟩ := trodAll_cons hA
  obtain ⟨v1, vs1, d1, ds1, p1, q1, ha1, rfl, rfl, h1, r1⟩ := trodAll_cons r0
  obtain ⟨rfl, rfl, rfl⟩ := trodAll_nil r1
  obtain rfl : args = #[v0, v1] := by cases args; simp_all
  have hgs : gs = [] := by
    cases gs with
    | nil => rfl
    | cons g gs => exact (show False from hV).elim
  subst hgs
  have hbulk : Rows.uptoBulkAll [d0, d1] ≤ 1048576 := by simpa [Rows.uptoSmall] using hk
  simp only [Rows.uptoBulkAll] at hbulk
  obtain ⟨fuel0, htr0⟩ := h0
  obtain ⟨fuel1, htr1⟩ := h1
  obtain ⟨A0, c0, l0, rfl, hl0, hb0⟩ := open_u8s (e := 5) Tryz.underlying29 Tryz.underlying5 (by kernel_rfl) (cells_slice Tryz.underlying29 (hval 0 29 v0 rfl rfl)) htr0 (by show Rows.uptoBulk d0 ≤ _; omega)
  obtain ⟨n1, rfl, lo1, hi1⟩ := open_int Tryz.underlying5 (cells_int Tryz.underlying5 (hval 1 5 v1 rfl rfl)) htr1
  obtain ⟨n1, rfl⟩ : ∃ n : Nat, n1 = (n : Int) := ⟨n1.toNat, by simp [IntKind.min, IntKind.max, IntKind.signed, IntKind.bits] at lo1; omega⟩
  simp [IntKind.min, IntKind.max, IntKind.signed, IntKind.bits] at lo1 hi1
  have hlaid : Laid (HW W) := by
    obtain ⟨ps, hv, _⟩ := (hL : laidMet Tryz.prog Rows.scopeAlikeUptoRow.laid W)
    exact laid_of hv (by simp [Rows.scopeAlikeUptoRow]) (by simp [Rows.scopeAlikeUptoRow]) (by simp [Rows.scopeAlikeUptoRow]) (by simp [Rows.scopeAlikeUptoRow])
  refine (alike_ok l0 n1 A0 c0 W (HW W) [] hl0 hb0 hlaid W (st_world W)).mono fun e W' ⟨r, H', L', he, hle, hst, hr, hl⟩ => ?_
  subst hr
  refine ⟨_, he, post_true (by simpa using hW') rfl rfl rfl rfl (below_of hle hst) (by kernel_rfl) (fun t ht => ?_) rfl Tryz.underlying4⟩
  rw [show Tryz.f6.params = #[29, 5] from rfl] at ht
  have ht' : t = 29 ∨ t = 5 := by simpa using ht
  rcases ht' with rfl | rfl <;> exact ⟨by kernel_rfl, of_decide_eq_true (by kernel_rfl)⟩
/-- A WORLD FOR THE WITNESS: the settled one, the tables laid. -/
def valOf : DataW Unit → Value
  | .lit (.int k n) => .int k n
  | .lit (.string s) => str s
  | _ => .bool false
def cellsOf : DataW Unit → Array Value
  | .agg ds => (ds.map valOf).toArray
  | _ => #[]
def lay (i : Nat) (o : Obj) : Obj := match i, o with
  | 0, .cells _ t z => .cells (cellsOf Rows.laid_chancel_term_kids) t z
  | 1, .cells _ t z => .cells (cellsOf Rows.laid_chancel_term_ops) t z
  | 2, .cells _ t z => .cells (cellsOf Rows.laid_internal_strconv_uint64pow10) t z
  | 3, .cells _ t z => .cells (cellsOf Rows.laid_chancel_lex_keys) t z
  | 4, .cells _ t z => .cells (cellsOf Rows.laid_math_bits_deBruijn32tab) t z
  | 5, .cells _ t z => .cells (cellsOf Rows.laid_math_bits_deBruijn64tab) t z
  | _, o => o
noncomputable def laidWorld (os : Os) : World :=
  { World.holding Tryz.prog os ⟨#[], #[], []⟩ with heap := (World.holding Tryz.prog os ⟨#[], #[], []⟩).heap.mapIdx lay }
def arg : Array Value := #[.slice none 0 0, .int .u8 0]
theorem laid_met (os : Os) : laidMet Tryz.prog Rows.scopeAlikeUptoRow.laid ((laidWorld os).forCall (fun _ _ => 0) ⟨#[], arg, []⟩).memory :=
  laidMet_of_run' 8 (by kernel_rfl) (by kernel_rfl)
theorem reads (os : Os) {H : Type} (enc : TypeId × Value → H) : ∃ places, DataW.whole enc Tryz.prog ((laidWorld os).forCall (fun _ _ => 0) ⟨#[], arg, []⟩).memory Tryz.f6.params.toList Rows.scopeAlikeSpec.vars false arg.toList 8 = some ([.nil, .lit (.int .u8 0)], [], places) :=
  ⟨[], by kernel_rfl⟩
theorem liftedUpto (os : Os) (started : os.Started) (H : Type) (enc : TypeId × Value → H) (F : Stop.Interp) :
    ReturnsInHanded {} Tryz.checked os 6 .any ((Rows.OpenSpec.upto Rows.scopeAlikeSpec).preRow enc Tryz.prog Tryz.f6 Rows.scopeAlikeUptoRow.domain false Rows.scopeAlikeUptoRow.laid) (((Rows.OpenSpec.upto Rows.scopeAlikeSpec).at F).post enc Tryz.prog Tryz.f6 false true false false) := by
  obtain ⟨places, hx⟩ := reads os enc
  refine returnsInHanded_of_row (C := Tryz.checked) (s := Rows.OpenSpec.upto Rows.scopeAlikeSpec) own started (by kernel_rfl) Tryz.func6
    (witness_row_at (enc := enc) (C := Tryz.checked) false (laidWorld os) arg rfl (by kernel_rfl) (by kernel_rfl) (by kernel_rfl)
      (OpenSpec.preRow_of_cond 8 hx (by kernel_rfl) (fun k hk => by cases hk; kernel_rfl) (by kernel_rfl) (laid_met os))) ?_
  intro W base args ds gs before hval hW _ hcond _ hL _ _
  exact contract H enc W base args ds gs before hval hW (hcond _ rfl) hL
theorem saidUpto : Rows.ScopeAlikeUptoSaid :=
  OpenClaim.holds_of_cond 6 Tryz.f6 rfl rfl rfl rfl rfl rfl rfl ⟨rfl, rfl, rfl, rfl, rfl⟩ rfl rfl rfl rfl rfl (by kernel_rfl) Tryz.func6 (by kernel_rfl)
    (of_decide_eq_true (by kernel_rfl)) (by unfold Func.isWrapper; first | (rw [if_pos (by decide +kernel)]; kernel_rfl) | (rw [if_neg (by decide +kernel)]; exact ⟨rfl, rfl⟩))
    (fun os started H enc _ F => by rw [OpenClaim.pre_eq_preRow]; exact liftedUpto os started H enc F)
theorem plain (f : FuncId) (fn : Func) (hf : Tryz.pinned.checked.prog.funcNamed "chancel/chancellaw07.ScopeAlike" = some f) (hfn : Tryz.pinned.checked.prog.funcs[f]? = some fn) :
    true = Tryz.pinned.checked.prog.looks [] ∧ ∀ (j : Nat) t, fn.params[j]? = some t → Tryz.pinned.checked.prog.wantsStandIn t = false := by
  obtain rfl : f = 6 := Option.some.inj ((show Tryz.prog.funcNamed "chancel/chancellaw07.ScopeAlike" = some 6 by kernel_rfl).symm.trans hf) |>.symm
  obtain rfl : fn = Tryz.f6 := (Option.some.inj (Tryz.func6.symm.trans hfn)).symm
  refine ⟨by kernel_rfl, fun j t ht => ?_⟩
  rw [show Tryz.f6.params = #[29, 5] from rfl] at ht
  have ht' : t = 29 ∨ t = 5 := by simpa using Array.mem_of_getElem? ht
  rcases ht' with rfl | rfl <;> exact (show Tryz.prog.wantsStandIn _ = false by kernel_rfl)
/-- THE SECOND FORM's CARD. -/
theorem cardUpto : Rows.ScopeAlikeUptoCardSaid :=
  Claim7.holds_tied_plain_at .later [] _ _ _ _ saidUpto (fun _ h => by cases h) (by kernel_rfl) (fun _ h => by cases h) scopeAlikeUpto_row_tie rfl ⟨rfl, rfl⟩ (by kernel_rfl) rfl plain (by kernel_rfl)
end Go.Proofs.YtindlieilabgfaaGreatDoor.alike
