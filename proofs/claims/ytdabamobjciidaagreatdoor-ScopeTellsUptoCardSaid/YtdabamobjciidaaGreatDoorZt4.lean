/- Parts of the proof: W42, X27, W43, W44, W45, W46, X26, W47, W48, W49, W50. -/
import Derived.Test.YtdabamobjciidaaGreatDoorZt3
set_option autoImplicit false
set_option linter.unnecessarySimpa false
set_option linter.unusedSectionVars false
set_option linter.unusedSimpArgs false
set_option linter.unusedVariables false
set_option maxHeartbeats 8000000
set_option maxRecDepth 100000
set_option relaxedAutoImplicit false
namespace Go.Proofs.YtdabamobjciidaaGreatDoor
open Go X
theorem has7_ok (ss : List Bs) (s : Bs) (A : Option Addr) (c : Nat) (E : World) (H : GH) (L : List It) (hs : SS H A c ss) (hb : ss.length < 4000000000000) : Ok Tryz.prog 34 #[.slice A ss.length c, str s] E H L fun r H' L' => r = .bool (ss.contains s) ∧ H = H' ∧ L = L' := by
 refine enter (N := 18) [(0, _), (1, _)] Tryz.func34 rfl rfl rfl rfl fun a w h => ?_
 refine au [1,2,0,6,0,3,0,4,1,2,0,6,0,3,1,5] h ?_; intro a w h
 refine lp (β := Nat) (fun k a w => ((k ≤ ss.length) ∧ (∀ j (hj : j < ss.length), j < k → ss[j] ≠ s)) ∧ S E H 18 [] [(0, .slice A ss.length c), (1, str s), (5, .int .i64 (k : Int))] (L) a w)
  (fun k => ss.length - k) 0 ⟨⟨Nat.zero_le _, fun _ _ h => absurd h (by omega)⟩, h.to 0 _⟩ ?_
 rintro k a w ⟨⟨hk, hi⟩, h⟩
 refine au [0,4,1,2,0,0,0,0,6,0,6,4,0,3] h ?_; intro a w h
 refine cdB h (fun c9 => ?_) (fun c9 => ?_)
 ·have d9 : k < ss.length := cd_ c9
  refine au [1,8,1,0,0,4,1,5,1,2,0,0,0,0] h ?_; intro a w h
  have hj14 : k < ss.length := by first | assumption | omega | (simp; done) | (simp; omega)
  obtain ⟨g14, o14, e14, hc14⟩ := SS.get hs hj14
  refine iaE sli70 sz9 rfl hj14 e14 h fun a w h => ?_
  refine ldH t1_9 (hc14) h fun a w h => ?_
  refine au [0,0,6,8,0,3] h ?_; intro a w h
  refine cdB h (fun c17 => ?_) (fun c17 => ?_)
  ·have d17 : ss[k] = s := cd_ c17
   refine au [1,2,0,6,0,3,1,3,1,6,1,4,1,4,1,6,1,4] h ?_; intro a w h
   refine fin1 4 0 h LE.rfl ?_
   exact ⟨by rw [contains_at hj14 d17], rfl, rfl⟩
  ·have d17 : ss[k] ≠ s := cd_ c17
   refine au [1,8,1,7,1,0,0,5,0,0] h ?_; intro a w h
   refine inc ?_ h fun a w h => ?_
   ·omega
   refine au [0,6,0,3] h ?_; intro a w h
   exact ⟨(k + 1), ⟨⟨by omega, fun j hj h0 => by rcases upto h0 with h0 | rfl; exact hi j hj h0; exact d17⟩, h.to 0 _⟩, by show _ - (k + 1) < _ - k; omega⟩
 ·have d9 : ss.length ≤ k := cd_ c9
  refine au [2,5,2,2,2,2,2,3,1,0,1,2,0,6,0,3,1,3] h ?_; intro a w h
  refine fin1 4 0 h LE.rfl ?_
  exact ⟨by rw [contains_no fun j hj => hi j hj (by omega)], rfl, rfl⟩
theorem decls_ok (xs : List Dc) (most : Int) (A : Option Addr) (c : Nat) (E : World) (H : GH) (L : List It) (hx : CS H A c xs) (hb : xs.length < 1000000000000) (hm : ∀ d ∈ xs, d.name.length < 1000000000000 ∧ d.label.length < 1000000000000) : Ok Tryz.prog 77 #[.slice A xs.length c, .int .i64 most] E H L fun r H' L' => r = .bool (declsB xs most) ∧ L = L' := by
 refine enter (N := 48) [(0, _), (1, _)] Tryz.func77 rfl rfl rfl rfl fun a w h => ?_
 refine au [1,2,0,6,0,3,0,4,1,2,0,6,0,3,1,5] h ?_; intro a w h
 refine lp (β := Nat × GH) (fun x a w => match x with | (k, HL0) => ((k ≤ xs.length) ∧ (LE H HL0) ∧ (∀ j (hj : j < xs.length), j < k → dcB most xs[j] = true)) ∧ S E HL0 48 [] [(0, .slice A xs.length c), (1, .int .i64 most), (5, .int .i64 (k : Int))] (L) a w)
  (fun x => match x with | (k, HL0) => xs.length - k) (0, H) ⟨⟨Nat.zero_le _, LE.rfl, fun _ _ h => absurd h (by omega)⟩, h.to 0 _⟩ ?_
 rintro ⟨k, HL0⟩ a w ⟨⟨hk, leHL0, hi⟩, h⟩
 refine au [0,4,1,2,0,0,0,0,6,0,6,4,0,3] h ?_; intro a w h
 refine cdB h (fun c9 => ?_) (fun c9 => ?_)
 ·have d9 : k < xs.length := cd_ c9
  refine au [1,8,1,0,0,4,1,5] h ?_
  refine sqc (fun a w => S E HL0 48 [] [(0, .slice A xs.length c), (1, .int .i64 most), (5, .int .i64 (k : Int)), (6, .int .i64 (k : Int)), (7, .slice A xs.length c), (8, .int .i64 (xs.length : Int)), (9, .bool (decide (((k : Int) : Int) < (xs.length : Int)))), (12, .slice A xs.length c), (13, .int .i64 (k : Int)), (16, str xs[k].name), (17, .bool (wordB xs[k].name)), (18, .bool (!(wordB xs[k].name))), (19, .bool (!(wordB xs[k].name))), (27, .bool ((!(wordB xs[k].name)) || (!(wordB xs[k].label)))), (28, .bool ((!(wordB xs[k].name)) || (!(wordB xs[k].label)))), (35, .bool ((!(wordB xs[k].name)) || ((!(wordB xs[k].label)) || (decide (xs[k].n < 0))))), (36, .bool ((!(wordB xs[k].name)) || ((!(wordB xs[k].label)) || (decide (xs[k].n < 0))))), (44, .bool (!dcB most xs[k]))] (L) a w) ?_ ?_
  ·refine rg0 ?_
   obtain ⟨hn1, hn2⟩ := hm _ (List.getElem_mem d9)
   refine au [0,0,0,0] h ?_; intro a w h
   have hj14 : k < xs.length := by first | assumption | omega | (simp; done) | (simp; omega)
   obtain ⟨g14, o14, e14, hv14, hc14⟩ := CS.get (CS.up hx leHL0) hj14
   refine iaE sli47 sz88 rfl hj14 e14 h fun a w h => ?_
   refine fa fl88_0 (r := o14 + k * 3 + 0) h fun a w h => ?_
   refine ldH t1_9 (hc14 0 _ rfl) h fun a w h => ?_
   refine cl bod75 (WordR_ok xs[k].name E HL0 _ (by first | assumption | omega)) h (fun r17 H17 L17 a w le17 R h => ?_)
   obtain ⟨rfl, rfl⟩ := R
   refine nt h fun a w h => ?_
   refine h.spl (fun c18 h => ?_) (fun c18 h => ?_)
   ·have d18 : (wordB xs[k].name) = false := cd_ c18
    refine au [0,0,0,1,0,1,0,1,0,1,0,1,0,1,0,1,4,8,0,0,0,1,0,1,0,1,0,1,0,1,0,1,4,8,0,0,0,1,0,1,0,1,0,1,0,1,0,1,0,1,4,8,0,3] h ?_; intro a w h
    have h := h.less le17
    exact (by show S _ _ _ _ _ _ _ _; rw [show (.bool (!(wordB xs[k].name)) : Value) = .bool true from Eq.symm (by first | ((try rw [c18]) <;> (try simp only [Bool.true_or, Bool.or_true, Bool.false_or, Bool.or_false, Bool.true_and, Bool.and_true, Bool.false_and, Bool.and_false, Bool.not_true, Bool.not_false, cond_true, cond_false]); done) | (exfalso; omega)), show (.bool ((!(wordB xs[k].name)) || (!(wordB xs[k].label))) : Value) = .bool true from Eq.symm (by first | ((try rw [c18]) <;> (try simp only [Bool.true_or, Bool.or_true, Bool.false_or, Bool.or_false, Bool.true_and, Bool.and_true, Bool.false_and, Bool.and_false, Bool.not_true, Bool.not_false, cond_true, cond_false]); done) | (exfalso; omega)), show (.bool ((!(wordB xs[k].name)) || ((!(wordB xs[k].label)) || (decide (xs[k].n < 0)))) : Value) = .bool true from Eq.symm (by first | ((try rw [c18]) <;> (try simp only [Bool.true_or, Bool.or_true, Bool.false_or, Bool.or_false, Bool.true_and, Bool.and_true, Bool.false_and, Bool.and_false, Bool.not_true, Bool.not_false, cond_true, cond_false]); done) | (exfalso; omega)), show (.bool (!dcB most xs[k]) : Value) = .bool true from Eq.symm (by clear h hi; simp_all [dcB] <;> first | omega | (rw [Bool.eq_iff_iff]; simp; done) | (rw [Bool.eq_iff_iff]; simp; omega))]; exact h.to 0 _)
   ·have d18 : (wordB xs[k].name) = true := cd_ c18
    refine au [0,0,0,0,0,0] h ?_; intro a w h
    have l_H_H17 : LE H H17 := leHL0.trans le17
    have hj22 : k < xs.length := by first | assumption | omega | (simp; done) | (simp; omega)
    obtain ⟨g22, o22, e22, hv22, hc22⟩ := CS.get (CS.up hx l_H_H17) hj22
    refine iaE sli47 sz88 rfl hj22 e22 h fun a w h => ?_
    refine fa fl88_1 (r := o22 + k * 3 + 1) h fun a w h => ?_
    refine ldH t1_9 (hc22 1 _ rfl) h fun a w h => ?_
    refine cl bod75 (WordR_ok xs[k].label E H17 _ (by first | assumption | omega)) h (fun r25 H25 L25 a w le25 R h => ?_)
    obtain ⟨rfl, rfl⟩ := R
    refine au [7,1,5,0] h ?_; intro a w h
    refine h.spl (fun c27 h => ?_) (fun c27 h => ?_)
    ·have d27 : (wordB xs[k].label) = false := cd_ c27
     refine au [0,0,0,1,0,1,0,1,0,1,0,1,0,1,4,8,0,0,0,1,0,1,0,1,0,1,0,1,0,1,0,1,4,8,0,3] h ?_; intro a w h
     have l_HL0_H25 : LE HL0 H25 := le17.trans le25
     have h := h.less l_HL0_H25
     exact (by show S _ _ _ _ _ _ _ _; rw [show (.bool (!(wordB xs[k].name)) : Value) = .bool false from Eq.symm (by first | ((try rw [c18]) <;> (try rw [c27]) <;> (try simp only [Bool.true_or, Bool.or_true, Bool.false_or, Bool.or_false, Bool.true_and, Bool.and_true, Bool.false_and, Bool.and_false, Bool.not_true, Bool.not_false, cond_true, cond_false]); done) | (exfalso; omega)), show (.bool ((!(wordB xs[k].name)) || (!(wordB xs[k].label))) : Value) = .bool true from Eq.symm (by first | ((try rw [c18]) <;> (try rw [c27]) <;> (try simp only [Bool.true_or, Bool.or_true, Bool.false_or, Bool.or_false, Bool.true_and, Bool.and_true, Bool.false_and, Bool.and_false, Bool.not_true, Bool.not_false, cond_true, cond_false]); done) | (exfalso; omega)), show (.bool ((!(wordB xs[k].name)) || ((!(wordB xs[k].label)) || (decide (xs[k].n < 0)))) : Value) = .bool true from Eq.symm (by first | ((try rw [c18]) <;> (try rw [c27]) <;> (try simp only [Bool.true_or, Bool.or_true, Bool.false_or, Bool.or_false, Bool.true_and, Bool.and_true, Bool.false_and, Bool.and_false, Bool.not_true, Bool.not_false, cond_true, cond_false]); done) | (exfalso; omega)), show (.bool (!dcB most xs[k]) : Value) = .bool true from Eq.symm (by clear h hi; simp_all [dcB] <;> first | omega | (rw [Bool.eq_iff_iff]; simp; done) | (rw [Bool.eq_iff_iff]; simp; omega))]; exact h.to 0 _)
    ·have d27 : (wordB xs[k].label) = true := cd_ c27
     refine au [0,0,0,0,0,0] h ?_; intro a w h
     have l_H_H25 : LE H H25 := (leHL0.trans le17).trans le25
     have hj31 : k < xs.length := by first | assumption | omega | (simp; done) | (simp; omega)
     obtain ⟨g31, o31, e31, hv31, hc31⟩ := CS.get (CS.up hx l_H_H25) hj31
     refine iaE sli47 sz88 rfl hj31 e31 h fun a w h => ?_
     refine fa fl88_2 (r := o31 + k * 3 + 2) h fun a w h => ?_
     refine ldH t1_2 (hc31 2 _ rfl) h fun a w h => ?_
     refine au [6,4,5,0] h ?_; intro a w h
     refine h.spl (fun c35 h => ?_) (fun c35 h => ?_)
     ·have d35 : xs[k].n < 0 := cd_ c35
      refine au [0,0,0,1,0,1,0,1,0,1,0,1,0,1,0,1,4,8,0,3] h ?_; intro a w h
      have l_HL0_H25 : LE HL0 H25 := le17.trans le25
      have h := h.less l_HL0_H25
      exact (by show S _ _ _ _ _ _ _ _; rw [show (.bool (!(wordB xs[k].name)) : Value) = .bool false from Eq.symm (by first | ((try rw [c18]) <;> (try rw [c27]) <;> (try rw [c35]) <;> (try simp only [Bool.true_or, Bool.or_true, Bool.false_or, Bool.or_false, Bool.true_and, Bool.and_true, Bool.false_and, Bool.and_false, Bool.not_true, Bool.not_false, cond_true, cond_false]); done) | (exfalso; omega)), show (.bool ((!(wordB xs[k].name)) || (!(wordB xs[k].label))) : Value) = .bool false from Eq.symm (by first | ((try rw [c18]) <;> (try rw [c27]) <;> (try rw [c35]) <;> (try simp only [Bool.true_or, Bool.or_true, Bool.false_or, Bool.or_false, Bool.true_and, Bool.and_true, Bool.false_and, Bool.and_false, Bool.not_true, Bool.not_false, cond_true, cond_false]); done) | (exfalso; omega)), show (.bool ((!(wordB xs[k].name)) || ((!(wordB xs[k].label)) || (decide (xs[k].n < 0)))) : Value) = .bool true from Eq.symm (by first | ((try rw [c18]) <;> (try rw [c27]) <;> (try rw [c35]) <;> (try simp only [Bool.true_or, Bool.or_true, Bool.false_or, Bool.or_false, Bool.true_and, Bool.and_true, Bool.false_and, Bool.and_false, Bool.not_true, Bool.not_false, cond_true, cond_false]); done) | (exfalso; omega)), show (.bool (!dcB most xs[k]) : Value) = .bool true from Eq.symm (by clear h hi; simp_all [dcB] <;> first | omega | (rw [Bool.eq_iff_iff]; simp; done) | (rw [Bool.eq_iff_iff]; simp; omega))]; exact h.to 0 _)
     ·have d35 : 0 ≤ xs[k].n := cd_ c35
      refine au [0,0,0,0,0,0] h ?_; intro a w h
      have hj39 : k < xs.length := by first | assumption | omega | (simp; done) | (simp; omega)
      obtain ⟨g39, o39, e39, hv39, hc39⟩ := CS.get (CS.up hx l_H_H25) hj39
      refine iaE sli47 sz88 rfl hj39 e39 h fun a w h => ?_
      refine fa fl88_2 (r := o39 + k * 3 + 2) h fun a w h => ?_
      refine ldH t1_2 (hc39 2 _ rfl) h fun a w h => ?_
      refine au [0,0,6,7,5,0,0,3] h ?_; intro a w h
      have l_HL0_H25 : LE HL0 H25 := le17.trans le25
      have h := h.less l_HL0_H25
      exact (by show S _ _ _ _ _ _ _ _; rw [show (.bool (!(wordB xs[k].name)) : Value) = .bool false from Eq.symm (by first | ((try rw [c18]) <;> (try rw [c27]) <;> (try rw [c35]) <;> (try simp only [Bool.true_or, Bool.or_true, Bool.false_or, Bool.or_false, Bool.true_and, Bool.and_true, Bool.false_and, Bool.and_false, Bool.not_true, Bool.not_false, cond_true, cond_false]); done) | (exfalso; omega)), show (.bool ((!(wordB xs[k].name)) || (!(wordB xs[k].label))) : Value) = .bool false from Eq.symm (by first | ((try rw [c18]) <;> (try rw [c27]) <;> (try rw [c35]) <;> (try simp only [Bool.true_or, Bool.or_true, Bool.false_or, Bool.or_false, Bool.true_and, Bool.and_true, Bool.false_and, Bool.and_false, Bool.not_true, Bool.not_false, cond_true, cond_false]); done) | (exfalso; omega)), show (.bool ((!(wordB xs[k].name)) || ((!(wordB xs[k].label)) || (decide (xs[k].n < 0)))) : Value) = .bool false from Eq.symm (by first | ((try rw [c18]) <;> (try rw [c27]) <;> (try rw [c35]) <;> (try simp only [Bool.true_or, Bool.or_true, Bool.false_or, Bool.or_false, Bool.true_and, Bool.and_true, Bool.false_and, Bool.and_false, Bool.not_true, Bool.not_false, cond_true, cond_false]); done) | (exfalso; omega)), show (.bool (!dcB most xs[k]) : Value) = .bool (decide (most ≤ xs[k].n)) from Eq.symm (by clear h hi; simp_all [dcB] <;> first | omega | (rw [Bool.eq_iff_iff]; simp; done) | (rw [Bool.eq_iff_iff]; simp; omega))]; exact h.to 0 _)
  ·rintro a w h
   refine cdB h (fun c44 => ?_) (fun c44 => ?_)
   ·refine au [1,2,0,6,0,3,1,3,1,6,1,4,1,4,1,6,1,4] h ?_; intro a w h
    refine fin1 4 0 h leHL0 ?_
    exact ⟨by rw [declsB_no d9 (by simpa using c44)], rfl⟩
   ·refine au [1,8,1,7,1,0,0,5,0,0] h ?_; intro a w h
    refine inc ?_ h fun a w h => ?_
    ·omega
    refine au [0,6,0,3] h ?_; intro a w h
    exact ⟨((k + 1), HL0), ⟨⟨by omega, leHL0, fun j hj h0 => by rcases upto h0 with h0 | rfl; exact hi j hj h0; simpa using c44⟩, h.to 0 _⟩, by show _ - (k + 1) < _ - k; omega⟩
 ·have d9 : xs.length ≤ k := cd_ c9
  refine au [2,5,2,2,2,2,2,3,1,0,1,2,0,0,6,0,6,5,0,6,0,3,1,3] h ?_; intro a w h
  refine fin1 4 0 h leHL0 ?_
  exact ⟨by rw [declsB_yes fun j hj => hi j hj (by omega)], rfl⟩
theorem short_ok (p : Pg) (v : Value) (E : World) (H : GH) (L : List It) (hv : VP H v p) (hM : Mild p) : Ok Tryz.prog 59 #[v] E H L fun r H' L' => r = .bool p.fits ∧ L = L' := by
 obtain ⟨Ap0, cp0, Ap1, cp1, Ap2, cp2, Ap3, cp3, rfl, hp0, hp1, hp2, hp3⟩ := hv
 have hM1 := hM.li; have hM2 := hM.lc; have hM3 := hM.lf; have hM4 := hM.i; have hM5 := hM.c; have hM6 := hM.b1; have hM7 := hM.b2
 refine enter (N := 58) [(0, _)] Tryz.func59 rfl rfl rfl rfl fun a w h => ?_
 refine au [1,2] h ?_
 refine bxA h fun g1 a w h => ?_
 refine au [0,6,0,3,0,4,1,2,0,6,0,3,1,5] h ?_; intro a w h
 refine lp (β := Nat × GH) (fun x a w => match x with | (k, HL0) => ((k ≤ p.defs.length) ∧ (LE H HL0) ∧ (∀ j (hj : j < p.defs.length), j < k → p.defs[j].wrong = false)) ∧ S E HL0 58 [] [(1, .pointer (some ⟨g1, 0, none⟩)), (3, .int .i64 (k : Int))] (.obj g1 (.cells #[.slice Ap0 p.inputs.length cp0, .slice Ap1 p.cells.length cp1, .slice Ap2 p.defs.length cp2, .int .i64 p.body.kind, str p.body.name, .int .i64 p.body.n, .slice Ap3 p.body.kids.length cp3] 50 (0, 0)) :: L) a w)
  (fun x => match x with | (k, HL0) => p.defs.length - k) (0, H) ⟨⟨Nat.zero_le _, LE.rfl, fun _ _ h => absurd h (by omega)⟩, h.to 0 _⟩ ?_
 rintro ⟨k, HL0⟩ a w ⟨⟨hk, leHL0, hi⟩, h⟩
 refine au [0,4,1,2,0,0,0,7,0,8,6,0,6,4,0,3] h ?_; intro a w h
 refine cdB h (fun c8 => ?_) (fun c8 => ?_)
 ·have d8 : k < p.defs.length := cd_ c8
  refine au [1,8,1,0,0,4,1,5] h ?_
  refine sqc (fun a w => S E HL0 58 [] [(1, .pointer (some ⟨g1, 0, none⟩)), (3, .int .i64 (k : Int)), (4, .int .i64 (k : Int)), (5, .pointer (some ⟨g1, 2, none⟩)), (6, .slice Ap2 p.defs.length cp2), (7, .int .i64 (p.defs.length : Int)), (8, .bool (decide (((k : Int) : Int) < (p.defs.length : Int)))), (11, .pointer (some ⟨g1, 2, none⟩)), (12, .slice Ap2 p.defs.length cp2), (13, .int .i64 (k : Int)), (16, str p.defs[k].name), (17, .bool (wordB p.defs[k].name)), (18, .bool (!(wordB p.defs[k].name))), (19, .bool (!(wordB p.defs[k].name))), (28, .bool ((!(wordB p.defs[k].name)) || (!p.defs[k].t.right))), (29, .bool ((!(wordB p.defs[k].name)) || (!p.defs[k].t.right))), (38, .bool (p.defs[k].wrong))] (.obj g1 (.cells #[.slice Ap0 p.inputs.length cp0, .slice Ap1 p.cells.length cp1, .slice Ap2 p.defs.length cp2, .int .i64 p.body.kind, str p.body.name, .int .i64 p.body.n, .slice Ap3 p.body.kids.length cp3] 50 (0, 0)) :: L) a w) ?_ ?_
  ·refine rg0 ?_
   obtain ⟨hf1, hf2, hf3⟩ := hM.f _ (List.getElem_mem d8)
   refine au [0,7,0,8,0,0] h ?_; intro a w h
   have hj14 : k < p.defs.length := by first | assumption | omega | (simp; done) | (simp; omega)
   obtain ⟨g14, o14, A14_0, c14_0, e14, hv14, hc14⟩ := FS.get (FS.up hp2 leHL0) hj14
   obtain ⟨_, _, q14, hk14_0⟩ := hv14; cases q14
   refine iaE sli48 sz86 rfl hj14 e14 h fun a w h => ?_
   refine fa fl86_0 (r := o14 + k * 5 + 0) h fun a w h => ?_
   refine ldH t1_9 (hc14 0 _ rfl) h fun a w h => ?_
   refine cl bod75 (WordR_ok p.defs[k].name E HL0 _ (by first | assumption | omega)) h (fun r17 H17 L17 a w le17 R h => ?_)
   obtain ⟨rfl, rfl⟩ := R
   refine nt h fun a w h => ?_
   refine h.spl (fun c18 h => ?_) (fun c18 h => ?_)
   ·have d18 : (wordB p.defs[k].name) = false := cd_ c18
    refine au [0,0,0,1,0,1,0,1,0,1,0,1,0,1,0,1,0,1,4,8,0,0,0,1,0,1,0,1,0,1,0,1,0,1,0,1,0,1,4,8,0,3] h ?_; intro a w h
    have h := h.less le17
    exact (by show S _ _ _ _ _ _ _ _; rw [show (.bool (!(wordB p.defs[k].name)) : Value) = .bool true from Eq.symm (by first | ((try rw [c18]) <;> (try simp only [Bool.true_or, Bool.or_true, Bool.false_or, Bool.or_false, Bool.true_and, Bool.and_true, Bool.false_and, Bool.and_false, Bool.not_true, Bool.not_false, cond_true, cond_false]); done) | (exfalso; omega)), show (.bool ((!(wordB p.defs[k].name)) || (!p.defs[k].t.right)) : Value) = .bool true from Eq.symm (by first | ((try rw [c18]) <;> (try simp only [Bool.true_or, Bool.or_true, Bool.false_or, Bool.or_false, Bool.true_and, Bool.and_true, Bool.false_and, Bool.and_false, Bool.not_true, Bool.not_false, cond_true, cond_false]); done) | (exfalso; omega)), show (.bool (p.defs[k].wrong) : Value) = .bool true from Eq.symm (by clear h hi; simp_all [Df.wrong])]; exact h.to 0 _)
   ·have d18 : (wordB p.defs[k].name) = true := cd_ c18
    refine au [0,0,0,7,0,8,0,0] h ?_; intro a w h
    have l_H_H17 : LE H H17 := leHL0.trans le17
    have hj23 : k < p.defs.length := by first | assumption | omega | (simp; done) | (simp; omega)
    obtain ⟨g23, o23, A23_0, c23_0, e23, hv23, hc23⟩ := FS.get (FS.up hp2 l_H_H17) hj23
    obtain ⟨_, _, q23, hk23_0⟩ := hv23; cases q23
    refine iaE sli48 sz86 rfl hj23 e23 h fun a w h => ?_
    refine fa fl86_1 (r := o23 + k * 5 + 1) h fun a w h => ?_
    refine ldHN (l := [_, _, _, _]) tN35 rfl (sbL 1 4 hc23) h fun a w h => ?_
    refine cl bod76 (RightR_ok p.defs[k].t _ E H17 _ ⟨A23_0, c23_0, rfl, hk23_0⟩ (by first | assumption | omega) (by first | assumption | omega)) h (fun r26 H26 L26 a w le26 R h => ?_)
    obtain ⟨rfl, rfl⟩ := R
    refine au [7,1,5,0] h ?_; intro a w h
    refine h.spl (fun c28 h => ?_) (fun c28 h => ?_)
    ·have d28 : p.defs[k].t.right = false := cd_ c28
     refine au [0,0,0,1,0,1,0,1,0,1,0,1,0,1,0,1,0,1,4,8,0,3] h ?_; intro a w h
     have l_HL0_H26 : LE HL0 H26 := le17.trans le26
     have h := h.less l_HL0_H26
     exact (by show S _ _ _ _ _ _ _ _; rw [show (.bool (!(wordB p.defs[k].name)) : Value) = .bool false from Eq.symm (by first | ((try rw [c18]) <;> (try rw [c28]) <;> (try simp only [Bool.true_or, Bool.or_true, Bool.false_or, Bool.or_false, Bool.true_and, Bool.and_true, Bool.false_and, Bool.and_false, Bool.not_true, Bool.not_false, cond_true, cond_false]); done) | (exfalso; omega)), show (.bool ((!(wordB p.defs[k].name)) || (!p.defs[k].t.right)) : Value) = .bool true from Eq.symm (by first | ((try rw [c18]) <;> (try rw [c28]) <;> (try simp only [Bool.true_or, Bool.or_true, Bool.false_or, Bool.or_false, Bool.true_and, Bool.and_true, Bool.false_and, Bool.and_false, Bool.not_true, Bool.not_false, cond_true, cond_false]); done) | (exfalso; omega)), show (.bool (p.defs[k].wrong) : Value) = .bool true from Eq.symm (by clear h hi; simp_all [Df.wrong])]; exact h.to 0 _)
    ·have d28 : p.defs[k].t.right = true := cd_ c28
     refine au [0,0,0,7,0,8,0,0] h ?_; intro a w h
     have l_H_H26 : LE H H26 := (leHL0.trans le17).trans le26
     have hj33 : k < p.defs.length := by first | assumption | omega | (simp; done) | (simp; omega)
     obtain ⟨g33, o33, A33_0, c33_0, e33, hv33, hc33⟩ := FS.get (FS.up hp2 l_H_H26) hj33
     obtain ⟨_, _, q33, hk33_0⟩ := hv33; cases q33
     refine iaE sli48 sz86 rfl hj33 e33 h fun a w h => ?_
     refine fa fl86_1 (r := o33 + k * 5 + 1) h fun a w h => ?_
     refine fa fl35_0 (r := o33 + k * 5 + 1) h fun a w h => ?_
     refine ldH t1_3 (hc33 1 _ rfl) h fun a w h => ?_
     refine au [6,3,5,0,0,3] h ?_; intro a w h
     have l_HL0_H26 : LE HL0 H26 := le17.trans le26
     have h := h.less l_HL0_H26
     exact (by show S _ _ _ _ _ _ _ _; rw [show (.bool (!(wordB p.defs[k].name)) : Value) = .bool false from Eq.symm (by first | ((try rw [c18]) <;> (try rw [c28]) <;> (try simp only [Bool.true_or, Bool.or_true, Bool.false_or, Bool.or_false, Bool.true_and, Bool.and_true, Bool.false_and, Bool.and_false, Bool.not_true, Bool.not_false, cond_true, cond_false]); done) | (exfalso; omega)), show (.bool ((!(wordB p.defs[k].name)) || (!p.defs[k].t.right)) : Value) = .bool false from Eq.symm (by first | ((try rw [c18]) <;> (try rw [c28]) <;> (try simp only [Bool.true_or, Bool.or_true, Bool.false_or, Bool.or_false, Bool.true_and, Bool.and_true, Bool.false_and, Bool.and_false, Bool.not_true, Bool.not_false, cond_true, cond_false]); done) | (exfalso; omega)), show (.bool (p.defs[k].wrong) : Value) = .bool ((p.defs[k].t.kind : Int) != 3) from Eq.symm (by clear h hi; simp_all [Df.wrong])]; exact h.to 0 _)
  ·rintro a w h
   refine cdB h (fun c38 => ?_) (fun c38 => ?_)
   ·refine au [1,2,0,6,0,3,1,3,1,6,1,4,1,4,1,6,1,4] h ?_; intro a w h
    refine fin1 2 1 h leHL0 ?_
    exact ⟨by rw [short_no d8 c38], rfl⟩
   ·refine au [1,8,1,7,1,0,0,5,0,0] h ?_; intro a w h
    refine inc ?_ h fun a w h => ?_
    ·omega
    refine au [0,6,0,3] h ?_; intro a w h
    exact ⟨((k + 1), HL0), ⟨⟨by omega, leHL0, fun j hj h0 => by rcases upto h0 with h0 | rfl; exact hi j hj h0; simpa using c38⟩, h.to 0 _⟩, by show _ - (k + 1) < _ - k; omega⟩
 ·have d8 : p.defs.length ≤ k := cd_ c8
  refine au [2,5,2,2,2,2,2,3,1,0,1,2,0,7,0,8] h ?_; intro a w h
  refine cl bod77 (decls_ok p.inputs 1 _ _ E HL0 _ (CS.up hp0 leHL0) (by omega) (by assumption)) h (fun r41 H41 L41 a w le41 R h => ?_)
  obtain ⟨rfl, rfl⟩ := R
  refine h.spl (fun c41 h => ?_) (fun c41 h => ?_)
  ·refine au [0,0,0,7,0,8] h ?_; intro a w h
   have l_H_H41 : LE H H41 := leHL0.trans le41
   refine cl bod77 (decls_ok p.cells 2147483648 _ _ E H41 _ (CS.up hp1 l_H_H41) (by omega) (by assumption)) h (fun r45 H45 L45 a w le45 R h => ?_)
   obtain ⟨rfl, rfl⟩ := R
   refine pkT h fun a w h => ?_
   refine h.spl (fun c46 h => ?_) (fun c46 h => ?_)
   ·refine au [0,0,0,7,0,8,6,0,6,5,4,8] h ?_; intro a w h
    refine h.spl (fun c52 h => ?_) (fun c52 h => ?_)
    ·have d52 : p.defs.length ≤ 32 := cd_ c52
     refine au [0,0,0,7] h ?_; intro a w h
     refine ldN (l := [_, _, _, _]) 0 tN35 h fun a w h => ?_
     have l_H_H45 : LE H H45 := (leHL0.trans le41).trans le45
     refine cl bod76 (RightR_ok p.body _ E H45 _ ⟨Ap3, cp3, rfl, (KS.up hp3 l_H_H45)⟩ (by first | assumption | omega) (by first | assumption | omega)) h (fun r56 H56 L56 a w le56 R h => ?_)
     obtain ⟨rfl, rfl⟩ := R
     refine au [4,8,0,6,0,3,1,3] h ?_; intro a w h
     have l_H_H56 : LE H H56 := ((leHL0.trans le41).trans le45).trans le56
     refine fin1 2 1 h l_H_H56 ?_
     exact ⟨by rw [short_yes fun j hj => hi j hj (by omega)]; simp only [*, Bool.true_and, Bool.false_and, Bool.and_true], rfl⟩
    ·have d52 : 32 < p.defs.length := cd_ c52
     refine au [0,0,0,1,0,1,0,1,5,0,0,6,0,3,1,3] h ?_; intro a w h
     have l_H_H45 : LE H H45 := (leHL0.trans le41).trans le45
     refine fin1 2 1 h l_H_H45 ?_
     exact ⟨by rw [short_yes fun j hj => hi j hj (by omega)]; simp only [*, Bool.true_and, Bool.false_and, Bool.and_true], rfl⟩
   ·refine au [0,0,0,1,0,1,0,1,0,1,5,0,0,0,0,1,0,1,0,1,5,0,0,6,0,3,1,3] h ?_; intro a w h
    have l_H_H45 : LE H H45 := (leHL0.trans le41).trans le45
    refine fin1 2 1 h l_H_H45 ?_
    exact ⟨by rw [short_yes fun j hj => hi j hj (by omega)]; simp only [*, Bool.true_and, Bool.false_and, Bool.and_true], rfl⟩
  ·refine au [0,0,0,1,0,1,0,1,5,0,0,0,0,1,0,1,0,1,0,1,5,0,0,0,0,1,0,1,0,1,5,0,0,6,0,3,1,3] h ?_; intro a w h
   have l_H_H41 : LE H H41 := leHL0.trans le41
   refine fin1 2 1 h l_H_H41 ?_
   exact ⟨by rw [short_yes fun j hj => hi j hj (by omega)]; simp only [*, Bool.true_and, Bool.false_and, Bool.and_true], rfl⟩
theorem sameDecls_ok (xs ys : List Dc) (A A' : Option Addr) (c c' : Nat) (E : World) (H : GH) (L : List It) (hx : CS H A c xs) (hy : CS H A' c' ys) (hb : xs.length < 1000000000000) : Ok Tryz.prog 36 #[.slice A xs.length c, .slice A' ys.length c'] E H L fun r H' L' => r = .bool (decide (xs = ys)) ∧ H = H' ∧ L = L' := by
 refine enter (N := 26) [(0, _), (1, _)] Tryz.func36 rfl rfl rfl rfl fun a w h => ?_
 refine au [1,2,0,6,0,3,0,4,1,2,0,0,6,0,0,0,6,0,6,3,0,3] h ?_; intro a w h
 refine cdB h (fun c10 => ?_) (fun c10 => ?_)
 ·have d10 : xs.length ≠ ys.length := cd_ c10
  refine au [1,2,0,6,0,3,1,3,1,4] h ?_; intro a w h
  refine fin1 4 0 h LE.rfl ?_
  exact ⟨by rw [eqDc_len d10], rfl, rfl⟩
 ·have d10 : xs.length = ys.length := cd_ c10
  refine au [1,8,1,0,0,4,1,2,0,6,0,3,1,5] h ?_; intro a w h
  refine lp (β := Nat) (fun k a w => ((k ≤ xs.length) ∧ (∀ j (h1 : j < xs.length) (h2 : j < ys.length), j < k → xs[j] = ys[j])) ∧ S E H 26 [] [(0, .slice A xs.length c), (1, .slice A' ys.length c'), (5, .int .i64 (k : Int))] (L) a w)
   (fun k => xs.length - k) 0 ⟨⟨Nat.zero_le _, fun _ _ _ h => absurd h (by omega)⟩, h.to 0 _⟩ ?_
  rintro k a w ⟨⟨hk, hi⟩, h⟩
  refine au [0,4,1,2,0,0,0,0,6,0,6,4,0,3] h ?_; intro a w h
  refine cdB h (fun c14 => ?_) (fun c14 => ?_)
  ·have d14 : k < xs.length := cd_ c14
   refine au [1,8,1,0,0,4,1,5,0,4] h ?_
   refine rgd [] [] [] [3, 7] 1 mix (by kernel_rfl) h (fun a w h => ?_)
   refine au [0,0,0,0] h ?_; intro a w h
   have hj19 : k < xs.length := by first | assumption | omega | (simp; done) | (simp; omega)
   obtain ⟨g19, o19, e19, hv19, hc19⟩ := CS.get hx hj19
   refine iaE sli47 sz88 rfl hj19 e19 h fun a w h => ?_
   refine ldHND tN88 rfl hc19 h fun a w h => ?_
   refine au [0,0,0,0] h ?_; intro a w h
   have hj23 : k < ys.length := by first | assumption | omega | (simp; done) | (simp; omega)
   obtain ⟨g23, o23, e23, hv23, hc23⟩ := CS.get hy hj23
   refine iaE sli47 sz88 rfl hj23 e23 h fun a w h => ?_
   refine ldHND tN88 rfl hc23 h fun a w h => ?_
   refine nea (b := Dc.eqb xs[k] ys[k]) flt88 h fun a w h => ?_
   refine au [0,3] h ?_
   refine cdB h (fun c25 => ?_) (fun c25 => ?_)
   ·have d25 : xs[k] ≠ ys[k] := cd_ c25
    refine au [1,2,0,6,0,3,1,3,1,6,1,4,1,4,1,6,1,4] h ?_; intro a w h
    refine fin1 4 0 h LE.rfl ?_
    exact ⟨by rw [eqDc_at hj19 hj23 (by simpa using c25)], rfl, rfl⟩
   ·have d25 : xs[k] = ys[k] := cd_ c25
    refine au [1,8,1,7,1,0,0,5,0,0] h ?_; intro a w h
    refine inc ?_ h fun a w h => ?_
    ·omega
    refine au [0,6,0,3] h ?_; intro a w h
    exact ⟨(k + 1), ⟨⟨by omega, fun j h1 h2 h0 => by rcases upto h0 with h0 | rfl; exact hi j h1 h2 h0; simpa using c25⟩, h.to 0 _⟩, by show _ - (k + 1) < _ - k; omega⟩
  ·have d14 : xs.length ≤ k := cd_ c14
   refine au [2,5,2,2,2,2,2,3,1,0,1,2,0,6,0,3,1,3] h ?_; intro a w h
   refine fin1 4 0 h LE.rfl ?_
   exact ⟨by rw [eqDc_yes d10 fun j h1 h2 => hi j h1 h2 (by omega)], rfl, rfl⟩
end Go.Proofs.YtdabamobjciidaaGreatDoor
namespace Go.Proofs.YtdabamobjciidaaGreatDoor.X
open Go Go.RowKit
theorem wu64 {n : Int} (h0 : 0 ≤ n) (h1 : n < 18446744073709551616) : IntKind.u64.wrap n = n := by
 simp [IntKind.wrap, IntKind.bits, IntKind.signed]; omega
section
variable {P : Program} {ops : Array Oper} {Q : Exit → Act → World → Prop} {γ : Gd P ops Q} {rest : List Oper} {o : Oper} {E w : World} {H : GH} {N : Nat} {D : List Deferred} {F : List (Nat × Value)} {L : List It} {a : Act} {d g : Nat} {t u e : TypeId} {x y : Operand}
theorem run_byte {w : World} {n : Nat} (hc : w.cell? ⟨g, 0, none⟩ = some (.int .u8 (n : Int))) : (Conv.bytesToString (.slice (some ⟨g, 0, none⟩) 1 1)).run P w = .ok (.string ⟨#[UInt8.ofNat n]⟩) w := by
 have h1 := run_loadCells_list (P := P) w ⟨g, 0, none⟩ [.int .u8 (n : Int)] (fun j v hv => by
   cases j with
   | zero => simp at hv; subst hv; simpa [Addr.add] using hc
   | succ j => simp at hv)
 unfold Conv.bytesToString
 simp only [List.length_cons, List.length_nil, Nat.zero_add] at h1
 simp [Sem.run_bind, h1, Result.andThen_ok, ByteArray.push]
theorem cvb (k0 : Nat) {n : Nat} {ty : TypeId} {z : Nat × Nat} (hs : sliT P t = some e) (hi : intT P e = some .u8) (hu : strT P u = true) (h : S E H N D F L a w)
   (k : ∀ a w, S E H N D ((d, .string ⟨([UInt8.ofNat n] : List UInt8).toArray⟩) :: F) L a w → (gl P ops Q).G rest a w)
   (ho : o.op = .convert t u x := by rfl) (hx : ev F x = some (.slice (some ⟨g, 0, none⟩) 1 1) := by rfl) (hk : L[k0]? = some (.obj g (.cells #[.int .u8 (n : Int)] ty z)) := by rfl)
   (hw : wn ops F o = some true := by rfl) (hd : o.dst = some d := by rfl) (hN : Nat.blt d N = true := by rfl) : (gl P ops Q).G (o :: rest) a w := by
 have hs' : P.underlying t = some (.slice e) := by
   unfold sliT at hs; split at hs
   · cases hs; assumption
   · cases hs
 refine rdv h rfl trivial (fun w' e' => ?_) k hw hd hN
 subst e'
 have hc : w'.cell? ⟨g, 0, none⟩ = some (.int .u8 (n : Int)) := by rw [cell_own (item_at h.st.sees hk)]; rfl
 simp [execOp, ho, h.ag.ev hx, convert, run_underlying hs', run_underlying (und_str hu), run_underlying (und_int hi), run_byte hc]
theorem ngr {kd : IntKind} {n : Int} (r : Int) (hr : kd.wrap (0 - n) = r) (h : S E H N D F L a w) (k : ∀ a w, S E H N D ((d, .int kd r) :: F) L a w → γ.G rest a w)
   (ho : o.op = .unOp .neg t x := by rfl) (hx : ev F x = some (.int kd n) := by rfl)
   (hw : wn ops F o = some true := by rfl) (hd : o.dst = some d := by rfl) (hN : Nat.blt d N = true := by rfl) : γ.G (o :: rest) a w :=
 pv h (fun w => by subst hr; simp [execOp, ho, h.ag.ev hx, Op.unary, Op.intArith]) k hw hd hN
theorem lsb {s u' : ByteArray} (h : S E H N D F L a w) (k : ∀ b a w, S E H N D ((d, .bool b) :: F) L a w → γ.G rest a w)
   (ho : o.op = .binOp .lss t x y u := by rfl) (hx : ev F x = some (.string s) := by rfl) (hy : ev F y = some (.string u') := by rfl)
   (hw : wn ops F o = some true := by rfl) (hd : o.dst = some d := by rfl) (hN : Nat.blt d N = true := by rfl) : γ.G (o :: rest) a w :=
 bo (run_str _ _ (fun w => by simp [binOp, Op.stringOp])) h (k (Op.bytesLess s.toList u'.toList)) ho hx hy hw hd hN
theorem RS.back {α : Type} {R : GH → List Value → α → Prop} {sz n c lo : Nat} {A : Option Addr} {xs : List α} (h : RS R sz H (.slice A n c) xs) (hl : lo ≤ xs.length) : RS R sz H (.slice (if c = lo then A else A.map (·.add (lo * sz))) (xs.drop lo).length (c - lo)) (xs.drop lo) := by
 obtain ⟨A', c', e, h1, h2⟩ := h
 cases e
 refine ⟨_, _, rfl, by rw [List.length_drop]; omega, fun j x hx => ?_⟩
 rw [List.getElem?_drop] at hx
 obtain ⟨g, off, cs, e1, e2, e3, e4⟩ := h2 _ _ hx
 have hlt := (List.getElem?_eq_some_iff.1 hx).1
 subst e1
 refine ⟨g, off + lo * sz, cs, ?_, e2, e3, fun i u hu => ?_⟩
 · rw [if_neg (by omega)]; simp [Addr.add]
 · have := e4 i u hu
   rw [show off + lo * sz + j * sz + i = off + (lo + j) * sz + i by rw [Nat.add_mul]; omega]
   exact this
theorem slb {α : Type} {R : GH → List Value → α → Prop} {sz c : Nat} {A : Option Addr} {xs : List α} {H0 : GH} (lo : Nat) (hs : sliT P t = some e) (hz : szT P e sz = true) (hr : RS R sz H0 (.slice A xs.length c) xs) (h1 : lo ≤ xs.length) (h : S E H N D F L a w)
   (k : ∀ A' c' a w, RS R sz H0 (.slice A' (xs.drop lo).length c') (xs.drop lo) → S E H N D ((d, .slice A' (xs.drop lo).length c') :: F) L a w → γ.G rest a w)
   (ho : o.op = .slice t x (some y) none none := by rfl) (hx : ev F x = some (.slice A xs.length c) := by rfl) (hy : ev F y = some (.int .i64 (lo : Int)) := by rfl)
   (hw : wn ops F o = some true := by rfl) (hd : o.dst = some d := by rfl) (hN : Nat.blt d N = true := by rfl) : γ.G (o :: rest) a w := by
 have hc : xs.length ≤ c := by obtain ⟨_, _, e, h1, _⟩ := hr; cases e; exact h1
 have hb := RS.back hr h1
 refine sl (l := lo) (h' := xs.length) (m := c) hs hz (fun w => by simp [Instr.sliceBounds, h.ag.ev hy, asIntOf, Instr.sliceBound, h1]) h (fun a w h => ?_) ho hx hw hd hN
 rw [List.length_drop] at hb
 exact k _ _ a w (by rw [List.length_drop]; exact hb) (by rw [List.length_drop]; exact h)
end
end Go.Proofs.YtdabamobjciidaaGreatDoor.X
namespace Go.Proofs.YtdabamobjciidaaGreatDoor
open Go X
theorem Digits_ok (n : Int) (E : World) (H : GH) (L : List It) (h0 : 0 ≤ n) (h1 : n < 4611686018427387904) : Ok Tryz.prog 60 #[.int .i64 n] E H L fun r H' L' => r = str (Lib.itoa n) ∧ H = H' ∧ L = L' := by
 obtain ⟨m, rfl⟩ : ∃ m : Nat, n = (m : Int) := ⟨n.toNat, by omega⟩
 refine enter (N := 23) [(0, _)] Tryz.func60 rfl rfl rfl rfl fun a w h => ?_
 refine au [1,2,0,6,0,2,0,6,0,3,0,4,1,5] h ?_; intro a w h
 refine lp (β := Nat × Bs) (fun x a w => match x with | (q, s) => ((Lib.decDigits m = Lib.decDigits q ++ s ∧ 2 * s.length + q ≤ m)) ∧ S E H 23 [] [(0, .int .i64 (q : Int)), (2, str []), (3, str s)] (L) a w)
  (fun x => match x with | (q, s) => q) (m, ([] : Bs)) ⟨⟨by simp, by simp⟩, (by show S _ _ _ _ _ _ _ _; rw [show (str ([] : Bs)) = str [] from Eq.symm (by first | rfl | (simp; done) | (simp; omega) | (congr 1; simp; omega) | (congr 1; omega))]; exact h.to 0 _)⟩ ?_
 rintro ⟨q, s⟩ a w ⟨hi, h⟩
 have hi2 := hi.2
 have hi3 := dec_pre (by omega) hi.1
 refine au [0,4,1,2,0,0,6,6,0,3] h ?_; intro a w h
 refine cdB h (fun c5 => ?_) (fun c5 => ?_)
 ·have d5 : 9 < q := cd_ c5
  refine au [1,8,1,0,1,5,1,2,0,0] h ?_; intro a w h
  refine rm q 10 (by decide) h fun a w h => ?_
  refine adr (m := 48) (n := (((q % 10) : Nat) : Int)) (((48 + (q % 10)) : Nat) : Int) (by rw [w64 (by omega) (by omega)]; omega) h fun a w h => ?_
  refine cv (n := (((48 + (q % 10)) : Nat) : Int)) ((((48 + (q % 10)) : Nat) : Int)) (by first | rfl | exact w64 (by omega) (by omega) | (show IntKind.wrap _ _ = _; simp [IntKind.wrap, IntKind.bits, IntKind.signed]; omega)) it2 it5 h fun a w h => ?_
  refine bsl bs29 h fun g10 a w h => ?_
  refine cvb (n := (48 + (q % 10))) 0 sli29 it5 str9 h fun a w h => ?_
  refine mv h fun a w h => ?_
  refine catB h ?_ fun a w h => ?_
  ·(try simp only [List.length_append, List.length_cons, List.length_nil]); omega
  refine au [0,6,0,3,0,5,0,0] h ?_; intro a w h
  refine qu q 10 (by decide) (w64 (by omega) (by omega)) h fun a w h => ?_
  refine au [0,6,1,1,1,7,1,0] h ?_; intro a w h
  have h := h.del 0
  exact ⟨((q / 10), ([UInt8.ofNat (48 + (q % 10))] ++ s)), ⟨⟨hi.1.trans (dec_step d5 s), by simp; omega⟩, h.to 0 _⟩, by show q / 10 < q; omega⟩
 ·have d5 : q ≤ 9 := cd_ c5
  refine au [2,5,2,2,2,2,2,3,1,0,1,2,0,0] h ?_; intro a w h
  refine adr (m := 48) (n := (q : Int)) (((48 + q) : Nat) : Int) (by rw [w64 (by omega) (by omega)]; omega) h fun a w h => ?_
  refine cv (n := (((48 + q) : Nat) : Int)) ((((48 + q) : Nat) : Int)) (by first | rfl | exact w64 (by omega) (by omega) | (show IntKind.wrap _ _ = _; simp [IntKind.wrap, IntKind.bits, IntKind.signed]; omega)) it2 it5 h fun a w h => ?_
  refine bsl bs29 h fun g19 a w h => ?_
  refine cvb (n := (48 + q)) 0 sli29 it5 str9 h fun a w h => ?_
  refine mv h fun a w h => ?_
  refine catB h ?_ fun a w h => ?_
  ·(try simp only [List.length_append, List.length_cons, List.length_nil]); omega
  refine au [0,6,0,3,1,3] h ?_; intro a w h
  refine fin1 2 1 h LE.rfl ?_
  exact ⟨by rw [itoa_nat, hi.1, dec_last d5], rfl, rfl⟩
theorem digits_ok (m : Nat) (E : World) (H : GH) (L : List It) (h1 : m ≤ 9223372036854775808) : Ok Tryz.prog 52 #[.int .u64 (m : Int)] E H L fun r H' L' => r = str (Lib.decDigits m) ∧ H = H' ∧ L = L' := by
 refine enter (N := 23) [(0, _)] Tryz.func52 rfl rfl rfl rfl fun a w h => ?_
 refine au [1,2,0,6,0,2,0,6,0,3,0,4,1,5] h ?_; intro a w h
 refine lp (β := Nat × Bs) (fun x a w => match x with | (q, s) => ((Lib.decDigits m = Lib.decDigits q ++ s ∧ 2 * s.length + q ≤ m)) ∧ S E H 23 [] [(0, .int .u64 (q : Int)), (2, str []), (3, str s)] (L) a w)
  (fun x => match x with | (q, s) => q) (m, ([] : Bs)) ⟨⟨by simp, by simp⟩, (by show S _ _ _ _ _ _ _ _; rw [show (str ([] : Bs)) = str [] from Eq.symm (by first | rfl | (simp; done) | (simp; omega) | (congr 1; simp; omega) | (congr 1; omega))]; exact h.to 0 _)⟩ ?_
 rintro ⟨q, s⟩ a w ⟨hi, h⟩
 have hi2 := hi.2
 have hi3 := dec_pre (by omega) hi.1
 refine au [0,4,1,2,0,0,6,6,0,3] h ?_; intro a w h
 refine cdB h (fun c5 => ?_) (fun c5 => ?_)
 ·have d5 : 9 < q := cd_ c5
  refine au [1,8,1,0,1,5,1,2,0,0] h ?_; intro a w h
  refine rm q 10 (by decide) h fun a w h => ?_
  refine adr (m := 48) (n := (((q % 10) : Nat) : Int)) (((48 + (q % 10)) : Nat) : Int) (by rw [wu64 (by omega) (by omega)]; omega) h fun a w h => ?_
  refine cv (n := (((48 + (q % 10)) : Nat) : Int)) ((((48 + (q % 10)) : Nat) : Int)) (by first | rfl | exact w64 (by omega) (by omega) | (show IntKind.wrap _ _ = _; simp [IntKind.wrap, IntKind.bits, IntKind.signed]; omega)) it111 it5 h fun a w h => ?_
  refine bsl bs29 h fun g10 a w h => ?_
  refine cvb (n := (48 + (q % 10))) 0 sli29 it5 str9 h fun a w h => ?_
  refine mv h fun a w h => ?_
  refine catB h ?_ fun a w h => ?_
  ·(try simp only [List.length_append, List.length_cons, List.length_nil]); omega
  refine au [0,6,0,3,0,5,0,0] h ?_; intro a w h
  refine qu q 10 (by decide) (wu64 (by omega) (by omega)) h fun a w h => ?_
  refine au [0,6,1,1,1,7,1,0] h ?_; intro a w h
  have h := h.del 0
  exact ⟨((q / 10), ([UInt8.ofNat (48 + (q % 10))] ++ s)), ⟨⟨hi.1.trans (dec_step d5 s), by simp; omega⟩, h.to 0 _⟩, by show q / 10 < q; omega⟩
 ·have d5 : q ≤ 9 := cd_ c5
  refine au [2,5,2,2,2,2,2,3,1,0,1,2,0,0] h ?_; intro a w h
  refine adr (m := 48) (n := (q : Int)) (((48 + q) : Nat) : Int) (by rw [wu64 (by omega) (by omega)]; omega) h fun a w h => ?_
  refine cv (n := (((48 + q) : Nat) : Int)) ((((48 + q) : Nat) : Int)) (by first | rfl | exact w64 (by omega) (by omega) | (show IntKind.wrap _ _ = _; simp [IntKind.wrap, IntKind.bits, IntKind.signed]; omega)) it111 it5 h fun a w h => ?_
  refine bsl bs29 h fun g19 a w h => ?_
  refine cvb (n := (48 + q)) 0 sli29 it5 str9 h fun a w h => ?_
  refine mv h fun a w h => ?_
  refine catB h ?_ fun a w h => ?_
  ·(try simp only [List.length_append, List.length_cons, List.length_nil]); omega
  refine au [0,6,0,3,1,3] h ?_; intro a w h
  refine fin1 2 1 h LE.rfl ?_
  exact ⟨by rw [hi.1, dec_last d5], rfl, rfl⟩
theorem Name7_ok (n : Int) (E : World) (H : GH) (L : List It) (hn : In64 n) : Ok Tryz.prog 40 #[.int .i64 n] E H L fun r H' L' => r = str (Lib.itoa n) ∧ H = H' ∧ L = L' := by
 have hn1 : -9223372036854775808 ≤ n ∧ n ≤ 9223372036854775807 := hn
 refine enter (N := 17) [(0, _)] Tryz.func40 rfl rfl rfl rfl fun a w h => ?_
 refine au [1,2,0,6,0,3,0,4,1,2,0,0,6,4,0,3] h ?_; intro a w h
 refine cdB h (fun c5 => ?_) (fun c5 => ?_)
 ·have d5 : n < 0 := cd_ c5
  refine au [1,2,0,0] h ?_; intro a w h
  refine adr (n + 1) (w64 (by omega) (by omega)) h fun a w h => ?_
  refine ngr (n := n + 1) (-(n + 1)) (by rw [w64 (by omega) (by omega)]; omega) h fun a w h => ?_
  refine cv (n := -(n + 1)) (((n + 1).natAbs : Nat) : Int) (by rw [wu64 (by omega) (by omega)]; omega) it3 it111 h fun a w h => ?_
  refine adr (m := (((n + 1).natAbs : Nat) : Int)) (n := 1) ((((n + 1).natAbs + 1) : Nat) : Int) (by rw [wu64 (by omega) (by omega)]; omega) h fun a w h => ?_
  refine au [0,6,0,2,0,0] h ?_; intro a w h
  refine cl bod52 (digits_ok ((n + 1).natAbs + 1) E H _ (by first | assumption | omega)) h (fun r12 H12 L12 a w le12 R h => ?_)
  obtain ⟨rfl, rfl, rfl⟩ := R
  have hdl := dec_len (m := (n + 1).natAbs + 1) (by omega)
  refine catB h ?_ fun a w h => ?_
  ·(try simp only [List.length_append, List.length_cons, List.length_nil]); omega
  refine au [0,6,0,3,1,3,1,4] h ?_; intro a w h
  refine fin1 2 0 h LE.rfl ?_
  exact ⟨by rw [itoa_neg d5, show (n + 1).natAbs + 1 = n.natAbs by omega], rfl, rfl⟩
 ·have d5 : 0 ≤ n := cd_ c5
  refine au [1,8,1,0,1,2,0,0] h ?_; intro a w h
  refine cv (n := n) ((n.natAbs : Nat) : Int) (by rw [wu64 (by omega) (by omega)]; omega) it3 it111 h fun a w h => ?_
  refine cl bod52 (digits_ok n.natAbs E H _ (by first | assumption | omega)) h (fun r16 H16 L16 a w le16 R h => ?_)
  obtain ⟨rfl, rfl, rfl⟩ := R
  refine au [0,6,0,3,1,3] h ?_; intro a w h
  refine fin1 2 0 h LE.rfl ?_
  exact ⟨by have e := itoa_nat n.natAbs; rw [show ((n.natAbs : Nat) : Int) = n by omega] at e; rw [e], rfl, rfl⟩
theorem names7_ok (p : Pg) (v : Value) (E : World) (H : GH) (L : List It) (hv : VP H v p) (h1 : p.inputs.length < 1000000000000) (h2 : p.cells.length < 1000000000000) : Ok Tryz.prog 33 #[v] E H L fun r H' L' => ∃ A c xs, r = .slice A (p.inputs.map (·.name) ++ p.cells.map (·.name)).length c ∧ L' = .row (.slice A (p.inputs.map (·.name) ++ p.cells.map (·.name)).length c) 9 1 (p.inputs.map (·.name) ++ p.cells.map (·.name)).length xs :: L ∧ RowR RStr 1 H' xs (p.inputs.map (·.name) ++ p.cells.map (·.name)) := by
 obtain ⟨Ap0, cp0, Ap1, cp1, Ap2, cp2, Ap3, cp3, rfl, hp0, hp1, hp2, hp3⟩ := hv
 refine enter (N := 39) [(0, _)] Tryz.func33 rfl rfl rfl rfl fun a w h => ?_
 refine au [1,2] h ?_
 refine bxA h fun g1 a w h => ?_
 refine au [0,6,0,2,0,6,0,3,0,4,1,2,0,6,0,3,1,5] h ?_; intro a w h
 have h := h.row (e := 9) (sz := 1)
 refine lp (β := Nat × GH × (Option Addr) × Nat × (List Value)) (fun x a w => match x with | (k, HL0, Brn, prn, xrn) => ((k ≤ p.inputs.length) ∧ (LE H HL0) ∧ (RowR RStr 1 HL0 xrn ((p.inputs.take k).map (·.name)))) ∧ S E HL0 39 [] [(1, .pointer (some ⟨g1, 0, none⟩)), (2, .slice none 0 0), (3, .slice Brn (((p.inputs.take k).map (·.name)).length) prn), (4, .int .i64 (k : Int))] (.row (.slice Brn (((p.inputs.take k).map (·.name)).length) prn) 9 1 (((p.inputs.take k).map (·.name)).length) xrn :: .obj g1 (.cells #[.slice Ap0 p.inputs.length cp0, .slice Ap1 p.cells.length cp1, .slice Ap2 p.defs.length cp2, .int .i64 p.body.kind, str p.body.name, .int .i64 p.body.n, .slice Ap3 p.body.kids.length cp3] 50 (0, 0)) :: L) a w)
  (fun x => match x with | (k, HL0, Brn, prn, xrn) => p.inputs.length - k) (0, H, none, 0, []) ⟨⟨Nat.zero_le _, LE.rfl, (RowR.nil : RowR RStr 1 H [] ([] : List Bs))⟩, h.to 0 _⟩ ?_
 rintro ⟨k, HL0, Brn, prn, xrn⟩ a w ⟨⟨hk, leHL0, hrrn⟩, h⟩
 refine au [0,4,1,2,0,0,0,7,2,8,6,0,6,4,0,3] h ?_; intro a w h
 refine cdB h (fun c10 => ?_) (fun c10 => ?_)
 ·have d10 : k < p.inputs.length := cd_ c10
  refine au [1,8,1,0,0,4,1,5,0,5,0,0,0,7,2,8,0,0] h ?_; intro a w h
  have hj17 : k < p.inputs.length := by first | assumption | omega | (simp; done) | (simp; omega)
  obtain ⟨g17, o17, e17, hv17, hc17⟩ := CS.get (CS.up hp0 leHL0) hj17
  refine iaE sli47 sz88 rfl hj17 e17 h fun a w h => ?_
  refine fa fl88_0 (r := o17 + k * 3 + 0) h fun a w h => ?_
  refine ldH t1_9 (hc17 0 _ rfl) h fun a w h => ?_
  refine bsl bs70 h fun g20 a w h => ?_
  refine apn (n := (((p.inputs.take k).map (·.name)).length)) (m := 1) 1 0 (L' := fun i => _ :: i :: _) [_] ((((p.inputs.take k).map (·.name)) ++ [p.inputs[k].name]).length) (by first | (simp; done) | (simp; omega)) row70 h (by first | omega | (simp; done) | (simp; omega) | (simp; omega)) (by first | omega | (simp; done) | (simp; omega) | (simp; omega)) fun v21 a w hone21 h => ?_
  obtain ⟨B21, cp21, rfl⟩ := h.rowv 1
  have hr21 : RowR RStr 1 HL0 (xrn ++ [str p.inputs[k].name]) (((p.inputs.take k).map (·.name)) ++ [p.inputs[k].name]) := hrrn.snoc rfl rfl
  refine au [0,6,1,1,1,7,1,0,0,5,0,0] h ?_; intro a w h
  refine inc ?_ h fun a w h => ?_
  ·omega
  refine au [0,6,0,3] h ?_; intro a w h
  have h := h.del 0
  exact ⟨((k + 1), HL0, B21, cp21, _), ⟨⟨by omega, leHL0, (by have q := hr21; rwa [show (((p.inputs.take k).map (·.name)) ++ [p.inputs[k].name]) = ((p.inputs.take (k + 1)).map (·.name)) from by rw [map_take_succ d10]] at q)⟩, (by show S _ _ _ _ _ _ _ _; rw [show (((p.inputs.take (k + 1)).map (·.name)).length) = (((p.inputs.take k).map (·.name)) ++ [p.inputs[k].name]).length from Eq.symm (by first | rfl | (simp; done) | (simp; omega) | (congr 1; simp; omega) | (congr 1; omega))]; exact h.to 0 _)⟩, by show _ - (k + 1) < _ - k; omega⟩
 ·have d10 : p.inputs.length ≤ k := cd_ c10
  refine au [2,5,2,2,2,2,2,3,1,0,0,4,1,2,0,6,0,3,1,5] h ?_; intro a w h
  refine lp (β := Nat × GH × (Option Addr) × Nat × (List Value)) (fun x a w => match x with | (k2, HL2, Brn, prn, xrn) => ((k2 ≤ p.cells.length) ∧ (LE HL0 HL2) ∧ (RowR RStr 1 HL2 xrn (p.inputs.map (·.name) ++ (p.cells.take k2).map (·.name)))) ∧ S E HL2 39 [] [(1, .pointer (some ⟨g1, 0, none⟩)), (2, .slice none 0 0), (3, .slice Brn ((p.inputs.map (·.name) ++ (p.cells.take k2).map (·.name)).length) prn), (4, .int .i64 (k : Int)), (5, .int .i64 (k2 : Int)), (6, .int .i64 (k : Int)), (7, .pointer (some ⟨g1, 0, none⟩)), (8, .slice Ap0 p.inputs.length cp0), (9, .int .i64 (p.inputs.length : Int)), (10, .bool (decide (((k : Int) : Int) < (p.inputs.length : Int))))] (.row (.slice Brn ((p.inputs.map (·.name) ++ (p.cells.take k2).map (·.name)).length) prn) 9 1 ((p.inputs.map (·.name) ++ (p.cells.take k2).map (·.name)).length) xrn :: .obj g1 (.cells #[.slice Ap0 p.inputs.length cp0, .slice Ap1 p.cells.length cp1, .slice Ap2 p.defs.length cp2, .int .i64 p.body.kind, str p.body.name, .int .i64 p.body.n, .slice Ap3 p.body.kids.length cp3] 50 (0, 0)) :: L) a w)
   (fun x => match x with | (k2, HL2, Brn, prn, xrn) => p.cells.length - k2) (0, HL0, Brn, prn, xrn) ⟨⟨Nat.zero_le _, LE.rfl, (by have q := hrrn; rwa [show ((p.inputs.take k).map (·.name)) = (p.inputs.map (·.name) ++ (p.cells.take 0).map (·.name)) from by rw [List.take_of_length_le (by omega)]; simp] at q)⟩, (by show S _ _ _ _ _ _ _ _; rw [show ((p.inputs.map (·.name) ++ (p.cells.take 0).map (·.name)).length) = ((p.inputs.take k).map (·.name)).length from Eq.symm (by first | rfl | (simp; done) | (simp; omega) | (congr 1; simp; omega) | (congr 1; omega))]; exact h.to 0 _)⟩ ?_
  rintro ⟨k2, HL2, Brn, prn, xrn⟩ a w ⟨⟨hk, leHL2, hrrn⟩, h⟩
  refine au [0,4,1,2,0,0,0,7,2,8,6,0,6,4,0,3] h ?_; intro a w h
  refine cdB h (fun c26 => ?_) (fun c26 => ?_)
  ·have d26 : k2 < p.cells.length := cd_ c26
   refine au [1,8,1,0,0,4,1,5,0,5,0,0,0,7,2,8,0,0] h ?_; intro a w h
   have l_H_HL2 : LE H HL2 := leHL0.trans leHL2
   have hj33 : k2 < p.cells.length := by first | assumption | omega | (simp; done) | (simp; omega)
   obtain ⟨g33, o33, e33, hv33, hc33⟩ := CS.get (CS.up hp1 l_H_HL2) hj33
   refine iaE sli47 sz88 rfl hj33 e33 h fun a w h => ?_
   refine fa fl88_0 (r := o33 + k2 * 3 + 0) h fun a w h => ?_
   refine ldH t1_9 (hc33 0 _ rfl) h fun a w h => ?_
   refine bsl bs70 h fun g36 a w h => ?_
   refine apn (n := ((p.inputs.map (·.name) ++ (p.cells.take k2).map (·.name)).length)) (m := 1) 1 0 (L' := fun i => _ :: i :: _) [_] (((p.inputs.map (·.name) ++ (p.cells.take k2).map (·.name)) ++ [p.cells[k2].name]).length) (by first | (simp; done) | (simp; omega)) row70 h (by first | omega | (simp; done) | (simp; omega) | (simp; omega)) (by first | omega | (simp; done) | (simp; omega) | (simp; omega)) fun v37 a w hone37 h => ?_
   obtain ⟨B37, cp37, rfl⟩ := h.rowv 1
   have hr37 : RowR RStr 1 HL2 (xrn ++ [str p.cells[k2].name]) ((p.inputs.map (·.name) ++ (p.cells.take k2).map (·.name)) ++ [p.cells[k2].name]) := hrrn.snoc rfl rfl
   refine au [0,6,1,1,1,7,1,0,0,5,0,0] h ?_; intro a w h
   refine inc ?_ h fun a w h => ?_
   ·omega
   refine au [0,6,0,3] h ?_; intro a w h
   have h := h.del 0
   exact ⟨((k2 + 1), HL2, B37, cp37, _), ⟨⟨by omega, leHL2, (by have q := hr37; rwa [show ((p.inputs.map (·.name) ++ (p.cells.take k2).map (·.name)) ++ [p.cells[k2].name]) = (p.inputs.map (·.name) ++ (p.cells.take (k2 + 1)).map (·.name)) from by rw [map_take_succ d26, List.append_assoc]] at q)⟩, (by show S _ _ _ _ _ _ _ _; rw [show ((p.inputs.map (·.name) ++ (p.cells.take (k2 + 1)).map (·.name)).length) = ((p.inputs.map (·.name) ++ (p.cells.take k2).map (·.name)) ++ [p.cells[k2].name]).length from Eq.symm (by first | rfl | (simp; done) | (simp; omega) | (congr 1; simp; omega) | (congr 1; omega))]; exact h.to 0 _)⟩, by show _ - (k2 + 1) < _ - k2; omega⟩
  ·have d26 : p.cells.length ≤ k2 := cd_ c26
   refine au [2,5,2,2,2,2,2,3,1,0,1,2,0,0,0,6,0,3,1,3] h ?_; intro a w h
   have h := h.pull 1 rfl rfl
   have l_H_HL2 : LE H HL2 := leHL0.trans leHL2
   refine fin1 2 1 h l_H_HL2 ?_
   exact ⟨_, _, _, by rw [List.take_of_length_le (show p.cells.length ≤ k2 by omega)], by rw [List.take_of_length_le (show p.cells.length ≤ k2 by omega)]; rfl, by have q := hrrn; rwa [List.take_of_length_le (show p.cells.length ≤ k2 by omega)] at q⟩
theorem Add_ok (l : List Bs) (s : Bs) (A : Option Addr) (c : Nat) (E : World) (H : GH) (L : List It) (hl : SS H A c l) (hb : l.length < 1000000000000) : Ok Tryz.prog 62 #[.slice A l.length c, str s] E H L fun r H' L' => (∃ rs A' c', r = .slice A' rs.length c' ∧ SS H' A' c' rs ∧ AddP l s rs) ∧ L = L' := by
 refine enter (N := 44) [(0, _), (1, _)] Tryz.func62 rfl rfl rfl rfl fun a w h => ?_
 refine au [1,2,0,6,0,2,0,6,0,3,0,4,1,5] h ?_; intro a w h
 refine lp (β := Nat) (fun k a w => ((k ≤ l.length)) ∧ S E H 44 [] [(0, .slice A l.length c), (1, str s), (4, .slice none 0 0), (5, .int .i64 (k : Int))] (L) a w)
  (fun k => l.length - k) 0 ⟨Nat.zero_le _, h.to 0 _⟩ ?_
 rintro k a w ⟨hk, h⟩
 refine sq ?_
 refine sqc (fun a w => ∃ (bb : Bool), (bb = true → k < l.length) ∧ S E H 44 [] [(0, .slice A l.length c), (1, str s), (4, .slice none 0 0), (5, .int .i64 (k : Int)), (6, .int .i64 (k : Int)), (7, .slice A l.length c), (8, .int .i64 (l.length : Int)), (9, .bool (decide (((k : Int) : Int) < (l.length : Int)))), (10, .bool (decide (((k : Int) : Int) < (l.length : Int)))), (17, .bool bb)] (L) a w) ?_ ?_
 ·refine au [0,5,0,0,0,0,6,0,6,4] h ?_; intro a w h
  refine h.spl (fun c9 h => ?_) (fun c9 h => ?_)
  ·have d9 : k < l.length := cd_ c9
   refine au [0,0,0,0,0,0] h ?_; intro a w h
   have hj13 : k < l.length := by first | assumption | omega | (simp; done) | (simp; omega)
   obtain ⟨g13, o13, e13, hc13⟩ := SS.get hl hj13
   refine iaE sli70 sz9 rfl hj13 e13 h fun a w h => ?_
   refine ldH t1_9 (hc13) h fun a w h => ?_
   refine mv h fun a w h => ?_
   refine lsb h fun b16 a w h => ?_
   refine au [4,8,0,3] h ?_; intro a w h
   exact ⟨b16, (fun _ => d9), (by show S _ _ _ _ _ _ _ _; rw [show (.bool (decide (((k : Int) : Int) < (l.length : Int))) : Value) = .bool true from Eq.symm (by first | ((try rw [c9]) <;> (try simp only [Bool.true_or, Bool.or_true, Bool.false_or, Bool.or_false, Bool.true_and, Bool.and_true, Bool.false_and, Bool.and_false, Bool.not_true, Bool.not_false, cond_true, cond_false]); done) | (exfalso; omega))]; exact h.to 0 _)⟩
  ·have d9 : l.length ≤ k := cd_ c9
   refine au [0,0,0,1,0,1,0,1,0,1,0,1,0,1,5,0,0,3] h ?_; intro a w h
   exact ⟨false, (fun q => nomatch q), (by show S _ _ _ _ _ _ _ _; rw [show (.bool (decide (((k : Int) : Int) < (l.length : Int))) : Value) = .bool false from Eq.symm (by first | ((try rw [c9]) <;> (try simp only [Bool.true_or, Bool.or_true, Bool.false_or, Bool.or_false, Bool.true_and, Bool.and_true, Bool.false_and, Bool.and_false, Bool.not_true, Bool.not_false, cond_true, cond_false]); done) | (exfalso; omega))]; exact h.to 0 _)⟩
 ·rintro a w ⟨bb, hbb, h⟩
  refine cdB h (fun c17 => ?_) (fun c17 => ?_)
  ·have hbk := hbb c17
   refine au [1,8,1,0,1,5,0,5,0,0] h ?_; intro a w h
   refine inc ?_ h fun a w h => ?_
   ·omega
   refine au [0,6,1,1,1,7,1,0] h ?_; intro a w h
   exact ⟨(k + 1), ⟨by omega, h.to 0 _⟩, by show _ - (k + 1) < _ - k; omega⟩
  ·refine au [2,5,2,2,2,2,2,3,1,0,0,4] h ?_
   refine sqc (fun a w => ∃ (b4 : Bool), (b4 = true → ∃ q : k < l.length, l[k] = s) ∧ S E H 44 [] [(0, .slice A l.length c), (1, str s), (4, .slice none 0 0), (5, .int .i64 (k : Int)), (6, .int .i64 (k : Int)), (7, .slice A l.length c), (8, .int .i64 (l.length : Int)), (9, .bool (decide (((k : Int) : Int) < (l.length : Int)))), (10, .bool (decide (((k : Int) : Int) < (l.length : Int)))), (17, .bool bb), (31, .bool b4)] (L) a w) ?_ ?_
   ·refine au [0,5,0,0,0,0,6,0,6,4] h ?_; intro a w h
    refine h.spl (fun c23 h => ?_) (fun c23 h => ?_)
    ·have d23 : k < l.length := cd_ c23
     refine au [0,0,0,0,0,0] h ?_; intro a w h
     have hj27 : k < l.length := by first | assumption | omega | (simp; done) | (simp; omega)
     obtain ⟨g27, o27, e27, hc27⟩ := SS.get hl hj27
     refine iaE sli70 sz9 rfl hj27 e27 h fun a w h => ?_
     refine ldH t1_9 (hc27) h fun a w h => ?_
     refine au [0,0,6,8,4,8,0,3] h ?_; intro a w h
     exact ⟨decide (l[k] = s), (fun q => ⟨d23, of_decide_eq_true q⟩), h.to 0 _⟩
    ·have d23 : l.length ≤ k := cd_ c23
     refine au [0,0,0,1,0,1,0,1,0,1,0,1,0,1,5,0,0,3] h ?_; intro a w h
     exact ⟨false, (fun q => nomatch q), h.to 0 _⟩
   ·rintro a w ⟨b4, hb4, h⟩
    refine cdB h (fun c31 => ?_) (fun c31 => ?_)
    ·obtain ⟨hq1, hq2⟩ := hb4 c31
     refine au [1,2,0,0,0,6,0,3,1,3,1,4] h ?_; intro a w h
     refine fin1 4 0 h LE.rfl ?_
     exact ⟨⟨l, A, c, rfl, hl, add_in hq1 hq2⟩, rfl⟩
    ·refine au [1,8,1,0,0,4] h ?_
     refine rgx [] [] [] 12 mix h (fun a w h => ?_)
     refine au [8,0,0,0,2,6,8,1,0,0,2,6,8,2] h ?_; intro a w h
     have hb35 : k ≤ l.length := by first | omega | (simp; omega)
     have hcp35 := RS.capl hl
     have hs35 : SS H A c (l.take k) := RS.front hl hb35
     refine slhN (c := c) k (l.take k).length (by rw [List.length_take]; omega) sli70 sz9 (by omega) h fun a w h => ?_
     refine au [2,6,8,4,0,0,2,6,8,7,0,0,2,6,8,8,0,0,2,6,8,9] h ?_; intro a w h
     refine slb k sli70 sz9 hl (by first | omega | (simp; omega)) h fun Ab42 cb42 a w hb42 h => ?_
     refine tk0 ?_
     refine bf2 3 5 ?_ ?_
     ·have h := h.row (e := 9) (sz := 1)
      refine apsn (n := 0) (L' := fun i => i :: _) 0 ((l.take k).length) (by first | (simp; done) | (simp; omega)) row70 hs35 rstr_one h (by first | omega | (simp; done) | (simp; omega)) (by first | omega | (simp; done) | (simp; omega)) fun v36 nw36 a w hone36 hnw36 h => ?_
      obtain ⟨B36, cp36, rfl⟩ := h.rowv 0
      have hr36 : RowR RStr 1 H ([] ++ nw36) (l.take k) := (RowR.nil : RowR RStr 1 H [] ([] : List Bs)).app hnw36
      refine br0 ?_
      refine bf1 5 ?_
      refine bsl bs70 h fun g38 a w h => ?_
      refine br0 ?_
      refine bf1 6 ?_
      refine apn (n := ((l.take k).length)) (m := 1) 1 0 (L' := fun i => _ :: i :: _) [_] (((l.take k) ++ [s]).length) (by first | (simp; done) | (simp; omega)) row70 h (by first | omega | (simp; done) | (simp; omega)) (by first | omega | (simp; done) | (simp; omega)) fun v39 a w hone39 h => ?_
      obtain ⟨B39, cp39, rfl⟩ := h.rowv 1
      have hr39 : RowR RStr 1 H (([] ++ nw36) ++ [str s]) ((l.take k) ++ [s]) := hr36.snoc rfl rfl
      refine br0 ?_
      refine bf1 10 ?_
      refine apsn (n := (((l.take k) ++ [s]).length)) (L' := fun i => _ :: i :: _) 1 ((((l.take k) ++ [s]) ++ (l.drop k)).length) (by first | (simp; done) | (simp; omega)) row70 hb42 rstr_one h (by first | omega | (simp; done) | (simp; omega)) (by first | omega | (simp; done) | (simp; omega)) fun v43 nw43 a w hone43 hnw43 h => ?_
      obtain ⟨B43, cp43, rfl⟩ := h.rowv 1
      have hr43 : RowR RStr 1 H ((([] ++ nw36) ++ [str s]) ++ nw43) (((l.take k) ++ [s]) ++ (l.drop k)) := hr39.app hnw43
      refine au [2,7,8,11,0,6,2,6] h ?_; intro a w h
      refine en (by kernel_rfl) ?_
      refine au [1,0,1,3] h ?_
      obtain ⟨Hrra36, leHrra36, h, hsHrra36⟩ := h.frw 1 hr43 rfl (fun _ l cs y _ hr => hr)
      refine fin1 4 1 h leHrra36 ?_
      exact ⟨⟨_, _, _, rfl, hsHrra36, add_new hk⟩, rfl⟩
     ·refine bsl bs70 h fun g38 a w h => ?_
      refine br0 ?_
      refine bf1 3 ?_
      have h := h.row (e := 9) (sz := 1)
      refine apsn (n := 0) (L' := fun i => i :: _) 0 ((l.take k).length) (by first | (simp; done) | (simp; omega)) row70 hs35 rstr_one h (by first | omega | (simp; done) | (simp; omega)) (by first | omega | (simp; done) | (simp; omega)) fun v36 nw36 a w hone36 hnw36 h => ?_
      obtain ⟨B36, cp36, rfl⟩ := h.rowv 0
      have hr36 : RowR RStr 1 H ([] ++ nw36) (l.take k) := (RowR.nil : RowR RStr 1 H [] ([] : List Bs)).app hnw36
      refine br0 ?_
      refine bf1 6 ?_
      refine apn (n := ((l.take k).length)) (m := 1) 0 1 (L' := fun i => i :: _) [_] (((l.take k) ++ [s]).length) (by first | (simp; done) | (simp; omega)) row70 h (by first | omega | (simp; done) | (simp; omega)) (by first | omega | (simp; done) | (simp; omega)) fun v39 a w hone39 h => ?_
      obtain ⟨B39, cp39, rfl⟩ := h.rowv 0
      have hr39 : RowR RStr 1 H (([] ++ nw36) ++ [str s]) ((l.take k) ++ [s]) := hr36.snoc rfl rfl
      refine br0 ?_
      refine bf1 10 ?_
      refine apsn (n := (((l.take k) ++ [s]).length)) (L' := fun i => i :: _) 0 ((((l.take k) ++ [s]) ++ (l.drop k)).length) (by first | (simp; done) | (simp; omega)) row70 hb42 rstr_one h (by first | omega | (simp; done) | (simp; omega)) (by first | omega | (simp; done) | (simp; omega)) fun v43 nw43 a w hone43 hnw43 h => ?_
      obtain ⟨B43, cp43, rfl⟩ := h.rowv 0
      have hr43 : RowR RStr 1 H ((([] ++ nw36) ++ [str s]) ++ nw43) (((l.take k) ++ [s]) ++ (l.drop k)) := hr39.app hnw43
      refine au [2,7,8,11,0,6,2,6] h ?_; intro a w h
      refine en (by kernel_rfl) ?_
      refine au [1,0,1,3] h ?_
      obtain ⟨Hrra36, leHrra36, h, hsHrra36⟩ := h.frw 0 hr43 rfl (fun _ l cs y _ hr => hr)
      refine fin1 4 1 h leHrra36 ?_
      exact ⟨⟨_, _, _, rfl, hsHrra36, add_new hk⟩, rfl⟩
theorem FreeR_ok : ∀ (t : Tm) (v : Value) (E : World) (H : GH) (L : List It), VT H v t → t.size < 1000000000000 →
   Ok Tryz.prog 49 #[v] E H L fun r H' L' => (∃ fs A c, r = .slice A fs.length c ∧ SS H' A c fs ∧ (∀ x, x ∈ fs ↔ t.fr none0 x = true) ∧ fs.length ≤ t.size) ∧ L = L' := by
 intro t
 induction t using Tm.ind with
 | h kd nm nn ks ih =>
 intro v E H L hv hb
 obtain ⟨At0, ct0, rfl, ht0⟩ := hv
 dsimp only [Tm.kind, Tm.name, Tm.n, Tm.kids] at ht0 ⊢
 simp only [Tm.size] at hb
 have hlen := length_le_sizeL ks
 refine enter (N := 63) [(0, _)] Tryz.func49 rfl rfl rfl rfl fun a w h => ?_
 refine au [1,2] h ?_
 refine bxA h fun g1 a w h => ?_
 refine au [0,6,0,2,0,6,0,3,0,4,1,2,0,7,0,8,6,2,0,3] h ?_; intro a w h
 refine cdB h (fun c10 => ?_) (fun c10 => ?_)
 ·have d10 : kd = 2 := cd_ c10
  refine au [0,5,0,0,0,7,0,8] h ?_; intro a w h
  refine bsl bs70 h fun g14 a w h => ?_
  have h := h.row (e := 9) (sz := 1)
  refine apn (n := 0) (m := 1) 0 1 (L' := fun i => i :: _) [_] ((([] : List Bs) ++ [nm]).length) (by first | (simp; done) | (simp; omega)) row70 h (by first | omega | (simp; done) | (simp; omega)) (by first | omega | (simp; done) | (simp; omega)) fun v15 a w hone15 h => ?_
  obtain ⟨B15, cp15, rfl⟩ := h.rowv 0
  have hr15 : RowR RStr 1 H ([] ++ [str nm]) (([] : List Bs) ++ [nm]) := (RowR.nil : RowR RStr 1 H [] ([] : List Bs)).snoc rfl rfl
  refine au [0,6,0,3,0,4,1,2,0,6,0,3,1,5] h ?_; intro a w h
  obtain ⟨Hrra15, leHrra15, h, hsHrra15⟩ := h.frw 0 hr15 rfl (fun _ l cs y _ hr => hr)
  have h := h.del 0
  refine lp (β := Nat × GH × (List Bs) × (Option Addr) × Nat) (fun x a w => match x with | (k, HL0, os, Ao, co) => ((k ≤ ks.length) ∧ (LE Hrra15 HL0) ∧ (SS HL0 Ao co os ∧ (∀ x, x ∈ os ↔ FreeK kd nm ks k x) ∧ os.length ≤ 1 + sizeL (ks.take k))) ∧ S E HL0 63 [] [(1, .pointer (some ⟨g1, 0, none⟩)), (2, .slice none 0 0), (3, .slice Ao os.length co), (4, .int .i64 (k : Int))] (.obj g1 (.cells #[.int .i64 kd, str nm, .int .i64 nn, .slice At0 ks.length ct0] 35 (0, 0)) :: L) a w)
   (fun x => match x with | (k, HL0, os, Ao, co) => ks.length - k) (0, Hrra15, (([] : List Bs) ++ [nm]), B15, cp15) ⟨⟨Nat.zero_le _, LE.rfl, ⟨hsHrra15, fun x => by rw [freeK_zero]; simp [d10], by simp⟩⟩, h.to 0 _⟩ ?_
  rintro ⟨k, HL0, os, Ao, co⟩ a w ⟨⟨hk, leHL0, hi⟩, h⟩
  obtain ⟨hos, hmem, holen⟩ := hi
  refine au [0,4,1,2,0,0,0,7,0,8,6,0,6,4,0,3] h ?_; intro a w h
  refine cdB h (fun c20 => ?_) (fun c20 => ?_)
  ·have d20 : k < ks.length := cd_ c20
   refine au [1,8,1,0,0,4,1,5,1,2,0,7,0,8,0,0] h ?_; intro a w h
   have l_H_HL0 : LE H HL0 := leHrra15.trans leHL0
   have hj26 : k < ks.length := by first | assumption | omega | (simp; done) | (simp; omega)
   obtain ⟨g26, o26, A26_0, c26_0, e26, hv26, hc26⟩ := KS.get (KS.up ht0 l_H_HL0) hj26
   obtain ⟨_, _, q26, hk26_0⟩ := hv26; cases q26
   refine iaE sli33 sz35 rfl hj26 e26 h fun a w h => ?_
   refine ldHN tN35 rfl hc26 h fun a w h => ?_
   have hz := size_get_le d20
   have hzt := size_take_le ks k
   refine cl bod49 (ih _ (List.getElem_mem d20) _ E HL0 _ ⟨A26_0, c26_0, rfl, hk26_0⟩ (by omega)) h (fun r28 H28 L28 a w le28 R h => ?_)
   obtain ⟨⟨fs28, A28, c28, rfl, hk28, hf28, hl28⟩, rfl⟩ := R
   refine au [0,6,0,3] h ?_; intro a w h
   refine sqc (fun a w => ∃ (bq : Bool), (bq = true ↔ (bnd kd = true ∧ k + 1 = ks.length)) ∧ S E H28 63 [] [(1, .pointer (some ⟨g1, 0, none⟩)), (2, .slice none 0 0), (3, .slice Ao os.length co), (4, .int .i64 (k : Int)), (16, .int .i64 (k : Int)), (17, .pointer (some ⟨g1, 3, none⟩)), (18, .slice At0 ks.length ct0), (19, .int .i64 (ks.length : Int)), (20, .bool (decide (((k : Int) : Int) < (ks.length : Int)))), (23, .pointer (some ⟨g1, 3, none⟩)), (24, .slice At0 ks.length ct0), (25, .int .i64 (k : Int)), (27, .agg #[.int .i64 ks[k].kind, str ks[k].name, .int .i64 ks[k].n, .slice A26_0 ks[k].kids.length c26_0]), (28, .slice A28 fs28.length c28), (5, .slice A28 fs28.length c28), (29, .agg #[.int .i64 kd, str nm, .int .i64 nn, .slice At0 ks.length ct0]), (30, .bool (bnd kd)), (31, .bool (bnd kd)), (38, .bool ((bnd kd) && (((k : Int) : Int) == ((ks.length : Int) - 1)))), (6, .bool bq)] (.obj g1 (.cells #[.int .i64 kd, str nm, .int .i64 nn, .slice At0 ks.length ct0] 35 (0, 0)) :: L) a w) ?_ ?_
   ·refine au [0,5,3,3] h ?_; intro a w h
    have l_H_H28 : LE H H28 := (leHrra15.trans leHL0).trans le28
    refine cl bod21 (BinderR_ok _ _ _ _ _ E H28 _ ⟨At0, ct0, rfl, (KS.up ht0 l_H_H28)⟩) h (fun r30 H30 L30 a w le30 R h => ?_)
    obtain ⟨rfl, rfl, rfl⟩ := R
    refine h.spl (fun c30 h => ?_) (fun c30 h => ?_)
    ·refine au [0,0,0,0,0,7,0,8,6,0] h ?_; intro a w h
     refine sbr ((ks.length : Int) - 1) (w64 (by omega) (by omega)) h fun a w h => ?_
     refine au [6,2,4,8,0,6,0,3] h ?_; intro a w h
     exact ⟨((k : Int) : Int) == ((ks.length : Int) - 1), (by rw [c30]; simp; omega), (by show S _ _ _ _ _ _ _ _; rw [show (.bool (bnd kd) : Value) = .bool true from Eq.symm (by first | ((try rw [c30]) <;> (try simp only [Bool.true_or, Bool.or_true, Bool.false_or, Bool.or_false, Bool.true_and, Bool.and_true, Bool.false_and, Bool.and_false, Bool.not_true, Bool.not_false, cond_true, cond_false]); done) | (exfalso; omega)), show (.bool ((bnd kd) && (((k : Int) : Int) == ((ks.length : Int) - 1))) : Value) = .bool (((k : Int) : Int) == ((ks.length : Int) - 1)) from Eq.symm (by first | ((try rw [c30]) <;> (try simp only [Bool.true_or, Bool.or_true, Bool.false_or, Bool.or_false, Bool.true_and, Bool.and_true, Bool.false_and, Bool.and_false, Bool.not_true, Bool.not_false, cond_true, cond_false]); done) | (exfalso; omega))]; exact h.to 0 _)⟩
    ·refine au [0,0,0,1,0,1,0,1,0,1,0,1,0,1,5,0,0,6,0,3] h ?_; intro a w h
     exact ⟨false, (by rw [c30]; simp), (by show S _ _ _ _ _ _ _ _; rw [show (.bool (bnd kd) : Value) = .bool false from Eq.symm (by first | ((try rw [c30]) <;> (try simp only [Bool.true_or, Bool.or_true, Bool.false_or, Bool.or_false, Bool.true_and, Bool.and_true, Bool.false_and, Bool.and_false, Bool.not_true, Bool.not_false, cond_true, cond_false]); done) | (exfalso; omega)), show (.bool ((bnd kd) && (((k : Int) : Int) == ((ks.length : Int) - 1))) : Value) = .bool false from Eq.symm (by first | ((try rw [c30]) <;> (try simp only [Bool.true_or, Bool.or_true, Bool.false_or, Bool.or_false, Bool.true_and, Bool.and_true, Bool.false_and, Bool.and_false, Bool.not_true, Bool.not_false, cond_true, cond_false]); done) | (exfalso; omega))]; exact h.to 0 _)⟩
   ·rintro a w ⟨bq, hbq, h⟩
    refine au [1,2,0,6,0,3,1,5] h ?_; intro a w h
    refine lp (β := Nat × GH × (List Bs) × (Option Addr) × Nat) (fun x a w => match x with | (k2, HL2, os2, Ao2, co2) => ((k2 ≤ fs28.length) ∧ (LE H28 HL2) ∧ (SS HL2 Ao2 co2 os2 ∧ (∀ x, x ∈ os2 ↔ FreeK kd nm ks k x ∨ (x ∈ fs28.take k2 ∧ ¬ (bq = true ∧ x = nm))) ∧ os2.length ≤ 1 + sizeL (ks.take k) + k2)) ∧ S E HL2 63 [] [(1, .pointer (some ⟨g1, 0, none⟩)), (2, .slice none 0 0), (3, .slice Ao2 os2.length co2), (4, .int .i64 (k : Int)), (5, .slice A28 fs28.length c28), (6, .bool bq), (7, .int .i64 (k2 : Int)), (16, .int .i64 (k : Int)), (17, .pointer (some ⟨g1, 3, none⟩)), (18, .slice At0 ks.length ct0), (19, .int .i64 (ks.length : Int)), (20, .bool (decide (((k : Int) : Int) < (ks.length : Int)))), (23, .pointer (some ⟨g1, 3, none⟩)), (24, .slice At0 ks.length ct0), (25, .int .i64 (k : Int)), (27, .agg #[.int .i64 ks[k].kind, str ks[k].name, .int .i64 ks[k].n, .slice A26_0 ks[k].kids.length c26_0]), (28, .slice A28 fs28.length c28), (29, .agg #[.int .i64 kd, str nm, .int .i64 nn, .slice At0 ks.length ct0]), (30, .bool (bnd kd)), (31, .bool (bnd kd)), (38, .bool ((bnd kd) && (((k : Int) : Int) == ((ks.length : Int) - 1))))] (.obj g1 (.cells #[.int .i64 kd, str nm, .int .i64 nn, .slice At0 ks.length ct0] 35 (0, 0)) :: L) a w)
     (fun x => match x with | (k2, HL2, os2, Ao2, co2) => fs28.length - k2) (0, H28, os, Ao, co) ⟨⟨Nat.zero_le _, LE.rfl, ⟨hos.up le_, fun x => by rw [hmem]; simp, by omega⟩⟩, h.to 0 _⟩ ?_
    rintro ⟨k2, HL2, os2, Ao2, co2⟩ a w ⟨⟨hk, leHL2, hi⟩, h⟩
    obtain ⟨hos2, hmem2, holen2⟩ := hi
    have hts := take_size d20
    have hlt := size_take_le ks (k + 1)
    refine au [0,4,1,2,0,0,0,0,6,0,6,4,0,3] h ?_; intro a w h
    refine cdB h (fun c42 => ?_) (fun c42 => ?_)
    ·have d42 : k2 < fs28.length := cd_ c42
     refine au [1,8,1,0,0,4,1,5] h ?_
     refine sqc (fun a w => S E HL2 63 [] [(1, .pointer (some ⟨g1, 0, none⟩)), (2, .slice none 0 0), (3, .slice Ao2 os2.length co2), (4, .int .i64 (k : Int)), (16, .int .i64 (k : Int)), (17, .pointer (some ⟨g1, 3, none⟩)), (18, .slice At0 ks.length ct0), (19, .int .i64 (ks.length : Int)), (20, .bool (decide (((k : Int) : Int) < (ks.length : Int)))), (23, .pointer (some ⟨g1, 3, none⟩)), (24, .slice At0 ks.length ct0), (25, .int .i64 (k : Int)), (27, .agg #[.int .i64 ks[k].kind, str ks[k].name, .int .i64 ks[k].n, .slice A26_0 ks[k].kids.length c26_0]), (28, .slice A28 fs28.length c28), (5, .slice A28 fs28.length c28), (29, .agg #[.int .i64 kd, str nm, .int .i64 nn, .slice At0 ks.length ct0]), (30, .bool (bnd kd)), (31, .bool (bnd kd)), (38, .bool ((bnd kd) && (((k : Int) : Int) == ((ks.length : Int) - 1)))), (6, .bool bq), (7, .int .i64 (k2 : Int)), (39, .int .i64 (k2 : Int)), (40, .slice A28 fs28.length c28), (41, .int .i64 (fs28.length : Int)), (42, .bool (decide (((k2 : Int) : Int) < (fs28.length : Int)))), (45, .bool bq), (46, .bool (!bq)), (47, .bool (!bq)), (55, .bool (!bq || !decide (fs28[k2] = nm)))] (.obj g1 (.cells #[.int .i64 kd, str nm, .int .i64 nn, .slice At0 ks.length ct0] 35 (0, 0)) :: L) a w) ?_ ?_
     ·refine rgd [0] [_] [] [6, 8] 0 mix (by kernel_rfl) h (fun a w h => ?_)
      refine au [0,0,7,1] h ?_; intro a w h
      refine h.spl (fun c46 h => ?_) (fun c46 h => ?_)
      ·have d46 : bq = false := cd_ c46
       refine au [0,0,0,1,0,1,0,1,0,1,0,1,0,1,0,1,4,8,0,3] h ?_; intro a w h
       exact (by show S _ _ _ _ _ _ _ _; rw [show (.bool (!bq) : Value) = .bool true from Eq.symm (by first | ((try rw [c46]) <;> (try simp only [Bool.true_or, Bool.or_true, Bool.false_or, Bool.or_false, Bool.true_and, Bool.and_true, Bool.false_and, Bool.and_false, Bool.not_true, Bool.not_false, cond_true, cond_false]); done) | (exfalso; omega)), show (.bool (!bq || !decide (fs28[k2] = nm)) : Value) = .bool true from Eq.symm (by clear h; cases bq <;> simp_all)]; exact h.to 0 _)
      ·have d46 : bq = true := cd_ c46
       refine au [0,0,0,0,0,0] h ?_; intro a w h
       have hj50 : k2 < fs28.length := by first | assumption | omega | (simp; done) | (simp; omega)
       obtain ⟨g50, o50, e50, hc50⟩ := SS.get (SS.up hk28 leHL2) hj50
       refine iaE sli70 sz9 rfl hj50 e50 h fun a w h => ?_
       refine ldHD t1_9 (hc50) h fun a w h => ?_
       refine au [0,7,4,2,7,0,5,0,0,3] h ?_; intro a w h
       exact (by show S _ _ _ _ _ _ _ _; rw [show (.bool (!bq) : Value) = .bool false from Eq.symm (by first | ((try rw [c46]) <;> (try simp only [Bool.true_or, Bool.or_true, Bool.false_or, Bool.or_false, Bool.true_and, Bool.and_true, Bool.false_and, Bool.and_false, Bool.not_true, Bool.not_false, cond_true, cond_false]); done) | (exfalso; omega)), show (.bool (!bq || !decide (fs28[k2] = nm)) : Value) = .bool (!decide (fs28[k2] = nm)) from Eq.symm (by clear h; cases bq <;> simp_all)]; exact h.to 0 _)
     ·rintro a w h
      refine cdB h (fun c55 => ?_) (fun c55 => ?_)
      ·refine au [0,5,0,0,0,0,0,0] h ?_; intro a w h
       have hj59 : k2 < fs28.length := by first | assumption | omega | (simp; done) | (simp; omega)
       obtain ⟨g59, o59, e59, hc59⟩ := SS.get (SS.up hk28 leHL2) hj59
       refine iaE sli70 sz9 rfl hj59 e59 h fun a w h => ?_
       refine ldH t1_9 (hc59) h fun a w h => ?_
       refine cl bod62 (Add_ok os2 fs28[k2] _ _ E HL2 _ hos2 (by omega)) h (fun r61 H61 L61 a w le61 R h => ?_)
       obtain ⟨⟨as61, A61, c61, rfl, hk61, ha61⟩, rfl⟩ := R
       refine au [0,6,1,1,1,7,1,0,0,5,0,0] h ?_; intro a w h
       refine inc ?_ h fun a w h => ?_
       ·omega
       refine au [0,6,0,3] h ?_; intro a w h
       have l_H28_H61 : LE H28 H61 := leHL2.trans le61
       exact ⟨((k2 + 1), H61, as61, A61, c61), ⟨⟨by omega, l_H28_H61, ⟨hk61, free_add hmem2 d42 c55 ha61.1, by have := ha61.2; omega⟩⟩, h.to 0 _⟩, by show _ - (k2 + 1) < _ - k2; omega⟩
      ·refine au [1,8,1,7,1,0,0,5,0,0] h ?_; intro a w h
       refine inc ?_ h fun a w h => ?_
       ·omega
       refine au [0,6,0,3] h ?_; intro a w h
       exact ⟨((k2 + 1), HL2, os2, Ao2, co2), ⟨⟨by omega, leHL2, ⟨hos2, free_skip hmem2 d42 c55, by omega⟩⟩, h.to 0 _⟩, by show _ - (k2 + 1) < _ - k2; omega⟩
    ·have d42 : fs28.length ≤ k2 := cd_ c42
     refine au [2,5,2,2,2,2,2,3,1,7,1,0,0,5,0,0] h ?_; intro a w h
     refine inc ?_ h fun a w h => ?_
     ·omega
     refine au [0,6,0,3] h ?_; intro a w h
     have l_Hrra15_HL2 : LE Hrra15 HL2 := (leHL0.trans le28).trans leHL2
     exact ⟨((k + 1), HL2, os2, Ao2, co2), ⟨⟨by omega, l_Hrra15_HL2, ⟨hos2, free_next d20 hmem2 (by omega) hf28 hbq, by have := take_size d20; omega⟩⟩, h.to 0 _⟩, by show _ - (k + 1) < _ - k; omega⟩
  ·have d20 : ks.length ≤ k := cd_ c20
   refine au [2,5,2,2,2,2,2,3,1,0,1,2,0,0,0,6,0,3,1,3] h ?_; intro a w h
   have l_H_HL0 : LE H HL0 := leHrra15.trans leHL0
   refine fin1 2 1 h l_H_HL0 ?_
   exact ⟨⟨os, Ao, co, rfl, hos, fun x => by rw [freeK_all, show ks.length = k by omega]; exact hmem x, by have := size_take_le ks k; show _ ≤ 1 + sizeL ks; omega⟩, rfl⟩
 ·have d10 : kd ≠ 2 := cd_ c10
  refine au [1,8,1,0,0,4,1,2,0,6,0,3,1,5] h ?_; intro a w h
  refine lp (β := Nat × GH × (List Bs) × (Option Addr) × Nat) (fun x a w => match x with | (k, HL0, os, Ao, co) => ((k ≤ ks.length) ∧ (LE H HL0) ∧ (SS HL0 Ao co os ∧ (∀ x, x ∈ os ↔ FreeK kd nm ks k x) ∧ os.length ≤ 1 + sizeL (ks.take k))) ∧ S E HL0 63 [] [(1, .pointer (some ⟨g1, 0, none⟩)), (2, .slice none 0 0), (3, .slice Ao os.length co), (4, .int .i64 (k : Int))] (.obj g1 (.cells #[.int .i64 kd, str nm, .int .i64 nn, .slice At0 ks.length ct0] 35 (0, 0)) :: L) a w)
   (fun x => match x with | (k, HL0, os, Ao, co) => ks.length - k) (0, H, ([] : List Bs), none, 0) ⟨⟨Nat.zero_le _, LE.rfl, ⟨RS.nil _ _ _, fun x => by rw [freeK_zero]; simp; intro e; exact absurd e d10, by simp⟩⟩, (by show S _ _ _ _ _ _ _ _; rw [show (.slice none ([] : List Bs).length 0 : Value) = .slice none 0 0 from Eq.symm (by first | rfl | (simp; done) | (simp; omega) | (congr 1; simp; omega) | (congr 1; omega))]; exact h.to 0 _)⟩ ?_
  rintro ⟨k, HL0, os, Ao, co⟩ a w ⟨⟨hk, leHL0, hi⟩, h⟩
  obtain ⟨hos, hmem, holen⟩ := hi
  refine au [0,4,1,2,0,0,0,7,0,8,6,0,6,4,0,3] h ?_; intro a w h
  refine cdB h (fun c20 => ?_) (fun c20 => ?_)
  ·have d20 : k < ks.length := cd_ c20
   refine au [1,8,1,0,0,4,1,5,1,2,0,7,0,8,0,0] h ?_; intro a w h
   have hj26 : k < ks.length := by first | assumption | omega | (simp; done) | (simp; omega)
   obtain ⟨g26, o26, A26_0, c26_0, e26, hv26, hc26⟩ := KS.get (KS.up ht0 leHL0) hj26
   obtain ⟨_, _, q26, hk26_0⟩ := hv26; cases q26
   refine iaE sli33 sz35 rfl hj26 e26 h fun a w h => ?_
   refine ldHN tN35 rfl hc26 h fun a w h => ?_
   have hz := size_get_le d20
   have hzt := size_take_le ks k
   refine cl bod49 (ih _ (List.getElem_mem d20) _ E HL0 _ ⟨A26_0, c26_0, rfl, hk26_0⟩ (by omega)) h (fun r28 H28 L28 a w le28 R h => ?_)
   obtain ⟨⟨fs28, A28, c28, rfl, hk28, hf28, hl28⟩, rfl⟩ := R
   refine au [0,6,0,3] h ?_; intro a w h
   refine sqc (fun a w => ∃ (bq : Bool), (bq = true ↔ (bnd kd = true ∧ k + 1 = ks.length)) ∧ S E H28 63 [] [(1, .pointer (some ⟨g1, 0, none⟩)), (2, .slice none 0 0), (3, .slice Ao os.length co), (4, .int .i64 (k : Int)), (16, .int .i64 (k : Int)), (17, .pointer (some ⟨g1, 3, none⟩)), (18, .slice At0 ks.length ct0), (19, .int .i64 (ks.length : Int)), (20, .bool (decide (((k : Int) : Int) < (ks.length : Int)))), (23, .pointer (some ⟨g1, 3, none⟩)), (24, .slice At0 ks.length ct0), (25, .int .i64 (k : Int)), (27, .agg #[.int .i64 ks[k].kind, str ks[k].name, .int .i64 ks[k].n, .slice A26_0 ks[k].kids.length c26_0]), (28, .slice A28 fs28.length c28), (5, .slice A28 fs28.length c28), (29, .agg #[.int .i64 kd, str nm, .int .i64 nn, .slice At0 ks.length ct0]), (30, .bool (bnd kd)), (31, .bool (bnd kd)), (38, .bool ((bnd kd) && (((k : Int) : Int) == ((ks.length : Int) - 1)))), (6, .bool bq)] (.obj g1 (.cells #[.int .i64 kd, str nm, .int .i64 nn, .slice At0 ks.length ct0] 35 (0, 0)) :: L) a w) ?_ ?_
   ·refine au [0,5,3,3] h ?_; intro a w h
    have l_H_H28 : LE H H28 := leHL0.trans le28
    refine cl bod21 (BinderR_ok _ _ _ _ _ E H28 _ ⟨At0, ct0, rfl, (KS.up ht0 l_H_H28)⟩) h (fun r30 H30 L30 a w le30 R h => ?_)
    obtain ⟨rfl, rfl, rfl⟩ := R
    refine h.spl (fun c30 h => ?_) (fun c30 h => ?_)
    ·refine au [0,0,0,0,0,7,0,8,6,0] h ?_; intro a w h
     refine sbr ((ks.length : Int) - 1) (w64 (by omega) (by omega)) h fun a w h => ?_
     refine au [6,2,4,8,0,6,0,3] h ?_; intro a w h
     exact ⟨((k : Int) : Int) == ((ks.length : Int) - 1), (by rw [c30]; simp; omega), (by show S _ _ _ _ _ _ _ _; rw [show (.bool (bnd kd) : Value) = .bool true from Eq.symm (by first | ((try rw [c30]) <;> (try simp only [Bool.true_or, Bool.or_true, Bool.false_or, Bool.or_false, Bool.true_and, Bool.and_true, Bool.false_and, Bool.and_false, Bool.not_true, Bool.not_false, cond_true, cond_false]); done) | (exfalso; omega)), show (.bool ((bnd kd) && (((k : Int) : Int) == ((ks.length : Int) - 1))) : Value) = .bool (((k : Int) : Int) == ((ks.length : Int) - 1)) from Eq.symm (by first | ((try rw [c30]) <;> (try simp only [Bool.true_or, Bool.or_true, Bool.false_or, Bool.or_false, Bool.true_and, Bool.and_true, Bool.false_and, Bool.and_false, Bool.not_true, Bool.not_false, cond_true, cond_false]); done) | (exfalso; omega))]; exact h.to 0 _)⟩
    ·refine au [0,0,0,1,0,1,0,1,0,1,0,1,0,1,5,0,0,6,0,3] h ?_; intro a w h
     exact ⟨false, (by rw [c30]; simp), (by show S _ _ _ _ _ _ _ _; rw [show (.bool (bnd kd) : Value) = .bool false from Eq.symm (by first | ((try rw [c30]) <;> (try simp only [Bool.true_or, Bool.or_true, Bool.false_or, Bool.or_false, Bool.true_and, Bool.and_true, Bool.false_and, Bool.and_false, Bool.not_true, Bool.not_false, cond_true, cond_false]); done) | (exfalso; omega)), show (.bool ((bnd kd) && (((k : Int) : Int) == ((ks.length : Int) - 1))) : Value) = .bool false from Eq.symm (by first | ((try rw [c30]) <;> (try simp only [Bool.true_or, Bool.or_true, Bool.false_or, Bool.or_false, Bool.true_and, Bool.and_true, Bool.false_and, Bool.and_false, Bool.not_true, Bool.not_false, cond_true, cond_false]); done) | (exfalso; omega))]; exact h.to 0 _)⟩
   ·rintro a w ⟨bq, hbq, h⟩
    refine au [1,2,0,6,0,3,1,5] h ?_; intro a w h
    refine lp (β := Nat × GH × (List Bs) × (Option Addr) × Nat) (fun x a w => match x with | (k2, HL2, os2, Ao2, co2) => ((k2 ≤ fs28.length) ∧ (LE H28 HL2) ∧ (SS HL2 Ao2 co2 os2 ∧ (∀ x, x ∈ os2 ↔ FreeK kd nm ks k x ∨ (x ∈ fs28.take k2 ∧ ¬ (bq = true ∧ x = nm))) ∧ os2.length ≤ 1 + sizeL (ks.take k) + k2)) ∧ S E HL2 63 [] [(1, .pointer (some ⟨g1, 0, none⟩)), (2, .slice none 0 0), (3, .slice Ao2 os2.length co2), (4, .int .i64 (k : Int)), (5, .slice A28 fs28.length c28), (6, .bool bq), (7, .int .i64 (k2 : Int)), (16, .int .i64 (k : Int)), (17, .pointer (some ⟨g1, 3, none⟩)), (18, .slice At0 ks.length ct0), (19, .int .i64 (ks.length : Int)), (20, .bool (decide (((k : Int) : Int) < (ks.length : Int)))), (23, .pointer (some ⟨g1, 3, none⟩)), (24, .slice At0 ks.length ct0), (25, .int .i64 (k : Int)), (27, .agg #[.int .i64 ks[k].kind, str ks[k].name, .int .i64 ks[k].n, .slice A26_0 ks[k].kids.length c26_0]), (28, .slice A28 fs28.length c28), (29, .agg #[.int .i64 kd, str nm, .int .i64 nn, .slice At0 ks.length ct0]), (30, .bool (bnd kd)), (31, .bool (bnd kd)), (38, .bool ((bnd kd) && (((k : Int) : Int) == ((ks.length : Int) - 1))))] (.obj g1 (.cells #[.int .i64 kd, str nm, .int .i64 nn, .slice At0 ks.length ct0] 35 (0, 0)) :: L) a w)
     (fun x => match x with | (k2, HL2, os2, Ao2, co2) => fs28.length - k2) (0, H28, os, Ao, co) ⟨⟨Nat.zero_le _, LE.rfl, ⟨hos.up le_, fun x => by rw [hmem]; simp, by omega⟩⟩, h.to 0 _⟩ ?_
    rintro ⟨k2, HL2, os2, Ao2, co2⟩ a w ⟨⟨hk, leHL2, hi⟩, h⟩
    obtain ⟨hos2, hmem2, holen2⟩ := hi
    have hts := take_size d20
    have hlt := size_take_le ks (k + 1)
    refine au [0,4,1,2,0,0,0,0,6,0,6,4,0,3] h ?_; intro a w h
    refine cdB h (fun c42 => ?_) (fun c42 => ?_)
    ·have d42 : k2 < fs28.length := cd_ c42
     refine au [1,8,1,0,0,4,1,5] h ?_
     refine sqc (fun a w => S E HL2 63 [] [(1, .pointer (some ⟨g1, 0, none⟩)), (2, .slice none 0 0), (3, .slice Ao2 os2.length co2), (4, .int .i64 (k : Int)), (16, .int .i64 (k : Int)), (17, .pointer (some ⟨g1, 3, none⟩)), (18, .slice At0 ks.length ct0), (19, .int .i64 (ks.length : Int)), (20, .bool (decide (((k : Int) : Int) < (ks.length : Int)))), (23, .pointer (some ⟨g1, 3, none⟩)), (24, .slice At0 ks.length ct0), (25, .int .i64 (k : Int)), (27, .agg #[.int .i64 ks[k].kind, str ks[k].name, .int .i64 ks[k].n, .slice A26_0 ks[k].kids.length c26_0]), (28, .slice A28 fs28.length c28), (5, .slice A28 fs28.length c28), (29, .agg #[.int .i64 kd, str nm, .int .i64 nn, .slice At0 ks.length ct0]), (30, .bool (bnd kd)), (31, .bool (bnd kd)), (38, .bool ((bnd kd) && (((k : Int) : Int) == ((ks.length : Int) - 1)))), (6, .bool bq), (7, .int .i64 (k2 : Int)), (39, .int .i64 (k2 : Int)), (40, .slice A28 fs28.length c28), (41, .int .i64 (fs28.length : Int)), (42, .bool (decide (((k2 : Int) : Int) < (fs28.length : Int)))), (45, .bool bq), (46, .bool (!bq)), (47, .bool (!bq)), (55, .bool (!bq || !decide (fs28[k2] = nm)))] (.obj g1 (.cells #[.int .i64 kd, str nm, .int .i64 nn, .slice At0 ks.length ct0] 35 (0, 0)) :: L) a w) ?_ ?_
     ·refine rgd [0] [_] [] [6, 8] 0 mix (by kernel_rfl) h (fun a w h => ?_)
      refine au [0,0,7,1] h ?_; intro a w h
      refine h.spl (fun c46 h => ?_) (fun c46 h => ?_)
      ·have d46 : bq = false := cd_ c46
       refine au [0,0,0,1,0,1,0,1,0,1,0,1,0,1,0,1,4,8,0,3] h ?_; intro a w h
       exact (by show S _ _ _ _ _ _ _ _; rw [show (.bool (!bq) : Value) = .bool true from Eq.symm (by first | ((try rw [c46]) <;> (try simp only [Bool.true_or, Bool.or_true, Bool.false_or, Bool.or_false, Bool.true_and, Bool.and_true, Bool.false_and, Bool.and_false, Bool.not_true, Bool.not_false, cond_true, cond_false]); done) | (exfalso; omega)), show (.bool (!bq || !decide (fs28[k2] = nm)) : Value) = .bool true from Eq.symm (by clear h; cases bq <;> simp_all)]; exact h.to 0 _)
      ·have d46 : bq = true := cd_ c46
       refine au [0,0,0,0,0,0] h ?_; intro a w h
       have hj50 : k2 < fs28.length := by first | assumption | omega | (simp; done) | (simp; omega)
       obtain ⟨g50, o50, e50, hc50⟩ := SS.get (SS.up hk28 leHL2) hj50
       refine iaE sli70 sz9 rfl hj50 e50 h fun a w h => ?_
       refine ldHD t1_9 (hc50) h fun a w h => ?_
       refine au [0,7,4,2,7,0,5,0,0,3] h ?_; intro a w h
       exact (by show S _ _ _ _ _ _ _ _; rw [show (.bool (!bq) : Value) = .bool false from Eq.symm (by first | ((try rw [c46]) <;> (try simp only [Bool.true_or, Bool.or_true, Bool.false_or, Bool.or_false, Bool.true_and, Bool.and_true, Bool.false_and, Bool.and_false, Bool.not_true, Bool.not_false, cond_true, cond_false]); done) | (exfalso; omega)), show (.bool (!bq || !decide (fs28[k2] = nm)) : Value) = .bool (!decide (fs28[k2] = nm)) from Eq.symm (by clear h; cases bq <;> simp_all)]; exact h.to 0 _)
     ·rintro a w h
      refine cdB h (fun c55 => ?_) (fun c55 => ?_)
      ·refine au [0,5,0,0,0,0,0,0] h ?_; intro a w h
       have hj59 : k2 < fs28.length := by first | assumption | omega | (simp; done) | (simp; omega)
       obtain ⟨g59, o59, e59, hc59⟩ := SS.get (SS.up hk28 leHL2) hj59
       refine iaE sli70 sz9 rfl hj59 e59 h fun a w h => ?_
       refine ldH t1_9 (hc59) h fun a w h => ?_
       refine cl bod62 (Add_ok os2 fs28[k2] _ _ E HL2 _ hos2 (by omega)) h (fun r61 H61 L61 a w le61 R h => ?_)
       obtain ⟨⟨as61, A61, c61, rfl, hk61, ha61⟩, rfl⟩ := R
       refine au [0,6,1,1,1,7,1,0,0,5,0,0] h ?_; intro a w h
       refine inc ?_ h fun a w h => ?_
       ·omega
       refine au [0,6,0,3] h ?_; intro a w h
       have l_H28_H61 : LE H28 H61 := leHL2.trans le61
       exact ⟨((k2 + 1), H61, as61, A61, c61), ⟨⟨by omega, l_H28_H61, ⟨hk61, free_add hmem2 d42 c55 ha61.1, by have := ha61.2; omega⟩⟩, h.to 0 _⟩, by show _ - (k2 + 1) < _ - k2; omega⟩
      ·refine au [1,8,1,7,1,0,0,5,0,0] h ?_; intro a w h
       refine inc ?_ h fun a w h => ?_
       ·omega
       refine au [0,6,0,3] h ?_; intro a w h
       exact ⟨((k2 + 1), HL2, os2, Ao2, co2), ⟨⟨by omega, leHL2, ⟨hos2, free_skip hmem2 d42 c55, by omega⟩⟩, h.to 0 _⟩, by show _ - (k2 + 1) < _ - k2; omega⟩
    ·have d42 : fs28.length ≤ k2 := cd_ c42
     refine au [2,5,2,2,2,2,2,3,1,7,1,0,0,5,0,0] h ?_; intro a w h
     refine inc ?_ h fun a w h => ?_
     ·omega
     refine au [0,6,0,3] h ?_; intro a w h
     have l_H_HL2 : LE H HL2 := (leHL0.trans le28).trans leHL2
     exact ⟨((k + 1), HL2, os2, Ao2, co2), ⟨⟨by omega, l_H_HL2, ⟨hos2, free_next d20 hmem2 (by omega) hf28 hbq, by have := take_size d20; omega⟩⟩, h.to 0 _⟩, by show _ - (k + 1) < _ - k; omega⟩
  ·have d20 : ks.length ≤ k := cd_ c20
   refine au [2,5,2,2,2,2,2,3,1,0,1,2,0,0,0,6,0,3,1,3] h ?_; intro a w h
   refine fin1 2 1 h leHL0 ?_
   exact ⟨⟨os, Ao, co, rfl, hos, fun x => by rw [freeK_all, show ks.length = k by omega]; exact hmem x, by have := size_take_le ks k; show _ ≤ 1 + sizeL ks; omega⟩, rfl⟩
theorem known_ok (t : Tm) (l : List Bs) (v : Value) (A : Option Addr) (c : Nat) (E : World) (H : GH) (L : List It) (hv : VT H v t) (hl : SS H A c l) (hb : t.size < 1000000000000) (hb2 : l.length < 1000000000000) : Ok Tryz.prog 35 #[v, .slice A l.length c] E H L fun r H' L' => r = .bool (!t.strange l) ∧ L = L' := by
 obtain ⟨At0, ct0, rfl, ht0⟩ := hv
 refine enter (N := 22) [(0, _), (1, _)] Tryz.func35 rfl rfl rfl rfl fun a w h => ?_
 refine au [1,2] h ?_
 refine bxA h fun g2 a w h => ?_
 refine au [0,6,0,2,3,3] h ?_; intro a w h
 refine cl bod49 (FreeR_ok t _ E H _ ⟨At0, ct0, rfl, ht0⟩ (by first | assumption | omega)) h (fun r8 H8 L8 a w le8 R h => ?_)
 obtain ⟨⟨fs8, A8, c8, rfl, hk8, hf8, hl8⟩, rfl⟩ := R
 refine au [0,6,0,3,0,4,1,2,0,6,0,3,1,5] h ?_; intro a w h
 have h := h.del 0
 refine lp (β := Nat) (fun k a w => ((k ≤ fs8.length) ∧ (∀ j (hj : j < fs8.length), j < k → l.contains fs8[j] = true)) ∧ S E H8 22 [] [(1, .slice A l.length c), (5, .slice A8 fs8.length c8), (6, .int .i64 (k : Int))] (L) a w)
  (fun k => fs8.length - k) 0 ⟨⟨Nat.zero_le _, fun _ _ h => absurd h (by omega)⟩, h.to 0 _⟩ ?_
 rintro k a w ⟨⟨hk, hi⟩, h⟩
 refine au [0,4,1,2,0,0,0,0,6,0,6,4,0,3] h ?_; intro a w h
 refine cdB h (fun c12 => ?_) (fun c12 => ?_)
 ·have d12 : k < fs8.length := cd_ c12
  refine au [1,8,1,0,0,4,1,5,1,2,0,0,0,0,0,0] h ?_; intro a w h
  have hj18 : k < fs8.length := by first | assumption | omega | (simp; done) | (simp; omega)
  obtain ⟨g18, o18, e18, hc18⟩ := SS.get hk8 hj18
  refine iaE sli70 sz9 rfl hj18 e18 h fun a w h => ?_
  refine ldH t1_9 (hc18) h fun a w h => ?_
  refine cl bod34 (has7_ok l fs8[k] _ _ E H8 _ (SS.up hl le8) (by first | assumption | omega)) h (fun r20 H20 L20 a w le20 R h => ?_)
  obtain ⟨rfl, rfl, rfl⟩ := R
  refine au [7,1,0,3] h ?_; intro a w h
  refine cdB h (fun c21 => ?_) (fun c21 => ?_)
  ·have d21 : (l.contains fs8[k]) = false := cd_ c21
   refine au [1,2,0,6,0,3,1,3,1,6,1,4,1,4,1,6,1,4] h ?_; intro a w h
   refine fin1 4 0 h le8 ?_
   exact ⟨by rw [known_no hf8 hj18 (by simpa using c21)], rfl⟩
  ·have d21 : (l.contains fs8[k]) = true := cd_ c21
   refine au [1,8,1,7,1,0,0,5,0,0] h ?_; intro a w h
   refine inc ?_ h fun a w h => ?_
   ·omega
   refine au [0,6,0,3] h ?_; intro a w h
   exact ⟨(k + 1), ⟨⟨by omega, fun j hj h0 => by rcases upto h0 with h0 | rfl; exact hi j hj h0; simpa using c21⟩, h.to 0 _⟩, by show _ - (k + 1) < _ - k; omega⟩
 ·have d12 : fs8.length ≤ k := cd_ c12
  refine au [2,5,2,2,2,2,2,3,1,0,1,2,0,6,0,3,1,3] h ?_; intro a w h
  refine fin1 4 0 h le8 ?_
  exact ⟨by rw [known_yes hf8 fun j hj => hi j hj (by omega)], rfl⟩
theorem rename7_ok : ∀ (t : Tm) (l : List Bn) (n : Int) (v : Value) (A : Option Addr) (c : Nat) (E : World) (H : GH) (L : List It), VT H v t → BnS H A c l → In64 n → t.size < 1000000000 → l.length + t.size < 1000000000 →
   Ok Tryz.prog 19 #[v, .int .i64 n, .slice A l.length c] E H L fun r H' L' => ∃ v', r = .tuple #[v', .int .i64 (t.ren (lookR l) n).2] ∧ VT H' v' (t.ren (lookR l) n).1 ∧ L = L' := by
 intro t
 induction t using Tm.ind with
 | h kd nm nn ks ih =>
 intro l n v A c E H L hv hl hn hb hb2
 obtain ⟨At0, ct0, rfl, ht0⟩ := hv
 dsimp only [Tm.kind, Tm.name, Tm.n, Tm.kids] at ht0 ⊢
 simp only [Tm.size] at hb hb2
 have hlen := length_le_sizeL ks
 refine enter (N := 97) [(0, _), (1, _), (2, _)] Tryz.func19 rfl rfl rfl rfl fun a w h => ?_
 refine au [1,2] h ?_
 refine bxA h fun g3 a w h => ?_
 refine al zr35 h fun g6 a w h => ?_
 refine au [0,6,0,2,0,7,2,8,0,7,2,8,0,7,2,8,7,5] h ?_; intro a w h
 refine al zr35 h fun g8 a w h => ?_
 refine au [5,5,0,2,0,0,0,6,0,3,0,4,1,2,3,5] h ?_; intro a w h
 refine cl bod21 (BinderR_ok _ _ _ _ _ E H _ ⟨At0, ct0, rfl, ht0⟩) h (fun r24 H24 L24 a w le24 R h => ?_)
 obtain ⟨rfl, rfl, rfl⟩ := R
 refine au [0,3] h ?_
 refine cdB h (fun c24 => ?_) (fun c24 => ?_)
 ·refine au [1,2,0,0] h ?_; intro a w h
  refine cl bod40 (Name7_ok n E H _ (by assumption)) h (fun r26 H26 L26 a w le26 R h => ?_)
  obtain ⟨rfl, rfl, rfl⟩ := R
  refine au [0,7,5,1,0,3,0,4] h ?_; intro a w h
  refine rgx [2] [_] [3] 10 mix h (fun a w h => ?_)
  refine au [8,0,0,0,2,6,8,2,0,7,2,6,8,3,3,8,2,6,8,4,0,0,2,6] h ?_; intro a w h
  refine bg1 1 true h ?_
  have h := h.row (e := 96) (sz := 2)
  refine apsn (n := 0) (L' := fun i => i :: _) 0 l.length (by first | (simp; done) | (simp; omega)) row94 hl RBn_one h (by first | omega | (simp; done) | (simp; omega)) (by first | omega | (simp; done) | (simp; omega)) fun v29 nw29 a w hone29 hnw29 h => ?_
  obtain ⟨B29, cp29, rfl⟩ := h.rowv 0
  have hr29 : RowR RBn 2 H ([] ++ nw29) l := (RowR.nil : RowR RBn 2 H [] ([] : List Bn)).app hnw29
  refine br0 ?_
  refine bg1 5 true h ?_
  refine cl bod40 (Name7_ok n E H _ (by assumption)) h (fun r33 H33 L33 a w le33 R h => ?_)
  obtain ⟨rfl, rfl, rfl⟩ := R
  refine au [2,7,8,6,7,5,2,6] h ?_; intro a w h
  refine bg1 7 true h ?_
  refine bsl bs94 h fun g35 a w h => ?_
  refine br0 ?_
  refine bg1 8 true h ?_
  refine apn (n := l.length) (m := 1) 1 0 (L' := fun i => _ :: i :: _) [_, _] ((l ++ [(Bn.mk nm (Lib.itoa n) : Bn)]).length) (by first | (simp; done) | (simp; omega)) row94 h (by first | omega | (simp; done) | (simp; omega)) (by first | omega | (simp; done) | (simp; omega)) fun v36 a w hone36 h => ?_
  obtain ⟨B36, cp36, rfl⟩ := h.rowv 1
  have hr36 : RowR RBn 2 H (([] ++ nw29) ++ [str nm, str (Lib.itoa n)]) (l ++ [(Bn.mk nm (Lib.itoa n) : Bn)]) := hr29.snoc rfl rfl
  refine au [2,7,8,9,0,6,2,6] h ?_; intro a w h
  refine en (by kernel_rfl) ?_
  refine au [1,0,0,5,0,0] h ?_; intro a w h
  refine adr (nx n) rfl h fun a w h => ?_
  refine au [0,6,0,3,0,4,1,2,0,7,3,2,6,2,0,3] h ?_; intro a w h
  refine cdB h (fun c41 => ?_) (fun c41 => ?_)
  ·have d41 : kd = 2 := cd_ c41
   subst d41; simp [bnd] at c24
  ·have d41 : kd ≠ 2 := cd_ c41
   refine au [1,8,1,0,0,4,1,2,0,6,0,3,1,5] h ?_; intro a w h
   have h := h.row (e := 35) (sz := 4)
   have h := h.del 1
   obtain ⟨Hrra29, leHrra29, h, hsHrra29⟩ := h.frw 1 hr36 rfl (fun _ l cs y _ hr => hr)
   refine lp (β := Nat × GH × (Option Addr) × Nat × (List Value)) (fun x a w => match x with | (k2, HL2, Brk, prk, xrk) => ((k2 ≤ ks.length) ∧ (LE Hrra29 HL2) ∧ (RowR RT 4 HL2 xrk ((rnT kd nm ks (lookR l) n k2).1))) ∧ S E HL2 97 [] [(1, .int .i64 ((rnT kd nm ks (lookR l) n k2).2)), (2, .slice A l.length c), (3, .pointer (some ⟨g3, 0, none⟩)), (6, .pointer (some ⟨g6, 0, none⟩)), (7, .int .i64 0), (8, .pointer (some ⟨g8, 0, none⟩)), (9, .slice B36 (l ++ [(Bn.mk nm (Lib.itoa n) : Bn)]).length cp36), (11, .int .i64 (k2 : Int))] (.row (.slice Brk (((rnT kd nm ks (lookR l) n k2).1).length) prk) 35 4 (((rnT kd nm ks (lookR l) n k2).1).length) xrk :: .obj g8 (.cells #[.int .i64 kd, str (Lib.itoa n), .int .i64 nn, .slice Brk (((rnT kd nm ks (lookR l) n k2).1).length) prk] 35 (0, 0)) :: .obj g6 (.cells #[.int .i64 0, str [], .int .i64 0, .slice none 0 0] 35 (0, 0)) :: .obj g3 (.cells #[.int .i64 kd, str nm, .int .i64 nn, .slice At0 ks.length ct0] 35 (0, 0)) :: L) a w)
    (fun x => match x with | (k2, HL2, Brk, prk, xrk) => ks.length - k2) (0, Hrra29, none, 0, []) ⟨⟨Nat.zero_le _, LE.rfl, ((RowR.nil : RowR RT 4 H [] ([] : List Tm)).mono fun cs y _ hr => RT.mono leHrra29 y hr)⟩, (by show S _ _ _ _ _ _ _ _; rw [show (.int .i64 ((rnT kd nm ks (lookR l) n 0).2) : Value) = .int .i64 (nx n) from Eq.symm (by simp [rnT_zero, c24])]; exact h.to 0 _)⟩ ?_
   rintro ⟨k2, HL2, Brk, prk, xrk⟩ a w ⟨⟨hk, leHL2, hrrk⟩, h⟩
   have hrl := rnT_len (kd := kd) (nm := nm) (σ := lookR l) (n := n) hk
   refine au [0,4,1,2,0,0,0,7,3,1,6,0,6,4,0,3] h ?_; intro a w h
   refine cdB h (fun c66 => ?_) (fun c66 => ?_)
   ·have d66 : k2 < ks.length := cd_ c66
    refine au [1,8,1,0,0,4,1,5,1,2,0,0,0,6,0,3,0,4,1,2,0,0,0,7,3,1,6,0] h ?_; intro a w h
    refine sbr ((ks.length : Int) - 1) (w64 (by omega) (by omega)) h fun a w h => ?_
    refine au [6,2,0,3] h ?_; intro a w h
    refine cdB h (fun c75 => ?_) (fun c75 => ?_)
    ·have d75 : (k2 : Int) = ((ks.length : Int) - 1) := cd_ c75
     refine au [0,5,0,0,0,6,0,2,0,7,3,1,0,0] h ?_; intro a w h
     have l_H_HL2 : LE H HL2 := leHrra29.trans leHL2
     have hj81 : k2 < ks.length := by first | assumption | omega | (simp; done) | (simp; omega)
     obtain ⟨g81, o81, A81_0, c81_0, e81, hv81, hc81⟩ := KS.get (KS.up ht0 l_H_HL2) hj81
     obtain ⟨_, _, q81, hk81_0⟩ := hv81; cases q81
     refine iaE sli33 sz35 rfl hj81 e81 h fun a w h => ?_
     refine ldHN tN35 rfl hc81 h fun a w h => ?_
     refine au [0,0,0,0] h ?_; intro a w h
     have hσ : (if bnd kd && k2 + 1 == ks.length then updS (lookR l) nm (renN kd nm (lookR l) n) else lookR l) = lookR (l ++ [(Bn.mk nm (Lib.itoa n) : Bn)]) := by rw [if_pos (by simp [c24]; omega), lookR_snoc]; simp [renN, c24]
     have hz := size_get_le d66
     refine cl bod19 (ih _ (List.getElem_mem d66) (l ++ [(Bn.mk nm (Lib.itoa n) : Bn)]) ((rnT kd nm ks (lookR l) n k2).2) _ _ _ E HL2 _ ⟨A81_0, c81_0, rfl, hk81_0⟩ (BnS.up hsHrra29 leHL2) (rnT_in hn _ _ _ _ _) (by omega) (by first | omega | (simp; omega))) h (fun r85 H85 L85 a w le85 R h => ?_)
     obtain ⟨_, rfl, ⟨A85_0_0, c85_0_0, rfl, hk85_0_0⟩, rfl⟩ := R
     refine au [0,0,4,7,4,7] h ?_; intro a w h
     refine al zr35 h fun g13 a w h => ?_
     refine au [5,5,0,6,0,2,0,7,3,0,3,3] h ?_; intro a w h
     refine bsl bs33 h fun g91 a w h => ?_
     refine apn (n := (((rnT kd nm ks (lookR l) n k2).1).length)) (m := 1) 2 0 (L' := fun i => _ :: _ :: i :: _) [_, _, _, _] (((rnT kd nm ks (lookR l) n k2).1 ++ [((ks[k2].ren (lookR (l ++ [(Bn.mk nm (Lib.itoa n) : Bn)])) ((rnT kd nm ks (lookR l) n k2).2)).1)]).length) (by first | (simp; done) | (simp; omega)) row33 h (by first | omega | (simp; done) | (simp; omega) | (simp; omega)) (by first | omega | (simp; done) | (simp; omega) | (simp; omega)) fun v92 a w hone92 h => ?_
     obtain ⟨B92, cp92, rfl⟩ := h.rowv 2
     have hr92 : RowR RT 4 H85 (xrk ++ [.int .i64 (((ks[k2].ren (lookR (l ++ [(Bn.mk nm (Lib.itoa n) : Bn)])) ((rnT kd nm ks (lookR l) n k2).2)).1).kind), str (((ks[k2].ren (lookR (l ++ [(Bn.mk nm (Lib.itoa n) : Bn)])) ((rnT kd nm ks (lookR l) n k2).2)).1).name), .int .i64 (((ks[k2].ren (lookR (l ++ [(Bn.mk nm (Lib.itoa n) : Bn)])) ((rnT kd nm ks (lookR l) n k2).2)).1).n), .slice A85_0_0 (((ks[k2].ren (lookR (l ++ [(Bn.mk nm (Lib.itoa n) : Bn)])) ((rnT kd nm ks (lookR l) n k2).2)).1).kids).length c85_0_0]) ((rnT kd nm ks (lookR l) n k2).1 ++ [((ks[k2].ren (lookR (l ++ [(Bn.mk nm (Lib.itoa n) : Bn)])) ((rnT kd nm ks (lookR l) n k2).2)).1)]) := (hrrk.mono fun cs y _ hr => RT.mono le85 y hr).snoc rfl (rt_of_vt (cs := [_, _, _, _]) ⟨_, _, rfl, hk85_0_0⟩)
     refine au [0,7,5,4,0,3,0,5,0,0,0,6,1,1,1,7,1,0,0,5,0,0] h ?_; intro a w h
     refine inc ?_ h fun a w h => ?_
     ·omega
     refine au [0,6,0,3] h ?_; intro a w h
     have h := h.del 0
     have h := h.del 0
     have l_Hrra29_H85 : LE Hrra29 H85 := leHL2.trans le85
     exact ⟨((k2 + 1), H85, B92, cp92, _), ⟨⟨by omega, l_Hrra29_H85, (by have q := hr92; rwa [show ((rnT kd nm ks (lookR l) n k2).1 ++ [((ks[k2].ren (lookR (l ++ [(Bn.mk nm (Lib.itoa n) : Bn)])) ((rnT kd nm ks (lookR l) n k2).2)).1)]) = (rnT kd nm ks (lookR l) n (k2 + 1)).1 from by rw [rnT_succ d66 hσ]] at q)⟩, (by show S _ _ _ _ _ _ _ _; rw [show (((rnT kd nm ks (lookR l) n (k2 + 1)).1).length) = ((rnT kd nm ks (lookR l) n k2).1 ++ [((ks[k2].ren (lookR (l ++ [(Bn.mk nm (Lib.itoa n) : Bn)])) ((rnT kd nm ks (lookR l) n k2).2)).1)]).length from Eq.symm (by rw [rnT_succ d66 hσ]), show (.int .i64 ((rnT kd nm ks (lookR l) n (k2 + 1)).2) : Value) = .int .i64 ((ks[k2].ren (lookR (l ++ [(Bn.mk nm (Lib.itoa n) : Bn)])) ((rnT kd nm ks (lookR l) n k2).2)).2) from Eq.symm (by rw [rnT_succ d66 hσ])]; exact h.to 0 _)⟩, by show _ - (k2 + 1) < _ - k2; omega⟩
    ·have d75 : (k2 : Int) ≠ ((ks.length : Int) - 1) := cd_ c75
     refine au [1,8,1,0,1,2,0,7,3,1,0,0] h ?_; intro a w h
     have l_H_HL2 : LE H HL2 := leHrra29.trans leHL2
     have hj81 : k2 < ks.length := by first | assumption | omega | (simp; done) | (simp; omega)
     obtain ⟨g81, o81, A81_0, c81_0, e81, hv81, hc81⟩ := KS.get (KS.up ht0 l_H_HL2) hj81
     obtain ⟨_, _, q81, hk81_0⟩ := hv81; cases q81
     refine iaE sli33 sz35 rfl hj81 e81 h fun a w h => ?_
     refine ldHN tN35 rfl hc81 h fun a w h => ?_
     refine au [0,0,0,0] h ?_; intro a w h
     have hσ : (if bnd kd && k2 + 1 == ks.length then updS (lookR l) nm (renN kd nm (lookR l) n) else lookR l) = lookR l := by rw [if_neg (by simp [c24]; omega)]
     have hz := size_get_le d66
     refine cl bod19 (ih _ (List.getElem_mem d66) l ((rnT kd nm ks (lookR l) n k2).2) _ _ _ E HL2 _ ⟨A81_0, c81_0, rfl, hk81_0⟩ (BnS.up hl l_H_HL2) (rnT_in hn _ _ _ _ _) (by omega) (by first | omega | (simp; omega))) h (fun r85 H85 L85 a w le85 R h => ?_)
     obtain ⟨_, rfl, ⟨A85_0_0, c85_0_0, rfl, hk85_0_0⟩, rfl⟩ := R
     refine au [0,0,4,7,4,7] h ?_; intro a w h
     refine al zr35 h fun g13 a w h => ?_
     refine au [5,5,0,6,0,2,0,7,3,0,3,3] h ?_; intro a w h
     refine bsl bs33 h fun g91 a w h => ?_
     refine apn (n := (((rnT kd nm ks (lookR l) n k2).1).length)) (m := 1) 2 0 (L' := fun i => _ :: _ :: i :: _) [_, _, _, _] (((rnT kd nm ks (lookR l) n k2).1 ++ [((ks[k2].ren (lookR l) ((rnT kd nm ks (lookR l) n k2).2)).1)]).length) (by first | (simp; done) | (simp; omega)) row33 h (by first | omega | (simp; done) | (simp; omega) | (simp; omega)) (by first | omega | (simp; done) | (simp; omega) | (simp; omega)) fun v92 a w hone92 h => ?_
     obtain ⟨B92, cp92, rfl⟩ := h.rowv 2
     have hr92 : RowR RT 4 H85 (xrk ++ [.int .i64 (((ks[k2].ren (lookR l) ((rnT kd nm ks (lookR l) n k2).2)).1).kind), str (((ks[k2].ren (lookR l) ((rnT kd nm ks (lookR l) n k2).2)).1).name), .int .i64 (((ks[k2].ren (lookR l) ((rnT kd nm ks (lookR l) n k2).2)).1).n), .slice A85_0_0 (((ks[k2].ren (lookR l) ((rnT kd nm ks (lookR l) n k2).2)).1).kids).length c85_0_0]) ((rnT kd nm ks (lookR l) n k2).1 ++ [((ks[k2].ren (lookR l) ((rnT kd nm ks (lookR l) n k2).2)).1)]) := (hrrk.mono fun cs y _ hr => RT.mono le85 y hr).snoc rfl (rt_of_vt (cs := [_, _, _, _]) ⟨_, _, rfl, hk85_0_0⟩)
     refine au [0,7,5,4,0,3,0,5,0,0,0,6,1,1,1,7,1,0,0,5,0,0] h ?_; intro a w h
     refine inc ?_ h fun a w h => ?_
     ·omega
     refine au [0,6,0,3] h ?_; intro a w h
     have h := h.del 0
     have h := h.del 0
     have l_Hrra29_H85 : LE Hrra29 H85 := leHL2.trans le85
     exact ⟨((k2 + 1), H85, B92, cp92, _), ⟨⟨by omega, l_Hrra29_H85, (by have q := hr92; rwa [show ((rnT kd nm ks (lookR l) n k2).1 ++ [((ks[k2].ren (lookR l) ((rnT kd nm ks (lookR l) n k2).2)).1)]) = (rnT kd nm ks (lookR l) n (k2 + 1)).1 from by rw [rnT_succ d66 hσ]] at q)⟩, (by show S _ _ _ _ _ _ _ _; rw [show (((rnT kd nm ks (lookR l) n (k2 + 1)).1).length) = ((rnT kd nm ks (lookR l) n k2).1 ++ [((ks[k2].ren (lookR l) ((rnT kd nm ks (lookR l) n k2).2)).1)]).length from Eq.symm (by rw [rnT_succ d66 hσ]), show (.int .i64 ((rnT kd nm ks (lookR l) n (k2 + 1)).2) : Value) = .int .i64 ((ks[k2].ren (lookR l) ((rnT kd nm ks (lookR l) n k2).2)).2) from Eq.symm (by rw [rnT_succ d66 hσ])]; exact h.to 0 _)⟩, by show _ - (k2 + 1) < _ - k2; omega⟩
   ·have d66 : ks.length ≤ k2 := cd_ c66
    refine au [2,5,2,2,2,2,2,3,1,0,1,2,3,4,0,0,5,7,0,6,0,3,1,3] h ?_; intro a w h
    obtain ⟨Hrrk, leHrrk, h, hsHrrk⟩ := h.frw 0 hrrk rfl (fun _ l cs y _ hr => RT.mono l y hr)
    obtain rfl : k2 = ks.length := by omega
    have l_H_Hrrk : LE H Hrrk := (leHrra29.trans leHL2).trans leHrrk
    exact fin (rs := [.cell 6 35, .tmp 7]) (vs := [.agg #[_, _, _, _], _]) h rfl (.agg (k0 := 1) tN35 rfl rfl rfl (.tmp rfl .nil)) rfl l_H_Hrrk ⟨LE.rfl, h.st.drop 3⟩ ⟨_, by rw [rnT_all]; rfl, by rw [rnT_all]; exact ⟨_, _, by rw [show renN kd nm (lookR l) n = (Lib.itoa n) from by simp [renN, c24]]; rfl, hsHrrk⟩, rfl⟩
 ·refine au [1,8,1,0,0,4,1,2,0,7,3,0,6,2,0,3] h ?_; intro a w h
  refine cdB h (fun c41 => ?_) (fun c41 => ?_)
  ·have d41 : kd = 2 := cd_ c41
   refine au [1,2,0,6,0,3,1,5] h ?_; intro a w h
   refine lp (β := Nat) (fun k a w => ((k ≤ l.length)) ∧ S E H 97 [] [(1, .int .i64 n), (2, .slice A l.length c), (3, .pointer (some ⟨g3, 0, none⟩)), (6, .pointer (some ⟨g6, 0, none⟩)), (7, .int .i64 0), (8, .pointer (some ⟨g8, 0, none⟩)), (9, .slice A l.length c), (10, .int .i64 (k : Int))] (.obj g8 (.cells #[.int .i64 kd, str ((lookR (l.take k) nm).getD nm), .int .i64 nn, .slice none 0 0] 35 (0, 0)) :: .obj g6 (.cells #[.int .i64 0, str [], .int .i64 0, .slice none 0 0] 35 (0, 0)) :: .obj g3 (.cells #[.int .i64 kd, str nm, .int .i64 nn, .slice At0 ks.length ct0] 35 (0, 0)) :: L) a w)
    (fun k => l.length - k) 0 ⟨Nat.zero_le _, (by show S _ _ _ _ _ _ _ _; rw [show (str ((lookR (l.take 0) nm).getD nm)) = str nm from Eq.symm (by simp [lookR])]; exact h.to 0 _)⟩ ?_
   rintro k a w ⟨hk, h⟩
   refine au [0,4,1,2,0,0,0,0,6,0,6,4,0,3] h ?_; intro a w h
   refine cdB h (fun c45 => ?_) (fun c45 => ?_)
   ·have d45 : k < l.length := cd_ c45
    refine au [1,8,1,0,0,4,1,5,0,4] h ?_
    refine rgd [2] [_] [] [4, 6] 1 mix (by kernel_rfl) h (fun a w h => ?_)
    refine au [0,0,0,0] h ?_; intro a w h
    have hj50 : k < l.length := by first | assumption | omega | (simp; done) | (simp; omega)
    obtain ⟨g50, o50, e50, hv50, hc50⟩ := BnS.get hl hj50
    refine iaE sli94 sz96 rfl hj50 e50 h fun a w h => ?_
    refine fa fl96_0 (r := o50 + k * 2 + 0) h fun a w h => ?_
    refine ldHD t1_9 (hc50 0 _ rfl) h fun a w h => ?_
    refine au [0,7,4,2,6,8,0,3] h ?_; intro a w h
    refine cdB h (fun c55 => ?_) (fun c55 => ?_)
    ·have d55 : l[k].name = nm := cd_ c55
     refine au [0,5,0,0,0,0] h ?_; intro a w h
     have hj58 : k < l.length := by first | assumption | omega | (simp; done) | (simp; omega)
     obtain ⟨g58, o58, e58, hv58, hc58⟩ := BnS.get hl hj58
     refine iaE sli94 sz96 rfl hj58 e58 h fun a w h => ?_
     refine fa fl96_1 (r := o58 + k * 2 + 1) h fun a w h => ?_
     refine ldH t1_9 (hc58 1 _ rfl) h fun a w h => ?_
     refine au [0,7,5,1,1,1,1,7,1,0,0,5,0,0] h ?_; intro a w h
     refine inc ?_ h fun a w h => ?_
     ·omega
     refine au [0,6,0,3] h ?_; intro a w h
     exact ⟨(k + 1), ⟨by omega, (by show S _ _ _ _ _ _ _ _; rw [show (str ((lookR (l.take (k + 1)) nm).getD nm)) = str l[k].to from Eq.symm (by rw [lookR_take d45]; simp [d55])]; exact h.to 0 _)⟩, by show _ - (k + 1) < _ - k; omega⟩
    ·have d55 : l[k].name ≠ nm := cd_ c55
     refine au [1,8,1,7,1,0,0,5,0,0] h ?_; intro a w h
     refine inc ?_ h fun a w h => ?_
     ·omega
     refine au [0,6,0,3] h ?_; intro a w h
     exact ⟨(k + 1), ⟨by omega, (by show S _ _ _ _ _ _ _ _; rw [show (str ((lookR (l.take (k + 1)) nm).getD nm)) = str ((lookR (l.take k) nm).getD nm) from Eq.symm (by rw [lookR_take d45]; simp [d55])]; exact h.to 0 _)⟩, by show _ - (k + 1) < _ - k; omega⟩
   ·have d45 : l.length ≤ k := cd_ c45
    refine au [2,5,2,2,2,2,2,3,1,0,0,4,1,2,0,6,0,3,1,5] h ?_; intro a w h
    have h := h.row (e := 35) (sz := 4)
    refine lp (β := Nat × GH × (Option Addr) × Nat × (List Value)) (fun x a w => match x with | (k2, HL2, Brk, prk, xrk) => ((k2 ≤ ks.length) ∧ (LE H HL2) ∧ (RowR RT 4 HL2 xrk ((rnT kd nm ks (lookR l) n k2).1))) ∧ S E HL2 97 [] [(1, .int .i64 ((rnT kd nm ks (lookR l) n k2).2)), (2, .slice A l.length c), (3, .pointer (some ⟨g3, 0, none⟩)), (6, .pointer (some ⟨g6, 0, none⟩)), (7, .int .i64 0), (8, .pointer (some ⟨g8, 0, none⟩)), (9, .slice A l.length c), (10, .int .i64 (k : Int)), (11, .int .i64 (k2 : Int)), (42, .int .i64 (k : Int)), (43, .slice A l.length c), (44, .int .i64 (l.length : Int)), (45, .bool (decide (((k : Int) : Int) < (l.length : Int))))] (.row (.slice Brk (((rnT kd nm ks (lookR l) n k2).1).length) prk) 35 4 (((rnT kd nm ks (lookR l) n k2).1).length) xrk :: .obj g8 (.cells #[.int .i64 kd, str ((lookR (l.take k) nm).getD nm), .int .i64 nn, .slice Brk (((rnT kd nm ks (lookR l) n k2).1).length) prk] 35 (0, 0)) :: .obj g6 (.cells #[.int .i64 0, str [], .int .i64 0, .slice none 0 0] 35 (0, 0)) :: .obj g3 (.cells #[.int .i64 kd, str nm, .int .i64 nn, .slice At0 ks.length ct0] 35 (0, 0)) :: L) a w)
     (fun x => match x with | (k2, HL2, Brk, prk, xrk) => ks.length - k2) (0, H, none, 0, []) ⟨⟨Nat.zero_le _, LE.rfl, (RowR.nil : RowR RT 4 H [] ([] : List Tm))⟩, (by show S _ _ _ _ _ _ _ _; rw [show (.int .i64 ((rnT kd nm ks (lookR l) n 0).2) : Value) = .int .i64 n from Eq.symm (by simp [rnT_zero, c24])]; exact h.to 0 _)⟩ ?_
    rintro ⟨k2, HL2, Brk, prk, xrk⟩ a w ⟨⟨hk, leHL2, hrrk⟩, h⟩
    have hrl := rnT_len (kd := kd) (nm := nm) (σ := lookR l) (n := n) hk
    refine au [0,4,1,2,0,0,0,7,3,1,6,0,6,4,0,3] h ?_; intro a w h
    refine cdB h (fun c66 => ?_) (fun c66 => ?_)
    ·have d66 : k2 < ks.length := cd_ c66
     refine au [1,8,1,0,0,4,1,5,1,2,0,0,0,6,0,3,0,4,1,2,0,0,0,7,3,1,6,0] h ?_; intro a w h
     refine sbr ((ks.length : Int) - 1) (w64 (by omega) (by omega)) h fun a w h => ?_
     refine au [6,2,0,3] h ?_; intro a w h
     refine cdB h (fun c75 => ?_) (fun c75 => ?_)
     ·have d75 : (k2 : Int) = ((ks.length : Int) - 1) := cd_ c75
      refine au [0,5,0,0,0,6,0,2,0,7,3,1,0,0] h ?_; intro a w h
      have hj81 : k2 < ks.length := by first | assumption | omega | (simp; done) | (simp; omega)
      obtain ⟨g81, o81, A81_0, c81_0, e81, hv81, hc81⟩ := KS.get (KS.up ht0 leHL2) hj81
      obtain ⟨_, _, q81, hk81_0⟩ := hv81; cases q81
      refine iaE sli33 sz35 rfl hj81 e81 h fun a w h => ?_
      refine ldHN tN35 rfl hc81 h fun a w h => ?_
      refine au [0,0,0,0] h ?_; intro a w h
      have hσ : (if bnd kd && k2 + 1 == ks.length then updS (lookR l) nm (renN kd nm (lookR l) n) else lookR l) = lookR l := by rw [if_neg (by simp [c24])]
      have hz := size_get_le d66
      refine cl bod19 (ih _ (List.getElem_mem d66) l ((rnT kd nm ks (lookR l) n k2).2) _ _ _ E HL2 _ ⟨A81_0, c81_0, rfl, hk81_0⟩ (BnS.up hl leHL2) (rnT_in hn _ _ _ _ _) (by omega) (by first | omega | (simp; omega))) h (fun r85 H85 L85 a w le85 R h => ?_)
      obtain ⟨_, rfl, ⟨A85_0_0, c85_0_0, rfl, hk85_0_0⟩, rfl⟩ := R
      refine au [0,0,4,7,4,7] h ?_; intro a w h
      refine al zr35 h fun g13 a w h => ?_
      refine au [5,5,0,6,0,2,0,7,3,0,3,3] h ?_; intro a w h
      refine bsl bs33 h fun g91 a w h => ?_
      refine apn (n := (((rnT kd nm ks (lookR l) n k2).1).length)) (m := 1) 2 0 (L' := fun i => _ :: _ :: i :: _) [_, _, _, _] (((rnT kd nm ks (lookR l) n k2).1 ++ [((ks[k2].ren (lookR l) ((rnT kd nm ks (lookR l) n k2).2)).1)]).length) (by first | (simp; done) | (simp; omega)) row33 h (by first | omega | (simp; done) | (simp; omega) | (simp; omega)) (by first | omega | (simp; done) | (simp; omega) | (simp; omega)) fun v92 a w hone92 h => ?_
      obtain ⟨B92, cp92, rfl⟩ := h.rowv 2
      have hr92 : RowR RT 4 H85 (xrk ++ [.int .i64 (((ks[k2].ren (lookR l) ((rnT kd nm ks (lookR l) n k2).2)).1).kind), str (((ks[k2].ren (lookR l) ((rnT kd nm ks (lookR l) n k2).2)).1).name), .int .i64 (((ks[k2].ren (lookR l) ((rnT kd nm ks (lookR l) n k2).2)).1).n), .slice A85_0_0 (((ks[k2].ren (lookR l) ((rnT kd nm ks (lookR l) n k2).2)).1).kids).length c85_0_0]) ((rnT kd nm ks (lookR l) n k2).1 ++ [((ks[k2].ren (lookR l) ((rnT kd nm ks (lookR l) n k2).2)).1)]) := (hrrk.mono fun cs y _ hr => RT.mono le85 y hr).snoc rfl (rt_of_vt (cs := [_, _, _, _]) ⟨_, _, rfl, hk85_0_0⟩)
      refine au [0,7,5,4,0,3,0,5,0,0,0,6,1,1,1,7,1,0,0,5,0,0] h ?_; intro a w h
      refine inc ?_ h fun a w h => ?_
      ·omega
      refine au [0,6,0,3] h ?_; intro a w h
      have h := h.del 0
      have h := h.del 0
      have l_H_H85 : LE H H85 := leHL2.trans le85
      exact ⟨((k2 + 1), H85, B92, cp92, _), ⟨⟨by omega, l_H_H85, (by have q := hr92; rwa [show ((rnT kd nm ks (lookR l) n k2).1 ++ [((ks[k2].ren (lookR l) ((rnT kd nm ks (lookR l) n k2).2)).1)]) = (rnT kd nm ks (lookR l) n (k2 + 1)).1 from by rw [rnT_succ d66 hσ]] at q)⟩, (by show S _ _ _ _ _ _ _ _; rw [show (((rnT kd nm ks (lookR l) n (k2 + 1)).1).length) = ((rnT kd nm ks (lookR l) n k2).1 ++ [((ks[k2].ren (lookR l) ((rnT kd nm ks (lookR l) n k2).2)).1)]).length from Eq.symm (by rw [rnT_succ d66 hσ]), show (.int .i64 ((rnT kd nm ks (lookR l) n (k2 + 1)).2) : Value) = .int .i64 ((ks[k2].ren (lookR l) ((rnT kd nm ks (lookR l) n k2).2)).2) from Eq.symm (by rw [rnT_succ d66 hσ])]; exact h.to 0 _)⟩, by show _ - (k2 + 1) < _ - k2; omega⟩
     ·have d75 : (k2 : Int) ≠ ((ks.length : Int) - 1) := cd_ c75
      refine au [1,8,1,0,1,2,0,7,3,1,0,0] h ?_; intro a w h
      have hj81 : k2 < ks.length := by first | assumption | omega | (simp; done) | (simp; omega)
      obtain ⟨g81, o81, A81_0, c81_0, e81, hv81, hc81⟩ := KS.get (KS.up ht0 leHL2) hj81
      obtain ⟨_, _, q81, hk81_0⟩ := hv81; cases q81
      refine iaE sli33 sz35 rfl hj81 e81 h fun a w h => ?_
      refine ldHN tN35 rfl hc81 h fun a w h => ?_
      refine au [0,0,0,0] h ?_; intro a w h
      have hσ : (if bnd kd && k2 + 1 == ks.length then updS (lookR l) nm (renN kd nm (lookR l) n) else lookR l) = lookR l := by rw [if_neg (by simp [c24])]
      have hz := size_get_le d66
      refine cl bod19 (ih _ (List.getElem_mem d66) l ((rnT kd nm ks (lookR l) n k2).2) _ _ _ E HL2 _ ⟨A81_0, c81_0, rfl, hk81_0⟩ (BnS.up hl leHL2) (rnT_in hn _ _ _ _ _) (by omega) (by first | omega | (simp; omega))) h (fun r85 H85 L85 a w le85 R h => ?_)
      obtain ⟨_, rfl, ⟨A85_0_0, c85_0_0, rfl, hk85_0_0⟩, rfl⟩ := R
      refine au [0,0,4,7,4,7] h ?_; intro a w h
      refine al zr35 h fun g13 a w h => ?_
      refine au [5,5,0,6,0,2,0,7,3,0,3,3] h ?_; intro a w h
      refine bsl bs33 h fun g91 a w h => ?_
      refine apn (n := (((rnT kd nm ks (lookR l) n k2).1).length)) (m := 1) 2 0 (L' := fun i => _ :: _ :: i :: _) [_, _, _, _] (((rnT kd nm ks (lookR l) n k2).1 ++ [((ks[k2].ren (lookR l) ((rnT kd nm ks (lookR l) n k2).2)).1)]).length) (by first | (simp; done) | (simp; omega)) row33 h (by first | omega | (simp; done) | (simp; omega) | (simp; omega)) (by first | omega | (simp; done) | (simp; omega) | (simp; omega)) fun v92 a w hone92 h => ?_
      obtain ⟨B92, cp92, rfl⟩ := h.rowv 2
      have hr92 : RowR RT 4 H85 (xrk ++ [.int .i64 (((ks[k2].ren (lookR l) ((rnT kd nm ks (lookR l) n k2).2)).1).kind), str (((ks[k2].ren (lookR l) ((rnT kd nm ks (lookR l) n k2).2)).1).name), .int .i64 (((ks[k2].ren (lookR l) ((rnT kd nm ks (lookR l) n k2).2)).1).n), .slice A85_0_0 (((ks[k2].ren (lookR l) ((rnT kd nm ks (lookR l) n k2).2)).1).kids).length c85_0_0]) ((rnT kd nm ks (lookR l) n k2).1 ++ [((ks[k2].ren (lookR l) ((rnT kd nm ks (lookR l) n k2).2)).1)]) := (hrrk.mono fun cs y _ hr => RT.mono le85 y hr).snoc rfl (rt_of_vt (cs := [_, _, _, _]) ⟨_, _, rfl, hk85_0_0⟩)
      refine au [0,7,5,4,0,3,0,5,0,0,0,6,1,1,1,7,1,0,0,5,0,0] h ?_; intro a w h
      refine inc ?_ h fun a w h => ?_
      ·omega
      refine au [0,6,0,3] h ?_; intro a w h
      have h := h.del 0
      have h := h.del 0
      have l_H_H85 : LE H H85 := leHL2.trans le85
      exact ⟨((k2 + 1), H85, B92, cp92, _), ⟨⟨by omega, l_H_H85, (by have q := hr92; rwa [show ((rnT kd nm ks (lookR l) n k2).1 ++ [((ks[k2].ren (lookR l) ((rnT kd nm ks (lookR l) n k2).2)).1)]) = (rnT kd nm ks (lookR l) n (k2 + 1)).1 from by rw [rnT_succ d66 hσ]] at q)⟩, (by show S _ _ _ _ _ _ _ _; rw [show (((rnT kd nm ks (lookR l) n (k2 + 1)).1).length) = ((rnT kd nm ks (lookR l) n k2).1 ++ [((ks[k2].ren (lookR l) ((rnT kd nm ks (lookR l) n k2).2)).1)]).length from Eq.symm (by rw [rnT_succ d66 hσ]), show (.int .i64 ((rnT kd nm ks (lookR l) n (k2 + 1)).2) : Value) = .int .i64 ((ks[k2].ren (lookR l) ((rnT kd nm ks (lookR l) n k2).2)).2) from Eq.symm (by rw [rnT_succ d66 hσ])]; exact h.to 0 _)⟩, by show _ - (k2 + 1) < _ - k2; omega⟩
    ·have d66 : ks.length ≤ k2 := cd_ c66
     refine au [2,5,2,2,2,2,2,3,1,0,1,2,3,4,0,0,5,7,0,6,0,3,1,3] h ?_; intro a w h
     obtain ⟨Hrrk, leHrrk, h, hsHrrk⟩ := h.frw 0 hrrk rfl (fun _ l cs y _ hr => RT.mono l y hr)
     obtain rfl : k2 = ks.length := by omega
     have l_H_Hrrk : LE H Hrrk := leHL2.trans leHrrk
     exact fin (rs := [.cell 6 35, .tmp 7]) (vs := [.agg #[_, _, _, _], _]) h rfl (.agg (k0 := 1) tN35 rfl rfl rfl (.tmp rfl .nil)) rfl l_H_Hrrk ⟨LE.rfl, h.st.drop 3⟩ ⟨_, by rw [rnT_all]; rfl, by rw [rnT_all]; exact ⟨_, _, by rw [show renN kd nm (lookR l) n = ((lookR (l.take k) nm).getD nm) from by rw [renN, c24]; simp [d41, show l.take k = l from List.take_of_length_le (by omega)]]; rfl, hsHrrk⟩, rfl⟩
  ·have d41 : kd ≠ 2 := cd_ c41
   refine au [1,8,1,0,0,4,1,2,0,6,0,3,1,5] h ?_; intro a w h
   have h := h.row (e := 35) (sz := 4)
   refine lp (β := Nat × GH × (Option Addr) × Nat × (List Value)) (fun x a w => match x with | (k2, HL2, Brk, prk, xrk) => ((k2 ≤ ks.length) ∧ (LE H HL2) ∧ (RowR RT 4 HL2 xrk ((rnT kd nm ks (lookR l) n k2).1))) ∧ S E HL2 97 [] [(1, .int .i64 ((rnT kd nm ks (lookR l) n k2).2)), (2, .slice A l.length c), (3, .pointer (some ⟨g3, 0, none⟩)), (6, .pointer (some ⟨g6, 0, none⟩)), (7, .int .i64 0), (8, .pointer (some ⟨g8, 0, none⟩)), (9, .slice A l.length c), (11, .int .i64 (k2 : Int))] (.row (.slice Brk (((rnT kd nm ks (lookR l) n k2).1).length) prk) 35 4 (((rnT kd nm ks (lookR l) n k2).1).length) xrk :: .obj g8 (.cells #[.int .i64 kd, str nm, .int .i64 nn, .slice Brk (((rnT kd nm ks (lookR l) n k2).1).length) prk] 35 (0, 0)) :: .obj g6 (.cells #[.int .i64 0, str [], .int .i64 0, .slice none 0 0] 35 (0, 0)) :: .obj g3 (.cells #[.int .i64 kd, str nm, .int .i64 nn, .slice At0 ks.length ct0] 35 (0, 0)) :: L) a w)
    (fun x => match x with | (k2, HL2, Brk, prk, xrk) => ks.length - k2) (0, H, none, 0, []) ⟨⟨Nat.zero_le _, LE.rfl, (RowR.nil : RowR RT 4 H [] ([] : List Tm))⟩, (by show S _ _ _ _ _ _ _ _; rw [show (.int .i64 ((rnT kd nm ks (lookR l) n 0).2) : Value) = .int .i64 n from Eq.symm (by simp [rnT_zero, c24])]; exact h.to 0 _)⟩ ?_
   rintro ⟨k2, HL2, Brk, prk, xrk⟩ a w ⟨⟨hk, leHL2, hrrk⟩, h⟩
   have hrl := rnT_len (kd := kd) (nm := nm) (σ := lookR l) (n := n) hk
   refine au [0,4,1,2,0,0,0,7,3,1,6,0,6,4,0,3] h ?_; intro a w h
   refine cdB h (fun c66 => ?_) (fun c66 => ?_)
   ·have d66 : k2 < ks.length := cd_ c66
    refine au [1,8,1,0,0,4,1,5,1,2,0,0,0,6,0,3,0,4,1,2,0,0,0,7,3,1,6,0] h ?_; intro a w h
    refine sbr ((ks.length : Int) - 1) (w64 (by omega) (by omega)) h fun a w h => ?_
    refine au [6,2,0,3] h ?_; intro a w h
    refine cdB h (fun c75 => ?_) (fun c75 => ?_)
    ·have d75 : (k2 : Int) = ((ks.length : Int) - 1) := cd_ c75
     refine au [0,5,0,0,0,6,0,2,0,7,3,1,0,0] h ?_; intro a w h
     have hj81 : k2 < ks.length := by first | assumption | omega | (simp; done) | (simp; omega)
     obtain ⟨g81, o81, A81_0, c81_0, e81, hv81, hc81⟩ := KS.get (KS.up ht0 leHL2) hj81
     obtain ⟨_, _, q81, hk81_0⟩ := hv81; cases q81
     refine iaE sli33 sz35 rfl hj81 e81 h fun a w h => ?_
     refine ldHN tN35 rfl hc81 h fun a w h => ?_
     refine au [0,0,0,0] h ?_; intro a w h
     have hσ : (if bnd kd && k2 + 1 == ks.length then updS (lookR l) nm (renN kd nm (lookR l) n) else lookR l) = lookR l := by rw [if_neg (by simp [c24])]
     have hz := size_get_le d66
     refine cl bod19 (ih _ (List.getElem_mem d66) l ((rnT kd nm ks (lookR l) n k2).2) _ _ _ E HL2 _ ⟨A81_0, c81_0, rfl, hk81_0⟩ (BnS.up hl leHL2) (rnT_in hn _ _ _ _ _) (by omega) (by first | omega | (simp; omega))) h (fun r85 H85 L85 a w le85 R h => ?_)
     obtain ⟨_, rfl, ⟨A85_0_0, c85_0_0, rfl, hk85_0_0⟩, rfl⟩ := R
     refine au [0,0,4,7,4,7] h ?_; intro a w h
     refine al zr35 h fun g13 a w h => ?_
     refine au [5,5,0,6,0,2,0,7,3,0,3,3] h ?_; intro a w h
     refine bsl bs33 h fun g91 a w h => ?_
     refine apn (n := (((rnT kd nm ks (lookR l) n k2).1).length)) (m := 1) 2 0 (L' := fun i => _ :: _ :: i :: _) [_, _, _, _] (((rnT kd nm ks (lookR l) n k2).1 ++ [((ks[k2].ren (lookR l) ((rnT kd nm ks (lookR l) n k2).2)).1)]).length) (by first | (simp; done) | (simp; omega)) row33 h (by first | omega | (simp; done) | (simp; omega) | (simp; omega)) (by first | omega | (simp; done) | (simp; omega) | (simp; omega)) fun v92 a w hone92 h => ?_
     obtain ⟨B92, cp92, rfl⟩ := h.rowv 2
     have hr92 : RowR RT 4 H85 (xrk ++ [.int .i64 (((ks[k2].ren (lookR l) ((rnT kd nm ks (lookR l) n k2).2)).1).kind), str (((ks[k2].ren (lookR l) ((rnT kd nm ks (lookR l) n k2).2)).1).name), .int .i64 (((ks[k2].ren (lookR l) ((rnT kd nm ks (lookR l) n k2).2)).1).n), .slice A85_0_0 (((ks[k2].ren (lookR l) ((rnT kd nm ks (lookR l) n k2).2)).1).kids).length c85_0_0]) ((rnT kd nm ks (lookR l) n k2).1 ++ [((ks[k2].ren (lookR l) ((rnT kd nm ks (lookR l) n k2).2)).1)]) := (hrrk.mono fun cs y _ hr => RT.mono le85 y hr).snoc rfl (rt_of_vt (cs := [_, _, _, _]) ⟨_, _, rfl, hk85_0_0⟩)
     refine au [0,7,5,4,0,3,0,5,0,0,0,6,1,1,1,7,1,0,0,5,0,0] h ?_; intro a w h
     refine inc ?_ h fun a w h => ?_
     ·omega
     refine au [0,6,0,3] h ?_; intro a w h
     have h := h.del 0
     have h := h.del 0
     have l_H_H85 : LE H H85 := leHL2.trans le85
     exact ⟨((k2 + 1), H85, B92, cp92, _), ⟨⟨by omega, l_H_H85, (by have q := hr92; rwa [show ((rnT kd nm ks (lookR l) n k2).1 ++ [((ks[k2].ren (lookR l) ((rnT kd nm ks (lookR l) n k2).2)).1)]) = (rnT kd nm ks (lookR l) n (k2 + 1)).1 from by rw [rnT_succ d66 hσ]] at q)⟩, (by show S _ _ _ _ _ _ _ _; rw [show (((rnT kd nm ks (lookR l) n (k2 + 1)).1).length) = ((rnT kd nm ks (lookR l) n k2).1 ++ [((ks[k2].ren (lookR l) ((rnT kd nm ks (lookR l) n k2).2)).1)]).length from Eq.symm (by rw [rnT_succ d66 hσ]), show (.int .i64 ((rnT kd nm ks (lookR l) n (k2 + 1)).2) : Value) = .int .i64 ((ks[k2].ren (lookR l) ((rnT kd nm ks (lookR l) n k2).2)).2) from Eq.symm (by rw [rnT_succ d66 hσ])]; exact h.to 0 _)⟩, by show _ - (k2 + 1) < _ - k2; omega⟩
    ·have d75 : (k2 : Int) ≠ ((ks.length : Int) - 1) := cd_ c75
     refine au [1,8,1,0,1,2,0,7,3,1,0,0] h ?_; intro a w h
     have hj81 : k2 < ks.length := by first | assumption | omega | (simp; done) | (simp; omega)
     obtain ⟨g81, o81, A81_0, c81_0, e81, hv81, hc81⟩ := KS.get (KS.up ht0 leHL2) hj81
     obtain ⟨_, _, q81, hk81_0⟩ := hv81; cases q81
     refine iaE sli33 sz35 rfl hj81 e81 h fun a w h => ?_
     refine ldHN tN35 rfl hc81 h fun a w h => ?_
     refine au [0,0,0,0] h ?_; intro a w h
     have hσ : (if bnd kd && k2 + 1 == ks.length then updS (lookR l) nm (renN kd nm (lookR l) n) else lookR l) = lookR l := by rw [if_neg (by simp [c24])]
     have hz := size_get_le d66
     refine cl bod19 (ih _ (List.getElem_mem d66) l ((rnT kd nm ks (lookR l) n k2).2) _ _ _ E HL2 _ ⟨A81_0, c81_0, rfl, hk81_0⟩ (BnS.up hl leHL2) (rnT_in hn _ _ _ _ _) (by omega) (by first | omega | (simp; omega))) h (fun r85 H85 L85 a w le85 R h => ?_)
     obtain ⟨_, rfl, ⟨A85_0_0, c85_0_0, rfl, hk85_0_0⟩, rfl⟩ := R
     refine au [0,0,4,7,4,7] h ?_; intro a w h
     refine al zr35 h fun g13 a w h => ?_
     refine au [5,5,0,6,0,2,0,7,3,0,3,3] h ?_; intro a w h
     refine bsl bs33 h fun g91 a w h => ?_
     refine apn (n := (((rnT kd nm ks (lookR l) n k2).1).length)) (m := 1) 2 0 (L' := fun i => _ :: _ :: i :: _) [_, _, _, _] (((rnT kd nm ks (lookR l) n k2).1 ++ [((ks[k2].ren (lookR l) ((rnT kd nm ks (lookR l) n k2).2)).1)]).length) (by first | (simp; done) | (simp; omega)) row33 h (by first | omega | (simp; done) | (simp; omega) | (simp; omega)) (by first | omega | (simp; done) | (simp; omega) | (simp; omega)) fun v92 a w hone92 h => ?_
     obtain ⟨B92, cp92, rfl⟩ := h.rowv 2
     have hr92 : RowR RT 4 H85 (xrk ++ [.int .i64 (((ks[k2].ren (lookR l) ((rnT kd nm ks (lookR l) n k2).2)).1).kind), str (((ks[k2].ren (lookR l) ((rnT kd nm ks (lookR l) n k2).2)).1).name), .int .i64 (((ks[k2].ren (lookR l) ((rnT kd nm ks (lookR l) n k2).2)).1).n), .slice A85_0_0 (((ks[k2].ren (lookR l) ((rnT kd nm ks (lookR l) n k2).2)).1).kids).length c85_0_0]) ((rnT kd nm ks (lookR l) n k2).1 ++ [((ks[k2].ren (lookR l) ((rnT kd nm ks (lookR l) n k2).2)).1)]) := (hrrk.mono fun cs y _ hr => RT.mono le85 y hr).snoc rfl (rt_of_vt (cs := [_, _, _, _]) ⟨_, _, rfl, hk85_0_0⟩)
     refine au [0,7,5,4,0,3,0,5,0,0,0,6,1,1,1,7,1,0,0,5,0,0] h ?_; intro a w h
     refine inc ?_ h fun a w h => ?_
     ·omega
     refine au [0,6,0,3] h ?_; intro a w h
     have h := h.del 0
     have h := h.del 0
     have l_H_H85 : LE H H85 := leHL2.trans le85
     exact ⟨((k2 + 1), H85, B92, cp92, _), ⟨⟨by omega, l_H_H85, (by have q := hr92; rwa [show ((rnT kd nm ks (lookR l) n k2).1 ++ [((ks[k2].ren (lookR l) ((rnT kd nm ks (lookR l) n k2).2)).1)]) = (rnT kd nm ks (lookR l) n (k2 + 1)).1 from by rw [rnT_succ d66 hσ]] at q)⟩, (by show S _ _ _ _ _ _ _ _; rw [show (((rnT kd nm ks (lookR l) n (k2 + 1)).1).length) = ((rnT kd nm ks (lookR l) n k2).1 ++ [((ks[k2].ren (lookR l) ((rnT kd nm ks (lookR l) n k2).2)).1)]).length from Eq.symm (by rw [rnT_succ d66 hσ]), show (.int .i64 ((rnT kd nm ks (lookR l) n (k2 + 1)).2) : Value) = .int .i64 ((ks[k2].ren (lookR l) ((rnT kd nm ks (lookR l) n k2).2)).2) from Eq.symm (by rw [rnT_succ d66 hσ])]; exact h.to 0 _)⟩, by show _ - (k2 + 1) < _ - k2; omega⟩
   ·have d66 : ks.length ≤ k2 := cd_ c66
    refine au [2,5,2,2,2,2,2,3,1,0,1,2,3,4,0,0,5,7,0,6,0,3,1,3] h ?_; intro a w h
    obtain ⟨Hrrk, leHrrk, h, hsHrrk⟩ := h.frw 0 hrrk rfl (fun _ l cs y _ hr => RT.mono l y hr)
    obtain rfl : k2 = ks.length := by omega
    have l_H_Hrrk : LE H Hrrk := leHL2.trans leHrrk
    exact fin (rs := [.cell 6 35, .tmp 7]) (vs := [.agg #[_, _, _, _], _]) h rfl (.agg (k0 := 1) tN35 rfl rfl rfl (.tmp rfl .nil)) rfl l_H_Hrrk ⟨LE.rfl, h.st.drop 3⟩ ⟨_, by rw [rnT_all]; rfl, by rw [rnT_all]; exact ⟨_, _, by rw [show renN kd nm (lookR l) n = nm from by rw [renN, c24]; simp [d41]]; rfl, hsHrrk⟩, rfl⟩
theorem Rename7_ok (t : Tm) (n : Int) (v : Value) (E : World) (H : GH) (L : List It) (hv : VT H v t) (hn : In64 n) (hb : t.size < 1000000000) : Ok Tryz.prog 6 #[v, .int .i64 n] E H L fun r H' L' => ∃ v', r = .tuple #[v', .int .i64 (t.ren (lookR []) n).2] ∧ VT H' v' (t.ren (lookR []) n).1 ∧ L = L' := by
 obtain ⟨At0, ct0, rfl, ht0⟩ := hv
 refine enter (N := 11) [(0, _), (1, _)] Tryz.func6 rfl rfl rfl rfl fun a w h => ?_
 refine au [1,2] h ?_
 refine bxA h fun g2 a w h => ?_
 refine al zr35 h fun g4 a w h => ?_
 refine au [0,6,0,2,3,4,0,0] h ?_; intro a w h
 refine cl bod19 (rename7_ok t [] n _ none 0 E H _ ⟨At0, ct0, rfl, ht0⟩ (RS.nil _ _ _) hn (by omega) (by simp; omega)) h (fun r8 H8 L8 a w le8 R h => ?_)
 obtain ⟨_, rfl, ⟨A8_0_0, c8_0_0, rfl, hk8_0_0⟩, rfl⟩ := R
 refine au [4,7,4,7,5,5,0,6,0,3,1,3] h ?_; intro a w h
 exact fin (rs := [.cell 4 35, .tmp 5]) (vs := [.agg #[_, _, _, _], _]) h rfl (.agg (k0 := 0) tN35 rfl rfl rfl (.tmp rfl .nil)) rfl le8 ⟨LE.rfl, h.st.drop 2⟩ ⟨_, rfl, ⟨_, _, rfl, hk8_0_0⟩, rfl⟩
end Go.Proofs.YtdabamobjciidaaGreatDoor
namespace Go.Proofs.YtdabamobjciidaaGreatDoor.X
open Go Go.RowKit
section
variable {P : Program} {ops : Array Oper} {Q : Exit → Act → World → Prop} {γ : Gd P ops Q} {rest : List Oper} {o : Oper} {E w : World} {H : GH} {N : Nat} {D : List Deferred} {F : List (Nat × Value)} {L : List It} {a : Act} {d : Nat} {t : TypeId}
theorem bs0 {e sz : Nat} {z : Array Value} (hl : bsT P t = some (e, sz, z)) (h : S E H N D F L a w)
   (k : ∀ g a w, S E H N D ((d, .slice (some ⟨g, 0, none⟩) 0 0) :: F) (.row (.slice (some ⟨g, 0, none⟩) 0 0) e sz 0 [] :: L) a w → γ.G rest a w)
   (ho : o.op = .buildSlice t 0 #[] := by rfl)
   (hw : wn ops F o = some true := by rfl) (hd : o.dst = some d := by rfl) (hN : Nat.blt d N = true := by rfl) (hE : γ.isE rest.length = true := by rfl) (hS : γ.isN rest.length = true → ∀ g w, St E H (.obj g (.cells #[] e (0, 0)) :: L) w → γ.S w := by first | exact fun e => Bool.noConfusion (show false = true from e) | exact fun _ _ _ hw => hw.sees' LE.rfl (by simp) | exact fun _ _ _ hw => hw.sees' (by assumption) (by simp)) : γ.G (o :: rest) a w := by
 refine val h hw hd hN hE (fun e => hS e _) (w' := w.alloc (.cells #[] e)) ?_ (h.st.alloc _) (v := .slice (some ⟨w.heap.size, 0, none⟩) 0 0) (fun a' w' h' => k w.heap.size a' w' ?_)
 · unfold bsT at hl
   split at hl
   · rename_i e' hu
     split at hl
     · rename_i i hi
       split at hl
       · rename_i zv hz
         split at hl
         · simp only [Option.some.injEq, Prod.mk.injEq] at hl
           obtain ⟨rfl, rfl, rfl⟩ := hl
           have hr : (Instr.buildSlice t 0 #[]).run P w = .ok (.slice (some ⟨w.heap.size, 0, none⟩) 0 0) (w.alloc (.cells #[] e')) := by
             unfold Instr.buildSlice
             simp [Sem.run_bind, run_underlying hu, Result.andThen_ok, sizeOf, typeInfo, program, Sem.run, hi, Sem.run_pure, newRow, newObj, World.alloc_eq, Instr.fill]
             congr 2
             apply Array.ext'; simp
           simp only [execOp, ho]
           rw [Array.map_empty]
           simp only [Sem.run_bind, hr, Result.andThen_ok, Sem.run_pure]
         · cases hl
       · cases hl
     · cases hl
   · cases hl
 · simpa using S.asRow (sz := sz) (n := 0) (cells := #[]) h' rfl (by simp)
end
end Go.Proofs.YtdabamobjciidaaGreatDoor.X
namespace Go.Proofs.YtdabamobjciidaaGreatDoor
open Go X
abbrev TkS (H : GH) (A : Option Addr) (c : Nat) (ks : List Tk) : Prop := RS RTk 3 H (.slice A ks.length c) ks
theorem TkS.up {H H' : GH} {A : Option Addr} {c : Nat} {ks : List Tk} (h : TkS H A c ks) (hl : LE H H') : TkS H' A c ks := RS.mono h hl fun _ _ _ h => h
theorem TkS.get {H : GH} {A : Option Addr} {c : Nat} {xs : List Tk} (h : TkS H A c xs) {j : Nat} (hj : j < xs.length) :
   ∃ g off, A = some ⟨g, off, none⟩ ∧ True ∧ ∀ i u, [Value.int .i64 xs[j].kind, str xs[j].text, .int .i64 xs[j].n][i]? = some u → Hc H g (off + j * 3 + i) u := by
 obtain ⟨g, off, cs, hA, hl, hr, hc⟩ := RS.at_ h (List.getElem?_eq_getElem hj)
 unfold RTk at hr; subst hr
 exact ⟨g, off, hA, trivial, hc⟩
theorem RTk_one {H : GH} {ks : List Tk} : ∀ cs y, y ∈ ks → RTk H cs y → ∀ u ∈ cs, u.oneCell' = true := rtk_one
theorem Print2_ok (ks : List Tk) (A : Option Addr) (c : Nat) (E : World) (H : GH) (L : List It) (hk0 : TkS H A c ks) (hb : ks.length < 1000000000000) (hl : (showL ks).length < 1000000000000) : Ok Tryz.prog 78 #[.slice A ks.length c] E H L fun r H' L' => r = str (showL ks) ∧ H = H' ∧ L = L' := by
 refine enter (N := 23) [(0, _)] Tryz.func78 rfl rfl rfl rfl fun a w h => ?_
 refine au [1,2,0,6,0,2,0,6,0,3,0,4,1,2,0,6,0,3,1,5] h ?_; intro a w h
 refine lp (β := Nat) (fun k a w => ((k ≤ ks.length)) ∧ S E H 23 [] [(0, .slice A ks.length c), (2, str []), (3, str (showL (ks.take k))), (4, .int .i64 (k : Int))] (L) a w)
  (fun k => ks.length - k) 0 ⟨Nat.zero_le _, (by show S _ _ _ _ _ _ _ _; rw [show (str (showL (ks.take 0))) = str [] from Eq.symm (by simp [showL, Lib.join])]; exact h.to 0 _)⟩ ?_
 rintro k a w ⟨hk, h⟩
 have hsm := showL_mono (l := ks) (k := k) hk (Nat.le_refl _)
 rw [List.take_length] at hsm
 refine au [0,4,1,2,0,0,0,0,6,0,6,4,0,3] h ?_; intro a w h
 refine cdB h (fun c8 => ?_) (fun c8 => ?_)
 ·have d8 : k < ks.length := cd_ c8
  have hsp := showL_pre d8
  have hsq := showL_mono (l := ks) (k := k + 1) (j := ks.length) (by omega) (Nat.le_refl _)
  rw [List.take_length] at hsq
  have hif : (if k = 0 then 1 else 0 : Nat) ≤ 1 := by split <;> omega
  refine au [1,8,1,0,0,4,1,5,0,4,1,2,0,0,6,6,0,3] h ?_; intro a w h
  refine cdB h (fun c12 => ?_) (fun c12 => ?_)
  ·have d12 : 0 < k := cd_ c12
   refine au [0,5,0,0] h ?_; intro a w h
   refine catB h ?_ fun a w h => ?_
   ·(try simp only [List.length_append, List.length_cons, List.length_nil]); omega
   refine au [0,6,0,3,0,5,0,0,0,0,0,0] h ?_; intro a w h
   have hj18 : k < ks.length := by first | assumption | omega | (simp; done) | (simp; omega)
   obtain ⟨g18, o18, e18, hv18, hc18⟩ := TkS.get hk0 hj18
   refine iaE sli132 sz163 rfl hj18 e18 h fun a w h => ?_
   refine fa fl163_1 (r := o18 + k * 3 + 1) h fun a w h => ?_
   refine ldH t1_9 (hc18 1 _ rfl) h fun a w h => ?_
   refine catB h ?_ fun a w h => ?_
   ·(try simp only [List.length_append, List.length_cons, List.length_nil]); omega
   refine au [0,6,1,1,1,7,1,0,0,5,0,0] h ?_; intro a w h
   refine inc ?_ h fun a w h => ?_
   ·omega
   refine au [0,6,0,3] h ?_; intro a w h
   exact ⟨(k + 1), ⟨by omega, (by show S _ _ _ _ _ _ _ _; rw [show (str (showL (ks.take (k + 1)))) = str (((showL (ks.take k)) ++ [32]) ++ ks[k].text) from Eq.symm (by rw [showL_take d8]; first | rw [if_neg (by omega)] | (rw [if_pos (by omega)]; simp [show k = 0 by omega, showL, Lib.join]))]; exact h.to 0 _)⟩, by show _ - (k + 1) < _ - k; omega⟩
  ·have d12 : k ≤ 0 := cd_ c12
   refine au [1,8,1,0,0,5,0,0,0,0,0,0] h ?_; intro a w h
   have hj18 : k < ks.length := by first | assumption | omega | (simp; done) | (simp; omega)
   obtain ⟨g18, o18, e18, hv18, hc18⟩ := TkS.get hk0 hj18
   refine iaE sli132 sz163 rfl hj18 e18 h fun a w h => ?_
   refine fa fl163_1 (r := o18 + k * 3 + 1) h fun a w h => ?_
   refine ldH t1_9 (hc18 1 _ rfl) h fun a w h => ?_
   refine catB h ?_ fun a w h => ?_
   ·(try simp only [List.length_append, List.length_cons, List.length_nil]); omega
   refine au [0,6,1,1,1,7,1,0,0,5,0,0] h ?_; intro a w h
   refine inc ?_ h fun a w h => ?_
   ·omega
   refine au [0,6,0,3] h ?_; intro a w h
   exact ⟨(k + 1), ⟨by omega, (by show S _ _ _ _ _ _ _ _; rw [show (str (showL (ks.take (k + 1)))) = str ((showL (ks.take k)) ++ ks[k].text) from Eq.symm (by rw [showL_take d8]; first | rw [if_neg (by omega)] | (rw [if_pos (by omega)]; simp [show k = 0 by omega, showL, Lib.join]))]; exact h.to 0 _)⟩, by show _ - (k + 1) < _ - k; omega⟩
 ·have d8 : ks.length ≤ k := cd_ c8
  refine au [2,5,2,2,2,2,2,3,1,0,1,2,0,0,0,6,0,3,1,3] h ?_; intro a w h
  refine fin1 2 0 h LE.rfl ?_
  exact ⟨by rw [List.take_of_length_le (show ks.length ≤ k by omega)], rfl, rfl⟩
theorem mark4_ok (s : Bs) (E : World) (H : GH) (L : List It) : Ok Tryz.prog 113 #[str s] E H L fun r H' L' => (∃ A c, r = .slice A ([Tk.mk 4 s 0]).length c ∧ TkS H' A c [Tk.mk 4 s 0]) ∧ L = L' := by
 refine enter (N := 6) [(0, _)] Tryz.func113 rfl rfl rfl rfl fun a w h => ?_
 refine au [1,2,0,6,0,2,0,0,7,5] h ?_; intro a w h
 refine bsl bs132 h fun g5 a w h => ?_
 obtain ⟨Hq5, leHq5, h, hsHq5⟩ := h.fsl (R := RTk) (sz := 3) (ys := [(Tk.mk 4 s 0 : Tk)]) 0 (RowR.one rfl rfl) (fun _ l cs y _ hr => hr)
 refine au [0,6,0,3,1,3] h ?_; intro a w h
 refine fin1 2 0 h leHq5 ?_
 exact ⟨⟨_, _, rfl, hsHq5⟩, rfl⟩
theorem key4_ok (s : Bs) (E : World) (H : GH) (L : List It) : Ok Tryz.prog 112 #[str s] E H L fun r H' L' => (∃ A c, r = .slice A ([Tk.mk 3 s 0]).length c ∧ TkS H' A c [Tk.mk 3 s 0]) ∧ L = L' := by
 refine enter (N := 6) [(0, _)] Tryz.func112 rfl rfl rfl rfl fun a w h => ?_
 refine au [1,2,0,6,0,2,0,0,7,5] h ?_; intro a w h
 refine bsl bs132 h fun g5 a w h => ?_
 obtain ⟨Hq5, leHq5, h, hsHq5⟩ := h.fsl (R := RTk) (sz := 3) (ys := [(Tk.mk 3 s 0 : Tk)]) 0 (RowR.one rfl rfl) (fun _ l cs y _ hr => hr)
 refine au [0,6,0,3,1,3] h ?_; intro a w h
 refine fin1 2 0 h leHq5 ?_
 exact ⟨⟨_, _, rfl, hsHq5⟩, rfl⟩
theorem name4_ok (s : Bs) (E : World) (H : GH) (L : List It) : Ok Tryz.prog 111 #[str s] E H L fun r H' L' => (∃ A c, r = .slice A ([Tk.mk 1 s 0]).length c ∧ TkS H' A c [Tk.mk 1 s 0]) ∧ L = L' := by
 refine enter (N := 6) [(0, _)] Tryz.func111 rfl rfl rfl rfl fun a w h => ?_
 refine au [1,2,0,6,0,2,0,0,7,5] h ?_; intro a w h
 refine bsl bs132 h fun g5 a w h => ?_
 obtain ⟨Hq5, leHq5, h, hsHq5⟩ := h.fsl (R := RTk) (sz := 3) (ys := [(Tk.mk 1 s 0 : Tk)]) 0 (RowR.one rfl rfl) (fun _ l cs y _ hr => hr)
 refine au [0,6,0,3,1,3] h ?_; intro a w h
 refine fin1 2 0 h leHq5 ?_
 exact ⟨⟨_, _, rfl, hsHq5⟩, rfl⟩
theorem join4_ok (ls : List Tkl) (A : Option Addr) (c : Nat) (E : World) (H : GH) (L : List It) (hl : TklS H A c ls) (hb : ls.length < 1000000000000) (hb2 : (ls.flatMap (·.l)).length < 1000000000) : Ok Tryz.prog 115 #[.slice A ls.length c] E H L fun r H' L' => (∃ A c, r = .slice A (ls.flatMap (·.l)).length c ∧ TkS H' A c (ls.flatMap (·.l))) ∧ L = L' := by
 refine enter (N := 18) [(0, _)] Tryz.func115 rfl rfl rfl rfl fun a w h => ?_
 refine au [1,2,0,6,0,2,0,6,0,3,0,4,1,2,0,6,0,3,1,5] h ?_; intro a w h
 have h := h.row (e := 163) (sz := 3)
 refine lp (β := Nat × GH × (Option Addr) × Nat × (List Value)) (fun x a w => match x with | (k, HL0, Brj, prj, xrj) => ((k ≤ ls.length) ∧ (LE H HL0) ∧ (RowR RTk 3 HL0 xrj ((ls.take k).flatMap (·.l)))) ∧ S E HL0 18 [] [(0, .slice A ls.length c), (2, .slice none 0 0), (3, .slice Brj (((ls.take k).flatMap (·.l)).length) prj), (4, .int .i64 (k : Int))] (.row (.slice Brj (((ls.take k).flatMap (·.l)).length) prj) 163 3 (((ls.take k).flatMap (·.l)).length) xrj :: L) a w)
  (fun x => match x with | (k, HL0, Brj, prj, xrj) => ls.length - k) (0, H, none, 0, []) ⟨⟨Nat.zero_le _, LE.rfl, (RowR.nil : RowR RTk 3 H [] ([] : List Tk))⟩, h.to 0 _⟩ ?_
 rintro ⟨k, HL0, Brj, prj, xrj⟩ a w ⟨⟨hk, leHL0, hrrj⟩, h⟩
 refine au [0,4,1,2,0,0,0,0,6,0,6,4,0,3] h ?_; intro a w h
 refine cdB h (fun c8 => ?_) (fun c8 => ?_)
 ·have d8 : k < ls.length := cd_ c8
  refine au [1,8,1,0,0,4,1,5,0,5,0,0,0,0,0,0] h ?_; intro a w h
  have hj14 : k < ls.length := by first | assumption | omega | (simp; done) | (simp; omega)
  obtain ⟨g14, o14, A14_0, c14_0, e14, hv14, hc14⟩ := TklS.get (TklS.up hl leHL0) hj14
  obtain ⟨_, _, q14, hk14_0⟩ := hv14; cases q14
  refine iaE sli164 sz132 rfl hj14 e14 h fun a w h => ?_
  refine ldH t1_132 (hc14 0 _ rfl) h fun a w h => ?_
  have hpr := flat_pre (f := fun x : Tkl => x.l) d8
  refine apsn (n := (((ls.take k).flatMap (·.l)).length)) (L' := fun i => i :: _) 0 ((((ls.take k).flatMap (·.l)) ++ ls[k].l).length) (by first | (simp; done) | (simp; omega)) row132 hk14_0 RTk_one h (by first | omega | (simp; done) | (simp; omega) | (rw [List.length_append]; omega)) (by first | omega | (simp; done) | (simp; omega) | (rw [List.length_append]; omega)) fun v16 nw16 a w hone16 hnw16 h => ?_
  obtain ⟨B16, cp16, rfl⟩ := h.rowv 0
  have hr16 : RowR RTk 3 HL0 (xrj ++ nw16) (((ls.take k).flatMap (·.l)) ++ ls[k].l) := hrrj.app hnw16
  refine au [0,6,1,1,1,7,1,0,0,5,0,0] h ?_; intro a w h
  refine inc ?_ h fun a w h => ?_
  ·omega
  refine au [0,6,0,3] h ?_; intro a w h
  exact ⟨((k + 1), HL0, B16, cp16, _), ⟨⟨by omega, leHL0, (by have q := hr16; rwa [show (((ls.take k).flatMap (·.l)) ++ ls[k].l) = ((ls.take (k + 1)).flatMap (·.l)) from by rw [flat_next d8]] at q)⟩, (by show S _ _ _ _ _ _ _ _; rw [show (((ls.take (k + 1)).flatMap (·.l)).length) = (((ls.take k).flatMap (·.l)) ++ ls[k].l).length from Eq.symm (by rw [flat_next d8])]; exact h.to 0 _)⟩, by show _ - (k + 1) < _ - k; omega⟩
 ·have d8 : ls.length ≤ k := cd_ c8
  refine au [2,5,2,2,2,2,2,3,1,0,1,2,0,0,0,6,0,3,1,3] h ?_; intro a w h
  obtain ⟨Hrrj, leHrrj, h, hsHrrj⟩ := h.frw 0 hrrj rfl (fun _ l cs y _ hr => hr)
  have l_H_Hrrj : LE H Hrrj := leHL0.trans leHrrj
  refine fin1 2 0 h l_H_Hrrj ?_
  exact ⟨⟨_, _, by rw [List.take_of_length_le (show ls.length ≤ k by omega)], by have q := hsHrrj; rwa [List.take_of_length_le (show ls.length ≤ k by omega)] at q⟩, rfl⟩
def TokOk (t : Tm) : Prop := ∀ (v : Value) (E : World) (H : GH) (L : List It), VT H v t → t.wrong = false → t.size < 100000000 → Ok Tryz.prog 79 #[v] E H L fun r H' L' => (∃ A c, r = .slice A t.toks.length c ∧ TkS H' A c t.toks) ∧ L = L'
theorem kid4_ok (t : Tm) (i : Nat) (hi : i < t.kids.length) (hr : TokOk t.kids[i]) (hw : t.kids[i].wrong = false) (hz : t.kids[i].size < 100000000) (v : Value) (E : World) (H : GH) (L : List It) (hv : VT H v t) : Ok Tryz.prog 114 #[v, .int .i64 (i : Int)] E H L fun r H' L' => (∃ A c, r = .slice A t.kids[i].within.length c ∧ TkS H' A c t.kids[i].within) ∧ L = L' := by
 obtain ⟨At0, ct0, rfl, ht0⟩ := hv
 refine enter (N := 27) [(0, _), (1, _)] Tryz.func114 rfl rfl rfl rfl fun a w h => ?_
 refine au [1,2] h ?_
 refine bxA h fun g2 a w h => ?_
 refine au [0,6,0,2,0,7,0,8,0,0] h ?_; intro a w h
 have hj9 : i < t.kids.length := by first | assumption | omega | (simp; done) | (simp; omega)
 obtain ⟨g9, o9, A9_0, c9_0, e9, hv9, hc9⟩ := KS.get ht0 hj9
 obtain ⟨_, _, q9, hk9_0⟩ := hv9; cases q9
 refine iaE sli33 sz35 rfl hj9 e9 h fun a w h => ?_
 refine ldHN tN35 rfl hc9 h fun a w h => ?_
 refine al zr35 h fun g5 a w h => ?_
 refine au [5,5,0,3,0,4,1,2,0,7,0,8,6,2] h ?_; intro a w h
 refine h.spl (fun c13 h => ?_) (fun c13 h => ?_)
 ·have d13 : t.kids[i].kind = 1 := cd_ c13
  refine au [0,0,0,1,0,1,0,1,4,8,0,3,2,0,1,2,3,3] h ?_; intro a w h
  refine cl bod79 (hr _ E H _ ⟨A9_0, c9_0, rfl, hk9_0⟩ hw hz) h (fun r20 H20 L20 a w le20 R h => ?_)
  obtain ⟨⟨A20, c20, rfl, hk20⟩, rfl⟩ := R
  refine au [0,6,0,3,1,3,1,4] h ?_; intro a w h
  have hwi : t.kids[i].within = (t.kids[i].toks) := by simp [Tm.within, c13]
  rw [hwi]
  refine fin1 4 2 h le20 ?_
  exact ⟨⟨_, _, rfl, hk20⟩, rfl⟩
 ·have d13 : t.kids[i].kind ≠ 1 := cd_ c13
  refine au [0,0,0,7,0,8,6,2,5,0,0,3] h ?_; intro a w h
  refine cdB h (fun c18 => ?_) (fun c18 => ?_)
  ·have d18 : t.kids[i].kind = 2 := cd_ c18
   refine au [1,2,3,3] h ?_; intro a w h
   refine cl bod79 (hr _ E H _ ⟨A9_0, c9_0, rfl, hk9_0⟩ hw hz) h (fun r20 H20 L20 a w le20 R h => ?_)
   obtain ⟨⟨A20, c20, rfl, hk20⟩, rfl⟩ := R
   refine au [0,6,0,3,1,3,1,4] h ?_; intro a w h
   have hwi : t.kids[i].within = (t.kids[i].toks) := by simp [Tm.within, c13, c18]
   rw [hwi]
   refine fin1 4 2 h le20 ?_
   exact ⟨⟨_, _, rfl, hk20⟩, rfl⟩
  ·have d18 : t.kids[i].kind ≠ 2 := cd_ c18
   refine au [1,8,1,0,0,4] h ?_
   refine rgx [0] [_] [1] 7 mix h (fun a w h => ?_)
   refine au [8,1,4,5,2,6] h ?_; intro a w h
   refine bg1 0 true h ?_
   refine clG bod113 (mark4_ok [40] E H _) h (fun r21 H21 L21 a w le21 R h => ?_)
   obtain ⟨⟨A21, c21, rfl, hk21⟩, rfl⟩ := R
   refine br0 ?_
   refine bf1 2 ?_
   refine clG bod79 (hr _ E H21 _ ⟨A9_0, c9_0, rfl, (KS.up hk9_0 le21)⟩ hw hz) h (fun r23 H23 L23 a w le23 R h => ?_)
   obtain ⟨⟨A23, c23, rfl, hk23⟩, rfl⟩ := R
   refine br0 ?_
   refine bg1 3 true h ?_
   refine clG bod113 (mark4_ok [41] E H23 _) h (fun r24 H24 L24 a w le24 R h => ?_)
   obtain ⟨⟨A24, c24, rfl, hk24⟩, rfl⟩ := R
   refine br0 ?_
   have l_H_H24 : LE H H24 := (le21.trans le23).trans le24
   refine bg1 4 true h ?_
   refine bsl bs164 h fun g25 a w h => ?_
   have l_H21_H24 : LE H21 H24 := le23.trans le24
   obtain ⟨Hq25, leHq25, h, hsHq25⟩ := h.fsl (R := RTkl) (sz := 1) (ys := [(Tkl.mk ([Tk.mk 4 [40] 0]) : Tkl), (Tkl.mk (t.kids[i].toks) : Tkl), (Tkl.mk ([Tk.mk 4 [41] 0]) : Tkl)]) 0 (RowR.cons rfl (rtkl_of_v (cs := [_]) ⟨_, _, rfl, (TkS.up hk21 l_H21_H24)⟩) (RowR.cons rfl (rtkl_of_v (cs := [_]) ⟨_, _, rfl, (TkS.up hk23 le24)⟩) (RowR.one rfl (rtkl_of_v (cs := [_]) ⟨_, _, rfl, hk24⟩)))) (fun _ l cs y _ hr => RTkl.mono l y hr)
   refine br0 ?_
   refine bg1 5 true h ?_
   refine clG bod115 (join4_ok ([(Tkl.mk ([Tk.mk 4 [40] 0]) : Tkl), (Tkl.mk (t.kids[i].toks) : Tkl), (Tkl.mk ([Tk.mk 4 [41] 0]) : Tkl)]) _ _ E Hq25 _ hsHq25 (by simp) (by have := toks_len t.kids[i]; simp; omega)) h (fun r26 H26 L26 a w le26 R h => ?_)
   obtain ⟨⟨A26, c26, rfl, hk26⟩, rfl⟩ := R
   refine au [2,7,8,6,0,6,2,6] h ?_; intro a w h
   refine en (by kernel_rfl) ?_
   refine au [1,0,1,3] h ?_
   have hwi : t.kids[i].within = (([(Tkl.mk ([Tk.mk 4 [40] 0]) : Tkl), (Tkl.mk (t.kids[i].toks) : Tkl), (Tkl.mk ([Tk.mk 4 [41] 0]) : Tkl)]).flatMap (·.l)) := by simp [Tm.within, c13, c18]
   rw [hwi]
   have l_H_H26 : LE H H26 := (((le21.trans le23).trans le24).trans leHq25).trans le26
   refine fin1 4 2 h l_H_H26 ?_
   exact ⟨⟨_, _, rfl, hk26⟩, rfl⟩
theorem toks4_ok : ∀ t : Tm, TokOk t := by
 intro t
 induction t using Tm.ind with
 | h kd nm nn ks ih =>
 intro v E H L hv hw hb
 obtain ⟨hn, hwk⟩ := right_of hw
 obtain ⟨hn1, hn2, hkn, hn3, hn4⟩ := kids_of_node hn
 obtain ⟨At0, ct0, rfl, ht0⟩ := hv
 dsimp only [Tm.kind, Tm.name, Tm.n, Tm.kids] at ht0 ⊢
 simp only [Tm.size] at hb
 have hlen := length_le_sizeL ks
 refine enter (N := 153) [(0, _)] Tryz.func79 rfl rfl rfl rfl fun a w h => ?_
 refine au [1,2] h ?_
 refine bxA h fun g1 a w h => ?_
 refine au [0,6,0,2] h ?_; intro a w h
 refine bs0 bs164 h fun g4 a w h => ?_
 refine au [0,6,0,3,0,4,1,2,0,7,2,8,0,3,1,5,1,2,6,2,0,6,0,3] h ?_; intro a w h
 refine cdB h (fun c7 => ?_) (fun c7 => ?_)
 ·have d7 : kd = 1 := cd_ c7
  have hkl : ks.length = 0 := by have := hkn; rw [d7] at this; simp [kidsL] at this; first | omega | simp [this]
  refine rgx [1] [_] [2, 5] 11 mix h (fun a w h => ?_)
  refine au [8,0,0,0,2,6,8,1,0,7,2,6,8,2,3,8,2,6,8,4,0,7,2,6,8,5,3,8,2,6] h ?_; intro a w h
  refine bg1 3 true h ?_
  refine clG bod60 (Digits_ok nn E H _ (by first | assumption | omega) (by first | assumption | omega)) h (fun r12 H12 L12 a w le12 R h => ?_)
  obtain ⟨rfl, rfl, rfl⟩ := R
  refine au [2,7,8,6,7,5,2,6] h ?_; intro a w h
  refine bg1 7 true h ?_
  refine bsl bs132 h fun g16 a w h => ?_
  obtain ⟨Hq16, leHq16, h, hsHq16⟩ := h.fsl (R := RTk) (sz := 3) (ys := [(Tk.mk 2 (Lib.itoa nn) nn : Tk)]) 0 (RowR.one rfl rfl) (fun _ l cs y _ hr => hr)
  refine br0 ?_
  refine bg1 8 true h ?_
  refine bsl bs164 h fun g17 a w h => ?_
  refine br0 ?_
  refine bg1 9 true h ?_
  refine apn (n := 0) (m := 1) 1 0 (L' := fun i => _ :: i :: _) [_] ((([] : List Tkl) ++ [(Tkl.mk ([(Tk.mk 2 (Lib.itoa nn) nn : Tk)]) : Tkl)]).length) (by first | (simp; done) | (simp; omega)) row164 h (by first | omega | (simp; done) | (simp; omega)) (by first | omega | (simp; done) | (simp; omega)) fun v18 a w hone18 h => ?_
  obtain ⟨B18, cp18, rfl⟩ := h.rowv 1
  have hr18 : RowR RTkl 1 Hq16 ([] ++ [.slice (some ⟨g16, 0, none⟩) ([(Tk.mk 2 (Lib.itoa nn) nn : Tk)]).length 1]) (([] : List Tkl) ++ [(Tkl.mk ([(Tk.mk 2 (Lib.itoa nn) nn : Tk)]) : Tkl)]) := ((RowR.nil : RowR RTkl 1 H [] ([] : List Tkl)).mono fun cs y _ hr => RTkl.mono leHq16 y hr).snoc rfl (rtkl_of_v (cs := [_]) ⟨_, _, rfl, hsHq16⟩)
  refine au [2,7,8,10,0,6,2,6] h ?_; intro a w h
  refine en (by kernel_rfl) ?_
  refine au [1,7,1,0,1,2,0,0] h ?_; intro a w h
  have hT : (([] : List Tkl) ++ [(Tkl.mk ([(Tk.mk 2 (Lib.itoa nn) nn : Tk)]) : Tkl)]).flatMap (·.l) = (Tm.mk kd nm nn ks).toks := by rw [toks_mk]; simp [layT', c7]
  obtain ⟨Hrrl, leHrrl, h, hsHrrl⟩ := h.frw 1 hr18 rfl (fun _ l cs y _ hr => RTkl.mono l y hr)
  refine cl bod115 (join4_ok (([] : List Tkl) ++ [(Tkl.mk ([(Tk.mk 2 (Lib.itoa nn) nn : Tk)]) : Tkl)]) _ _ E Hrrl _ hsHrrl (by simp) (by rw [hT]; have := toks_len (Tm.mk kd nm nn ks); simp only [Tm.size] at this; omega)) h (fun r152 H152 L152 a w le152 R h => ?_)
  obtain ⟨⟨A152, c152, rfl, hk152⟩, rfl⟩ := R
  refine au [0,6,0,3,1,3] h ?_; intro a w h
  have l_H_H152 : LE H H152 := (leHq16.trans leHrrl).trans le152
  refine fin1 2 2 h l_H_H152 ?_
  rw [← hT]; exact ⟨⟨_, _, rfl, hk152⟩, rfl⟩
 ·have d7 : kd ≠ 1 := cd_ c7
  refine au [1,2,6,2,0,6,0,3] h ?_; intro a w h
  refine cdB h (fun c19 => ?_) (fun c19 => ?_)
  ·have d19 : kd = 2 := cd_ c19
   have hkl : ks.length = 0 := by have := hkn; rw [d19] at this; simp [kidsL] at this; first | omega | simp [this]
   refine au [0,5,0,0,0,7,2,8] h ?_; intro a w h
   refine cl bod111 (name4_ok nm E H _) h (fun r24 H24 L24 a w le24 R h => ?_)
   obtain ⟨⟨A24, c24, rfl, hk24⟩, rfl⟩ := R
   refine bsl bs164 h fun g25 a w h => ?_
   refine apn (n := 0) (m := 1) 1 0 (L' := fun i => _ :: i :: _) [_] ((([] : List Tkl) ++ [(Tkl.mk ([Tk.mk 1 nm 0]) : Tkl)]).length) (by first | (simp; done) | (simp; omega)) row164 h (by first | omega | (simp; done) | (simp; omega)) (by first | omega | (simp; done) | (simp; omega)) fun v26 a w hone26 h => ?_
   obtain ⟨B26, cp26, rfl⟩ := h.rowv 1
   have hr26 : RowR RTkl 1 H24 ([] ++ [.slice A24 ([Tk.mk 1 nm 0]).length c24]) (([] : List Tkl) ++ [(Tkl.mk ([Tk.mk 1 nm 0]) : Tkl)]) := ((RowR.nil : RowR RTkl 1 H [] ([] : List Tkl)).mono fun cs y _ hr => RTkl.mono le24 y hr).snoc rfl (rtkl_of_v (cs := [_]) ⟨_, _, rfl, hk24⟩)
   refine au [0,6,1,1,1,7,1,0,1,2,0,0] h ?_; intro a w h
   have hT : (([] : List Tkl) ++ [(Tkl.mk ([Tk.mk 1 nm 0]) : Tkl)]).flatMap (·.l) = (Tm.mk kd nm nn ks).toks := by rw [toks_mk]; simp [layT', c7, c19]
   obtain ⟨Hrrl, leHrrl, h, hsHrrl⟩ := h.frw 1 hr26 rfl (fun _ l cs y _ hr => RTkl.mono l y hr)
   refine cl bod115 (join4_ok (([] : List Tkl) ++ [(Tkl.mk ([Tk.mk 1 nm 0]) : Tkl)]) _ _ E Hrrl _ hsHrrl (by simp) (by rw [hT]; have := toks_len (Tm.mk kd nm nn ks); simp only [Tm.size] at this; omega)) h (fun r152 H152 L152 a w le152 R h => ?_)
   obtain ⟨⟨A152, c152, rfl, hk152⟩, rfl⟩ := R
   refine au [0,6,0,3,1,3] h ?_; intro a w h
   have l_H_H152 : LE H H152 := (le24.trans leHrrl).trans le152
   refine fin1 2 2 h l_H_H152 ?_
   rw [← hT]; exact ⟨⟨_, _, rfl, hk152⟩, rfl⟩
  ·have d19 : kd ≠ 2 := cd_ c19
   refine au [1,2,6,2,0,6,0,3] h ?_; intro a w h
   refine cdB h (fun c27 => ?_) (fun c27 => ?_)
   ·have d27 : kd = 3 := cd_ c27
    have hkl : ks.length = 1 := by have := hkn; rw [d27] at this; simp [kidsL] at this; first | omega | simp [this]
    refine rgx [1] [_] [3, 6] 11 mix h (fun a w h => ?_)
    refine au [8,0,0,0,2,6,8,2,0,7,2,6,8,3,3,8,2,6,8,6,4,5,2,6] h ?_; intro a w h
    refine bg1 1 true h ?_
    refine clG bod112 (key4_ok ([102, 117, 110]) E H _) h (fun r30 H30 L30 a w le30 R h => ?_)
    obtain ⟨⟨A30, c30, rfl, hk30⟩, rfl⟩ := R
    refine br0 ?_
    refine bg1 4 true h ?_
    refine clG bod111 (name4_ok nm E H30 _) h (fun r33 H33 L33 a w le33 R h => ?_)
    obtain ⟨⟨A33, c33, rfl, hk33⟩, rfl⟩ := R
    refine br0 ?_
    refine bg1 5 true h ?_
    refine clG bod113 (mark4_ok ([61, 62]) E H33 _) h (fun r34 H34 L34 a w le34 R h => ?_)
    obtain ⟨⟨A34, c34, rfl, hk34⟩, rfl⟩ := R
    refine br0 ?_
    refine bg1 7 true h ?_
    have l_H_H34 : LE H H34 := (le30.trans le33).trans le34
    refine clG bod114 (kid4_ok (Tm.mk kd nm nn ks) 0 (by show _ < ks.length; omega) (ih _ (List.getElem_mem _)) (hwk _ (List.getElem_mem _)) (by have := size_get_le (ks := ks) (k := 0) (by omega); show ks[0].size < _; omega) _ E H34 _ ⟨At0, ct0, rfl, (KS.up ht0 l_H_H34)⟩) h (fun r36 H36 L36 a w le36 R h => ?_)
    obtain ⟨⟨A36, c36, rfl, hk36⟩, rfl⟩ := R
    refine br0 ?_
    have l_H_H36 : LE H H36 := ((le30.trans le33).trans le34).trans le36
    refine bg1 8 true h ?_
    refine bsl bs164 h fun g37 a w h => ?_
    refine br0 ?_
    refine bg1 9 true h ?_
    have l_H30_H36 : LE H30 H36 := (le33.trans le34).trans le36
    have l_H33_H36 : LE H33 H36 := le34.trans le36
    refine apn (n := 0) (m := 4) 1 0 (L' := fun i => _ :: i :: _) [_, _, _, _] ((([] : List Tkl) ++ [(Tkl.mk ([Tk.mk 3 ([102, 117, 110]) 0]) : Tkl), (Tkl.mk ([Tk.mk 1 nm 0]) : Tkl), (Tkl.mk ([Tk.mk 4 ([61, 62]) 0]) : Tkl), (Tkl.mk (ks[0].within) : Tkl)]).length) (by first | (simp; done) | (simp; omega)) row164 h (by first | omega | (simp; done) | (simp; omega)) (by first | omega | (simp; done) | (simp; omega)) fun v38 a w hone38 h => ?_
    obtain ⟨B38, cp38, rfl⟩ := h.rowv 1
    have hr38 : RowR RTkl 1 H36 ([] ++ [.slice A30 ([Tk.mk 3 ([102, 117, 110]) 0]).length c30, .slice A33 ([Tk.mk 1 nm 0]).length c33, .slice A34 ([Tk.mk 4 ([61, 62]) 0]).length c34, .slice A36 (ks[0].within).length c36]) (([] : List Tkl) ++ [(Tkl.mk ([Tk.mk 3 ([102, 117, 110]) 0]) : Tkl), (Tkl.mk ([Tk.mk 1 nm 0]) : Tkl), (Tkl.mk ([Tk.mk 4 ([61, 62]) 0]) : Tkl), (Tkl.mk (ks[0].within) : Tkl)]) := (((RowR.nil : RowR RTkl 1 H [] ([] : List Tkl)).mono fun cs y _ hr => RTkl.mono l_H_H36 y hr)).app (RowR.cons rfl (rtkl_of_v (cs := [_]) ⟨_, _, rfl, (TkS.up hk30 l_H30_H36)⟩) (RowR.cons rfl (rtkl_of_v (cs := [_]) ⟨_, _, rfl, (TkS.up hk33 l_H33_H36)⟩) (RowR.cons rfl (rtkl_of_v (cs := [_]) ⟨_, _, rfl, (TkS.up hk34 le36)⟩) (RowR.one rfl (rtkl_of_v (cs := [_]) ⟨_, _, rfl, hk36⟩)))))
    refine au [2,7,8,10,0,6,2,6] h ?_; intro a w h
    refine en (by kernel_rfl) ?_
    refine au [1,7,1,0,1,2,0,0] h ?_; intro a w h
    have hT : (([] : List Tkl) ++ [(Tkl.mk ([Tk.mk 3 ([102, 117, 110]) 0]) : Tkl), (Tkl.mk ([Tk.mk 1 nm 0]) : Tkl), (Tkl.mk ([Tk.mk 4 ([61, 62]) 0]) : Tkl), (Tkl.mk (ks[0].within) : Tkl)]).flatMap (·.l) = (Tm.mk kd nm nn ks).toks := by rw [toks_mk]; simp [layT', c7, c19, c27, withinN_get (show 0 < ks.length by omega)]
    obtain ⟨Hrrl, leHrrl, h, hsHrrl⟩ := h.frw 1 hr38 rfl (fun _ l cs y _ hr => RTkl.mono l y hr)
    refine cl bod115 (join4_ok (([] : List Tkl) ++ [(Tkl.mk ([Tk.mk 3 ([102, 117, 110]) 0]) : Tkl), (Tkl.mk ([Tk.mk 1 nm 0]) : Tkl), (Tkl.mk ([Tk.mk 4 ([61, 62]) 0]) : Tkl), (Tkl.mk (ks[0].within) : Tkl)]) _ _ E Hrrl _ hsHrrl (by simp) (by rw [hT]; have := toks_len (Tm.mk kd nm nn ks); simp only [Tm.size] at this; omega)) h (fun r152 H152 L152 a w le152 R h => ?_)
    obtain ⟨⟨A152, c152, rfl, hk152⟩, rfl⟩ := R
    refine au [0,6,0,3,1,3] h ?_; intro a w h
    have l_H_H152 : LE H H152 := ((((le30.trans le33).trans le34).trans le36).trans leHrrl).trans le152
    refine fin1 2 2 h l_H_H152 ?_
    rw [← hT]; exact ⟨⟨_, _, rfl, hk152⟩, rfl⟩
   ·have d27 : kd ≠ 3 := cd_ c27
    refine au [1,2,6,2,0,6,0,3] h ?_; intro a w h
    refine cdB h (fun c39 => ?_) (fun c39 => ?_)
    ·have d39 : kd = 4 := cd_ c39
     have hkl : ks.length = 2 := by have := hkn; rw [d39] at this; simp [kidsL] at this; first | omega | simp [this]
     refine rgx [1] [_] [1, 3] 8 mix h (fun a w h => ?_)
     refine au [8,0,0,0,2,6,8,1,4,5,2,6,8,3,4,5,2,6] h ?_; intro a w h
     refine bg1 2 true h ?_
     refine clG bod114 (kid4_ok (Tm.mk kd nm nn ks) 0 (by show _ < ks.length; omega) (ih _ (List.getElem_mem _)) (hwk _ (List.getElem_mem _)) (by have := size_get_le (ks := ks) (k := 0) (by omega); show ks[0].size < _; omega) _ E H _ ⟨At0, ct0, rfl, ht0⟩) h (fun r43 H43 L43 a w le43 R h => ?_)
     obtain ⟨⟨A43, c43, rfl, hk43⟩, rfl⟩ := R
     refine br0 ?_
     refine bg1 4 true h ?_
     refine clG bod114 (kid4_ok (Tm.mk kd nm nn ks) 1 (by show _ < ks.length; omega) (ih _ (List.getElem_mem _)) (hwk _ (List.getElem_mem _)) (by have := size_get_le (ks := ks) (k := 1) (by omega); show ks[1].size < _; omega) _ E H43 _ ⟨At0, ct0, rfl, (KS.up ht0 le43)⟩) h (fun r45 H45 L45 a w le45 R h => ?_)
     obtain ⟨⟨A45, c45, rfl, hk45⟩, rfl⟩ := R
     refine br0 ?_
     have l_H_H45 : LE H H45 := le43.trans le45
     refine bg1 5 true h ?_
     refine bsl bs164 h fun g46 a w h => ?_
     refine br0 ?_
     refine bg1 6 true h ?_
     refine apn (n := 0) (m := 2) 1 0 (L' := fun i => _ :: i :: _) [_, _] ((([] : List Tkl) ++ [(Tkl.mk (ks[0].within) : Tkl), (Tkl.mk (ks[1].within) : Tkl)]).length) (by first | (simp; done) | (simp; omega)) row164 h (by first | omega | (simp; done) | (simp; omega)) (by first | omega | (simp; done) | (simp; omega)) fun v47 a w hone47 h => ?_
     obtain ⟨B47, cp47, rfl⟩ := h.rowv 1
     have hr47 : RowR RTkl 1 H45 ([] ++ [.slice A43 (ks[0].within).length c43, .slice A45 (ks[1].within).length c45]) (([] : List Tkl) ++ [(Tkl.mk (ks[0].within) : Tkl), (Tkl.mk (ks[1].within) : Tkl)]) := (((RowR.nil : RowR RTkl 1 H [] ([] : List Tkl)).mono fun cs y _ hr => RTkl.mono l_H_H45 y hr)).app (RowR.cons rfl (rtkl_of_v (cs := [_]) ⟨_, _, rfl, (TkS.up hk43 le45)⟩) (RowR.one rfl (rtkl_of_v (cs := [_]) ⟨_, _, rfl, hk45⟩)))
     refine au [2,7,8,7,0,6,2,6] h ?_; intro a w h
     refine en (by kernel_rfl) ?_
     refine au [1,7,1,0,1,2,0,0] h ?_; intro a w h
     have hT : (([] : List Tkl) ++ [(Tkl.mk (ks[0].within) : Tkl), (Tkl.mk (ks[1].within) : Tkl)]).flatMap (·.l) = (Tm.mk kd nm nn ks).toks := by rw [toks_mk]; simp [layT', c7, c19, c27, c39, withinN_get (show 0 < ks.length by omega), withinN_get (show 1 < ks.length by omega)]
     obtain ⟨Hrrl, leHrrl, h, hsHrrl⟩ := h.frw 1 hr47 rfl (fun _ l cs y _ hr => RTkl.mono l y hr)
     refine cl bod115 (join4_ok (([] : List Tkl) ++ [(Tkl.mk (ks[0].within) : Tkl), (Tkl.mk (ks[1].within) : Tkl)]) _ _ E Hrrl _ hsHrrl (by simp) (by rw [hT]; have := toks_len (Tm.mk kd nm nn ks); simp only [Tm.size] at this; omega)) h (fun r152 H152 L152 a w le152 R h => ?_)
     obtain ⟨⟨A152, c152, rfl, hk152⟩, rfl⟩ := R
     refine au [0,6,0,3,1,3] h ?_; intro a w h
     have l_H_H152 : LE H H152 := ((le43.trans le45).trans leHrrl).trans le152
     refine fin1 2 2 h l_H_H152 ?_
     rw [← hT]; exact ⟨⟨_, _, rfl, hk152⟩, rfl⟩
    ·have d39 : kd ≠ 4 := cd_ c39
     refine au [1,2,6,2,0,6,0,3] h ?_; intro a w h
     refine cdB h (fun c48 => ?_) (fun c48 => ?_)
     ·have d48 : kd = 5 := cd_ c48
      have hkl : ks.length = 2 := by have := hkn; rw [d48] at this; simp [kidsL] at this; first | omega | simp [this]
      refine rgx [1] [_] [3, 6, 9] 14 mix h (fun a w h => ?_)
      refine au [8,0,0,0,2,6,8,2,0,7,2,6,8,3,3,8,2,6,8,6,4,5,2,6,8,9,4,5,2,6] h ?_; intro a w h
      refine bg1 1 true h ?_
      refine clG bod112 (key4_ok ([108, 101, 116]) E H _) h (fun r51 H51 L51 a w le51 R h => ?_)
      obtain ⟨⟨A51, c51, rfl, hk51⟩, rfl⟩ := R
      refine br0 ?_
      refine bg1 4 true h ?_
      refine clG bod111 (name4_ok nm E H51 _) h (fun r54 H54 L54 a w le54 R h => ?_)
      obtain ⟨⟨A54, c54, rfl, hk54⟩, rfl⟩ := R
      refine br0 ?_
      refine bg1 5 true h ?_
      refine clG bod113 (mark4_ok [61] E H54 _) h (fun r55 H55 L55 a w le55 R h => ?_)
      obtain ⟨⟨A55, c55, rfl, hk55⟩, rfl⟩ := R
      refine br0 ?_
      refine bg1 7 true h ?_
      have l_H_H55 : LE H H55 := (le51.trans le54).trans le55
      refine clG bod114 (kid4_ok (Tm.mk kd nm nn ks) 0 (by show _ < ks.length; omega) (ih _ (List.getElem_mem _)) (hwk _ (List.getElem_mem _)) (by have := size_get_le (ks := ks) (k := 0) (by omega); show ks[0].size < _; omega) _ E H55 _ ⟨At0, ct0, rfl, (KS.up ht0 l_H_H55)⟩) h (fun r57 H57 L57 a w le57 R h => ?_)
      obtain ⟨⟨A57, c57, rfl, hk57⟩, rfl⟩ := R
      refine br0 ?_
      refine bg1 8 true h ?_
      refine clG bod112 (key4_ok ([105, 110]) E H57 _) h (fun r58 H58 L58 a w le58 R h => ?_)
      obtain ⟨⟨A58, c58, rfl, hk58⟩, rfl⟩ := R
      refine br0 ?_
      refine bg1 10 true h ?_
      have l_H_H58 : LE H H58 := (((le51.trans le54).trans le55).trans le57).trans le58
      refine clG bod114 (kid4_ok (Tm.mk kd nm nn ks) 1 (by show _ < ks.length; omega) (ih _ (List.getElem_mem _)) (hwk _ (List.getElem_mem _)) (by have := size_get_le (ks := ks) (k := 1) (by omega); show ks[1].size < _; omega) _ E H58 _ ⟨At0, ct0, rfl, (KS.up ht0 l_H_H58)⟩) h (fun r60 H60 L60 a w le60 R h => ?_)
      obtain ⟨⟨A60, c60, rfl, hk60⟩, rfl⟩ := R
      refine br0 ?_
      have l_H_H60 : LE H H60 := ((((le51.trans le54).trans le55).trans le57).trans le58).trans le60
      refine bg1 11 true h ?_
      refine bsl bs164 h fun g61 a w h => ?_
      refine br0 ?_
      refine bg1 12 true h ?_
      have l_H51_H60 : LE H51 H60 := (((le54.trans le55).trans le57).trans le58).trans le60
      have l_H54_H60 : LE H54 H60 := ((le55.trans le57).trans le58).trans le60
      have l_H55_H60 : LE H55 H60 := (le57.trans le58).trans le60
      have l_H57_H60 : LE H57 H60 := le58.trans le60
      refine apn (n := 0) (m := 6) 1 0 (L' := fun i => _ :: i :: _) [_, _, _, _, _, _] ((([] : List Tkl) ++ [(Tkl.mk ([Tk.mk 3 ([108, 101, 116]) 0]) : Tkl), (Tkl.mk ([Tk.mk 1 nm 0]) : Tkl), (Tkl.mk ([Tk.mk 4 [61] 0]) : Tkl), (Tkl.mk (ks[0].within) : Tkl), (Tkl.mk ([Tk.mk 3 ([105, 110]) 0]) : Tkl), (Tkl.mk (ks[1].within) : Tkl)]).length) (by first | (simp; done) | (simp; omega)) row164 h (by first | omega | (simp; done) | (simp; omega)) (by first | omega | (simp; done) | (simp; omega)) fun v62 a w hone62 h => ?_
      obtain ⟨B62, cp62, rfl⟩ := h.rowv 1
      have hr62 : RowR RTkl 1 H60 ([] ++ [.slice A51 ([Tk.mk 3 ([108, 101, 116]) 0]).length c51, .slice A54 ([Tk.mk 1 nm 0]).length c54, .slice A55 ([Tk.mk 4 [61] 0]).length c55, .slice A57 (ks[0].within).length c57, .slice A58 ([Tk.mk 3 ([105, 110]) 0]).length c58, .slice A60 (ks[1].within).length c60]) (([] : List Tkl) ++ [(Tkl.mk ([Tk.mk 3 ([108, 101, 116]) 0]) : Tkl), (Tkl.mk ([Tk.mk 1 nm 0]) : Tkl), (Tkl.mk ([Tk.mk 4 [61] 0]) : Tkl), (Tkl.mk (ks[0].within) : Tkl), (Tkl.mk ([Tk.mk 3 ([105, 110]) 0]) : Tkl), (Tkl.mk (ks[1].within) : Tkl)]) := (((RowR.nil : RowR RTkl 1 H [] ([] : List Tkl)).mono fun cs y _ hr => RTkl.mono l_H_H60 y hr)).app (RowR.cons rfl (rtkl_of_v (cs := [_]) ⟨_, _, rfl, (TkS.up hk51 l_H51_H60)⟩) (RowR.cons rfl (rtkl_of_v (cs := [_]) ⟨_, _, rfl, (TkS.up hk54 l_H54_H60)⟩) (RowR.cons rfl (rtkl_of_v (cs := [_]) ⟨_, _, rfl, (TkS.up hk55 l_H55_H60)⟩) (RowR.cons rfl (rtkl_of_v (cs := [_]) ⟨_, _, rfl, (TkS.up hk57 l_H57_H60)⟩) (RowR.cons rfl (rtkl_of_v (cs := [_]) ⟨_, _, rfl, (TkS.up hk58 le60)⟩) (RowR.one rfl (rtkl_of_v (cs := [_]) ⟨_, _, rfl, hk60⟩)))))))
      refine au [2,7,8,13,0,6,2,6] h ?_; intro a w h
      refine en (by kernel_rfl) ?_
      refine au [1,7,1,0,1,2,0,0] h ?_; intro a w h
      have hT : (([] : List Tkl) ++ [(Tkl.mk ([Tk.mk 3 ([108, 101, 116]) 0]) : Tkl), (Tkl.mk ([Tk.mk 1 nm 0]) : Tkl), (Tkl.mk ([Tk.mk 4 [61] 0]) : Tkl), (Tkl.mk (ks[0].within) : Tkl), (Tkl.mk ([Tk.mk 3 ([105, 110]) 0]) : Tkl), (Tkl.mk (ks[1].within) : Tkl)]).flatMap (·.l) = (Tm.mk kd nm nn ks).toks := by rw [toks_mk]; simp [layT', c7, c19, c27, c39, c48, withinN_get (show 0 < ks.length by omega), withinN_get (show 1 < ks.length by omega)]
      obtain ⟨Hrrl, leHrrl, h, hsHrrl⟩ := h.frw 1 hr62 rfl (fun _ l cs y _ hr => RTkl.mono l y hr)
      refine cl bod115 (join4_ok (([] : List Tkl) ++ [(Tkl.mk ([Tk.mk 3 ([108, 101, 116]) 0]) : Tkl), (Tkl.mk ([Tk.mk 1 nm 0]) : Tkl), (Tkl.mk ([Tk.mk 4 [61] 0]) : Tkl), (Tkl.mk (ks[0].within) : Tkl), (Tkl.mk ([Tk.mk 3 ([105, 110]) 0]) : Tkl), (Tkl.mk (ks[1].within) : Tkl)]) _ _ E Hrrl _ hsHrrl (by simp) (by rw [hT]; have := toks_len (Tm.mk kd nm nn ks); simp only [Tm.size] at this; omega)) h (fun r152 H152 L152 a w le152 R h => ?_)
      obtain ⟨⟨A152, c152, rfl, hk152⟩, rfl⟩ := R
      refine au [0,6,0,3,1,3] h ?_; intro a w h
      have l_H_H152 : LE H H152 := ((((((le51.trans le54).trans le55).trans le57).trans le58).trans le60).trans leHrrl).trans le152
      refine fin1 2 2 h l_H_H152 ?_
      rw [← hT]; exact ⟨⟨_, _, rfl, hk152⟩, rfl⟩
     ·have d48 : kd ≠ 5 := cd_ c48
      refine au [1,2,6,2,0,6,0,3] h ?_; intro a w h
      refine cdB h (fun c63 => ?_) (fun c63 => ?_)
      ·have d63 : kd = 6 := cd_ c63
       have hkl : ks.length = 3 := by have := hkn; rw [d63] at this; simp [kidsL] at this; first | omega | simp [this]
       refine rgx [1] [_] [2, 5, 8] 13 mix h (fun a w h => ?_)
       refine au [8,0,0,0,2,6,8,2,4,5,2,6,8,5,4,5,2,6,8,8,4,5,2,6] h ?_; intro a w h
       refine bg1 1 true h ?_
       refine clG bod112 (key4_ok ([105, 102]) E H _) h (fun r66 H66 L66 a w le66 R h => ?_)
       obtain ⟨⟨A66, c66, rfl, hk66⟩, rfl⟩ := R
       refine br0 ?_
       refine bg1 3 true h ?_
       refine clG bod114 (kid4_ok (Tm.mk kd nm nn ks) 0 (by show _ < ks.length; omega) (ih _ (List.getElem_mem _)) (hwk _ (List.getElem_mem _)) (by have := size_get_le (ks := ks) (k := 0) (by omega); show ks[0].size < _; omega) _ E H66 _ ⟨At0, ct0, rfl, (KS.up ht0 le66)⟩) h (fun r68 H68 L68 a w le68 R h => ?_)
       obtain ⟨⟨A68, c68, rfl, hk68⟩, rfl⟩ := R
       refine br0 ?_
       refine bg1 4 true h ?_
       refine clG bod112 (key4_ok ([116, 104, 101, 110]) E H68 _) h (fun r69 H69 L69 a w le69 R h => ?_)
       obtain ⟨⟨A69, c69, rfl, hk69⟩, rfl⟩ := R
       refine br0 ?_
       refine bg1 6 true h ?_
       have l_H_H69 : LE H H69 := (le66.trans le68).trans le69
       refine clG bod114 (kid4_ok (Tm.mk kd nm nn ks) 1 (by show _ < ks.length; omega) (ih _ (List.getElem_mem _)) (hwk _ (List.getElem_mem _)) (by have := size_get_le (ks := ks) (k := 1) (by omega); show ks[1].size < _; omega) _ E H69 _ ⟨At0, ct0, rfl, (KS.up ht0 l_H_H69)⟩) h (fun r71 H71 L71 a w le71 R h => ?_)
       obtain ⟨⟨A71, c71, rfl, hk71⟩, rfl⟩ := R
       refine br0 ?_
       refine bg1 7 true h ?_
       refine clG bod112 (key4_ok ([101, 108, 115, 101]) E H71 _) h (fun r72 H72 L72 a w le72 R h => ?_)
       obtain ⟨⟨A72, c72, rfl, hk72⟩, rfl⟩ := R
       refine br0 ?_
       refine bg1 9 true h ?_
       have l_H_H72 : LE H H72 := (((le66.trans le68).trans le69).trans le71).trans le72
       refine clG bod114 (kid4_ok (Tm.mk kd nm nn ks) 2 (by show _ < ks.length; omega) (ih _ (List.getElem_mem _)) (hwk _ (List.getElem_mem _)) (by have := size_get_le (ks := ks) (k := 2) (by omega); show ks[2].size < _; omega) _ E H72 _ ⟨At0, ct0, rfl, (KS.up ht0 l_H_H72)⟩) h (fun r74 H74 L74 a w le74 R h => ?_)
       obtain ⟨⟨A74, c74, rfl, hk74⟩, rfl⟩ := R
       refine br0 ?_
       have l_H_H74 : LE H H74 := ((((le66.trans le68).trans le69).trans le71).trans le72).trans le74
       refine bg1 10 true h ?_
       refine bsl bs164 h fun g75 a w h => ?_
       refine br0 ?_
       refine bg1 11 true h ?_
       have l_H66_H74 : LE H66 H74 := (((le68.trans le69).trans le71).trans le72).trans le74
       have l_H68_H74 : LE H68 H74 := ((le69.trans le71).trans le72).trans le74
       have l_H69_H74 : LE H69 H74 := (le71.trans le72).trans le74
       have l_H71_H74 : LE H71 H74 := le72.trans le74
       refine apn (n := 0) (m := 6) 1 0 (L' := fun i => _ :: i :: _) [_, _, _, _, _, _] ((([] : List Tkl) ++ [(Tkl.mk ([Tk.mk 3 ([105, 102]) 0]) : Tkl), (Tkl.mk (ks[0].within) : Tkl), (Tkl.mk ([Tk.mk 3 ([116, 104, 101, 110]) 0]) : Tkl), (Tkl.mk (ks[1].within) : Tkl), (Tkl.mk ([Tk.mk 3 ([101, 108, 115, 101]) 0]) : Tkl), (Tkl.mk (ks[2].within) : Tkl)]).length) (by first | (simp; done) | (simp; omega)) row164 h (by first | omega | (simp; done) | (simp; omega)) (by first | omega | (simp; done) | (simp; omega)) fun v76 a w hone76 h => ?_
       obtain ⟨B76, cp76, rfl⟩ := h.rowv 1
       have hr76 : RowR RTkl 1 H74 ([] ++ [.slice A66 ([Tk.mk 3 ([105, 102]) 0]).length c66, .slice A68 (ks[0].within).length c68, .slice A69 ([Tk.mk 3 ([116, 104, 101, 110]) 0]).length c69, .slice A71 (ks[1].within).length c71, .slice A72 ([Tk.mk 3 ([101, 108, 115, 101]) 0]).length c72, .slice A74 (ks[2].within).length c74]) (([] : List Tkl) ++ [(Tkl.mk ([Tk.mk 3 ([105, 102]) 0]) : Tkl), (Tkl.mk (ks[0].within) : Tkl), (Tkl.mk ([Tk.mk 3 ([116, 104, 101, 110]) 0]) : Tkl), (Tkl.mk (ks[1].within) : Tkl), (Tkl.mk ([Tk.mk 3 ([101, 108, 115, 101]) 0]) : Tkl), (Tkl.mk (ks[2].within) : Tkl)]) := (((RowR.nil : RowR RTkl 1 H [] ([] : List Tkl)).mono fun cs y _ hr => RTkl.mono l_H_H74 y hr)).app (RowR.cons rfl (rtkl_of_v (cs := [_]) ⟨_, _, rfl, (TkS.up hk66 l_H66_H74)⟩) (RowR.cons rfl (rtkl_of_v (cs := [_]) ⟨_, _, rfl, (TkS.up hk68 l_H68_H74)⟩) (RowR.cons rfl (rtkl_of_v (cs := [_]) ⟨_, _, rfl, (TkS.up hk69 l_H69_H74)⟩) (RowR.cons rfl (rtkl_of_v (cs := [_]) ⟨_, _, rfl, (TkS.up hk71 l_H71_H74)⟩) (RowR.cons rfl (rtkl_of_v (cs := [_]) ⟨_, _, rfl, (TkS.up hk72 le74)⟩) (RowR.one rfl (rtkl_of_v (cs := [_]) ⟨_, _, rfl, hk74⟩)))))))
       refine au [2,7,8,12,0,6,2,6] h ?_; intro a w h
       refine en (by kernel_rfl) ?_
       refine au [1,7,1,0,1,2,0,0] h ?_; intro a w h
       have hT : (([] : List Tkl) ++ [(Tkl.mk ([Tk.mk 3 ([105, 102]) 0]) : Tkl), (Tkl.mk (ks[0].within) : Tkl), (Tkl.mk ([Tk.mk 3 ([116, 104, 101, 110]) 0]) : Tkl), (Tkl.mk (ks[1].within) : Tkl), (Tkl.mk ([Tk.mk 3 ([101, 108, 115, 101]) 0]) : Tkl), (Tkl.mk (ks[2].within) : Tkl)]).flatMap (·.l) = (Tm.mk kd nm nn ks).toks := by rw [toks_mk]; simp [layT', c7, c19, c27, c39, c48, c63, withinN_get (show 0 < ks.length by omega), withinN_get (show 1 < ks.length by omega), withinN_get (show 2 < ks.length by omega)]
       obtain ⟨Hrrl, leHrrl, h, hsHrrl⟩ := h.frw 1 hr76 rfl (fun _ l cs y _ hr => RTkl.mono l y hr)
       refine cl bod115 (join4_ok (([] : List Tkl) ++ [(Tkl.mk ([Tk.mk 3 ([105, 102]) 0]) : Tkl), (Tkl.mk (ks[0].within) : Tkl), (Tkl.mk ([Tk.mk 3 ([116, 104, 101, 110]) 0]) : Tkl), (Tkl.mk (ks[1].within) : Tkl), (Tkl.mk ([Tk.mk 3 ([101, 108, 115, 101]) 0]) : Tkl), (Tkl.mk (ks[2].within) : Tkl)]) _ _ E Hrrl _ hsHrrl (by simp) (by rw [hT]; have := toks_len (Tm.mk kd nm nn ks); simp only [Tm.size] at this; omega)) h (fun r152 H152 L152 a w le152 R h => ?_)
       obtain ⟨⟨A152, c152, rfl, hk152⟩, rfl⟩ := R
       refine au [0,6,0,3,1,3] h ?_; intro a w h
       have l_H_H152 : LE H H152 := ((((((le66.trans le68).trans le69).trans le71).trans le72).trans le74).trans leHrrl).trans le152
       refine fin1 2 2 h l_H_H152 ?_
       rw [← hT]; exact ⟨⟨_, _, rfl, hk152⟩, rfl⟩
      ·have d63 : kd ≠ 6 := cd_ c63
       refine au [1,2,6,2,0,6,0,3] h ?_; intro a w h
       refine cdB h (fun c77 => ?_) (fun c77 => ?_)
       ·have d77 : kd = 7 := cd_ c77
        have hkl : ks.length = 2 := by have := hkn; rw [d77] at this; simp [kidsL] at this; first | omega | simp [this]
        refine rgx [1] [_] [2, 5] 10 mix h (fun a w h => ?_)
        refine au [8,0,0,0,2,6,8,2,4,5,2,6,8,5,4,5,2,6] h ?_; intro a w h
        refine bg1 1 true h ?_
        refine clG bod112 (key4_ok ([119, 104, 105, 108, 101]) E H _) h (fun r80 H80 L80 a w le80 R h => ?_)
        obtain ⟨⟨A80, c80, rfl, hk80⟩, rfl⟩ := R
        refine br0 ?_
        refine bg1 3 true h ?_
        refine clG bod114 (kid4_ok (Tm.mk kd nm nn ks) 0 (by show _ < ks.length; omega) (ih _ (List.getElem_mem _)) (hwk _ (List.getElem_mem _)) (by have := size_get_le (ks := ks) (k := 0) (by omega); show ks[0].size < _; omega) _ E H80 _ ⟨At0, ct0, rfl, (KS.up ht0 le80)⟩) h (fun r82 H82 L82 a w le82 R h => ?_)
        obtain ⟨⟨A82, c82, rfl, hk82⟩, rfl⟩ := R
        refine br0 ?_
        refine bg1 4 true h ?_
        refine clG bod112 (key4_ok ([100, 111]) E H82 _) h (fun r83 H83 L83 a w le83 R h => ?_)
        obtain ⟨⟨A83, c83, rfl, hk83⟩, rfl⟩ := R
        refine br0 ?_
        refine bg1 6 true h ?_
        have l_H_H83 : LE H H83 := (le80.trans le82).trans le83
        refine clG bod114 (kid4_ok (Tm.mk kd nm nn ks) 1 (by show _ < ks.length; omega) (ih _ (List.getElem_mem _)) (hwk _ (List.getElem_mem _)) (by have := size_get_le (ks := ks) (k := 1) (by omega); show ks[1].size < _; omega) _ E H83 _ ⟨At0, ct0, rfl, (KS.up ht0 l_H_H83)⟩) h (fun r85 H85 L85 a w le85 R h => ?_)
        obtain ⟨⟨A85, c85, rfl, hk85⟩, rfl⟩ := R
        refine br0 ?_
        have l_H_H85 : LE H H85 := ((le80.trans le82).trans le83).trans le85
        refine bg1 7 true h ?_
        refine bsl bs164 h fun g86 a w h => ?_
        refine br0 ?_
        refine bg1 8 true h ?_
        have l_H80_H85 : LE H80 H85 := (le82.trans le83).trans le85
        have l_H82_H85 : LE H82 H85 := le83.trans le85
        refine apn (n := 0) (m := 4) 1 0 (L' := fun i => _ :: i :: _) [_, _, _, _] ((([] : List Tkl) ++ [(Tkl.mk ([Tk.mk 3 ([119, 104, 105, 108, 101]) 0]) : Tkl), (Tkl.mk (ks[0].within) : Tkl), (Tkl.mk ([Tk.mk 3 ([100, 111]) 0]) : Tkl), (Tkl.mk (ks[1].within) : Tkl)]).length) (by first | (simp; done) | (simp; omega)) row164 h (by first | omega | (simp; done) | (simp; omega)) (by first | omega | (simp; done) | (simp; omega)) fun v87 a w hone87 h => ?_
        obtain ⟨B87, cp87, rfl⟩ := h.rowv 1
        have hr87 : RowR RTkl 1 H85 ([] ++ [.slice A80 ([Tk.mk 3 ([119, 104, 105, 108, 101]) 0]).length c80, .slice A82 (ks[0].within).length c82, .slice A83 ([Tk.mk 3 ([100, 111]) 0]).length c83, .slice A85 (ks[1].within).length c85]) (([] : List Tkl) ++ [(Tkl.mk ([Tk.mk 3 ([119, 104, 105, 108, 101]) 0]) : Tkl), (Tkl.mk (ks[0].within) : Tkl), (Tkl.mk ([Tk.mk 3 ([100, 111]) 0]) : Tkl), (Tkl.mk (ks[1].within) : Tkl)]) := (((RowR.nil : RowR RTkl 1 H [] ([] : List Tkl)).mono fun cs y _ hr => RTkl.mono l_H_H85 y hr)).app (RowR.cons rfl (rtkl_of_v (cs := [_]) ⟨_, _, rfl, (TkS.up hk80 l_H80_H85)⟩) (RowR.cons rfl (rtkl_of_v (cs := [_]) ⟨_, _, rfl, (TkS.up hk82 l_H82_H85)⟩) (RowR.cons rfl (rtkl_of_v (cs := [_]) ⟨_, _, rfl, (TkS.up hk83 le85)⟩) (RowR.one rfl (rtkl_of_v (cs := [_]) ⟨_, _, rfl, hk85⟩)))))
        refine au [2,7,8,9,0,6,2,6] h ?_; intro a w h
        refine en (by kernel_rfl) ?_
        refine au [1,7,1,0,1,2,0,0] h ?_; intro a w h
        have hT : (([] : List Tkl) ++ [(Tkl.mk ([Tk.mk 3 ([119, 104, 105, 108, 101]) 0]) : Tkl), (Tkl.mk (ks[0].within) : Tkl), (Tkl.mk ([Tk.mk 3 ([100, 111]) 0]) : Tkl), (Tkl.mk (ks[1].within) : Tkl)]).flatMap (·.l) = (Tm.mk kd nm nn ks).toks := by rw [toks_mk]; simp [layT', c7, c19, c27, c39, c48, c63, c77, withinN_get (show 0 < ks.length by omega), withinN_get (show 1 < ks.length by omega)]
        obtain ⟨Hrrl, leHrrl, h, hsHrrl⟩ := h.frw 1 hr87 rfl (fun _ l cs y _ hr => RTkl.mono l y hr)
        refine cl bod115 (join4_ok (([] : List Tkl) ++ [(Tkl.mk ([Tk.mk 3 ([119, 104, 105, 108, 101]) 0]) : Tkl), (Tkl.mk (ks[0].within) : Tkl), (Tkl.mk ([Tk.mk 3 ([100, 111]) 0]) : Tkl), (Tkl.mk (ks[1].within) : Tkl)]) _ _ E Hrrl _ hsHrrl (by simp) (by rw [hT]; have := toks_len (Tm.mk kd nm nn ks); simp only [Tm.size] at this; omega)) h (fun r152 H152 L152 a w le152 R h => ?_)
        obtain ⟨⟨A152, c152, rfl, hk152⟩, rfl⟩ := R
        refine au [0,6,0,3,1,3] h ?_; intro a w h
        have l_H_H152 : LE H H152 := ((((le80.trans le82).trans le83).trans le85).trans leHrrl).trans le152
        refine fin1 2 2 h l_H_H152 ?_
        rw [← hT]; exact ⟨⟨_, _, rfl, hk152⟩, rfl⟩
       ·have d77 : kd ≠ 7 := cd_ c77
        refine au [1,2,6,2,0,6,0,3] h ?_; intro a w h
        refine cdB h (fun c88 => ?_) (fun c88 => ?_)
        ·have d88 : kd = 8 := cd_ c88
         have hkl : ks.length = 1 := by have := hkn; rw [d88] at this; simp [kidsL] at this; first | omega | simp [this]
         refine rgx [1] [_] [2] 7 mix h (fun a w h => ?_)
         refine au [8,0,0,0,2,6,8,2,4,5,2,6] h ?_; intro a w h
         refine bg1 1 true h ?_
         refine clG bod112 (key4_ok ([114, 97, 105, 115, 101]) E H _) h (fun r91 H91 L91 a w le91 R h => ?_)
         obtain ⟨⟨A91, c91, rfl, hk91⟩, rfl⟩ := R
         refine br0 ?_
         refine bf1 3 ?_
         refine clG bod114 (kid4_ok (Tm.mk kd nm nn ks) 0 (by show _ < ks.length; omega) (ih _ (List.getElem_mem _)) (hwk _ (List.getElem_mem _)) (by have := size_get_le (ks := ks) (k := 0) (by omega); show ks[0].size < _; omega) _ E H91 _ ⟨At0, ct0, rfl, (KS.up ht0 le91)⟩) h (fun r93 H93 L93 a w le93 R h => ?_)
         obtain ⟨⟨A93, c93, rfl, hk93⟩, rfl⟩ := R
         refine br0 ?_
         have l_H_H93 : LE H H93 := le91.trans le93
         refine bg1 4 true h ?_
         refine bsl bs164 h fun g94 a w h => ?_
         refine br0 ?_
         refine bg1 5 true h ?_
         refine apn (n := 0) (m := 2) 1 0 (L' := fun i => _ :: i :: _) [_, _] ((([] : List Tkl) ++ [(Tkl.mk ([Tk.mk 3 ([114, 97, 105, 115, 101]) 0]) : Tkl), (Tkl.mk (ks[0].within) : Tkl)]).length) (by first | (simp; done) | (simp; omega)) row164 h (by first | omega | (simp; done) | (simp; omega)) (by first | omega | (simp; done) | (simp; omega)) fun v95 a w hone95 h => ?_
         obtain ⟨B95, cp95, rfl⟩ := h.rowv 1
         have hr95 : RowR RTkl 1 H93 ([] ++ [.slice A91 ([Tk.mk 3 ([114, 97, 105, 115, 101]) 0]).length c91, .slice A93 (ks[0].within).length c93]) (([] : List Tkl) ++ [(Tkl.mk ([Tk.mk 3 ([114, 97, 105, 115, 101]) 0]) : Tkl), (Tkl.mk (ks[0].within) : Tkl)]) := (((RowR.nil : RowR RTkl 1 H [] ([] : List Tkl)).mono fun cs y _ hr => RTkl.mono l_H_H93 y hr)).app (RowR.cons rfl (rtkl_of_v (cs := [_]) ⟨_, _, rfl, (TkS.up hk91 le93)⟩) (RowR.one rfl (rtkl_of_v (cs := [_]) ⟨_, _, rfl, hk93⟩)))
         refine au [2,7,8,6,0,6,2,6] h ?_; intro a w h
         refine en (by kernel_rfl) ?_
         refine au [1,7,1,0,1,2,0,0] h ?_; intro a w h
         have hT : (([] : List Tkl) ++ [(Tkl.mk ([Tk.mk 3 ([114, 97, 105, 115, 101]) 0]) : Tkl), (Tkl.mk (ks[0].within) : Tkl)]).flatMap (·.l) = (Tm.mk kd nm nn ks).toks := by rw [toks_mk]; simp [layT', c7, c19, c27, c39, c48, c63, c77, c88, withinN_get (show 0 < ks.length by omega)]
         obtain ⟨Hrrl, leHrrl, h, hsHrrl⟩ := h.frw 1 hr95 rfl (fun _ l cs y _ hr => RTkl.mono l y hr)
         refine cl bod115 (join4_ok (([] : List Tkl) ++ [(Tkl.mk ([Tk.mk 3 ([114, 97, 105, 115, 101]) 0]) : Tkl), (Tkl.mk (ks[0].within) : Tkl)]) _ _ E Hrrl _ hsHrrl (by simp) (by rw [hT]; have := toks_len (Tm.mk kd nm nn ks); simp only [Tm.size] at this; omega)) h (fun r152 H152 L152 a w le152 R h => ?_)
         obtain ⟨⟨A152, c152, rfl, hk152⟩, rfl⟩ := R
         refine au [0,6,0,3,1,3] h ?_; intro a w h
         have l_H_H152 : LE H H152 := ((le91.trans le93).trans leHrrl).trans le152
         refine fin1 2 2 h l_H_H152 ?_
         rw [← hT]; exact ⟨⟨_, _, rfl, hk152⟩, rfl⟩
        ·have d88 : kd ≠ 8 := cd_ c88
         refine au [1,2,6,2,0,6,0,3] h ?_; intro a w h
         refine cdB h (fun c96 => ?_) (fun c96 => ?_)
         ·have d96 : kd = 9 := cd_ c96
          have hkl : ks.length = 2 := by have := hkn; rw [d96] at this; simp [kidsL] at this; first | omega | simp [this]
          refine rgx [1] [_] [2, 6, 9] 14 mix h (fun a w h => ?_)
          refine au [8,0,0,0,2,6,8,2,4,5,2,6,8,5,0,7,2,6,8,6,3,8,2,6,8,9,4,5,2,6] h ?_; intro a w h
          refine bg1 1 true h ?_
          refine clG bod112 (key4_ok ([116, 114, 121]) E H _) h (fun r99 H99 L99 a w le99 R h => ?_)
          obtain ⟨⟨A99, c99, rfl, hk99⟩, rfl⟩ := R
          refine br0 ?_
          refine bg1 3 true h ?_
          refine clG bod114 (kid4_ok (Tm.mk kd nm nn ks) 0 (by show _ < ks.length; omega) (ih _ (List.getElem_mem _)) (hwk _ (List.getElem_mem _)) (by have := size_get_le (ks := ks) (k := 0) (by omega); show ks[0].size < _; omega) _ E H99 _ ⟨At0, ct0, rfl, (KS.up ht0 le99)⟩) h (fun r101 H101 L101 a w le101 R h => ?_)
          obtain ⟨⟨A101, c101, rfl, hk101⟩, rfl⟩ := R
          refine br0 ?_
          refine bg1 4 true h ?_
          refine clG bod112 (key4_ok ([119, 105, 116, 104]) E H101 _) h (fun r102 H102 L102 a w le102 R h => ?_)
          obtain ⟨⟨A102, c102, rfl, hk102⟩, rfl⟩ := R
          refine br0 ?_
          refine bg1 7 true h ?_
          refine clG bod111 (name4_ok nm E H102 _) h (fun r105 H105 L105 a w le105 R h => ?_)
          obtain ⟨⟨A105, c105, rfl, hk105⟩, rfl⟩ := R
          refine br0 ?_
          refine bg1 8 true h ?_
          refine clG bod113 (mark4_ok ([61, 62]) E H105 _) h (fun r106 H106 L106 a w le106 R h => ?_)
          obtain ⟨⟨A106, c106, rfl, hk106⟩, rfl⟩ := R
          refine br0 ?_
          refine bg1 10 true h ?_
          have l_H_H106 : LE H H106 := (((le99.trans le101).trans le102).trans le105).trans le106
          refine clG bod114 (kid4_ok (Tm.mk kd nm nn ks) 1 (by show _ < ks.length; omega) (ih _ (List.getElem_mem _)) (hwk _ (List.getElem_mem _)) (by have := size_get_le (ks := ks) (k := 1) (by omega); show ks[1].size < _; omega) _ E H106 _ ⟨At0, ct0, rfl, (KS.up ht0 l_H_H106)⟩) h (fun r108 H108 L108 a w le108 R h => ?_)
          obtain ⟨⟨A108, c108, rfl, hk108⟩, rfl⟩ := R
          refine br0 ?_
          have l_H_H108 : LE H H108 := ((((le99.trans le101).trans le102).trans le105).trans le106).trans le108
          refine bg1 11 true h ?_
          refine bsl bs164 h fun g109 a w h => ?_
          refine br0 ?_
          refine bg1 12 true h ?_
          have l_H99_H108 : LE H99 H108 := (((le101.trans le102).trans le105).trans le106).trans le108
          have l_H101_H108 : LE H101 H108 := ((le102.trans le105).trans le106).trans le108
          have l_H102_H108 : LE H102 H108 := (le105.trans le106).trans le108
          have l_H105_H108 : LE H105 H108 := le106.trans le108
          refine apn (n := 0) (m := 6) 1 0 (L' := fun i => _ :: i :: _) [_, _, _, _, _, _] ((([] : List Tkl) ++ [(Tkl.mk ([Tk.mk 3 ([116, 114, 121]) 0]) : Tkl), (Tkl.mk (ks[0].within) : Tkl), (Tkl.mk ([Tk.mk 3 ([119, 105, 116, 104]) 0]) : Tkl), (Tkl.mk ([Tk.mk 1 nm 0]) : Tkl), (Tkl.mk ([Tk.mk 4 ([61, 62]) 0]) : Tkl), (Tkl.mk (ks[1].within) : Tkl)]).length) (by first | (simp; done) | (simp; omega)) row164 h (by first | omega | (simp; done) | (simp; omega)) (by first | omega | (simp; done) | (simp; omega)) fun v110 a w hone110 h => ?_
          obtain ⟨B110, cp110, rfl⟩ := h.rowv 1
          have hr110 : RowR RTkl 1 H108 ([] ++ [.slice A99 ([Tk.mk 3 ([116, 114, 121]) 0]).length c99, .slice A101 (ks[0].within).length c101, .slice A102 ([Tk.mk 3 ([119, 105, 116, 104]) 0]).length c102, .slice A105 ([Tk.mk 1 nm 0]).length c105, .slice A106 ([Tk.mk 4 ([61, 62]) 0]).length c106, .slice A108 (ks[1].within).length c108]) (([] : List Tkl) ++ [(Tkl.mk ([Tk.mk 3 ([116, 114, 121]) 0]) : Tkl), (Tkl.mk (ks[0].within) : Tkl), (Tkl.mk ([Tk.mk 3 ([119, 105, 116, 104]) 0]) : Tkl), (Tkl.mk ([Tk.mk 1 nm 0]) : Tkl), (Tkl.mk ([Tk.mk 4 ([61, 62]) 0]) : Tkl), (Tkl.mk (ks[1].within) : Tkl)]) := (((RowR.nil : RowR RTkl 1 H [] ([] : List Tkl)).mono fun cs y _ hr => RTkl.mono l_H_H108 y hr)).app (RowR.cons rfl (rtkl_of_v (cs := [_]) ⟨_, _, rfl, (TkS.up hk99 l_H99_H108)⟩) (RowR.cons rfl (rtkl_of_v (cs := [_]) ⟨_, _, rfl, (TkS.up hk101 l_H101_H108)⟩) (RowR.cons rfl (rtkl_of_v (cs := [_]) ⟨_, _, rfl, (TkS.up hk102 l_H102_H108)⟩) (RowR.cons rfl (rtkl_of_v (cs := [_]) ⟨_, _, rfl, (TkS.up hk105 l_H105_H108)⟩) (RowR.cons rfl (rtkl_of_v (cs := [_]) ⟨_, _, rfl, (TkS.up hk106 le108)⟩) (RowR.one rfl (rtkl_of_v (cs := [_]) ⟨_, _, rfl, hk108⟩)))))))
          refine au [2,7,8,13,0,6,2,6] h ?_; intro a w h
          refine en (by kernel_rfl) ?_
          refine au [1,7,1,0,1,2,0,0] h ?_; intro a w h
          have hT : (([] : List Tkl) ++ [(Tkl.mk ([Tk.mk 3 ([116, 114, 121]) 0]) : Tkl), (Tkl.mk (ks[0].within) : Tkl), (Tkl.mk ([Tk.mk 3 ([119, 105, 116, 104]) 0]) : Tkl), (Tkl.mk ([Tk.mk 1 nm 0]) : Tkl), (Tkl.mk ([Tk.mk 4 ([61, 62]) 0]) : Tkl), (Tkl.mk (ks[1].within) : Tkl)]).flatMap (·.l) = (Tm.mk kd nm nn ks).toks := by rw [toks_mk]; simp [layT', c7, c19, c27, c39, c48, c63, c77, c88, c96, withinN_get (show 0 < ks.length by omega), withinN_get (show 1 < ks.length by omega)]
          obtain ⟨Hrrl, leHrrl, h, hsHrrl⟩ := h.frw 1 hr110 rfl (fun _ l cs y _ hr => RTkl.mono l y hr)
          refine cl bod115 (join4_ok (([] : List Tkl) ++ [(Tkl.mk ([Tk.mk 3 ([116, 114, 121]) 0]) : Tkl), (Tkl.mk (ks[0].within) : Tkl), (Tkl.mk ([Tk.mk 3 ([119, 105, 116, 104]) 0]) : Tkl), (Tkl.mk ([Tk.mk 1 nm 0]) : Tkl), (Tkl.mk ([Tk.mk 4 ([61, 62]) 0]) : Tkl), (Tkl.mk (ks[1].within) : Tkl)]) _ _ E Hrrl _ hsHrrl (by simp) (by rw [hT]; have := toks_len (Tm.mk kd nm nn ks); simp only [Tm.size] at this; omega)) h (fun r152 H152 L152 a w le152 R h => ?_)
          obtain ⟨⟨A152, c152, rfl, hk152⟩, rfl⟩ := R
          refine au [0,6,0,3,1,3] h ?_; intro a w h
          have l_H_H152 : LE H H152 := ((((((le99.trans le101).trans le102).trans le105).trans le106).trans le108).trans leHrrl).trans le152
          refine fin1 2 2 h l_H_H152 ?_
          rw [← hT]; exact ⟨⟨_, _, rfl, hk152⟩, rfl⟩
         ·have d96 : kd ≠ 9 := cd_ c96
          refine au [1,2,6,2,0,6,0,3] h ?_; intro a w h
          refine cdB h (fun c111 => ?_) (fun c111 => ?_)
          ·have d111 : kd = 10 := cd_ c111
           have hkl : ks.length = 1 := by have := hkn; rw [d111] at this; simp [kidsL] at this; first | omega | simp [this]
           refine rgx [1] [_] [2] 7 mix h (fun a w h => ?_)
           refine au [8,0,0,0,2,6,8,2,4,5,2,6] h ?_; intro a w h
           refine bg1 1 true h ?_
           refine clG bod113 (mark4_ok [33] E H _) h (fun r114 H114 L114 a w le114 R h => ?_)
           obtain ⟨⟨A114, c114, rfl, hk114⟩, rfl⟩ := R
           refine br0 ?_
           refine bf1 3 ?_
           refine clG bod114 (kid4_ok (Tm.mk kd nm nn ks) 0 (by show _ < ks.length; omega) (ih _ (List.getElem_mem _)) (hwk _ (List.getElem_mem _)) (by have := size_get_le (ks := ks) (k := 0) (by omega); show ks[0].size < _; omega) _ E H114 _ ⟨At0, ct0, rfl, (KS.up ht0 le114)⟩) h (fun r116 H116 L116 a w le116 R h => ?_)
           obtain ⟨⟨A116, c116, rfl, hk116⟩, rfl⟩ := R
           refine br0 ?_
           have l_H_H116 : LE H H116 := le114.trans le116
           refine bg1 4 true h ?_
           refine bsl bs164 h fun g117 a w h => ?_
           refine br0 ?_
           refine bg1 5 true h ?_
           refine apn (n := 0) (m := 2) 1 0 (L' := fun i => _ :: i :: _) [_, _] ((([] : List Tkl) ++ [(Tkl.mk ([Tk.mk 4 [33] 0]) : Tkl), (Tkl.mk (ks[0].within) : Tkl)]).length) (by first | (simp; done) | (simp; omega)) row164 h (by first | omega | (simp; done) | (simp; omega)) (by first | omega | (simp; done) | (simp; omega)) fun v118 a w hone118 h => ?_
           obtain ⟨B118, cp118, rfl⟩ := h.rowv 1
           have hr118 : RowR RTkl 1 H116 ([] ++ [.slice A114 ([Tk.mk 4 [33] 0]).length c114, .slice A116 (ks[0].within).length c116]) (([] : List Tkl) ++ [(Tkl.mk ([Tk.mk 4 [33] 0]) : Tkl), (Tkl.mk (ks[0].within) : Tkl)]) := (((RowR.nil : RowR RTkl 1 H [] ([] : List Tkl)).mono fun cs y _ hr => RTkl.mono l_H_H116 y hr)).app (RowR.cons rfl (rtkl_of_v (cs := [_]) ⟨_, _, rfl, (TkS.up hk114 le116)⟩) (RowR.one rfl (rtkl_of_v (cs := [_]) ⟨_, _, rfl, hk116⟩)))
           refine au [2,7,8,6,0,6,2,6] h ?_; intro a w h
           refine en (by kernel_rfl) ?_
           refine au [1,7,1,0,1,2,0,0] h ?_; intro a w h
           have hT : (([] : List Tkl) ++ [(Tkl.mk ([Tk.mk 4 [33] 0]) : Tkl), (Tkl.mk (ks[0].within) : Tkl)]).flatMap (·.l) = (Tm.mk kd nm nn ks).toks := by rw [toks_mk]; simp [layT', c7, c19, c27, c39, c48, c63, c77, c88, c96, c111, withinN_get (show 0 < ks.length by omega)]
           obtain ⟨Hrrl, leHrrl, h, hsHrrl⟩ := h.frw 1 hr118 rfl (fun _ l cs y _ hr => RTkl.mono l y hr)
           refine cl bod115 (join4_ok (([] : List Tkl) ++ [(Tkl.mk ([Tk.mk 4 [33] 0]) : Tkl), (Tkl.mk (ks[0].within) : Tkl)]) _ _ E Hrrl _ hsHrrl (by simp) (by rw [hT]; have := toks_len (Tm.mk kd nm nn ks); simp only [Tm.size] at this; omega)) h (fun r152 H152 L152 a w le152 R h => ?_)
           obtain ⟨⟨A152, c152, rfl, hk152⟩, rfl⟩ := R
           refine au [0,6,0,3,1,3] h ?_; intro a w h
           have l_H_H152 : LE H H152 := ((le114.trans le116).trans leHrrl).trans le152
           refine fin1 2 2 h l_H_H152 ?_
           rw [← hT]; exact ⟨⟨_, _, rfl, hk152⟩, rfl⟩
          ·have d111 : kd ≠ 10 := cd_ c111
           refine au [1,2,6,2,0,6,0,3] h ?_; intro a w h
           refine cdB h (fun c119 => ?_) (fun c119 => ?_)
           ·have d119 : kd = 11 := cd_ c119
            have hkl : ks.length = 2 := by have := hkn; rw [d119] at this; simp [kidsL] at this; first | omega | simp [this]
            refine rgx [1] [_] [1, 4] 9 mix h (fun a w h => ?_)
            refine au [8,0,0,0,2,6,8,1,4,5,2,6,8,4,4,5,2,6] h ?_; intro a w h
            refine bg1 2 true h ?_
            refine clG bod114 (kid4_ok (Tm.mk kd nm nn ks) 0 (by show _ < ks.length; omega) (ih _ (List.getElem_mem _)) (hwk _ (List.getElem_mem _)) (by have := size_get_le (ks := ks) (k := 0) (by omega); show ks[0].size < _; omega) _ E H _ ⟨At0, ct0, rfl, ht0⟩) h (fun r123 H123 L123 a w le123 R h => ?_)
            obtain ⟨⟨A123, c123, rfl, hk123⟩, rfl⟩ := R
            refine br0 ?_
            refine bg1 3 true h ?_
            refine clG bod113 (mark4_ok ([58, 61]) E H123 _) h (fun r124 H124 L124 a w le124 R h => ?_)
            obtain ⟨⟨A124, c124, rfl, hk124⟩, rfl⟩ := R
            refine br0 ?_
            refine bg1 5 true h ?_
            have l_H_H124 : LE H H124 := le123.trans le124
            refine clG bod114 (kid4_ok (Tm.mk kd nm nn ks) 1 (by show _ < ks.length; omega) (ih _ (List.getElem_mem _)) (hwk _ (List.getElem_mem _)) (by have := size_get_le (ks := ks) (k := 1) (by omega); show ks[1].size < _; omega) _ E H124 _ ⟨At0, ct0, rfl, (KS.up ht0 l_H_H124)⟩) h (fun r126 H126 L126 a w le126 R h => ?_)
            obtain ⟨⟨A126, c126, rfl, hk126⟩, rfl⟩ := R
            refine br0 ?_
            have l_H_H126 : LE H H126 := (le123.trans le124).trans le126
            refine bg1 6 true h ?_
            refine bsl bs164 h fun g127 a w h => ?_
            refine br0 ?_
            refine bg1 7 true h ?_
            have l_H123_H126 : LE H123 H126 := le124.trans le126
            refine apn (n := 0) (m := 3) 1 0 (L' := fun i => _ :: i :: _) [_, _, _] ((([] : List Tkl) ++ [(Tkl.mk (ks[0].within) : Tkl), (Tkl.mk ([Tk.mk 4 ([58, 61]) 0]) : Tkl), (Tkl.mk (ks[1].within) : Tkl)]).length) (by first | (simp; done) | (simp; omega)) row164 h (by first | omega | (simp; done) | (simp; omega)) (by first | omega | (simp; done) | (simp; omega)) fun v128 a w hone128 h => ?_
            obtain ⟨B128, cp128, rfl⟩ := h.rowv 1
            have hr128 : RowR RTkl 1 H126 ([] ++ [.slice A123 (ks[0].within).length c123, .slice A124 ([Tk.mk 4 ([58, 61]) 0]).length c124, .slice A126 (ks[1].within).length c126]) (([] : List Tkl) ++ [(Tkl.mk (ks[0].within) : Tkl), (Tkl.mk ([Tk.mk 4 ([58, 61]) 0]) : Tkl), (Tkl.mk (ks[1].within) : Tkl)]) := (((RowR.nil : RowR RTkl 1 H [] ([] : List Tkl)).mono fun cs y _ hr => RTkl.mono l_H_H126 y hr)).app (RowR.cons rfl (rtkl_of_v (cs := [_]) ⟨_, _, rfl, (TkS.up hk123 l_H123_H126)⟩) (RowR.cons rfl (rtkl_of_v (cs := [_]) ⟨_, _, rfl, (TkS.up hk124 le126)⟩) (RowR.one rfl (rtkl_of_v (cs := [_]) ⟨_, _, rfl, hk126⟩))))
            refine au [2,7,8,8,0,6,2,6] h ?_; intro a w h
            refine en (by kernel_rfl) ?_
            refine au [1,7,1,0,1,2,0,0] h ?_; intro a w h
            have hT : (([] : List Tkl) ++ [(Tkl.mk (ks[0].within) : Tkl), (Tkl.mk ([Tk.mk 4 ([58, 61]) 0]) : Tkl), (Tkl.mk (ks[1].within) : Tkl)]).flatMap (·.l) = (Tm.mk kd nm nn ks).toks := by rw [toks_mk]; simp [layT', c7, c19, c27, c39, c48, c63, c77, c88, c96, c111, c119, withinN_get (show 0 < ks.length by omega), withinN_get (show 1 < ks.length by omega)]
            obtain ⟨Hrrl, leHrrl, h, hsHrrl⟩ := h.frw 1 hr128 rfl (fun _ l cs y _ hr => RTkl.mono l y hr)
            refine cl bod115 (join4_ok (([] : List Tkl) ++ [(Tkl.mk (ks[0].within) : Tkl), (Tkl.mk ([Tk.mk 4 ([58, 61]) 0]) : Tkl), (Tkl.mk (ks[1].within) : Tkl)]) _ _ E Hrrl _ hsHrrl (by simp) (by rw [hT]; have := toks_len (Tm.mk kd nm nn ks); simp only [Tm.size] at this; omega)) h (fun r152 H152 L152 a w le152 R h => ?_)
            obtain ⟨⟨A152, c152, rfl, hk152⟩, rfl⟩ := R
            refine au [0,6,0,3,1,3] h ?_; intro a w h
            have l_H_H152 : LE H H152 := (((le123.trans le124).trans le126).trans leHrrl).trans le152
            refine fin1 2 2 h l_H_H152 ?_
            rw [← hT]; exact ⟨⟨_, _, rfl, hk152⟩, rfl⟩
           ·have d119 : kd ≠ 11 := cd_ c119
            refine au [1,2,6,2,0,6,0,3] h ?_; intro a w h
            refine cdB h (fun c129 => ?_) (fun c129 => ?_)
            ·have d129 : kd = 12 := cd_ c129
             have hkl : ks.length = 2 := by have := hkn; rw [d129] at this; simp [kidsL] at this; first | omega | simp [this]
             refine rgx [1] [_] [1, 4, 6] 11 mix h (fun a w h => ?_)
             refine au [8,0,0,0,2,6,8,1,4,5,2,6,8,3,0,7,2,6,8,4,3,8,2,6,8,6,4,5,2,6] h ?_; intro a w h
             refine bg1 2 true h ?_
             refine clG bod114 (kid4_ok (Tm.mk kd nm nn ks) 0 (by show _ < ks.length; omega) (ih _ (List.getElem_mem _)) (hwk _ (List.getElem_mem _)) (by have := size_get_le (ks := ks) (k := 0) (by omega); show ks[0].size < _; omega) _ E H _ ⟨At0, ct0, rfl, ht0⟩) h (fun r133 H133 L133 a w le133 R h => ?_)
             obtain ⟨⟨A133, c133, rfl, hk133⟩, rfl⟩ := R
             refine br0 ?_
             refine bg1 5 true h ?_
             refine clG bod113 (mark4_ok nm E H133 _) h (fun r136 H136 L136 a w le136 R h => ?_)
             obtain ⟨⟨A136, c136, rfl, hk136⟩, rfl⟩ := R
             refine br0 ?_
             refine bg1 7 true h ?_
             have l_H_H136 : LE H H136 := le133.trans le136
             refine clG bod114 (kid4_ok (Tm.mk kd nm nn ks) 1 (by show _ < ks.length; omega) (ih _ (List.getElem_mem _)) (hwk _ (List.getElem_mem _)) (by have := size_get_le (ks := ks) (k := 1) (by omega); show ks[1].size < _; omega) _ E H136 _ ⟨At0, ct0, rfl, (KS.up ht0 l_H_H136)⟩) h (fun r138 H138 L138 a w le138 R h => ?_)
             obtain ⟨⟨A138, c138, rfl, hk138⟩, rfl⟩ := R
             refine br0 ?_
             have l_H_H138 : LE H H138 := (le133.trans le136).trans le138
             refine bg1 8 true h ?_
             refine bsl bs164 h fun g139 a w h => ?_
             refine br0 ?_
             refine bg1 9 true h ?_
             have l_H133_H138 : LE H133 H138 := le136.trans le138
             refine apn (n := 0) (m := 3) 1 0 (L' := fun i => _ :: i :: _) [_, _, _] ((([] : List Tkl) ++ [(Tkl.mk (ks[0].within) : Tkl), (Tkl.mk ([Tk.mk 4 nm 0]) : Tkl), (Tkl.mk (ks[1].within) : Tkl)]).length) (by first | (simp; done) | (simp; omega)) row164 h (by first | omega | (simp; done) | (simp; omega)) (by first | omega | (simp; done) | (simp; omega)) fun v140 a w hone140 h => ?_
             obtain ⟨B140, cp140, rfl⟩ := h.rowv 1
             have hr140 : RowR RTkl 1 H138 ([] ++ [.slice A133 (ks[0].within).length c133, .slice A136 ([Tk.mk 4 nm 0]).length c136, .slice A138 (ks[1].within).length c138]) (([] : List Tkl) ++ [(Tkl.mk (ks[0].within) : Tkl), (Tkl.mk ([Tk.mk 4 nm 0]) : Tkl), (Tkl.mk (ks[1].within) : Tkl)]) := (((RowR.nil : RowR RTkl 1 H [] ([] : List Tkl)).mono fun cs y _ hr => RTkl.mono l_H_H138 y hr)).app (RowR.cons rfl (rtkl_of_v (cs := [_]) ⟨_, _, rfl, (TkS.up hk133 l_H133_H138)⟩) (RowR.cons rfl (rtkl_of_v (cs := [_]) ⟨_, _, rfl, (TkS.up hk136 le138)⟩) (RowR.one rfl (rtkl_of_v (cs := [_]) ⟨_, _, rfl, hk138⟩))))
             refine au [2,7,8,10,0,6,2,6] h ?_; intro a w h
             refine en (by kernel_rfl) ?_
             refine au [1,7,1,0,1,2,0,0] h ?_; intro a w h
             have hT : (([] : List Tkl) ++ [(Tkl.mk (ks[0].within) : Tkl), (Tkl.mk ([Tk.mk 4 nm 0]) : Tkl), (Tkl.mk (ks[1].within) : Tkl)]).flatMap (·.l) = (Tm.mk kd nm nn ks).toks := by rw [toks_mk]; simp [layT', c7, c19, c27, c39, c48, c63, c77, c88, c96, c111, c119, c129, withinN_get (show 0 < ks.length by omega), withinN_get (show 1 < ks.length by omega)]
             obtain ⟨Hrrl, leHrrl, h, hsHrrl⟩ := h.frw 1 hr140 rfl (fun _ l cs y _ hr => RTkl.mono l y hr)
             refine cl bod115 (join4_ok (([] : List Tkl) ++ [(Tkl.mk (ks[0].within) : Tkl), (Tkl.mk ([Tk.mk 4 nm 0]) : Tkl), (Tkl.mk (ks[1].within) : Tkl)]) _ _ E Hrrl _ hsHrrl (by simp) (by rw [hT]; have := toks_len (Tm.mk kd nm nn ks); simp only [Tm.size] at this; omega)) h (fun r152 H152 L152 a w le152 R h => ?_)
             obtain ⟨⟨A152, c152, rfl, hk152⟩, rfl⟩ := R
             refine au [0,6,0,3,1,3] h ?_; intro a w h
             have l_H_H152 : LE H H152 := (((le133.trans le136).trans le138).trans leHrrl).trans le152
             refine fin1 2 2 h l_H_H152 ?_
             rw [← hT]; exact ⟨⟨_, _, rfl, hk152⟩, rfl⟩
            ·have d129 : kd ≠ 12 := cd_ c129
             refine au [1,2,6,2,0,6,0,3] h ?_; intro a w h
             refine cdB h (fun c141 => ?_) (fun c141 => ?_)
             ·have d141 : kd = 13 := cd_ c141
              have hkl : ks.length = 2 := by have := hkn; rw [d141] at this; simp [kidsL] at this; first | omega | simp [this]
              refine rgx [1] [_] [1, 4] 9 mix h (fun a w h => ?_)
              refine au [8,0,0,0,2,6,8,1,4,5,2,6,8,4,4,5,2,6] h ?_; intro a w h
              refine bg1 2 true h ?_
              refine clG bod114 (kid4_ok (Tm.mk kd nm nn ks) 0 (by show _ < ks.length; omega) (ih _ (List.getElem_mem _)) (hwk _ (List.getElem_mem _)) (by have := size_get_le (ks := ks) (k := 0) (by omega); show ks[0].size < _; omega) _ E H _ ⟨At0, ct0, rfl, ht0⟩) h (fun r145 H145 L145 a w le145 R h => ?_)
              obtain ⟨⟨A145, c145, rfl, hk145⟩, rfl⟩ := R
              refine br0 ?_
              refine bg1 3 true h ?_
              refine clG bod113 (mark4_ok [59] E H145 _) h (fun r146 H146 L146 a w le146 R h => ?_)
              obtain ⟨⟨A146, c146, rfl, hk146⟩, rfl⟩ := R
              refine br0 ?_
              refine bg1 5 true h ?_
              have l_H_H146 : LE H H146 := le145.trans le146
              refine clG bod114 (kid4_ok (Tm.mk kd nm nn ks) 1 (by show _ < ks.length; omega) (ih _ (List.getElem_mem _)) (hwk _ (List.getElem_mem _)) (by have := size_get_le (ks := ks) (k := 1) (by omega); show ks[1].size < _; omega) _ E H146 _ ⟨At0, ct0, rfl, (KS.up ht0 l_H_H146)⟩) h (fun r148 H148 L148 a w le148 R h => ?_)
              obtain ⟨⟨A148, c148, rfl, hk148⟩, rfl⟩ := R
              refine br0 ?_
              have l_H_H148 : LE H H148 := (le145.trans le146).trans le148
              refine bg1 6 true h ?_
              refine bsl bs164 h fun g149 a w h => ?_
              refine br0 ?_
              refine bg1 7 true h ?_
              have l_H145_H148 : LE H145 H148 := le146.trans le148
              refine apn (n := 0) (m := 3) 1 0 (L' := fun i => _ :: i :: _) [_, _, _] ((([] : List Tkl) ++ [(Tkl.mk (ks[0].within) : Tkl), (Tkl.mk ([Tk.mk 4 [59] 0]) : Tkl), (Tkl.mk (ks[1].within) : Tkl)]).length) (by first | (simp; done) | (simp; omega)) row164 h (by first | omega | (simp; done) | (simp; omega)) (by first | omega | (simp; done) | (simp; omega)) fun v150 a w hone150 h => ?_
              obtain ⟨B150, cp150, rfl⟩ := h.rowv 1
              have hr150 : RowR RTkl 1 H148 ([] ++ [.slice A145 (ks[0].within).length c145, .slice A146 ([Tk.mk 4 [59] 0]).length c146, .slice A148 (ks[1].within).length c148]) (([] : List Tkl) ++ [(Tkl.mk (ks[0].within) : Tkl), (Tkl.mk ([Tk.mk 4 [59] 0]) : Tkl), (Tkl.mk (ks[1].within) : Tkl)]) := (((RowR.nil : RowR RTkl 1 H [] ([] : List Tkl)).mono fun cs y _ hr => RTkl.mono l_H_H148 y hr)).app (RowR.cons rfl (rtkl_of_v (cs := [_]) ⟨_, _, rfl, (TkS.up hk145 l_H145_H148)⟩) (RowR.cons rfl (rtkl_of_v (cs := [_]) ⟨_, _, rfl, (TkS.up hk146 le148)⟩) (RowR.one rfl (rtkl_of_v (cs := [_]) ⟨_, _, rfl, hk148⟩))))
              refine au [2,7,8,8,0,6,2,6] h ?_; intro a w h
              refine en (by kernel_rfl) ?_
              refine au [1,7,1,0,1,2,0,0] h ?_; intro a w h
              have hT : (([] : List Tkl) ++ [(Tkl.mk (ks[0].within) : Tkl), (Tkl.mk ([Tk.mk 4 [59] 0]) : Tkl), (Tkl.mk (ks[1].within) : Tkl)]).flatMap (·.l) = (Tm.mk kd nm nn ks).toks := by rw [toks_mk]; simp [layT', c7, c19, c27, c39, c48, c63, c77, c88, c96, c111, c119, c129, c141, withinN_get (show 0 < ks.length by omega), withinN_get (show 1 < ks.length by omega)]
              obtain ⟨Hrrl, leHrrl, h, hsHrrl⟩ := h.frw 1 hr150 rfl (fun _ l cs y _ hr => RTkl.mono l y hr)
              refine cl bod115 (join4_ok (([] : List Tkl) ++ [(Tkl.mk (ks[0].within) : Tkl), (Tkl.mk ([Tk.mk 4 [59] 0]) : Tkl), (Tkl.mk (ks[1].within) : Tkl)]) _ _ E Hrrl _ hsHrrl (by simp) (by rw [hT]; have := toks_len (Tm.mk kd nm nn ks); simp only [Tm.size] at this; omega)) h (fun r152 H152 L152 a w le152 R h => ?_)
              obtain ⟨⟨A152, c152, rfl, hk152⟩, rfl⟩ := R
              refine au [0,6,0,3,1,3] h ?_; intro a w h
              have l_H_H152 : LE H H152 := (((le145.trans le146).trans le148).trans leHrrl).trans le152
              refine fin1 2 2 h l_H_H152 ?_
              rw [← hT]; exact ⟨⟨_, _, rfl, hk152⟩, rfl⟩
             ·have d141 : kd ≠ 13 := cd_ c141
              exfalso; omega
theorem Show4_ok (t : Tm) (v : Value) (E : World) (H : GH) (L : List It) (hv : VT H v t) (hb : t.size < 1000000000000) (hg : t.long < 1000000000000) : Ok Tryz.prog 61 #[v] E H L fun r H' L' => r = str t.show' ∧ L = L' := by
 obtain ⟨At0, ct0, rfl, ht0⟩ := hv
 refine enter (N := 9) [(0, _)] Tryz.func61 rfl rfl rfl rfl fun a w h => ?_
 refine au [1,2] h ?_
 refine bxA h fun g1 a w h => ?_
 refine au [0,6,0,3,0,4,1,2,3,3] h ?_; intro a w h
 refine cl bod76 (RightR_ok t _ E H _ ⟨At0, ct0, rfl, ht0⟩ (by first | assumption | omega) (by first | assumption | omega)) h (fun r4 H4 L4 a w le4 R h => ?_)
 obtain ⟨rfl, rfl⟩ := R
 refine au [7,1,0,3] h ?_; intro a w h
 refine cdB h (fun c5 => ?_) (fun c5 => ?_)
 ·have d5 : t.right = false := cd_ c5
  refine au [1,2,0,6,0,3,1,3,1,4] h ?_; intro a w h
  refine fin1 2 1 h le4 ?_
  exact ⟨by rw [Tm.show', if_neg (by simpa using c5)], rfl⟩
 ·have d5 : t.right = true := cd_ c5
  have hr : t.right = true := by simpa using c5
  obtain ⟨hr1, hr2, hr3⟩ : (t.depth : Int) ≤ 200 ∧ (t.size : Int) ≤ 10000 ∧ t.wrong = false := by simpa [Tm.right] using hr
  refine au [1,8,1,0,1,2,3,3] h ?_; intro a w h
  refine cl bod79 (toks4_ok t _ E H4 _ ⟨At0, ct0, rfl, (KS.up ht0 le4)⟩ hr3 (by omega)) h (fun r7 H7 L7 a w le7 R h => ?_)
  obtain ⟨⟨A7, c7, rfl, hk7⟩, rfl⟩ := R
  refine cl bod78 (Print2_ok (t.toks) _ _ E H7 _ hk7 (by have := toks_len t; omega) (by have := show_le hr; omega)) h (fun r8 H8 L8 a w le8 R h => ?_)
  obtain ⟨rfl, rfl, rfl⟩ := R
  refine au [0,6,0,3,1,3] h ?_; intro a w h
  have l_H_H7 : LE H H7 := le4.trans le7
  refine fin1 2 1 h l_H_H7 ?_
  exact ⟨by rw [Tm.show', if_pos hr], rfl⟩
theorem Print6_ok (p : Pg) (v : Value) (E : World) (H : GH) (L : List It) (hv : VP H v p) (hM : Mild p) : Ok Tryz.prog 48 #[v] E H L fun r H' L' => r = str p.print ∧ L = L' := by
 obtain ⟨Ap0, cp0, Ap1, cp1, Ap2, cp2, Ap3, cp3, rfl, hp0, hp1, hp2, hp3⟩ := hv
 refine enter (N := 105) [(0, _)] Tryz.func48 rfl rfl rfl rfl fun a w h => ?_
 refine au [1,2] h ?_
 refine bxA h fun g1 a w h => ?_
 refine au [0,6,0,3,0,4,1,2,3,3] h ?_; intro a w h
 refine cl bod59 (short_ok p _ E H _ ⟨Ap0, cp0, Ap1, cp1, Ap2, cp2, Ap3, cp3, rfl, hp0, hp1, hp2, hp3⟩ (by assumption)) h (fun r8 H8 L8 a w le8 R h => ?_)
 obtain ⟨rfl, rfl⟩ := R
 refine au [7,1,0,3] h ?_; intro a w h
 refine cdB h (fun c9 => ?_) (fun c9 => ?_)
 ·have d9 : p.fits = false := cd_ c9
  refine au [1,2,0,6,0,3,1,3,1,4] h ?_; intro a w h
  refine fin1 2 1 h le8 ?_
  exact ⟨by rw [Pg.print, if_neg (by simpa using c9)], rfl⟩
 ·have d9 : p.fits = true := cd_ c9
  have hfit : p.fits = true := by simpa using c9
  obtain ⟨hf1, hf2, hf3, hw1, hw2, hw3, hw4⟩ := fits_of hfit
  have hfi := flat_take_len (f := Dc.inL) (fun d hd => inL_len (hw1 d hd).1) hf1 p.inputs.length
  rw [List.take_length] at hfi
  have hfc := flat_take_len (f := Dc.cellL) (fun d hd => cellL_len (hw2 d hd)) hf2 p.cells.length
  rw [List.take_length] at hfc
  refine au [1,8,1,0,1,2,0,6,0,3,0,4,1,2,0,6,0,3,1,5] h ?_; intro a w h
  refine lp (β := Nat) (fun k a w => ((k ≤ p.inputs.length)) ∧ S E H8 105 [] [(1, .pointer (some ⟨g1, 0, none⟩)), (2, str []), (3, str ((p.inputs.take k).flatMap Dc.inL)), (4, .int .i64 (k : Int))] (.obj g1 (.cells #[.slice Ap0 p.inputs.length cp0, .slice Ap1 p.cells.length cp1, .slice Ap2 p.defs.length cp2, .int .i64 p.body.kind, str p.body.name, .int .i64 p.body.n, .slice Ap3 p.body.kids.length cp3] 50 (0, 0)) :: L) a w)
   (fun k => p.inputs.length - k) 0 ⟨Nat.zero_le _, (by show S _ _ _ _ _ _ _ _; rw [show (str ((p.inputs.take 0).flatMap Dc.inL)) = str [] from Eq.symm (by simp)]; exact h.to 0 _)⟩ ?_
  rintro k a w ⟨hk, h⟩
  have hl0 := flat_take_len (f := Dc.inL) (fun d hd => inL_len (hw1 d hd).1) hf1 k
  refine au [0,4,1,2,0,0,0,7,0,8,6,0,6,4,0,3] h ?_; intro a w h
  refine cdB h (fun c14 => ?_) (fun c14 => ?_)
  ·have d14 : k < p.inputs.length := cd_ c14
   obtain ⟨hd1, hd2, hd3, hd4⟩ := dc_len (hw1 _ (List.getElem_mem d14)).1
   refine au [1,8,1,0,0,4,1,5] h ?_
   refine rgd [0] [_] [] [3, 7, 11, 15] 1 mix (by kernel_rfl) h (fun a w h => ?_)
   refine mv h fun a w h => ?_
   refine catB h ?_ fun a w h => ?_
   ·(try simp only [List.length_append, List.length_cons, List.length_nil]); omega
   refine au [0,7,4,2,0,0] h ?_; intro a w h
   have hj22 : k < p.inputs.length := by first | assumption | omega | (simp; done) | (simp; omega)
   obtain ⟨g22, o22, e22, hv22, hc22⟩ := CS.get (CS.up hp0 le8) hj22
   refine iaE sli47 sz88 rfl hj22 e22 h fun a w h => ?_
   refine fa fl88_0 (r := o22 + k * 3 + 0) h fun a w h => ?_
   refine ldHD t1_9 (hc22 0 _ rfl) h fun a w h => ?_
   refine catB h ?_ fun a w h => ?_
   ·(try simp only [List.length_append, List.length_cons, List.length_nil]); omega
   refine catB h ?_ fun a w h => ?_
   ·(try simp only [List.length_append, List.length_cons, List.length_nil]); omega
   refine au [0,7,4,2,0,0] h ?_; intro a w h
   have hj30 : k < p.inputs.length := by first | assumption | omega | (simp; done) | (simp; omega)
   obtain ⟨g30, o30, e30, hv30, hc30⟩ := CS.get (CS.up hp0 le8) hj30
   refine iaE sli47 sz88 rfl hj30 e30 h fun a w h => ?_
   refine fa fl88_1 (r := o30 + k * 3 + 1) h fun a w h => ?_
   refine ldHD t1_9 (hc30 1 _ rfl) h fun a w h => ?_
   refine catB h ?_ fun a w h => ?_
   ·(try simp only [List.length_append, List.length_cons, List.length_nil]); omega
   refine catB h ?_ fun a w h => ?_
   ·(try simp only [List.length_append, List.length_cons, List.length_nil]); omega
   refine au [0,6,1,1,1,7,1,0,0,5,0,0] h ?_; intro a w h
   refine inc ?_ h fun a w h => ?_
   ·omega
   refine au [0,6,0,3] h ?_; intro a w h
   exact ⟨(k + 1), ⟨by omega, (by show S _ _ _ _ _ _ _ _; rw [show (str ((p.inputs.take (k + 1)).flatMap Dc.inL)) = str (((((((p.inputs.take k).flatMap Dc.inL) ++ [105, 110, 112, 117, 116, 32]) ++ p.inputs[k].name) ++ [32, 58, 32]) ++ p.inputs[k].label) ++ [32, 46, 10]) from Eq.symm (by rw [flat_take d14]; simp [Dc.inL])]; exact h.to 0 _)⟩, by show _ - (k + 1) < _ - k; omega⟩
  ·have d14 : p.inputs.length ≤ k := cd_ c14
   refine au [2,5,2,2,2,2,2,3,1,0,0,4,1,2,0,6,0,3,1,5] h ?_; intro a w h
   refine lp (β := Nat) (fun k2 a w => ((k2 ≤ p.cells.length)) ∧ S E H8 105 [] [(1, .pointer (some ⟨g1, 0, none⟩)), (2, str []), (3, str (p.inputs.flatMap Dc.inL ++ (p.cells.take k2).flatMap Dc.cellL)), (4, .int .i64 (k : Int)), (5, .int .i64 (k2 : Int)), (10, .int .i64 (k : Int)), (11, .pointer (some ⟨g1, 0, none⟩)), (12, .slice Ap0 p.inputs.length cp0), (13, .int .i64 (p.inputs.length : Int)), (14, .bool (decide (((k : Int) : Int) < (p.inputs.length : Int))))] (.obj g1 (.cells #[.slice Ap0 p.inputs.length cp0, .slice Ap1 p.cells.length cp1, .slice Ap2 p.defs.length cp2, .int .i64 p.body.kind, str p.body.name, .int .i64 p.body.n, .slice Ap3 p.body.kids.length cp3] 50 (0, 0)) :: L) a w)
    (fun k2 => p.cells.length - k2) 0 ⟨Nat.zero_le _, (by show S _ _ _ _ _ _ _ _; rw [show (str (p.inputs.flatMap Dc.inL ++ (p.cells.take 0).flatMap Dc.cellL)) = str ((p.inputs.take k).flatMap Dc.inL) from Eq.symm (by rw [List.take_of_length_le (show p.inputs.length ≤ k by omega)]; simp)]; exact h.to 0 _)⟩ ?_
   rintro k2 a w ⟨hk, h⟩
   have hl1 := flat_take_len (f := Dc.cellL) (fun d hd => cellL_len (hw2 d hd)) hf2 k2
   refine au [0,4,1,2,0,0,0,7,0,8,6,0,6,4,0,3] h ?_; intro a w h
   refine cdB h (fun c39 => ?_) (fun c39 => ?_)
   ·have d39 : k2 < p.cells.length := cd_ c39
    obtain ⟨hd1, hd2, hd3, hd4⟩ := dc_len (hw2 _ (List.getElem_mem d39))
    have hio := Lib.itoa_length_le (p.cells[k2]).n (by omega) (by omega)
    refine au [1,8,1,0,0,4,1,5] h ?_
    refine rgd [0] [_] [3] [3, 7, 11, 15, 19, 23] 1 mix (by kernel_rfl) h (fun a w h => ?_)
    refine mv h fun a w h => ?_
    refine catB h ?_ fun a w h => ?_
    ·(try simp only [List.length_append, List.length_cons, List.length_nil]); omega
    refine au [0,7,4,2,0,0] h ?_; intro a w h
    have hj47 : k2 < p.cells.length := by first | assumption | omega | (simp; done) | (simp; omega)
    obtain ⟨g47, o47, e47, hv47, hc47⟩ := CS.get (CS.up hp1 le8) hj47
    refine iaE sli47 sz88 rfl hj47 e47 h fun a w h => ?_
    refine fa fl88_0 (r := o47 + k2 * 3 + 0) h fun a w h => ?_
    refine ldHD t1_9 (hc47 0 _ rfl) h fun a w h => ?_
    refine catB h ?_ fun a w h => ?_
    ·(try simp only [List.length_append, List.length_cons, List.length_nil]); omega
    refine catB h ?_ fun a w h => ?_
    ·(try simp only [List.length_append, List.length_cons, List.length_nil]); omega
    refine au [0,7,4,2,0,0] h ?_; intro a w h
    have hj55 : k2 < p.cells.length := by first | assumption | omega | (simp; done) | (simp; omega)
    obtain ⟨g55, o55, e55, hv55, hc55⟩ := CS.get (CS.up hp1 le8) hj55
    refine iaE sli47 sz88 rfl hj55 e55 h fun a w h => ?_
    refine fa fl88_1 (r := o55 + k2 * 3 + 1) h fun a w h => ?_
    refine ldHD t1_9 (hc55 1 _ rfl) h fun a w h => ?_
    refine catB h ?_ fun a w h => ?_
    ·(try simp only [List.length_append, List.length_cons, List.length_nil]); omega
    refine catB h ?_ fun a w h => ?_
    ·(try simp only [List.length_append, List.length_cons, List.length_nil]); omega
    refine au [0,7,4,2,0,0] h ?_; intro a w h
    have hj63 : k2 < p.cells.length := by first | assumption | omega | (simp; done) | (simp; omega)
    obtain ⟨g63, o63, e63, hv63, hc63⟩ := CS.get (CS.up hp1 le8) hj63
    refine iaE sli47 sz88 rfl hj63 e63 h fun a w h => ?_
    refine fa fl88_2 (r := o63 + k2 * 3 + 2) h fun a w h => ?_
    refine ldHD t1_2 (hc63 2 _ rfl) h fun a w h => ?_
    refine clG bod60 (Digits_ok p.cells[k2].n E H8 _ (by first | assumption | omega) (by first | assumption | omega)) h (fun r66 H66 L66 a w le66 R h => ?_)
    obtain ⟨rfl, rfl, rfl⟩ := R
    refine catB h ?_ fun a w h => ?_
    ·(try simp only [List.length_append, List.length_cons, List.length_nil]); omega
    refine catB h ?_ fun a w h => ?_
    ·(try simp only [List.length_append, List.length_cons, List.length_nil]); omega
    refine au [0,6,1,1,1,7,1,0,0,5,0,0] h ?_; intro a w h
    refine inc ?_ h fun a w h => ?_
    ·omega
    refine au [0,6,0,3] h ?_; intro a w h
    exact ⟨(k2 + 1), ⟨by omega, (by show S _ _ _ _ _ _ _ _; rw [show (str (p.inputs.flatMap Dc.inL ++ (p.cells.take (k2 + 1)).flatMap Dc.cellL)) = str ((((((((p.inputs.flatMap Dc.inL ++ (p.cells.take k2).flatMap Dc.cellL) ++ [99, 101, 108, 108, 32]) ++ p.cells[k2].name) ++ [32, 58, 32]) ++ p.cells[k2].label) ++ [32, 61, 32]) ++ (Lib.itoa p.cells[k2].n)) ++ [32, 46, 10]) from Eq.symm (by rw [flat_take d39]; simp [Dc.cellL])]; exact h.to 0 _)⟩, by show _ - (k2 + 1) < _ - k2; omega⟩
   ·have d39 : p.cells.length ≤ k2 := cd_ c39
    refine au [2,5,2,2,2,2,2,3,1,0,0,4,1,2,0,6,0,3,1,5] h ?_; intro a w h
    refine lp (β := Nat × GH) (fun x a w => match x with | (k3, HL4) => ((k3 ≤ p.defs.length) ∧ (LE H8 HL4)) ∧ S E HL4 105 [] [(1, .pointer (some ⟨g1, 0, none⟩)), (2, str []), (3, str ((p.inputs.flatMap Dc.inL ++ p.cells.flatMap Dc.cellL) ++ (p.defs.take k3).flatMap Df.line)), (4, .int .i64 (k : Int)), (5, .int .i64 (k2 : Int)), (6, .int .i64 (k3 : Int)), (10, .int .i64 (k : Int)), (11, .pointer (some ⟨g1, 0, none⟩)), (12, .slice Ap0 p.inputs.length cp0), (13, .int .i64 (p.inputs.length : Int)), (14, .bool (decide (((k : Int) : Int) < (p.inputs.length : Int)))), (35, .int .i64 (k2 : Int)), (36, .pointer (some ⟨g1, 1, none⟩)), (37, .slice Ap1 p.cells.length cp1), (38, .int .i64 (p.cells.length : Int)), (39, .bool (decide (((k2 : Int) : Int) < (p.cells.length : Int))))] (.obj g1 (.cells #[.slice Ap0 p.inputs.length cp0, .slice Ap1 p.cells.length cp1, .slice Ap2 p.defs.length cp2, .int .i64 p.body.kind, str p.body.name, .int .i64 p.body.n, .slice Ap3 p.body.kids.length cp3] 50 (0, 0)) :: L) a w)
     (fun x => match x with | (k3, HL4) => p.defs.length - k3) (0, H8) ⟨⟨Nat.zero_le _, LE.rfl⟩, (by show S _ _ _ _ _ _ _ _; rw [show (str ((p.inputs.flatMap Dc.inL ++ p.cells.flatMap Dc.cellL) ++ (p.defs.take 0).flatMap Df.line)) = str (p.inputs.flatMap Dc.inL ++ (p.cells.take k2).flatMap Dc.cellL) from Eq.symm (by rw [List.take_of_length_le (show p.cells.length ≤ k2 by omega)]; simp)]; exact h.to 0 _)⟩ ?_
    rintro ⟨k3, HL4⟩ a w ⟨⟨hk, leHL4⟩, h⟩
    have hl2 := flat_take_len (f := Df.line) (fun d hd => line_len (hw3 d hd)) hf3 k3
    refine au [0,4,1,2,0,0,0,7,0,8,6,0,6,4,0,3] h ?_; intro a w h
    refine cdB h (fun c73 => ?_) (fun c73 => ?_)
    ·have d73 : k3 < p.defs.length := cd_ c73
     obtain ⟨hd1, hd2⟩ := df_len (hw3 _ (List.getElem_mem d73))
     have hsh := show'_le (p.defs[k3]).t
     refine au [1,8,1,0,0,4,1,5] h ?_
     refine rgd [0] [_] [3] [3, 7, 11, 15] 1 mix (by kernel_rfl) h (fun a w h => ?_)
     refine mv h fun a w h => ?_
     refine catB h ?_ fun a w h => ?_
     ·(try simp only [List.length_append, List.length_cons, List.length_nil]); omega
     refine au [0,7,4,2,0,0] h ?_; intro a w h
     have l_H_HL4 : LE H HL4 := le8.trans leHL4
     have hj81 : k3 < p.defs.length := by first | assumption | omega | (simp; done) | (simp; omega)
     obtain ⟨g81, o81, A81_0, c81_0, e81, hv81, hc81⟩ := FS.get (FS.up hp2 l_H_HL4) hj81
     obtain ⟨_, _, q81, hk81_0⟩ := hv81; cases q81
     refine iaE sli48 sz86 rfl hj81 e81 h fun a w h => ?_
     refine fa fl86_0 (r := o81 + k3 * 5 + 0) h fun a w h => ?_
     refine ldHD t1_9 (hc81 0 _ rfl) h fun a w h => ?_
     refine catB h ?_ fun a w h => ?_
     ·(try simp only [List.length_append, List.length_cons, List.length_nil]); omega
     refine catB h ?_ fun a w h => ?_
     ·(try simp only [List.length_append, List.length_cons, List.length_nil]); omega
     refine au [0,7,4,2,0,0] h ?_; intro a w h
     have hj89 : k3 < p.defs.length := by first | assumption | omega | (simp; done) | (simp; omega)
     obtain ⟨g89, o89, A89_0, c89_0, e89, hv89, hc89⟩ := FS.get (FS.up hp2 l_H_HL4) hj89
     obtain ⟨_, _, q89, hk89_0⟩ := hv89; cases q89
     refine iaE sli48 sz86 rfl hj89 e89 h fun a w h => ?_
     refine fa fl86_1 (r := o89 + k3 * 5 + 1) h fun a w h => ?_
     refine ldHND (l := [_, _, _, _]) tN35 rfl (sbL 1 4 hc89) h fun a w h => ?_
     refine clG bod61 (Show4_ok p.defs[k3].t _ E HL4 _ ⟨A89_0, c89_0, rfl, hk89_0⟩ (hM.f _ (List.getElem_mem d73)).2.2 (hM.f _ (List.getElem_mem d73)).2.1) h (fun r92 H92 L92 a w le92 R h => ?_)
     obtain ⟨rfl, rfl⟩ := R
     refine catB h ?_ fun a w h => ?_
     ·(try simp only [List.length_append, List.length_cons, List.length_nil]); omega
     refine catB h ?_ fun a w h => ?_
     ·(try simp only [List.length_append, List.length_cons, List.length_nil]); omega
     refine au [0,6,1,1,1,7,1,0,0,5,0,0] h ?_; intro a w h
     refine inc ?_ h fun a w h => ?_
     ·omega
     refine au [0,6,0,3] h ?_; intro a w h
     have l_H8_H92 : LE H8 H92 := leHL4.trans le92
     exact ⟨((k3 + 1), H92), ⟨⟨by omega, l_H8_H92⟩, (by show S _ _ _ _ _ _ _ _; rw [show (str ((p.inputs.flatMap Dc.inL ++ p.cells.flatMap Dc.cellL) ++ (p.defs.take (k3 + 1)).flatMap Df.line)) = str (((((((p.inputs.flatMap Dc.inL ++ p.cells.flatMap Dc.cellL) ++ (p.defs.take k3).flatMap Df.line) ++ [100, 101, 102, 32]) ++ p.defs[k3].name) ++ [32, 61, 32]) ++ p.defs[k3].t.show') ++ [32, 46, 10]) from Eq.symm (by rw [flat_take d73]; simp [Df.line])]; exact h.to 0 _)⟩, by show _ - (k3 + 1) < _ - k3; omega⟩
    ·have d73 : p.defs.length ≤ k3 := cd_ c73
     have hsh := show'_le p.body
     refine au [2,5,2,2,2,2,2,3,1,0,1,2,0,0,0,7] h ?_; intro a w h
     refine ldN (l := [_, _, _, _]) 0 tN35 h fun a w h => ?_
     have l_H_HL4 : LE H HL4 := le8.trans leHL4
     refine cl bod61 (Show4_ok p.body _ E HL4 _ ⟨Ap3, cp3, rfl, (KS.up hp3 l_H_HL4)⟩ hM.b2 hM.b1) h (fun r98 H98 L98 a w le98 R h => ?_)
     obtain ⟨rfl, rfl⟩ := R
     refine catB h ?_ fun a w h => ?_
     ·(try simp only [List.length_append, List.length_cons, List.length_nil]); omega
     refine catB h ?_ fun a w h => ?_
     ·(try simp only [List.length_append, List.length_cons, List.length_nil]); omega
     refine au [0,6,0,3,0,4,1,2] h ?_; intro a w h
     have htx : ((((p.inputs.flatMap Dc.inL ++ p.cells.flatMap Dc.cellL) ++ (p.defs.take k3).flatMap Df.line) ++ p.body.show') ++ [10]) = p.text := by rw [List.take_of_length_le (show p.defs.length ≤ k3 by omega)]; simp [Pg.text]
     rw [htx] at h
     refine au [0,0,6,1,6,6,0,3] h ?_; intro a w h
     refine cdB h (fun c103 => ?_) (fun c103 => ?_)
     ·have d103 : 65536 < p.text.length := cd_ c103
      refine au [1,2,0,6,0,3,1,3,1,4] h ?_; intro a w h
      have l_H_H98 : LE H H98 := (le8.trans leHL4).trans le98
      refine fin1 2 1 h l_H_H98 ?_
      exact ⟨by rw [Pg.print, if_pos hfit, if_pos c103], rfl⟩
     ·have d103 : p.text.length ≤ 65536 := cd_ c103
      refine au [1,8,1,0,1,2,0,0,0,6,0,3,1,3] h ?_; intro a w h
      have l_H_H98 : LE H H98 := (le8.trans leHL4).trans le98
      refine fin1 2 1 h l_H_H98 ?_
      exact ⟨by rw [Pg.print, if_pos hfit, if_neg (by rw [c103]; simp)], rfl⟩
theorem Right6_ok (p : Pg) (v : Value) (E : World) (H : GH) (L : List It) (hv : VP H v p) (hM : Mild p) : Ok Tryz.prog 32 #[v] E H L fun r H' L' => r = .bool p.right ∧ L = L' := by
 obtain ⟨Ap0, cp0, Ap1, cp1, Ap2, cp2, Ap3, cp3, rfl, hp0, hp1, hp2, hp3⟩ := hv
 refine enter (N := 6) [(0, _)] Tryz.func32 rfl rfl rfl rfl fun a w h => ?_
 refine au [1,2] h ?_
 refine bxA h fun g1 a w h => ?_
 refine au [0,6,0,2,3,3] h ?_; intro a w h
 refine cl bod48 (Print6_ok p _ E H _ ⟨Ap0, cp0, Ap1, cp1, Ap2, cp2, Ap3, cp3, rfl, hp0, hp1, hp2, hp3⟩ (by assumption)) h (fun r4 H4 L4 a w le4 R h => ?_)
 obtain ⟨rfl, rfl⟩ := R
 refine au [7,0,0,6,0,3,1,3] h ?_; intro a w h
 refine fin1 2 1 h le4 ?_
 exact ⟨rfl, rfl⟩
theorem Same6_ok (p q : Pg) (v v2 : Value) (E : World) (H : GH) (L : List It) (hv : VP H v p) (hv2 : VP H v2 q) (hli : p.inputs.length < 1000000000000) (hlc : p.cells.length < 1000000000000) (hlf : p.defs.length < 1000000000000) (hz : ∀ d ∈ p.defs, d.t.size < 1000000000000) (hb1 : p.body.size < 1000000000000) :
   Ok Tryz.prog 15 #[v, v2] E H L fun r H' L' => (∃ b, r = .bool b ∧ (p = q → b = true)) ∧ H = H' ∧ L = L' := by
 obtain ⟨Ap0, cp0, Ap1, cp1, Ap2, cp2, Ap3, cp3, rfl, hp0, hp1, hp2, hp3⟩ := hv
 obtain ⟨Aq0, cq0, Aq1, cq1, Aq2, cq2, Aq3, cq3, rfl, hq0, hq1, hq2, hq3⟩ := hv2
 refine enter (N := 73) [(0, _), (1, _)] Tryz.func15 rfl rfl rfl rfl fun a w h => ?_
 refine au [1,2] h ?_
 refine bxA h fun g2 a w h => ?_
 refine bxA h fun g3 a w h => ?_
 refine au [0,6,0,3,0,4] h ?_; intro a w h
 refine sqc (fun a w => S E H 73 [] [(2, .pointer (some ⟨g2, 0, none⟩)), (3, .pointer (some ⟨g3, 0, none⟩)), (4, .bool false), (36, .bool (!(decide (p.inputs = q.inputs) && (decide (p.cells = q.cells) && ((p.defs.length : Int) == (q.defs.length : Int) && p.body.same q.body)))))] (.obj g3 (.cells #[.slice Aq0 q.inputs.length cq0, .slice Aq1 q.cells.length cq1, .slice Aq2 q.defs.length cq2, .int .i64 q.body.kind, str q.body.name, .int .i64 q.body.n, .slice Aq3 q.body.kids.length cq3] 50 (0, 0)) :: .obj g2 (.cells #[.slice Ap0 p.inputs.length cp0, .slice Ap1 p.cells.length cp1, .slice Ap2 p.defs.length cp2, .int .i64 p.body.kind, str p.body.name, .int .i64 p.body.n, .slice Ap3 p.body.kids.length cp3] 50 (0, 0)) :: L) a w) ?_ ?_
 ·refine au [0,5,0,7,2,8,0,7,0,8] h ?_; intro a w h
  refine cl bod36 (sameDecls_ok p.inputs q.inputs _ _ _ _ E H _ hp0 hq0 (by first | assumption | omega)) h (fun r10 H10 L10 a w le10 R h => ?_)
  obtain ⟨rfl, rfl, rfl⟩ := R
  refine nt h fun a w h => ?_
  refine h.spl (fun c11 h => ?_) (fun c11 h => ?_)
  ·have d11 : decide (p.inputs = q.inputs) = false := cd_ c11
   refine au [0,0,0,1,0,1,0,1,0,1,0,1,0,1,4,8,0,0,0,1,0,1,0,1,0,1,0,1,0,1,0,1,4,8,0,0,0,1,0,1,0,1,0,1,0,1,0,1,4,8,0,3] h ?_; intro a w h
   exact (by show S _ _ _ _ _ _ _ _; rw [show (.bool (!(decide (p.inputs = q.inputs) && (decide (p.cells = q.cells) && ((p.defs.length : Int) == (q.defs.length : Int) && p.body.same q.body)))) : Value) = .bool true from Eq.symm (by clear h; simp_all)]; exact h.to 0 _)
  ·have d11 : decide (p.inputs = q.inputs) = true := cd_ c11
   refine au [0,0,0,7,2,8,0,7,0,8] h ?_; intro a w h
   refine cl bod36 (sameDecls_ok p.cells q.cells _ _ _ _ E H _ hp1 hq1 (by first | assumption | omega)) h (fun r17 H17 L17 a w le17 R h => ?_)
   obtain ⟨rfl, rfl, rfl⟩ := R
   refine au [7,1,5,0] h ?_; intro a w h
   refine h.spl (fun c19 h => ?_) (fun c19 h => ?_)
   ·have d19 : decide (p.cells = q.cells) = false := cd_ c19
    refine au [0,0,0,1,0,1,0,1,0,1,0,1,0,1,0,1,4,8,0,0,0,1,0,1,0,1,0,1,0,1,0,1,4,8,0,3] h ?_; intro a w h
    exact (by show S _ _ _ _ _ _ _ _; rw [show (.bool (!(decide (p.inputs = q.inputs) && (decide (p.cells = q.cells) && ((p.defs.length : Int) == (q.defs.length : Int) && p.body.same q.body)))) : Value) = .bool true from Eq.symm (by clear h; simp_all)]; exact h.to 0 _)
   ·have d19 : decide (p.cells = q.cells) = true := cd_ c19
    refine au [0,0,0,7,2,8,6,0,0,7,0,8,6,0,6,3,5,0] h ?_; intro a w h
    refine h.spl (fun c28 h => ?_) (fun c28 h => ?_)
    ·have d28 : p.defs.length ≠ q.defs.length := cd_ c28
     refine au [0,0,0,1,0,1,0,1,0,1,0,1,0,1,4,8,0,3] h ?_; intro a w h
     exact (by show S _ _ _ _ _ _ _ _; rw [show (.bool (!(decide (p.inputs = q.inputs) && (decide (p.cells = q.cells) && ((p.defs.length : Int) == (q.defs.length : Int) && p.body.same q.body)))) : Value) = .bool true from Eq.symm (by clear h; simp_all)]; exact h.to 0 _)
    ·have d28 : p.defs.length = q.defs.length := cd_ c28
     refine au [0,0,0,7] h ?_; intro a w h
     refine ldN (l := [_, _, _, _]) 1 tN35 h fun a w h => ?_
     refine fa fl50_3 (r := 3) h fun a w h => ?_
     refine ldN (l := [_, _, _, _]) 0 tN35 h fun a w h => ?_
     refine cl bod8 (SameR_ok p.body q.body _ _ E H _ ⟨Ap3, cp3, rfl, hp3⟩ ⟨Aq3, cq3, rfl, hq3⟩ hb1) h (fun r34 H34 L34 a w le34 R h => ?_)
     obtain ⟨rfl, rfl, rfl⟩ := R
     refine au [7,1,5,0,0,3] h ?_; intro a w h
     exact (by show S _ _ _ _ _ _ _ _; rw [show (.bool (!(decide (p.inputs = q.inputs) && (decide (p.cells = q.cells) && ((p.defs.length : Int) == (q.defs.length : Int) && p.body.same q.body)))) : Value) = .bool (!(p.body.same q.body)) from Eq.symm (by clear h; simp_all)]; exact h.to 0 _)
 ·rintro a w h
  refine cdB h (fun c36 => ?_) (fun c36 => ?_)
  ·refine au [1,2,0,6,0,3,1,3,1,4] h ?_; intro a w h
   refine fin1 4 2 h LE.rfl ?_
   exact ⟨⟨_, rfl, fun e => by subst e; simp [(same_iff _ _).2 rfl] at c36⟩, rfl, rfl⟩
  ·have hql : p.defs.length = q.defs.length := by simp at c36; omega
   refine au [1,8,1,0,0,4,1,2,0,6,0,3,1,5] h ?_; intro a w h
   refine lp (β := Nat) (fun k a w => ((k ≤ p.defs.length) ∧ (∀ j (h1 : j < p.defs.length) (h2 : j < q.defs.length), j < k → Df.same p.defs[j] q.defs[j] = true)) ∧ S E H 73 [] [(2, .pointer (some ⟨g2, 0, none⟩)), (3, .pointer (some ⟨g3, 0, none⟩)), (5, .int .i64 (k : Int))] (.obj g3 (.cells #[.slice Aq0 q.inputs.length cq0, .slice Aq1 q.cells.length cq1, .slice Aq2 q.defs.length cq2, .int .i64 q.body.kind, str q.body.name, .int .i64 q.body.n, .slice Aq3 q.body.kids.length cq3] 50 (0, 0)) :: .obj g2 (.cells #[.slice Ap0 p.inputs.length cp0, .slice Ap1 p.cells.length cp1, .slice Ap2 p.defs.length cp2, .int .i64 p.body.kind, str p.body.name, .int .i64 p.body.n, .slice Ap3 p.body.kids.length cp3] 50 (0, 0)) :: L) a w)
    (fun k => p.defs.length - k) 0 ⟨⟨Nat.zero_le _, fun _ _ _ h => absurd h (by omega)⟩, h.to 0 _⟩ ?_
   rintro k a w ⟨⟨hk, hi⟩, h⟩
   refine au [0,4,1,2,0,0,0,7,2,8,6,0,6,4,0,3] h ?_; intro a w h
   refine cdB h (fun c41 => ?_) (fun c41 => ?_)
   ·have d41 : k < p.defs.length := cd_ c41
    refine au [1,8,1,0,0,4,1,5] h ?_
    refine sqc (fun a w => S E H 73 [] [(2, .pointer (some ⟨g2, 0, none⟩)), (3, .pointer (some ⟨g3, 0, none⟩)), (5, .int .i64 (k : Int)), (37, .int .i64 (k : Int)), (38, .pointer (some ⟨g2, 2, none⟩)), (39, .slice Ap2 p.defs.length cp2), (40, .int .i64 (p.defs.length : Int)), (41, .bool (decide (((k : Int) : Int) < (p.defs.length : Int)))), (44, .pointer (some ⟨g2, 2, none⟩)), (45, .slice Ap2 p.defs.length cp2), (46, .int .i64 (k : Int)), (49, str p.defs[k].name), (50, .pointer (some ⟨g3, 2, none⟩)), (51, .slice Aq2 q.defs.length cq2), (52, .int .i64 (k : Int)), (55, str q.defs[k].name), (56, .bool (!decide (p.defs[k].name = q.defs[k].name))), (57, .bool (!decide (p.defs[k].name = q.defs[k].name))), (72, .bool (!(Df.same p.defs[k] q.defs[k])))] (.obj g3 (.cells #[.slice Aq0 q.inputs.length cq0, .slice Aq1 q.cells.length cq1, .slice Aq2 q.defs.length cq2, .int .i64 q.body.kind, str q.body.name, .int .i64 q.body.n, .slice Aq3 q.body.kids.length cq3] 50 (0, 0)) :: .obj g2 (.cells #[.slice Ap0 p.inputs.length cp0, .slice Ap1 p.cells.length cp1, .slice Ap2 p.defs.length cp2, .int .i64 p.body.kind, str p.body.name, .int .i64 p.body.n, .slice Ap3 p.body.kids.length cp3] 50 (0, 0)) :: L) a w) ?_ ?_
    ·refine rgd [1, 0] [_, _] [2] [1, 5, 7, 11, 15, 19, 21, 25] 0 mix (by kernel_rfl) h (fun a w h => ?_)
     refine au [0,7,4,2,0,0] h ?_; intro a w h
     have hj47 : k < p.defs.length := by first | assumption | omega | (simp; done) | (simp; omega)
     obtain ⟨g47, o47, A47_0, c47_0, e47, hv47, hc47⟩ := FS.get hp2 hj47
     obtain ⟨_, _, q47, hk47_0⟩ := hv47; cases q47
     refine iaE sli48 sz86 rfl hj47 e47 h fun a w h => ?_
     refine fa fl86_0 (r := o47 + k * 5 + 0) h fun a w h => ?_
     refine ldHD t1_9 (hc47 0 _ rfl) h fun a w h => ?_
     refine au [0,7,4,3,0,0] h ?_; intro a w h
     have hj53 : k < q.defs.length := by first | assumption | omega | (simp; done) | (simp; omega)
     obtain ⟨g53, o53, A53_0, c53_0, e53, hv53, hc53⟩ := FS.get hq2 hj53
     obtain ⟨_, _, q53, hk53_0⟩ := hv53; cases q53
     refine iaE sli48 sz86 rfl hj53 e53 h fun a w h => ?_
     refine fa fl86_0 (r := o53 + k * 5 + 0) h fun a w h => ?_
     refine ldHD t1_9 (hc53 0 _ rfl) h fun a w h => ?_
     refine neb h fun a w h => ?_
     refine h.spl (fun c56 h => ?_) (fun c56 h => ?_)
     ·have d56 : p.defs[k].name ≠ q.defs[k].name := cd_ c56
      refine au [0,0,0,1,0,1,0,1,0,1,0,1,0,1,0,1,0,1,0,1,0,1,0,1,0,1,0,1,0,1,4,8,0,3] h ?_; intro a w h
      exact (by show S _ _ _ _ _ _ _ _; rw [show (.bool (!decide (p.defs[k].name = q.defs[k].name)) : Value) = .bool true from Eq.symm (by first | ((try rw [c56]) <;> (try simp only [Bool.true_or, Bool.or_true, Bool.false_or, Bool.or_false, Bool.true_and, Bool.and_true, Bool.false_and, Bool.and_false, Bool.not_true, Bool.not_false, cond_true, cond_false]); done) | (exfalso; omega)), show (.bool (!(Df.same p.defs[k] q.defs[k])) : Value) = .bool true from Eq.symm (by clear h hi; simp_all [Df.same])]; exact h.to 0 _)
     ·have d56 : p.defs[k].name = q.defs[k].name := cd_ c56
      refine au [0,0,0,7,4,2,0,0] h ?_; intro a w h
      have hj61 : k < p.defs.length := by first | assumption | omega | (simp; done) | (simp; omega)
      obtain ⟨g61, o61, A61_0, c61_0, e61, hv61, hc61⟩ := FS.get hp2 hj61
      obtain ⟨_, _, q61, hk61_0⟩ := hv61; cases q61
      refine iaE sli48 sz86 rfl hj61 e61 h fun a w h => ?_
      refine fa fl86_1 (r := o61 + k * 5 + 1) h fun a w h => ?_
      refine ldHND (l := [_, _, _, _]) tN35 rfl (sbL 1 4 hc61) h fun a w h => ?_
      refine au [0,7,4,3,0,0] h ?_; intro a w h
      have hj67 : k < q.defs.length := by first | assumption | omega | (simp; done) | (simp; omega)
      obtain ⟨g67, o67, A67_0, c67_0, e67, hv67, hc67⟩ := FS.get hq2 hj67
      obtain ⟨_, _, q67, hk67_0⟩ := hv67; cases q67
      refine iaE sli48 sz86 rfl hj67 e67 h fun a w h => ?_
      refine fa fl86_1 (r := o67 + k * 5 + 1) h fun a w h => ?_
      refine ldHND (l := [_, _, _, _]) tN35 rfl (sbL 1 4 hc67) h fun a w h => ?_
      refine clG bod8 (SameR_ok p.defs[k].t q.defs[k].t _ _ E H _ ⟨A61_0, c61_0, rfl, hk61_0⟩ ⟨A67_0, c67_0, rfl, hk67_0⟩ (hz _ (List.getElem_mem d41))) h (fun r70 H70 L70 a w le70 R h => ?_)
      obtain ⟨rfl, rfl, rfl⟩ := R
      refine au [7,1,5,0,0,3] h ?_; intro a w h
      exact (by show S _ _ _ _ _ _ _ _; rw [show (.bool (!decide (p.defs[k].name = q.defs[k].name)) : Value) = .bool false from Eq.symm (by first | ((try rw [c56]) <;> (try simp only [Bool.true_or, Bool.or_true, Bool.false_or, Bool.or_false, Bool.true_and, Bool.and_true, Bool.false_and, Bool.and_false, Bool.not_true, Bool.not_false, cond_true, cond_false]); done) | (exfalso; omega)), show (.bool (!(Df.same p.defs[k] q.defs[k])) : Value) = .bool (!(p.defs[k].t.same q.defs[k].t)) from Eq.symm (by clear h hi; simp_all [Df.same])]; exact h.to 0 _)
    ·rintro a w h
     refine cdB h (fun c72 => ?_) (fun c72 => ?_)
     ·refine au [1,2,0,6,0,3,1,3,1,6,1,4,1,4,1,6,1,4] h ?_; intro a w h
      refine fin1 4 2 h LE.rfl ?_
      exact ⟨⟨_, rfl, fun e => by subst e; rw [Df.same_iff.2 rfl] at c72; simp at c72⟩, rfl, rfl⟩
     ·refine au [1,8,1,7,1,0,0,5,0,0] h ?_; intro a w h
      refine inc ?_ h fun a w h => ?_
      ·omega
      refine au [0,6,0,3] h ?_; intro a w h
      exact ⟨(k + 1), ⟨⟨by omega, fun j h1 h2 h0 => by rcases upto h0 with h0 | rfl; exact hi j h1 h2 h0; simpa using c72⟩, h.to 0 _⟩, by show _ - (k + 1) < _ - k; omega⟩
   ·have d41 : p.defs.length ≤ k := cd_ c41
    refine au [2,5,2,2,2,2,2,3,1,0,1,2,0,6,0,3,1,3] h ?_; intro a w h
    refine fin1 4 2 h LE.rfl ?_
    exact ⟨⟨_, rfl, fun _ => rfl⟩, rfl, rfl⟩
end Go.Proofs.YtdabamobjciidaaGreatDoor
