/- ScopeApart: for all arguments of bulk at most 1048576 the law answers true, and they read as before. -/
import Derived.Test.YtindlieilabgfaaGreatDoorZp5
import Derived.Test.YtindlieilabgfaaGreatDoorCards
import Derived.Test.YtindlieilabgfaaGreatDoorTie
import Derived.WalkKit
import Derived.ProofKit
import Derived.OpenShut
import Derived.Deep.DeepHandedRow
/- Walk: the law ScopeApart. -/
set_option linter.unusedVariables false
set_option linter.unusedSimpArgs false
set_option linter.unusedSectionVars false
set_option autoImplicit false
set_option relaxedAutoImplicit false
set_option maxRecDepth 10000
set_option maxHeartbeats 2000000
namespace Go.Proofs.YtindlieilabgfaaGreatDoor
open Go X
theorem binders_ok : ∀ (t : Tm) (v : Value) (E : World) (H : GH) (L : List It), VT H v t → t.size < 1000000000000 →
    Ok Tryz.prog 22 #[v] E H L fun r H' L' => (∃ A c, r = .slice A t.bs.length c ∧ SS H' A c t.bs) ∧ L = L' := by
  intro t
  induction t using Tm.ind with
  | h kd nm nn ks ih =>
  intro v E H L hv hb
  obtain ⟨At0, ct0, rfl, ht0⟩ := hv
  dsimp only [Tm.kind, Tm.name, Tm.n, Tm.kids] at ht0 ⊢
  simp only [Tm.size] at hb
  have hlen := length_le_sizeL ks
  refine enter (N := 28) [(0, _)] Tryz.func22 rfl rfl rfl rfl fun a w h => ?_
  refine sqr ?_
  refine bxA h fun g1 a w h => ?_
  refine as_ h fun a w h => ?_
  refine nsr ?_
  refine as_ h fun a w h => ?_
  refine nlt ?_
  refine sq ?_
  refine sq ?_
  have h := h.row (e := 9) (sz := 1)
  refine rg0 ?_
  refine ldW 1 tN24 h fun a w h => ?_
  refine cl bod38 (Binder_ok _ _ _ _ _ _ _) h (fun r6 H6 L6 a w le6 R h => ?_)
  obtain ⟨rfl, rfl, rfl⟩ := R
  refine nlt ?_
  refine cdB h (fun c6 => ?_) (fun c6 => ?_)
  ·refine rg0 ?_
   refine mv h fun a w h => ?_
   refine fa fl24_1 (r := 1) h fun a w h => ?_
   refine ld 1 t1_9 h fun a w h => ?_
   refine bsl bs58 h fun g10 a w h => ?_
   refine apn (n := (([] : List Bs).length)) (m := 1) 1 0 (L' := fun i => _ :: i :: _) [_] ((([] : List Bs) ++ [nm]).length) (by first | (simp; done) | (simp; omega)) row58 h (by first | omega | (simp; done) | (simp; omega) | (have q := bs_bound (kd := kd) (nm := nm) d16; omega)) (by first | omega | (simp; done) | (simp; omega) | (have q := bs_bound (kd := kd) (nm := nm) d16; omega)) fun v11 a w hone11 h => ?_
   obtain ⟨B11, cp11, rfl⟩ := h.rowv 1
   have hr11 : RowR RStr 1 H ([] ++ [str nm]) (([] : List Bs) ++ [nm]) := (RowR.nil : RowR RStr 1 H [] ([] : List Bs)).snoc rfl rfl
   refine as_ h fun a w h => ?_
   refine nlt ?_
   refine sq ?_
   refine sqr ?_
   refine as_ h fun a w h => ?_
   refine nlt ?_
   refine blk ?_
   have h := h.del 0
   obtain ⟨Hg1, leHg1, h, hfg1⟩ := h.frz 1
   have h2 : S E Hg1 28 [] [(1, .pointer (some ⟨g1, 0, none⟩)), (2, .slice none 0 0), (3, .slice B11 (((if bnd kd then [nm] else []) ++ bsL (ks.take 0)).length) cp11), (4, .int .i64 (0 : Int))] (.row (.slice B11 (((if bnd kd then [nm] else []) ++ bsL (ks.take 0)).length) cp11) 9 1 (((if bnd kd then [nm] else []) ++ bsL (ks.take 0)).length) ([] ++ [str nm]) :: L) a w := by rw [show (((if bnd kd then [nm] else []) ++ bsL (ks.take 0)).length) = (([] : List Bs) ++ [nm]).length from Eq.symm (by (try have c6 : bnd kd = true := c6); (try have c6 : bnd kd = false := c6); rw [c6]; rfl)]; exact h.to 0 _
   refine lp (β := Nat × GH × (Option Addr) × Nat × (List Value)) (fun x a w => match x with | (k, HL0, Br3, pr3, xr3) => ((k ≤ ks.length) ∧ (LE Hg1 HL0) ∧ (RowR RStr 1 HL0 xr3 ((if bnd kd then [nm] else []) ++ bsL (ks.take k)))) ∧ S E HL0 28 [] [(1, .pointer (some ⟨g1, 0, none⟩)), (2, .slice none 0 0), (3, .slice Br3 (((if bnd kd then [nm] else []) ++ bsL (ks.take k)).length) pr3), (4, .int .i64 (k : Int))] (.row (.slice Br3 (((if bnd kd then [nm] else []) ++ bsL (ks.take k)).length) pr3) 9 1 (((if bnd kd then [nm] else []) ++ bsL (ks.take k)).length) xr3 :: L) a w)
    (fun x => match x with | (k, HL0, Br3, pr3, xr3) => ks.length - k) (0, Hg1, B11, cp11, ([] ++ [str nm])) ⟨⟨Nat.zero_le _, LE.rfl, (by have q := (hr11.mono fun cs y _ hr => hr); rwa [show (([] : List Bs) ++ [nm]) = ((if bnd kd then [nm] else []) ++ bsL (ks.take 0)) from by (try have c6 : bnd kd = true := c6); (try have c6 : bnd kd = false := c6); rw [c6]; rfl] at q)⟩, h2⟩ ?_
   rintro ⟨k, HL0, Br3, pr3, xr3⟩ a w ⟨⟨hk, leHL0, hrr3⟩, h⟩
   refine sq ?_
   refine sqr ?_
   refine mv h fun a w h => ?_
   refine fa fl24_3 (r := 3) h fun a w h => ?_
   refine ldH t1_22 (Hc.of (leHL0 _ _ hfg1) rfl) h fun a w h => ?_
   refine ln sli22 h fun a w h => ?_
   refine lt h fun a w h => ?_
   refine nlt ?_
   refine cdB h (fun c16 => ?_) (fun c16 => ?_)
   ·have d16 : k < ks.length := by first | (simpa using c16) | (simp at c16; omega)
    refine skt ?_
    refine sq ?_
    refine blk ?_
    refine rg0 ?_
    refine mv h fun a w h => ?_
    refine fa fl24_3 (r := 3) h fun a w h => ?_
    refine ldH t1_22 (Hc.of (leHL0 _ _ hfg1) rfl) h fun a w h => ?_
    refine mv h fun a w h => ?_
    have l_H_HL0 : LE H HL0 := leHg1.trans leHL0
    have hj23 : k < ks.length := by first | assumption | omega | (simp; done) | (simp; omega)
    obtain ⟨g23, o23, A23_0, c23_0, e23, hv23, hc23⟩ := KS.get (KS.up ht0 l_H_HL0) hj23
    obtain ⟨_, _, q23, hk23_0⟩ := hv23; cases q23
    refine iaE sli22 sz24 rfl hj23 e23 h fun a w h => ?_
    refine ldHN tN24 rfl hc23 h fun a w h => ?_
    have hz := size_get_le d16
    refine cl bod22 (ih _ (List.getElem_mem d16) _ E HL0 _ ⟨A23_0, c23_0, rfl, hk23_0⟩ (by first | assumption | omega)) h (fun r25 H25 L25 a w le25 R h => ?_)
    obtain ⟨⟨A25, c25, rfl, hk25⟩, rfl⟩ := R
    refine apsn (n := (((if bnd kd then [nm] else []) ++ bsL (ks.take k)).length)) (L' := fun i => i :: _) 0 ((((if bnd kd then [nm] else []) ++ bsL (ks.take k)) ++ ks[k].bs).length) (by first | (simp; done) | (simp; omega)) row58 hk25 rstr_one h (by first | omega | (simp; done) | (simp; omega) | (have q := bs_bound (kd := kd) (nm := nm) d16; omega)) (by first | omega | (simp; done) | (simp; omega) | (have q := bs_bound (kd := kd) (nm := nm) d16; omega)) fun v26 nw26 a w hone26 hnw26 h => ?_
    obtain ⟨B26, cp26, rfl⟩ := h.rowv 0
    have hr26 : RowR RStr 1 H25 (xr3 ++ nw26) (((if bnd kd then [nm] else []) ++ bsL (ks.take k)) ++ ks[k].bs) := (hrr3.mono fun cs y _ hr => hr).app hnw26
    refine as_ h fun a w h => ?_
    refine nl0 ?_
    refine ibN ?_
    refine thN ?_
    refine rg0 ?_
    refine mv h fun a w h => ?_
    refine inc ?_ h fun a w h => ?_
    ·omega
    refine as_ h fun a w h => ?_
    refine nlt ?_
    have h2 : S E H25 28 [] [(1, .pointer (some ⟨g1, 0, none⟩)), (2, .slice none 0 0), (3, .slice B26 (((if bnd kd then [nm] else []) ++ bsL (ks.take (k + 1))).length) cp26), (4, .int .i64 ((k + 1) : Int))] (.row (.slice B26 (((if bnd kd then [nm] else []) ++ bsL (ks.take (k + 1))).length) cp26) 9 1 (((if bnd kd then [nm] else []) ++ bsL (ks.take (k + 1))).length) (xr3 ++ nw26) :: L) a w := by rw [show (((if bnd kd then [nm] else []) ++ bsL (ks.take (k + 1))).length) = (((if bnd kd then [nm] else []) ++ bsL (ks.take k)) ++ ks[k].bs).length from Eq.symm (by rw [take_bs d16, ← List.append_assoc])]; exact h.to 0 _
    have l_Hg1_H25 : LE Hg1 H25 := leHL0.trans le25
    exact ⟨((k + 1), H25, B26, cp26, (xr3 ++ nw26)), ⟨⟨by omega, l_Hg1_H25, (by have q := hr26; rwa [show (((if bnd kd then [nm] else []) ++ bsL (ks.take k)) ++ ks[k].bs) = ((if bnd kd then [nm] else []) ++ bsL (ks.take (k + 1))) from by rw [take_bs d16, List.append_assoc]] at q)⟩, h2⟩, by show _ - (k + 1) < _ - k; omega⟩
   ·have d16 : ks.length ≤ k := by first | (simpa using c16) | (simp at c16; omega)
    refine exit_ ?_
    refine thE ?_
    refine thE ?_
    refine ibH ?_
    refine thN ?_
    refine sqr ?_
    refine mv h fun a w h => ?_
    refine as_ h fun a w h => ?_
    refine nlt ?_
    refine ret_ ?_
    have e9 : ((if bnd kd then [nm] else []) ++ bsL (ks.take k)) = (Tm.mk kd nm nn ks).bs := by rw [show k = ks.length by omega, List.take_length]; rfl
    obtain ⟨Hrr3, leHrr3, h, hsHrr3⟩ := h.frw 0 hrr3 rfl (fun _ l cs y _ hr => hr)
    have l_H_Hrr3 : LE H Hrr3 := (leHg1.trans leHL0).trans leHrr3
    refine fin1 2 0 h l_H_Hrr3 ?_
    exact ⟨by rw [e9] at hsHrr3 ⊢; exact ⟨_, _, rfl, hsHrr3⟩, rfl⟩
  ·refine skt ?_
   refine sq ?_
   refine sqr ?_
   refine as_ h fun a w h => ?_
   refine nlt ?_
   refine blk ?_
   obtain ⟨Hg1, leHg1, h, hfg1⟩ := h.frz 1
   have h2 : S E Hg1 28 [] [(1, .pointer (some ⟨g1, 0, none⟩)), (2, .slice none 0 0), (3, .slice none (((if bnd kd then [nm] else []) ++ bsL (ks.take 0)).length) 0), (4, .int .i64 (0 : Int))] (.row (.slice none (((if bnd kd then [nm] else []) ++ bsL (ks.take 0)).length) 0) 9 1 (((if bnd kd then [nm] else []) ++ bsL (ks.take 0)).length) [] :: L) a w := by rw [show (((if bnd kd then [nm] else []) ++ bsL (ks.take 0)).length) = ([] : List Bs).length from Eq.symm (by (try have c6 : bnd kd = true := c6); (try have c6 : bnd kd = false := c6); rw [c6]; rfl)]; exact h.to 0 _
   refine lp (β := Nat × GH × (Option Addr) × Nat × (List Value)) (fun x a w => match x with | (k, HL0, Br3, pr3, xr3) => ((k ≤ ks.length) ∧ (LE Hg1 HL0) ∧ (RowR RStr 1 HL0 xr3 ((if bnd kd then [nm] else []) ++ bsL (ks.take k)))) ∧ S E HL0 28 [] [(1, .pointer (some ⟨g1, 0, none⟩)), (2, .slice none 0 0), (3, .slice Br3 (((if bnd kd then [nm] else []) ++ bsL (ks.take k)).length) pr3), (4, .int .i64 (k : Int))] (.row (.slice Br3 (((if bnd kd then [nm] else []) ++ bsL (ks.take k)).length) pr3) 9 1 (((if bnd kd then [nm] else []) ++ bsL (ks.take k)).length) xr3 :: L) a w)
    (fun x => match x with | (k, HL0, Br3, pr3, xr3) => ks.length - k) (0, Hg1, none, 0, []) ⟨⟨Nat.zero_le _, LE.rfl, (by have q := ((RowR.nil : RowR RStr 1 H [] ([] : List Bs)).mono fun cs y _ hr => hr); rwa [show ([] : List Bs) = ((if bnd kd then [nm] else []) ++ bsL (ks.take 0)) from by (try have c6 : bnd kd = true := c6); (try have c6 : bnd kd = false := c6); rw [c6]; rfl] at q)⟩, h2⟩ ?_
   rintro ⟨k, HL0, Br3, pr3, xr3⟩ a w ⟨⟨hk, leHL0, hrr3⟩, h⟩
   refine sq ?_
   refine sqr ?_
   refine mv h fun a w h => ?_
   refine fa fl24_3 (r := 3) h fun a w h => ?_
   refine ldH t1_22 (Hc.of (leHL0 _ _ hfg1) rfl) h fun a w h => ?_
   refine ln sli22 h fun a w h => ?_
   refine lt h fun a w h => ?_
   refine nlt ?_
   refine cdB h (fun c16 => ?_) (fun c16 => ?_)
   ·have d16 : k < ks.length := by first | (simpa using c16) | (simp at c16; omega)
    refine skt ?_
    refine sq ?_
    refine blk ?_
    refine rg0 ?_
    refine mv h fun a w h => ?_
    refine fa fl24_3 (r := 3) h fun a w h => ?_
    refine ldH t1_22 (Hc.of (leHL0 _ _ hfg1) rfl) h fun a w h => ?_
    refine mv h fun a w h => ?_
    have l_H_HL0 : LE H HL0 := leHg1.trans leHL0
    have hj23 : k < ks.length := by first | assumption | omega | (simp; done) | (simp; omega)
    obtain ⟨g23, o23, A23_0, c23_0, e23, hv23, hc23⟩ := KS.get (KS.up ht0 l_H_HL0) hj23
    obtain ⟨_, _, q23, hk23_0⟩ := hv23; cases q23
    refine iaE sli22 sz24 rfl hj23 e23 h fun a w h => ?_
    refine ldHN tN24 rfl hc23 h fun a w h => ?_
    have hz := size_get_le d16
    refine cl bod22 (ih _ (List.getElem_mem d16) _ E HL0 _ ⟨A23_0, c23_0, rfl, hk23_0⟩ (by first | assumption | omega)) h (fun r25 H25 L25 a w le25 R h => ?_)
    obtain ⟨⟨A25, c25, rfl, hk25⟩, rfl⟩ := R
    refine apsn (n := (((if bnd kd then [nm] else []) ++ bsL (ks.take k)).length)) (L' := fun i => i :: _) 0 ((((if bnd kd then [nm] else []) ++ bsL (ks.take k)) ++ ks[k].bs).length) (by first | (simp; done) | (simp; omega)) row58 hk25 rstr_one h (by first | omega | (simp; done) | (simp; omega) | (have q := bs_bound (kd := kd) (nm := nm) d16; omega)) (by first | omega | (simp; done) | (simp; omega) | (have q := bs_bound (kd := kd) (nm := nm) d16; omega)) fun v26 nw26 a w hone26 hnw26 h => ?_
    obtain ⟨B26, cp26, rfl⟩ := h.rowv 0
    have hr26 : RowR RStr 1 H25 (xr3 ++ nw26) (((if bnd kd then [nm] else []) ++ bsL (ks.take k)) ++ ks[k].bs) := (hrr3.mono fun cs y _ hr => hr).app hnw26
    refine as_ h fun a w h => ?_
    refine nl0 ?_
    refine ibN ?_
    refine thN ?_
    refine rg0 ?_
    refine mv h fun a w h => ?_
    refine inc ?_ h fun a w h => ?_
    ·omega
    refine as_ h fun a w h => ?_
    refine nlt ?_
    have h2 : S E H25 28 [] [(1, .pointer (some ⟨g1, 0, none⟩)), (2, .slice none 0 0), (3, .slice B26 (((if bnd kd then [nm] else []) ++ bsL (ks.take (k + 1))).length) cp26), (4, .int .i64 ((k + 1) : Int))] (.row (.slice B26 (((if bnd kd then [nm] else []) ++ bsL (ks.take (k + 1))).length) cp26) 9 1 (((if bnd kd then [nm] else []) ++ bsL (ks.take (k + 1))).length) (xr3 ++ nw26) :: L) a w := by rw [show (((if bnd kd then [nm] else []) ++ bsL (ks.take (k + 1))).length) = (((if bnd kd then [nm] else []) ++ bsL (ks.take k)) ++ ks[k].bs).length from Eq.symm (by rw [take_bs d16, ← List.append_assoc])]; exact h.to 0 _
    have l_Hg1_H25 : LE Hg1 H25 := leHL0.trans le25
    exact ⟨((k + 1), H25, B26, cp26, (xr3 ++ nw26)), ⟨⟨by omega, l_Hg1_H25, (by have q := hr26; rwa [show (((if bnd kd then [nm] else []) ++ bsL (ks.take k)) ++ ks[k].bs) = ((if bnd kd then [nm] else []) ++ bsL (ks.take (k + 1))) from by rw [take_bs d16, List.append_assoc]] at q)⟩, h2⟩, by show _ - (k + 1) < _ - k; omega⟩
   ·have d16 : ks.length ≤ k := by first | (simpa using c16) | (simp at c16; omega)
    refine exit_ ?_
    refine thE ?_
    refine thE ?_
    refine ibH ?_
    refine thN ?_
    refine sqr ?_
    refine mv h fun a w h => ?_
    refine as_ h fun a w h => ?_
    refine nlt ?_
    refine ret_ ?_
    have e9 : ((if bnd kd then [nm] else []) ++ bsL (ks.take k)) = (Tm.mk kd nm nn ks).bs := by rw [show k = ks.length by omega, List.take_length]; rfl
    obtain ⟨Hrr3, leHrr3, h, hsHrr3⟩ := h.frw 0 hrr3 rfl (fun _ l cs y _ hr => hr)
    have l_H_Hrr3 : LE H Hrr3 := (leHg1.trans leHL0).trans leHrr3
    refine fin1 2 0 h l_H_Hrr3 ?_
    exact ⟨by rw [e9] at hsHrr3 ⊢; exact ⟨_, _, rfl, hsHrr3⟩, rfl⟩
theorem apart_ok (l : List UInt8) (next : Int) (A : Option Addr) (c : Nat) (E : World) (H : GH) (L : List It) (hl : US H A c l) (hb : l.length < 1000000000000) (h0 : 0 ≤ next) (h1 : next < 65536) (hL : Laid H) :
    Ok Tryz.prog 4 #[.slice A l.length c, .int .u16 next] E H L fun r H' L' => r = .bool true ∧ L = L' := by
  have hn : In64 next := by unfold In64; omega
  refine enter (N := 71) [(0, _), (1, _)] Tryz.func4 rfl rfl rfl rfl fun a w h => ?_
  refine sqr ?_
  refine as_ h fun a w h => ?_
  refine nsr ?_
  refine cl bod9 (examples_ok E H _ (hL.up LE.rfl)) h (fun r13 H13 L13 a w le13 R h => ?_)
  obtain ⟨rfl, hl13⟩ := R
  subst L13
  refine as_ h fun a w h => ?_
  refine nlt ?_
  refine sq ?_
  refine sqr ?_
  refine mv h fun a w h => ?_
  refine nt h fun a w h => ?_
  refine nlt ?_
  refine cdF h ?_
  refine skt ?_
  refine sqr ?_
  refine mv h fun a w h => ?_
  refine cl bod21 (made_ok l _ _ E H13 _ (US.up hl le13) hb) h (fun r18 H18 L18 a w le18 R h => ?_)
  obtain ⟨t18, hmk18, ⟨A18, c18, rfl, hk18⟩, rfl⟩ := R
  have hsz18 := mk_size hmk18
  have hnum18 := mk_num hmk18
  have hlg18 := mk_long hmk18
  have hct18 := count_le_size t18
  refine mv h fun a w h => ?_
  refine cv (next) (w64 (by omega) (by omega)) it56 it3 h fun a w h => ?_
  have l_H_H18 : LE H H18 := le13.trans le18
  refine cl bod10 (Rename_ok t18 _ next E H18 _ ⟨A18, c18, rfl, hk18⟩ (hL.up l_H_H18) (by first | assumption | omega) (by first | assumption | omega)) h (fun r21 H21 L21 a w le21 R h => ?_)
  obtain ⟨_, rfl, ⟨A21_0_0, c21_0_0, rfl, hk21_0_0⟩, hl21⟩ := R
  subst L21
  refine mv h fun a w h => ?_
  refine ex h fun a w h => ?_
  refine ex h fun a w h => ?_
  refine al zr24 h fun g6 a w h => ?_
  refine sw0 tN24 h fun a w h => ?_
  refine as_ h fun a w h => ?_
  refine nlt ?_
  refine sq ?_
  have hus : (t18.ren noS next).1.size ≤ 16384 := by rw [ren_size]; exact hsz18
  have hul : (t18.ren noS next).1.long ≤ 21 := ren_long t18 noS next 21 hn (by omega) (by omega) (fun _ _ h => by cases h)
  have hfit : Fit next t18.count := by unfold Fit; omega
  have hbl := bs_len (t18.ren noS next).1
  have hcu := count_le_size (t18.ren noS next).1
  refine rg0 ?_
  refine ldW 0 tN24 h fun a w h => ?_
  refine cl bod22 (binders_ok ((t18.ren noS next).1) _ E H21 _ ⟨A21_0_0, c21_0_0, rfl, hk21_0_0⟩ (by first | assumption | omega)) h (fun r25 H25 L25 a w le25 R h => ?_)
  obtain ⟨⟨A25, c25, rfl, hk25⟩, rfl⟩ := R
  refine as_ h fun a w h => ?_
  refine nsr ?_
  refine ldW 0 tN24 h fun a w h => ?_
  refine cl bod23 (Free_ok ((t18.ren noS next).1) _ E H25 _ ⟨A21_0_0, c21_0_0, rfl, (KS.up hk21_0_0 le25)⟩ (by first | assumption | omega) (by first | assumption | omega)) h (fun r27 H27 L27 a w le27 R h => ?_)
  obtain ⟨A27, c27, ss27, rfl, rfl, rfl, hs27⟩ := R
  obtain ⟨Hf27, leHf27, h, hks27⟩ := h.frw 0 (rstr_row ss27) rfl (fun _ _ _ _ _ hr => hr)
  have hks27 : SS Hf27 A27 c27 ss27 := hks27
  have hfl27 := free_len hs27
  refine as_ h fun a w h => ?_
  refine nlt ?_
  refine sq ?_
  refine sqr ?_
  refine as_ h fun a w h => ?_
  refine nlt ?_
  refine blk ?_
  obtain ⟨Hg6, leHg6, h, hfg6⟩ := h.frz 0
  have h2 : S E Hg6 71 [] [(5, .bool true), (6, .pointer (some ⟨g6, 0, none⟩)), (8, .slice A25 (((t18.ren noS next).1).bs).length c25), (9, .slice A27 ss27.length c27), (10, .int .i64 (0 : Int))] (L) a w := h.to 0 _
  refine lp (β := Nat) (fun k a w => ((k ≤ (t18.ren noS next).1.bs.length)) ∧ S E Hg6 71 [] [(5, .bool true), (6, .pointer (some ⟨g6, 0, none⟩)), (8, .slice A25 (((t18.ren noS next).1).bs).length c25), (9, .slice A27 ss27.length c27), (10, .int .i64 (k : Int))] (L) a w)
   (fun k => (t18.ren noS next).1.bs.length - k) 0 ⟨Nat.zero_le _, h2⟩ ?_
  rintro k a w ⟨hk, h⟩
  refine sq ?_
  refine sqr ?_
  refine mv h fun a w h => ?_
  refine mv h fun a w h => ?_
  refine ln sli58 h fun a w h => ?_
  refine lt h fun a w h => ?_
  refine nlt ?_
  refine cdB h (fun c31 => ?_) (fun c31 => ?_)
  ·have d31 : k < (((t18.ren noS next).1).bs).length := by first | (simpa using c31) | (simp at c31; omega)
   refine skt ?_
   refine sq ?_
   refine blk ?_
   refine sq ?_
   refine sqr ?_
   refine as_ h fun a w h => ?_
   refine nlt ?_
   refine blk ?_
   have h2 : S E Hg6 71 [] [(5, .bool true), (6, .pointer (some ⟨g6, 0, none⟩)), (8, .slice A25 (((t18.ren noS next).1).bs).length c25), (9, .slice A27 ss27.length c27), (10, .int .i64 (k : Int)), (11, .int .i64 (0 : Int)), (28, .int .i64 (k : Int)), (29, .slice A25 (((t18.ren noS next).1).bs).length c25), (30, .int .i64 ((((t18.ren noS next).1).bs).length : Int)), (31, .bool (decide (((k : Int) : Int) < ((((t18.ren noS next).1).bs).length : Int))))] (L) a w := h.to 0 _
   refine lp (β := Nat) (fun k2 a w => ((k2 ≤ k)) ∧ S E Hg6 71 [] [(5, .bool true), (6, .pointer (some ⟨g6, 0, none⟩)), (8, .slice A25 (((t18.ren noS next).1).bs).length c25), (9, .slice A27 ss27.length c27), (10, .int .i64 (k : Int)), (11, .int .i64 (k2 : Int)), (28, .int .i64 (k : Int)), (29, .slice A25 (((t18.ren noS next).1).bs).length c25), (30, .int .i64 ((((t18.ren noS next).1).bs).length : Int)), (31, .bool (decide (((k : Int) : Int) < ((((t18.ren noS next).1).bs).length : Int))))] (L) a w)
    (fun k2 => k - k2) 0 ⟨Nat.zero_le _, h2⟩ ?_
   rintro k2 a w ⟨hk, h⟩
   refine sq ?_
   refine sqr ?_
   refine mv h fun a w h => ?_
   refine mv h fun a w h => ?_
   refine lt h fun a w h => ?_
   refine nlt ?_
   refine cdB h (fun c36 => ?_) (fun c36 => ?_)
   ·have d36 : k2 < k := by first | (simpa using c36) | (simp at c36; omega)
    refine skt ?_
    refine sq ?_
    refine blk ?_
    refine sq ?_
    refine rgd [] [] [] [3, 7] 1 mix (by kernel_rfl) h (fun a w h => ?_)
    refine mv h fun a w h => ?_
    refine mv h fun a w h => ?_
    have l_H25_Hg6 : LE H25 Hg6 := leHf27.trans leHg6
    have hj41 : k < (((t18.ren noS next).1).bs).length := by first | assumption | omega | (simp; done) | (simp; omega)
    obtain ⟨g41, o41, e41, hc41⟩ := SS.get (SS.up hk25 l_H25_Hg6) hj41
    refine iaE sli58 sz9 rfl hj41 e41 h fun a w h => ?_
    refine ldHD t1_9 (hc41) h fun a w h => ?_
    refine mv h fun a w h => ?_
    refine mv h fun a w h => ?_
    have hj45 : k2 < (((t18.ren noS next).1).bs).length := by first | assumption | omega | (simp; done) | (simp; omega)
    obtain ⟨g45, o45, e45, hc45⟩ := SS.get (SS.up hk25 l_H25_Hg6) hj45
    refine iaE sli58 sz9 rfl hj45 e45 h fun a w h => ?_
    refine ldHD t1_9 (hc45) h fun a w h => ?_
    refine eqb h fun a w h => ?_
    refine nlt ?_
    refine cdB h (fun c47 => ?_) (fun c47 => ?_)
    ·have d47 : (((t18.ren noS next).1).bs)[k] = (((t18.ren noS next).1).bs)[k2] := by first | (simpa using c47) | (simp at c47; omega)
     exact absurd d47 (bs_apart hfit hj41 hj45 (by omega))
    ·have d47 : (((t18.ren noS next).1).bs)[k] ≠ (((t18.ren noS next).1).bs)[k2] := by first | (simpa using c47) | (simp at c47; omega)
     refine sk_ ?_
     refine ibN ?_
     refine thN ?_
     refine rg0 ?_
     refine mv h fun a w h => ?_
     refine inc ?_ h fun a w h => ?_
     ·omega
     refine as_ h fun a w h => ?_
     refine nlt ?_
     have h2 : S E Hg6 71 [] [(5, .bool true), (6, .pointer (some ⟨g6, 0, none⟩)), (8, .slice A25 (((t18.ren noS next).1).bs).length c25), (9, .slice A27 ss27.length c27), (10, .int .i64 (k : Int)), (11, .int .i64 ((k2 + 1) : Int)), (28, .int .i64 (k : Int)), (29, .slice A25 (((t18.ren noS next).1).bs).length c25), (30, .int .i64 ((((t18.ren noS next).1).bs).length : Int)), (31, .bool (decide (((k : Int) : Int) < ((((t18.ren noS next).1).bs).length : Int))))] (L) a w := h.to 0 _
     exact ⟨(k2 + 1), ⟨by omega, h2⟩, by show _ - (k2 + 1) < _ - k2; omega⟩
   ·have d36 : k ≤ k2 := by first | (simpa using c36) | (simp at c36; omega)
    refine exit_ ?_
    refine thE ?_
    refine thE ?_
    refine ibH ?_
    refine thN ?_
    refine sqr ?_
    refine as_ h fun a w h => ?_
    refine nlt ?_
    refine blk ?_
    have h2 : S E Hg6 71 [] [(5, .bool true), (6, .pointer (some ⟨g6, 0, none⟩)), (8, .slice A25 (((t18.ren noS next).1).bs).length c25), (9, .slice A27 ss27.length c27), (10, .int .i64 (k : Int)), (11, .int .i64 (k2 : Int)), (12, .int .i64 (0 : Int)), (28, .int .i64 (k : Int)), (29, .slice A25 (((t18.ren noS next).1).bs).length c25), (30, .int .i64 ((((t18.ren noS next).1).bs).length : Int)), (31, .bool (decide (((k : Int) : Int) < ((((t18.ren noS next).1).bs).length : Int)))), (34, .int .i64 (k2 : Int)), (35, .int .i64 (k : Int)), (36, .bool (decide (((k2 : Int) : Int) < (k : Int))))] (L) a w := h.to 0 _
    refine lp (β := Nat) (fun k4 a w => ((k4 ≤ ss27.length)) ∧ S E Hg6 71 [] [(5, .bool true), (6, .pointer (some ⟨g6, 0, none⟩)), (8, .slice A25 (((t18.ren noS next).1).bs).length c25), (9, .slice A27 ss27.length c27), (10, .int .i64 (k : Int)), (11, .int .i64 (k2 : Int)), (12, .int .i64 (k4 : Int)), (28, .int .i64 (k : Int)), (29, .slice A25 (((t18.ren noS next).1).bs).length c25), (30, .int .i64 ((((t18.ren noS next).1).bs).length : Int)), (31, .bool (decide (((k : Int) : Int) < ((((t18.ren noS next).1).bs).length : Int)))), (34, .int .i64 (k2 : Int)), (35, .int .i64 (k : Int)), (36, .bool (decide (((k2 : Int) : Int) < (k : Int))))] (L) a w)
     (fun k4 => ss27.length - k4) 0 ⟨Nat.zero_le _, h2⟩ ?_
    rintro k4 a w ⟨hk, h⟩
    refine sq ?_
    refine sqr ?_
    refine mv h fun a w h => ?_
    refine mv h fun a w h => ?_
    refine ln sli58 h fun a w h => ?_
    refine lt h fun a w h => ?_
    refine nlt ?_
    refine cdB h (fun c51 => ?_) (fun c51 => ?_)
    ·have d51 : k4 < ss27.length := by first | (simpa using c51) | (simp at c51; omega)
     refine skt ?_
     refine sq ?_
     refine blk ?_
     refine sq ?_
     refine rgd [] [] [] [3, 7] 1 mix (by kernel_rfl) h (fun a w h => ?_)
     refine mv h fun a w h => ?_
     refine mv h fun a w h => ?_
     have hj56 : k4 < ss27.length := by first | assumption | omega | (simp; done) | (simp; omega)
     obtain ⟨g56, o56, e56, hc56⟩ := SS.get (SS.up hks27 leHg6) hj56
     refine iaE sli58 sz9 rfl hj56 e56 h fun a w h => ?_
     refine ldHD t1_9 (hc56) h fun a w h => ?_
     refine mv h fun a w h => ?_
     refine mv h fun a w h => ?_
     have l_H25_Hg6 : LE H25 Hg6 := leHf27.trans leHg6
     have hj60 : k < (((t18.ren noS next).1).bs).length := by first | assumption | omega | (simp; done) | (simp; omega)
     obtain ⟨g60, o60, e60, hc60⟩ := SS.get (SS.up hk25 l_H25_Hg6) hj60
     refine iaE sli58 sz9 rfl hj60 e60 h fun a w h => ?_
     refine ldHD t1_9 (hc60) h fun a w h => ?_
     refine eqb h fun a w h => ?_
     refine nlt ?_
     refine cdB h (fun c62 => ?_) (fun c62 => ?_)
     ·have d62 : ss27[k4] = (((t18.ren noS next).1).bs)[k] := by first | (simpa using c62) | (simp at c62; omega)
      exact absurd d62 (bs_new hfit hnum18 hs27 hj56 hj60)
     ·have d62 : ss27[k4] ≠ (((t18.ren noS next).1).bs)[k] := by first | (simpa using c62) | (simp at c62; omega)
      refine sk_ ?_
      refine ibN ?_
      refine thN ?_
      refine rg0 ?_
      refine mv h fun a w h => ?_
      refine inc ?_ h fun a w h => ?_
      ·omega
      refine as_ h fun a w h => ?_
      refine nlt ?_
      have h2 : S E Hg6 71 [] [(5, .bool true), (6, .pointer (some ⟨g6, 0, none⟩)), (8, .slice A25 (((t18.ren noS next).1).bs).length c25), (9, .slice A27 ss27.length c27), (10, .int .i64 (k : Int)), (11, .int .i64 (k2 : Int)), (12, .int .i64 ((k4 + 1) : Int)), (28, .int .i64 (k : Int)), (29, .slice A25 (((t18.ren noS next).1).bs).length c25), (30, .int .i64 ((((t18.ren noS next).1).bs).length : Int)), (31, .bool (decide (((k : Int) : Int) < ((((t18.ren noS next).1).bs).length : Int)))), (34, .int .i64 (k2 : Int)), (35, .int .i64 (k : Int)), (36, .bool (decide (((k2 : Int) : Int) < (k : Int))))] (L) a w := h.to 0 _
      exact ⟨(k4 + 1), ⟨by omega, h2⟩, by show _ - (k4 + 1) < _ - k4; omega⟩
    ·have d51 : ss27.length ≤ k4 := by first | (simpa using c51) | (simp at c51; omega)
     refine exit_ ?_
     refine thE ?_
     refine thE ?_
     refine ibH ?_
     refine ibN ?_
     refine thN ?_
     refine rg0 ?_
     refine mv h fun a w h => ?_
     refine inc ?_ h fun a w h => ?_
     ·omega
     refine as_ h fun a w h => ?_
     refine nlt ?_
     have h2 : S E Hg6 71 [] [(5, .bool true), (6, .pointer (some ⟨g6, 0, none⟩)), (8, .slice A25 (((t18.ren noS next).1).bs).length c25), (9, .slice A27 ss27.length c27), (10, .int .i64 ((k + 1) : Int))] (L) a w := h.to 0 _
     exact ⟨(k + 1), ⟨by omega, h2⟩, by show _ - (k + 1) < _ - k; omega⟩
  ·have d31 : (((t18.ren noS next).1).bs).length ≤ k := by first | (simpa using c31) | (simp at c31; omega)
   refine exit_ ?_
   refine thE ?_
   refine thE ?_
   refine ibH ?_
   refine thN ?_
   refine sqc (fun a w => S E Hg6 71 [] [(5, .bool true), (6, .pointer (some ⟨g6, 0, none⟩)), (8, .slice A25 (((t18.ren noS next).1).bs).length c25), (9, .slice A27 ss27.length c27), (10, .int .i64 (k : Int)), (28, .int .i64 (k : Int)), (29, .slice A25 (((t18.ren noS next).1).bs).length c25), (30, .int .i64 ((((t18.ren noS next).1).bs).length : Int)), (31, .bool (decide (((k : Int) : Int) < ((((t18.ren noS next).1).bs).length : Int)))), (4, .bool ((((((t18.ren noS next).1).bs).length : Int) : Int) == (((t18.ren noS next).1).count : Int)))] (L) a w) ?_ ?_
   ·refine rg0 ?_
    refine mv h fun a w h => ?_
    refine mv h fun a w h => ?_
    refine mv h fun a w h => ?_
    refine ln sli58 h fun a w h => ?_
    refine ldHN tN24 rfl (Hc.all (LE.rfl _ _ hfg6)) h fun a w h => ?_
    have l_H21_Hg6 : LE H21 Hg6 := (le25.trans leHf27).trans leHg6
    refine cl bod14 (Count_ok ((t18.ren noS next).1) _ E Hg6 _ ⟨A21_0_0, c21_0_0, rfl, (KS.up hk21_0_0 l_H21_Hg6)⟩ (by first | assumption | omega)) h (fun r68 H68 L68 a w le68 R h => ?_)
    obtain ⟨rfl, rfl, rfl⟩ := R
    refine eqi h fun a w h => ?_
    refine pkT h fun a w h => ?_
    refine as_ h fun a w h => ?_
    refine nlt ?_
    have h2 : S E Hg6 71 [] [(5, .bool true), (6, .pointer (some ⟨g6, 0, none⟩)), (8, .slice A25 (((t18.ren noS next).1).bs).length c25), (9, .slice A27 ss27.length c27), (10, .int .i64 (k : Int)), (28, .int .i64 (k : Int)), (29, .slice A25 (((t18.ren noS next).1).bs).length c25), (30, .int .i64 ((((t18.ren noS next).1).bs).length : Int)), (31, .bool (decide (((k : Int) : Int) < ((((t18.ren noS next).1).bs).length : Int)))), (4, .bool ((((((t18.ren noS next).1).bs).length : Int) : Int) == (((t18.ren noS next).1).count : Int)))] (L) a w := h.to 0 _
    exact h2
   ·rintro a w h
    refine ret_ ?_
    have l_H_Hg6 : LE H Hg6 := ((((le13.trans le18).trans le21).trans le25).trans leHf27).trans leHg6
    refine fin1 4 0 h l_H_Hg6 ?_
    exact ⟨congrArg Value.bool (by rw [hbl]; simp), rfl⟩
end Go.Proofs.YtindlieilabgfaaGreatDoor
/- ScopeApart: for all arguments of bulk at most 1048576 the law answers true, and they read as before. -/
set_option linter.unusedVariables false
set_option linter.unusedSectionVars false
set_option linter.unusedSimpArgs false
set_option autoImplicit false
set_option relaxedAutoImplicit false
set_option maxRecDepth 100000
namespace Go.Proofs.YtindlieilabgfaaGreatDoor.apart
open Go X Go.ChangeShapes Go.WideShapes Go.ChangeAt Go.RowKit
theorem own : ownKnob Tryz.prog.godebug = none := by kernel_rfl
theorem contract (H : Type) (enc : TypeId × Value → H) (W : World) (base : Nat) (args : Array Value) (ds gs : List (DataW H)) (before : List MemPlace)
    (hval : ∀ (j : Nat) t v, Tryz.f4.params[j]? = some t → args[j]? = some v → Value.okWide Tryz.prog W .any base t v)
    (hW : DataW.Whole enc Tryz.prog Tryz.f4.params.toList Rows.scopeApartSpec.vars false W args.toList ds gs before) (hk : Rows.uptoSmall H (ds ++ gs) = true) (hL : laidMetH Tryz.prog Rows.scopeApartUptoRow.laid W) :
    Calls Tryz.prog 4 args W fun e W' => ∃ v, e = .returned v ∧ Rows.scopeApartSpec.post enc Tryz.prog Tryz.f4 false true false false W args v W' := by
  have hW' := hW
  obtain ⟨p, q, hA, hV, rfl, hfz, hnd⟩ := hW
  rw [show Tryz.f4.params = #[29, 56] from rfl] at hA hval
  obtain ⟨v0, vs0, d0, ds0, p0, q0, ha0, rfl, rfl, h0, r0⟩ := trodAll_cons hA
  obtain ⟨v1, vs1, d1, ds1, p1, q1, ha1, rfl, rfl, h1, r1⟩ := trodAll_cons r0
  obtain ⟨rfl, rfl, rfl⟩ := trodAll_nil r1
  obtain rfl : args = #[v0, v1] := by cases args; simp_all
  have hgs : gs = [] := by
    cases gs with
    | nil => rfl
    | cons g gs => exact (show False from hV).elim
  subst hgs
  have hbulk : Rows.uptoBulkAll [d0, d1] ≤ 1048576 := by simpa [Rows.uptoSmall] using hk
  simp only [Rows.uptoBulkAll] at hbulk
  obtain ⟨fuel0, htr0⟩ := h0
  obtain ⟨fuel1, htr1⟩ := h1
  obtain ⟨A0, c0, l0, rfl, hl0, hb0⟩ := open_u8s (e := 5) Tryz.underlying29 Tryz.underlying5 (by kernel_rfl) (cells_slice Tryz.underlying29 (hval 0 29 v0 rfl rfl)) htr0 (by show Rows.uptoBulk d0 ≤ _; omega)
  obtain ⟨n1, rfl, lo1, hi1⟩ := open_int Tryz.underlying56 (cells_int Tryz.underlying56 (hval 1 56 v1 rfl rfl)) htr1
  simp [IntKind.min, IntKind.max, IntKind.signed, IntKind.bits] at lo1 hi1
  have hlaid : Laid (HW W) := by
    obtain ⟨ps, hv, _⟩ := (hL : laidMet Tryz.prog Rows.scopeApartUptoRow.laid W)
    exact laid_of hv (by simp [Rows.scopeApartUptoRow]) (by simp [Rows.scopeApartUptoRow]) (by simp [Rows.scopeApartUptoRow]) (by simp [Rows.scopeApartUptoRow])
  refine (apart_ok l0 n1 A0 c0 W (HW W) [] hl0 hb0 (by omega) (by omega) hlaid W (st_world W)).mono fun e W' ⟨r, H', L', he, hle, hst, hr, hl⟩ => ?_
  subst hr
  refine ⟨_, he, post_true (by simpa using hW') rfl rfl rfl rfl (below_of hle hst) (by kernel_rfl) (fun t ht => ?_) rfl Tryz.underlying4⟩
  rw [show Tryz.f4.params = #[29, 56] from rfl] at ht
  have ht' : t = 29 ∨ t = 56 := by simpa using ht
  rcases ht' with rfl | rfl <;> exact ⟨by kernel_rfl, of_decide_eq_true (by kernel_rfl)⟩
/-- A WORLD FOR THE WITNESS: the settled one, the tables laid. -/
def valOf : DataW Unit → Value
  | .lit (.int k n) => .int k n
  | .lit (.string s) => str s
  | _ => .bool false
def cellsOf : DataW Unit → Array Value
  | .agg ds => (ds.map valOf).toArray
  | _ => #[]
def lay (i : Nat) (o : Obj) : Obj := match i, o with
  | 0, .cells _ t z => .cells (cellsOf Rows.laid_chancel_term_kids) t z
  | 1, .cells _ t z => .cells (cellsOf Rows.laid_chancel_term_ops) t z
  | 2, .cells _ t z => .cells (cellsOf Rows.laid_internal_strconv_uint64pow10) t z
  | 3, .cells _ t z => .cells (cellsOf Rows.laid_chancel_lex_keys) t z
  | 4, .cells _ t z => .cells (cellsOf Rows.laid_math_bits_deBruijn32tab) t z
  | 5, .cells _ t z => .cells (cellsOf Rows.laid_math_bits_deBruijn64tab) t z
  | _, o => o
noncomputable def laidWorld (os : Os) : World :=
  { World.holding Tryz.prog os ⟨#[], #[], []⟩ with heap := (World.holding Tryz.prog os ⟨#[], #[], []⟩).heap.mapIdx lay }
def arg : Array Value := #[.slice none 0 0, .int .u16 0]
theorem laid_met (os : Os) : laidMet Tryz.prog Rows.scopeApartUptoRow.laid ((laidWorld os).forCall (fun _ _ => 0) ⟨#[], arg, []⟩).memory :=
  laidMet_of_run' 8 (by kernel_rfl) (by kernel_rfl)
theorem reads (os : Os) {H : Type} (enc : TypeId × Value → H) : ∃ places, DataW.whole enc Tryz.prog ((laidWorld os).forCall (fun _ _ => 0) ⟨#[], arg, []⟩).memory Tryz.f4.params.toList Rows.scopeApartSpec.vars false arg.toList 8 = some ([.nil, .lit (.int .u16 0)], [], places) :=
  ⟨[], by kernel_rfl⟩
theorem liftedUpto (os : Os) (started : os.Started) (H : Type) (enc : TypeId × Value → H) (F : Stop.Interp) :
    ReturnsInHanded {} Tryz.checked os 4 .any ((Rows.OpenSpec.upto Rows.scopeApartSpec).preRow enc Tryz.prog Tryz.f4 Rows.scopeApartUptoRow.domain false Rows.scopeApartUptoRow.laid) (((Rows.OpenSpec.upto Rows.scopeApartSpec).at F).post enc Tryz.prog Tryz.f4 false true false false) := by
  obtain ⟨places, hx⟩ := reads os enc
  refine returnsInHanded_of_row (C := Tryz.checked) (s := Rows.OpenSpec.upto Rows.scopeApartSpec) own started (by kernel_rfl) Tryz.func4
    (witness_row_at (enc := enc) (C := Tryz.checked) false (laidWorld os) arg rfl (by kernel_rfl) (by kernel_rfl) (by kernel_rfl)
      (OpenSpec.preRow_of_cond 8 hx (by kernel_rfl) (fun k hk => by cases hk; kernel_rfl) (by kernel_rfl) (laid_met os))) ?_
  intro W base args ds gs before hval hW _ hcond _ hL _ _
  exact contract H enc W base args ds gs before hval hW (hcond _ rfl) hL
theorem saidUpto : Rows.ScopeApartUptoSaid :=
  OpenClaim.holds_of_cond 4 Tryz.f4 rfl rfl rfl rfl rfl rfl rfl ⟨rfl, rfl, rfl, rfl, rfl⟩ rfl rfl rfl rfl rfl (by kernel_rfl) Tryz.func4 (by kernel_rfl)
    (of_decide_eq_true (by kernel_rfl)) (by unfold Func.isWrapper; first | (rw [if_pos (by decide +kernel)]; kernel_rfl) | (rw [if_neg (by decide +kernel)]; exact ⟨rfl, rfl⟩))
    (fun os started H enc _ F => by rw [OpenClaim.pre_eq_preRow]; exact liftedUpto os started H enc F)
theorem plain (f : FuncId) (fn : Func) (hf : Tryz.pinned.checked.prog.funcNamed "chancel/chancellaw07.ScopeApart" = some f) (hfn : Tryz.pinned.checked.prog.funcs[f]? = some fn) :
    true = Tryz.pinned.checked.prog.looks [] ∧ ∀ (j : Nat) t, fn.params[j]? = some t → Tryz.pinned.checked.prog.wantsStandIn t = false := by
  obtain rfl : f = 4 := Option.some.inj ((show Tryz.prog.funcNamed "chancel/chancellaw07.ScopeApart" = some 4 by kernel_rfl).symm.trans hf) |>.symm
  obtain rfl : fn = Tryz.f4 := (Option.some.inj (Tryz.func4.symm.trans hfn)).symm
  refine ⟨by kernel_rfl, fun j t ht => ?_⟩
  rw [show Tryz.f4.params = #[29, 56] from rfl] at ht
  have ht' : t = 29 ∨ t = 56 := by simpa using Array.mem_of_getElem? ht
  rcases ht' with rfl | rfl <;> exact (show Tryz.prog.wantsStandIn _ = false by kernel_rfl)
/-- THE SECOND FORM's CARD. -/
theorem cardUpto : Rows.ScopeApartUptoCardSaid :=
  Claim7.holds_tied_plain_at .later [] _ _ _ _ saidUpto (fun _ h => by cases h) (by kernel_rfl) (fun _ h => by cases h) scopeApartUpto_row_tie rfl ⟨rfl, rfl⟩ (by kernel_rfl) rfl plain (by kernel_rfl)
end Go.Proofs.YtindlieilabgfaaGreatDoor.apart
