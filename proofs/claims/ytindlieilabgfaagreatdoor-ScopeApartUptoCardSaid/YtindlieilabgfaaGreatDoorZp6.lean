/- ScopeApart: for all arguments of bulk at most 1048576 the law answers true, and they read as before. -/
import Derived.Test.YtindlieilabgfaaGreatDoorZp5
import Derived.Test.YtindlieilabgfaaGreatDoorCards
import Derived.Test.YtindlieilabgfaaGreatDoorTie
import Derived.WalkKit
import Derived.ProofKit
import Derived.OpenShut
import Derived.Deep.DeepHandedRow
/- Walks: term.Same, slices.EqualFunc. -/
set_option linter.unusedVariables false
set_option linter.unusedSimpArgs false
set_option linter.unusedSectionVars false
set_option autoImplicit false
set_option relaxedAutoImplicit false
set_option maxRecDepth 10000
namespace Go.Proofs.YtindlieilabgfaaGreatDoor
open Go X
theorem take_eq_succ {ks ms : List Tm} {k : Nat} (h : k < ks.length) (h' : k < ms.length) (e : ks.take k = ms.take k) (s : ks[k].same ms[k] = true) : ks.take (k + 1) = ms.take (k + 1) := by
  rw [List.take_succ_eq_append_getElem h, List.take_succ_eq_append_getElem h', e, (same_iff _ _).1 s]
theorem take_eq_all {ks ms : List Tm} {k : Nat} (hl : ks.length = ms.length) (hk : k = ks.length) (e : ks.take k = ms.take k) : sameL ks ms = true := by
  rw [sameL_iff]; subst hk; rw [List.take_length, hl, List.take_length] at e; exact e
theorem sameL_len {ks ms : List Tm} (h : ks.length ≠ ms.length) : sameL ks ms = false := by
  rw [Bool.eq_false_iff, ne_eq, sameL_iff]; rintro rfl; exact h rfl
theorem sameL_at {ks ms : List Tm} {k : Nat} (h : k < ks.length) (h' : k < ms.length) (s : ks[k].same ms[k] = false ∨ ks[k].same ms[k] = false) : sameL ks ms = false := by
  rw [Bool.eq_false_iff, ne_eq, sameL_iff]; rintro rfl
  have := (same_iff ks[k] ks[k]).2 rfl
  rcases s with s | s <;> rw [this] at s <;> cases s
theorem EqualFunc_ok (ks ms : List Tm) (A A' : Option Addr) (c c' : Nat) (E : World) (H : GH) (L : List It) (hks : KS H A c ks) (hms : KS H A' c' ms) (hb : ks.length < 1000000000000)
    (hf : ∀ x ∈ ks, ∀ y ∈ ms, ∀ vx vy, VT H vx x → VT H vy y → ∀ L, Ok Tryz.prog 27 #[vx, vy] E H L fun r H' L' => r = .bool (x.same y) ∧ H = H' ∧ L = L') :
    Ok Tryz.prog 56 #[.slice A ks.length c, .slice A' ms.length c', .func (.func 27) #[] #[]] E H L fun r H' L' => r = .bool (sameL ks ms) ∧ H = H' ∧ L = L' := by
  refine enter (N := 32) [(0, _), (1, _), (2, _)] Tryz.func56 rfl rfl rfl rfl fun a w h => ?_
  refine sq ?_
  refine rg0 ?_
  refine as_ h fun a w h => ?_
  refine nl0 ?_
  refine thN ?_
  refine sq ?_
  refine sq ?_
  refine rg0 ?_
  refine mv h fun a w h => ?_
  refine ln sli22 h fun a w h => ?_
  refine mv h fun a w h => ?_
  refine ln sli22 h fun a w h => ?_
  refine nei h fun a w h => ?_
  refine nl0 ?_
  refine thN ?_
  refine cdB h (fun c14 => ?_) (fun c14 => ?_)
  · have hfact : sameL ks ms = false := sameL_len (by simp at c14; omega)
    refine sq ?_
    refine rg0 ?_
    refine as_ h fun a w h => ?_
    refine nl0 ?_
    refine thN ?_
    refine ret_ ?_
    refine thR ?_
    refine fin1 6 0 h LE.rfl ?_
    exact ⟨by rw [hfact], rfl, rfl⟩
  · have hlen : ks.length = ms.length := by simp at c14; omega
    refine sk_ ?_
    refine thN ?_
    refine sq ?_
    refine sq ?_
    refine rg0 ?_
    refine mv h fun a w h => ?_
    refine ln sli22 h fun a w h => ?_
    refine mv h fun a w h => ?_
    refine nl0 ?_
    refine thN ?_
    refine blk ?_
    refine lp (β := Nat) (fun k a w => (k ≤ ks.length ∧ ks.take k = ms.take k) ∧ S E H 32 [] [(17, .int .i64 (k : Int)), (15, .slice A ks.length c), (16, .int .i64 (ks.length : Int)), (1, .slice A' ms.length c'), (2, .func (.func 27) #[] #[])] (L) a w)
      (fun k => ks.length - k) 0 ⟨⟨Nat.zero_le _, rfl⟩, h.to 0 _⟩ ?_
    rintro k a w ⟨pre, h⟩
    refine sq ?_
    refine rg0 ?_
    refine lt h fun a w h => ?_
    refine nl0 ?_
    refine thN ?_
    refine sq ?_
    refine cdB h (fun c18 => ?_) (fun c18 => ?_)
    · have c18 : k < ks.length := by simpa using c18
      have c18m : k < ms.length := by omega
      obtain ⟨g, off, A2, c2, rfl, hx, hcx⟩ := KS.get hks c18
      obtain ⟨g', off', A3, c3, rfl, hy, hcy⟩ := KS.get hms c18m
      refine sk_ ?_
      refine thN ?_
      refine sq ?_
      refine blk ?_
      refine sq ?_
      refine rg0 ?_
      refine mv h fun a w h => ?_
      refine ia sli22 sz24 rfl c18 h fun a w h => ?_
      refine ldHN tN24 rfl hcx h fun a w h => ?_
      refine al zr24 h fun g8 a w h => ?_
      refine as_ h fun a w h => ?_
      refine sw0 tN24 h fun a w h => ?_
      refine nl0 ?_
      refine thN ?_
      refine sq ?_
      refine rg0 ?_
      refine mv h fun a w h => ?_
      refine mv h fun a w h => ?_
      refine ia sli22 sz24 rfl c18m h fun a w h => ?_
      refine ldHN tN24 rfl hcy h fun a w h => ?_
      refine al zr24 h fun g9 a w h => ?_
      refine sw0 tN24 h fun a w h => ?_
      refine nl0 ?_
      refine thN ?_
      refine sq ?_
      refine rg0 ?_
      refine mv h fun a w h => ?_
      refine ldW 1 tN24 h fun a w h => ?_
      refine ldW 0 tN24 h fun a w h => ?_
      refine cl bod27 (hf _ (List.getElem_mem c18) _ (List.getElem_mem c18m) _ _ hx hy _) h fun r H1 L1 a w le R h => ?_
      obtain ⟨rfl, rfl, rfl⟩ := R
      refine nt h fun a w h => ?_
      refine nl0 ?_
      refine thN ?_
      refine cdB h (fun c30 => ?_) (fun c30 => ?_)
      · have hfact : sameL ks ms = false := sameL_at c18 c18m (by simpa using c30)
        refine sq ?_
        refine rg0 ?_
        refine as_ h fun a w h => ?_
        refine nl0 ?_
        refine thN ?_
        refine ret_ ?_
        refine ibR ?_
        refine thR ?_
        refine thR ?_
        refine ibR ?_
        refine thR ?_
        refine fin1 6 2 h LE.rfl ?_
        exact ⟨by rw [hfact], rfl, rfl⟩
      · have c30 : ks[k].same ms[k] = true := by simpa using c30
        refine sk_ ?_
        refine ibN ?_
        refine thN ?_
        refine rg0 ?_
        refine inc ?_ h fun a w h => ?_
        · omega
        refine mv h fun a w h => ?_
        refine nl0 ?_
        refine thN ?_
        exact ⟨(k + 1), ⟨⟨by omega, take_eq_succ c18 c18m pre.2 c30⟩, h.to 2 _⟩, by show _ - (k + 1) < _ - k; omega⟩
    · have hk : k = ks.length := by simp at c18; omega
      have hfact : sameL ks ms = true := take_eq_all hlen hk pre.2
      refine exit_ ?_
      refine thE ?_
      refine thE ?_
      refine ibH ?_
      refine thN ?_
      refine sq ?_
      refine rg0 ?_
      refine as_ h fun a w h => ?_
      refine nl0 ?_
      refine thN ?_
      refine ret_ ?_
      refine fin1 6 0 h LE.rfl ?_
      exact ⟨by rw [hfact], rfl, rfl⟩

theorem Same_ok : ∀ (t u : Tm) (v v' : Value) (E : World) (H : GH) (L : List It), VT H v t → VT H v' u → t.size < 1000000000000 →
    Ok Tryz.prog 27 #[v, v'] E H L fun r H' L' => r = .bool (t.same u) ∧ H = H' ∧ L = L' := by
  intro t
  induction t using Tm.ind with
  | h kd nm nn ks ih =>
  intro u v v' E H L hv hv' hb
  obtain ⟨kd', nm', nn', ms⟩ := u
  obtain ⟨A, c, rfl, hks⟩ := hv.mk
  obtain ⟨A', c', rfl, hms⟩ := hv'.mk
  simp only [Tm.size] at hb
  have hlen := length_le_sizeL ks
  refine enter (N := 31) [(0, _), (1, _)] Tryz.func27 rfl rfl rfl rfl fun a w h => ?_
  refine sq ?_
  refine rg0 ?_
  refine bxA h fun g2 a w h => ?_
  refine bxA h fun g3 a w h => ?_
  refine as_ h fun a w h => ?_
  refine nl0 ?_
  refine thN ?_
  refine sq ?_
  refine rg0 ?_
  refine fa fl24_0 (r := 0) h fun a w h => ?_
  refine ld 1 t1_3 h fun a w h => ?_
  refine fa fl24_0 (r := 0) h fun a w h => ?_
  refine ld 0 t1_3 h fun a w h => ?_
  refine eqi h fun a w h => ?_
  refine h.spl (fun c9 h => ?_) (fun c9 h => ?_)
  · refine mv h fun a w h => ?_
    refine fa fl24_1 (r := 1) h fun a w h => ?_
    refine ld 1 t1_9 h fun a w h => ?_
    refine fa fl24_1 (r := 1) h fun a w h => ?_
    refine ld 0 t1_9 h fun a w h => ?_
    refine eqb h fun a w h => ?_
    refine pkT h fun a w h => ?_
    refine h.spl (fun c16 h => ?_) (fun c16 h => ?_)
    · refine mv h fun a w h => ?_
      refine fa fl24_2 (r := 2) h fun a w h => ?_
      refine ld 1 t1_2 h fun a w h => ?_
      refine fa fl24_2 (r := 2) h fun a w h => ?_
      refine ld 0 t1_2 h fun a w h => ?_
      refine eqi h fun a w h => ?_
      refine pkT h fun a w h => ?_
      refine h.spl (fun c23 h => ?_) (fun c23 h => ?_)
      · refine mv h fun a w h => ?_
        refine fa fl24_3 (r := 3) h fun a w h => ?_
        refine ld 1 t1_22 h fun a w h => ?_
        refine fa fl24_3 (r := 3) h fun a w h => ?_
        refine ld 0 t1_22 h fun a w h => ?_
        refine cl bod56 (EqualFunc_ok ks ms A A' c c' E H _ hks hms (by omega) (fun x hx y _ vx vy hvx hvy L => ih x hx y vx vy E H L hvx hvy (by have := size_le_sizeL hx; omega))) h fun r H1 L1 a w le R h => ?_
        obtain ⟨rfl, rfl, rfl⟩ := R
        refine pkT h fun a w h => ?_
        refine as_ h fun a w h => ?_
        refine nl0 ?_
        refine thN ?_
        refine ret_ ?_
        refine fin1 4 2 h LE.rfl ?_
        exact ⟨by rw [same_mk, c9, c16, c23]; first | done | rfl, rfl, rfl⟩
      · refine mv h fun a w h => ?_
        refine sk h (k := fun a w h => ?_)
        refine sk h (k := fun a w h => ?_)
        refine sk h (k := fun a w h => ?_)
        refine sk h (k := fun a w h => ?_)
        refine sk h (k := fun a w h => ?_)
        refine pkF h fun a w h => ?_
        refine as_ h fun a w h => ?_
        refine nl0 ?_
        refine thN ?_
        refine ret_ ?_
        refine fin1 4 2 h LE.rfl ?_
        exact ⟨by rw [same_mk, c9, c16, c23]; first | done | rfl, rfl, rfl⟩
    · refine mv h fun a w h => ?_
      refine sk h (k := fun a w h => ?_)
      refine sk h (k := fun a w h => ?_)
      refine sk h (k := fun a w h => ?_)
      refine sk h (k := fun a w h => ?_)
      refine sk h (k := fun a w h => ?_)
      refine pkF h fun a w h => ?_
      refine mv h fun a w h => ?_
      refine sk h (k := fun a w h => ?_)
      refine sk h (k := fun a w h => ?_)
      refine sk h (k := fun a w h => ?_)
      refine sk h (k := fun a w h => ?_)
      refine sk h (k := fun a w h => ?_)
      refine pkF h fun a w h => ?_
      refine as_ h fun a w h => ?_
      refine nl0 ?_
      refine thN ?_
      refine ret_ ?_
      refine fin1 4 2 h LE.rfl ?_
      exact ⟨by rw [same_mk, c9, c16]; first | done | rfl, rfl, rfl⟩
  · refine mv h fun a w h => ?_
    refine sk h (k := fun a w h => ?_)
    refine sk h (k := fun a w h => ?_)
    refine sk h (k := fun a w h => ?_)
    refine sk h (k := fun a w h => ?_)
    refine sk h (k := fun a w h => ?_)
    refine pkF h fun a w h => ?_
    refine mv h fun a w h => ?_
    refine sk h (k := fun a w h => ?_)
    refine sk h (k := fun a w h => ?_)
    refine sk h (k := fun a w h => ?_)
    refine sk h (k := fun a w h => ?_)
    refine sk h (k := fun a w h => ?_)
    refine pkF h fun a w h => ?_
    refine mv h fun a w h => ?_
    refine sk h (k := fun a w h => ?_)
    refine sk h (k := fun a w h => ?_)
    refine sk h (k := fun a w h => ?_)
    refine sk h (k := fun a w h => ?_)
    refine sk h (k := fun a w h => ?_)
    refine pkF h fun a w h => ?_
    refine as_ h fun a w h => ?_
    refine nl0 ?_
    refine thN ?_
    refine ret_ ?_
    refine fin1 4 2 h LE.rfl ?_
    exact ⟨by rw [same_mk, c9]; first | done | rfl, rfl, rfl⟩
end Go.Proofs.YtindlieilabgfaaGreatDoor
/- Walk: the law ScopeKeeps. -/
set_option linter.unusedVariables false
set_option linter.unusedSimpArgs false
set_option linter.unusedSectionVars false
set_option autoImplicit false
set_option relaxedAutoImplicit false
set_option maxRecDepth 10000
set_option maxHeartbeats 2000000
namespace Go.Proofs.YtindlieilabgfaaGreatDoor
open Go X
theorem mk_size {t : Tm} (h : Mk 6 t) : t.size ≤ 16384 := h.1
theorem mk_num {t : Tm} {d : Nat} (h : Mk d t) : ∀ s ∈ t.names, numB s = false := fun s hs => (by decide : ∀ s ∈ mkN, numB s = false) s (h.2.1 s hs)
mutual
theorem long_of {B : Nat} : ∀ t : Tm, (∀ s ∈ t.names, s.length ≤ B) → t.long ≤ B
  | .mk k s n ks, h => by
    have h1 := h s (by simp [Tm.names])
    have h2 := longL_of (B := B) ks (fun r hr => h r (by simp [Tm.names, hr]))
    simp only [Tm.long]; omega
theorem longL_of {B : Nat} : ∀ l : List Tm, (∀ s ∈ namesL l, s.length ≤ B) → longL l ≤ B
  | [], _ => by simp [longL]
  | t :: l, h => by
    have h1 := long_of (B := B) t (fun r hr => h r (by simp [namesL, hr]))
    have h2 := longL_of (B := B) l (fun r hr => h r (by simp [namesL, hr]))
    simp only [longL]; omega
end
theorem mk_long {t : Tm} {d : Nat} (h : Mk d t) : t.long ≤ 2 := long_of t fun s hs => (by decide : ∀ s ∈ mkN, s.length ≤ 2) s (h.2.1 s hs)
theorem u16_lt (b : UInt16) : b.toNat < 65536 := b.toNat_lt

theorem keeps_ok (l : List UInt8) (next : Int) (A : Option Addr) (c : Nat) (E : World) (H : GH) (L : List It) (hl : US H A c l) (hb : l.length < 1000000000000) (h0 : 0 ≤ next) (h1 : next < 65536) (hL : Laid H) :
    Ok Tryz.prog 5 #[.slice A l.length c, .int .u16 next] E H L fun r H' L' => r = .bool true ∧ L = L' := by
  have hn : In64 next := by unfold In64; omega
  refine enter (N := 78) [(0, _), (1, _)] Tryz.func5 rfl rfl rfl rfl fun a w h => ?_
  refine sq ?_
  refine rg0 ?_
  refine as_ h fun a w h => ?_
  refine nl0 ?_
  refine thN ?_
  refine sq ?_
  refine rg0 ?_
  refine cl bod9 (examples_ok E H _ (hL.up LE.rfl)) h (fun r11 H11 L11 a w le11 R h => ?_)
  obtain ⟨rfl, hl11⟩ := R
  subst L11
  refine as_ h fun a w h => ?_
  refine nl0 ?_
  refine thN ?_
  refine sq ?_
  refine sq ?_
  refine rg0 ?_
  refine mv h fun a w h => ?_
  refine nt h fun a w h => ?_
  refine nl0 ?_
  refine thN ?_
  refine cdF h ?_
  refine sk_ ?_
  refine thN ?_
  refine sq ?_
  refine rg0 ?_
  refine mv h fun a w h => ?_
  refine cl bod21 (made_ok l _ _ E H11 _ (US.up hl le11) hb) h (fun r15 H15 L15 a w le15 R h => ?_)
  obtain ⟨t15, hmk15, ⟨A15, c15, rfl, hk15⟩, rfl⟩ := R
  have hsz15 := mk_size hmk15
  have hnum15 := mk_num hmk15
  have hlg15 := mk_long hmk15
  have hct15 := count_le_size t15
  refine al zr24 h fun g6 a w h => ?_
  refine sw0 tN24 h fun a w h => ?_
  refine nl0 ?_
  refine thN ?_
  refine sq ?_
  refine rg0 ?_
  refine ldW 0 tN24 h fun a w h => ?_
  refine mv h fun a w h => ?_
  refine cv (next) (w64 (by omega) (by omega)) it56 it3 h fun a w h => ?_
  have l_H_H15 : LE H H15 := le11.trans le15
  refine cl bod10 (Rename_ok t15 _ next E H15 _ ⟨A15, c15, rfl, hk15⟩ (hL.up l_H_H15) (by first | assumption | omega) (by first | assumption | omega)) h (fun r20 H20 L20 a w le20 R h => ?_)
  obtain ⟨_, rfl, ⟨A20_0_0, c20_0_0, rfl, hk20_0_0⟩, hl20⟩ := R
  subst L20
  refine mv h fun a w h => ?_
  refine ex h fun a w h => ?_
  refine ex h fun a w h => ?_
  refine al zr24 h fun g7 a w h => ?_
  refine sw0 tN24 h fun a w h => ?_
  refine as_ h fun a w h => ?_
  refine nl0 ?_
  refine thN ?_
  refine sq ?_
  have hus : (t15.ren noS next).1.size ≤ 16384 := by rw [ren_size]; exact hsz15
  have hul : (t15.ren noS next).1.long ≤ 21 := ren_long t15 noS next 21 hn (by omega) (by omega) (fun _ _ h => by cases h)
  have hfit : Fit next t15.count := by unfold Fit; omega
  have hag := ren_again hfit hnum15
  replace hag : (t15.ren noS next).1.ren noS next = t15.ren noS next := hag
  have hnm := ren_num t15 noS next hfit
  have hcu := count_le_size (t15.ren noS next).1
  refine rg0 ?_
  refine ldW 0 tN24 h fun a w h => ?_
  refine mv h fun a w h => ?_
  refine cv (next) (w64 (by omega) (by omega)) it56 it3 h fun a w h => ?_
  have l_H_H20 : LE H H20 := (le11.trans le15).trans le20
  refine cl bod10 (Rename_ok ((t15.ren noS next).1) _ next E H20 _ ⟨A20_0_0, c20_0_0, rfl, hk20_0_0⟩ (hL.up l_H_H20) (by first | assumption | omega) (by first | assumption | omega)) h (fun r27 H27 L27 a w le27 R h => ?_)
  obtain ⟨_, rfl, ⟨A27_0_0, c27_0_0, rfl, hk27_0_0⟩, hl27⟩ := R
  subst L27
  refine mv h fun a w h => ?_
  refine ex h fun a w h => ?_
  refine ex h fun a w h => ?_
  refine al zr24 h fun g9 a w h => ?_
  refine sw0 tN24 h fun a w h => ?_
  refine as_ h fun a w h => ?_
  refine nl0 ?_
  refine thN ?_
  refine sqc (fun a w => S E H27 78 [] [(4, .bool (((t15.ren noS next).1).same ((((t15.ren noS next).1).ren noS next).1)))] (.obj g9 (.cells #[.int .i64 (((((t15.ren noS next).1).ren noS next).1).kind), str (((((t15.ren noS next).1).ren noS next).1).name), .int .i64 (((((t15.ren noS next).1).ren noS next).1).n), .slice A27_0_0 (((((t15.ren noS next).1).ren noS next).1).kids).length c27_0_0] 24 (0, 0)) :: .obj g7 (.cells #[.int .i64 (((t15.ren noS next).1).kind), str (((t15.ren noS next).1).name), .int .i64 (((t15.ren noS next).1).n), .slice A20_0_0 (((t15.ren noS next).1).kids).length c20_0_0] 24 (0, 0)) :: .obj g6 (.cells #[.int .i64 t15.kind, str t15.name, .int .i64 t15.n, .slice A15 t15.kids.length c15] 24 (0, 0)) :: L) a w) ?_ ?_
  · refine rgx [1, 2, 0] [_, _, _] [2, 4, 9, 11, 16, 18, 23, 25, 33, 44, 45] 49 mix h (fun a w h => ?_)
    refine tkl 0 false (by kernel_rfl) ?_
    refine mv h fun a w h => ?_
    refine tk0 ?_
    refine tkl 1 false (by kernel_rfl) ?_
    refine mv h fun a w h => ?_
    refine tk0 ?_
    refine tkl 2 true (by kernel_rfl) ?_
    refine ldWT 0 tN24 h fun a w h => ?_
    refine tk0 ?_
    refine tkl 4 true (by kernel_rfl) ?_
    refine ldWT 1 tN24 h fun a w h => ?_
    refine tk0 ?_
    refine brl1 3 true (by kernel_rfl) (by kernel_rfl) (fun _ => h.st.sees' LE.rfl (by simp)) ?_
    refine cl bod24 (Size_ok ((t15.ren noS next).1) _ E H27 _ ⟨A20_0_0, c20_0_0, rfl, (KS.up hk20_0_0 le27)⟩ (by first | assumption | omega)) h (fun r33 H33 L33 a w le33 R h => ?_)
    obtain ⟨rfl, rfl, rfl⟩ := R
    refine br0 ?_
    refine brl1 5 true (by kernel_rfl) (by kernel_rfl) (fun _ => h.st.sees' LE.rfl (by simp)) ?_
    have l_H15_H27 : LE H15 H27 := le20.trans le27
    refine cl bod24 (Size_ok t15 _ E H27 _ ⟨A15, c15, rfl, (KS.up hk15 l_H15_H27)⟩ (by first | assumption | omega)) h (fun r35 H35 L35 a w le35 R h => ?_)
    obtain ⟨rfl, rfl, rfl⟩ := R
    refine br0 ?_
    refine tkl 6 false (by kernel_rfl) ?_
    refine eqi h fun a w h => ?_
    refine h.spl (fun c36 h => ?_) (fun c36 h => ?_)
    · have d36 : ((t15.ren noS next).1).size = t15.size := by first | (simpa using c36) | (simp at c36; omega)
      refine tk0 ?_
      refine tkl 7 false (by kernel_rfl) ?_
      refine pkT h fun a w h => ?_
      refine tk0 ?_
      refine tkl 8 false (by kernel_rfl) ?_
      refine mv h fun a w h => ?_
      refine tk0 ?_
      refine tkl 9 true (by kernel_rfl) ?_
      refine ldWT 0 tN24 h fun a w h => ?_
      refine tk0 ?_
      refine tkl 11 true (by kernel_rfl) ?_
      refine ldWT 1 tN24 h fun a w h => ?_
      refine tk0 ?_
      refine brl1 10 true (by kernel_rfl) (by kernel_rfl) (fun _ => h.st.sees' LE.rfl (by simp)) ?_
      refine cl bod25 (Depth_ok ((t15.ren noS next).1) _ E H27 _ ⟨A20_0_0, c20_0_0, rfl, (KS.up hk20_0_0 le27)⟩ (by first | assumption | omega)) h (fun r40 H40 L40 a w le40 R h => ?_)
      obtain ⟨rfl, rfl, rfl⟩ := R
      refine br0 ?_
      refine brl1 12 true (by kernel_rfl) (by kernel_rfl) (fun _ => h.st.sees' LE.rfl (by simp)) ?_
      refine cl bod25 (Depth_ok t15 _ E H27 _ ⟨A15, c15, rfl, (KS.up hk15 l_H15_H27)⟩ (by first | assumption | omega)) h (fun r42 H42 L42 a w le42 R h => ?_)
      obtain ⟨rfl, rfl, rfl⟩ := R
      refine br0 ?_
      refine tkl 13 false (by kernel_rfl) ?_
      refine eqi h fun a w h => ?_
      refine h.spl (fun c43 h => ?_) (fun c43 h => ?_)
      · have d43 : ((t15.ren noS next).1).depth = t15.depth := by first | (simpa using c43) | (simp at c43; omega)
        refine tk0 ?_
        refine tkl 14 false (by kernel_rfl) ?_
        refine pkT h fun a w h => ?_
        refine tk0 ?_
        refine tkl 15 false (by kernel_rfl) ?_
        refine mv h fun a w h => ?_
        refine tk0 ?_
        refine tkl 16 true (by kernel_rfl) ?_
        refine ldWT 0 tN24 h fun a w h => ?_
        refine tk0 ?_
        refine tkl 18 true (by kernel_rfl) ?_
        refine ldWT 1 tN24 h fun a w h => ?_
        refine tk0 ?_
        refine brl1 17 true (by kernel_rfl) (by kernel_rfl) (fun _ => h.st.sees' LE.rfl (by simp)) ?_
        refine cl bod23 (Free_ok ((t15.ren noS next).1) _ E H27 _ ⟨A20_0_0, c20_0_0, rfl, (KS.up hk20_0_0 le27)⟩ (by first | assumption | omega) (by first | assumption | omega)) h (fun r47 H47 L47 a w le47 R h => ?_) (hS := fun _ _ _ _ _ le R hw => by obtain ⟨_, _, _, _, rfl, rfl, _⟩ := R; exact hw.sees' (by first | exact LE.rfl | assumption) (by simp))
        obtain ⟨A47, c47, ss47, rfl, rfl, rfl, hs47⟩ := R
        obtain ⟨Hf47, leHf47, h, hks47⟩ := h.frw 0 (rstr_row ss47) rfl (fun _ _ _ _ _ hr => hr)
        have hks47 : SS Hf47 A47 c47 ss47 := hks47
        have hfl47 := free_len hs47
        refine br0 ?_
        refine brl1 19 true (by kernel_rfl) (by kernel_rfl) (fun _ => h.st.sees' leHf47 (by simp)) ?_
        have l_H15_Hf47 : LE H15 Hf47 := (le20.trans le27).trans leHf47
        refine cl bod23 (Free_ok t15 _ E Hf47 _ ⟨A15, c15, rfl, (KS.up hk15 l_H15_Hf47)⟩ (by first | assumption | omega) (by first | assumption | omega)) h (fun r49 H49 L49 a w le49 R h => ?_) (hS := fun _ _ _ _ _ le R hw => by obtain ⟨_, _, _, _, rfl, rfl, _⟩ := R; exact hw.sees' (by first | exact LE.rfl | assumption) (by simp))
        obtain ⟨A49, c49, ss49, rfl, rfl, rfl, hs49⟩ := R
        obtain ⟨Hf49, leHf49, h, hks49⟩ := h.frw 0 (rstr_row ss49) rfl (fun _ _ _ _ _ hr => hr)
        have hks49 : SS Hf49 A49 c49 ss49 := hks49
        have hfl49 := free_len hs49
        refine br0 ?_
        have l_H27_Hf49 : LE H27 Hf49 := leHf47.trans leHf49
        refine brl1 20 true (by kernel_rfl) (by kernel_rfl) (fun _ => h.st.sees' l_H27_Hf49 (by simp)) ?_
        refine cl bod26 (texts_ok ss47 ss49 _ _ _ _ E Hf49 _ (SS.up hks47 leHf49) hks49 (by first | assumption | omega)) h (fun r50 H50 L50 a w le50 R h => ?_)
        obtain ⟨rfl, rfl, rfl⟩ := R
        refine h.spl (fun c50 h => ?_) (fun c50 h => ?_)
        · refine br0 ?_
          refine tkl 21 false (by kernel_rfl) ?_
          refine pkT h fun a w h => ?_
          refine tk0 ?_
          refine tkl 22 false (by kernel_rfl) ?_
          refine mv h fun a w h => ?_
          refine tk0 ?_
          refine tkl 23 true (by kernel_rfl) ?_
          refine ldWT 0 tN24 h fun a w h => ?_
          refine tk0 ?_
          refine tkl 25 true (by kernel_rfl) ?_
          refine ldWT 1 tN24 h fun a w h => ?_
          refine tk0 ?_
          refine brl1 24 true (by kernel_rfl) (by kernel_rfl) (fun _ => h.st.sees' l_H27_Hf49 (by simp)) ?_
          have l_H20_Hf49 : LE H20 Hf49 := (le27.trans leHf47).trans leHf49
          refine cl bod14 (Count_ok ((t15.ren noS next).1) _ E Hf49 _ ⟨A20_0_0, c20_0_0, rfl, (KS.up hk20_0_0 l_H20_Hf49)⟩ (by first | assumption | omega)) h (fun r54 H54 L54 a w le54 R h => ?_)
          obtain ⟨rfl, rfl, rfl⟩ := R
          refine br0 ?_
          refine brl1 26 true (by kernel_rfl) (by kernel_rfl) (fun _ => h.st.sees' l_H27_Hf49 (by simp)) ?_
          have l_H15_Hf49 : LE H15 Hf49 := ((le20.trans le27).trans leHf47).trans leHf49
          refine cl bod14 (Count_ok t15 _ E Hf49 _ ⟨A15, c15, rfl, (KS.up hk15 l_H15_Hf49)⟩ (by first | assumption | omega)) h (fun r56 H56 L56 a w le56 R h => ?_)
          obtain ⟨rfl, rfl, rfl⟩ := R
          refine br0 ?_
          refine tkl 27 false (by kernel_rfl) ?_
          refine eqi h fun a w h => ?_
          refine h.spl (fun c57 h => ?_) (fun c57 h => ?_)
          · have d57 : ((t15.ren noS next).1).count = t15.count := by first | (simpa using c57) | (simp at c57; omega)
            refine tk0 ?_
            refine tkl 28 false (by kernel_rfl) ?_
            refine pkT h fun a w h => ?_
            refine tk0 ?_
            refine tkl 29 false (by kernel_rfl) ?_
            refine mv h fun a w h => ?_
            refine tk0 ?_
            refine tkl 30 false (by kernel_rfl) ?_
            refine mv h fun a w h => ?_
            refine tk0 ?_
            refine tkl 31 false (by kernel_rfl) ?_
            refine mv h fun a w h => ?_
            refine tk0 ?_
            refine tkl 32 false (by kernel_rfl) ?_
            refine cv (next) (w64 (by omega) (by omega)) it56 it3 h fun a w h => ?_
            refine tk0 ?_
            refine tkl 33 true (by kernel_rfl) ?_
            refine ldWT 1 tN24 h fun a w h => ?_
            refine tk0 ?_
            refine brl1 34 true (by kernel_rfl) (by kernel_rfl) (fun _ => h.st.sees' l_H27_Hf49 (by simp)) ?_
            refine cl bod14 (Count_ok t15 _ E Hf49 _ ⟨A15, c15, rfl, (KS.up hk15 l_H15_Hf49)⟩ (by first | assumption | omega)) h (fun r64 H64 L64 a w le64 R h => ?_)
            obtain ⟨rfl, rfl, rfl⟩ := R
            refine br0 ?_
            refine tkl 35 false (by kernel_rfl) ?_
            refine adr (next + (t15.count : Int)) (w64 (by omega) (by omega)) h fun a w h => ?_
            refine tk0 ?_
            refine tkl 36 false (by kernel_rfl) ?_
            refine eqi h fun a w h => ?_
            refine h.spl (fun c66 h => ?_) (fun c66 h => ?_)
            · have d66 : (t15.ren noS next).2 = (next + (t15.count : Int)) := by first | (simpa using c66) | (simp at c66; omega)
              refine tk0 ?_
              refine tkl 37 false (by kernel_rfl) ?_
              refine pkT h fun a w h => ?_
              refine tk0 ?_
              refine tkl 38 false (by kernel_rfl) ?_
              refine mv h fun a w h => ?_
              refine tk0 ?_
              refine tkl 39 false (by kernel_rfl) ?_
              refine mv h fun a w h => ?_
              refine tk0 ?_
              refine tkl 40 false (by kernel_rfl) ?_
              refine mv h fun a w h => ?_
              refine tk0 ?_
              refine tkl 41 false (by kernel_rfl) ?_
              refine eqi h fun a w h => ?_
              refine h.spl (fun c71 h => ?_) (fun c71 h => ?_)
              · have d71 : (((t15.ren noS next).1).ren noS next).2 = (t15.ren noS next).2 := by first | (simpa using c71) | (simp at c71; omega)
                refine tk0 ?_
                refine tkl 42 false (by kernel_rfl) ?_
                refine pkT h fun a w h => ?_
                refine tk0 ?_
                refine tkl 43 false (by kernel_rfl) ?_
                refine mv h fun a w h => ?_
                refine tk0 ?_
                refine tkl 44 true (by kernel_rfl) ?_
                refine ldWT 0 tN24 h fun a w h => ?_
                refine tk0 ?_
                refine tkl 45 true (by kernel_rfl) ?_
                refine ldWT 2 tN24 h fun a w h => ?_
                refine tk0 ?_
                refine brl1 46 true (by kernel_rfl) (by kernel_rfl) (fun _ => h.st.sees' l_H27_Hf49 (by simp)) ?_
                refine cl bod27 (Same_ok ((t15.ren noS next).1) ((((t15.ren noS next).1).ren noS next).1) _ _ E Hf49 _ ⟨A20_0_0, c20_0_0, rfl, (KS.up hk20_0_0 l_H20_Hf49)⟩ ⟨A27_0_0, c27_0_0, rfl, (KS.up hk27_0_0 l_H27_Hf49)⟩ (by first | assumption | omega)) h (fun r76 H76 L76 a w le76 R h => ?_)
                obtain ⟨rfl, rfl, rfl⟩ := R
                refine br0 ?_
                refine tkl 47 false (by kernel_rfl) ?_
                refine pkT h fun a w h => ?_
                refine tk0 ?_
                refine tkl 48 false (by kernel_rfl) ?_
                refine as_ h fun a w h => ?_
                refine tk0 ?_
                refine en (by kernel_rfl) ?_
                refine thN ?_
                have h := h.less l_H27_Hf49
                have h2 : S E H27 78 [] [(4, .bool (((t15.ren noS next).1).same ((((t15.ren noS next).1).ren noS next).1)))] (.obj g9 (.cells #[.int .i64 (((((t15.ren noS next).1).ren noS next).1).kind), str (((((t15.ren noS next).1).ren noS next).1).name), .int .i64 (((((t15.ren noS next).1).ren noS next).1).n), .slice A27_0_0 (((((t15.ren noS next).1).ren noS next).1).kids).length c27_0_0] 24 (0, 0)) :: .obj g7 (.cells #[.int .i64 (((t15.ren noS next).1).kind), str (((t15.ren noS next).1).name), .int .i64 (((t15.ren noS next).1).n), .slice A20_0_0 (((t15.ren noS next).1).kids).length c20_0_0] 24 (0, 0)) :: .obj g6 (.cells #[.int .i64 t15.kind, str t15.name, .int .i64 t15.n, .slice A15 t15.kids.length c15] 24 (0, 0)) :: L) a w := h.to 0 _
                exact h2
              · have d71 : (((t15.ren noS next).1).ren noS next).2 ≠ (t15.ren noS next).2 := by first | (simpa using c71) | (simp at c71; omega)
                rw [hag] at c71; simp at c71
            · have d66 : (t15.ren noS next).2 ≠ (next + (t15.count : Int)) := by first | (simpa using c66) | (simp at c66; omega)
              rw [hnm] at c66; simp at c66
          · have d57 : ((t15.ren noS next).1).count ≠ t15.count := by first | (simpa using c57) | (simp at c57; omega)
            rw [ren_cnt] at c57; simp at c57
        · rw [free_ren hfit hnum15 hs47 hs49] at c50; simp at c50
      · have d43 : ((t15.ren noS next).1).depth ≠ t15.depth := by first | (simpa using c43) | (simp at c43; omega)
        rw [ren_depth] at c43; simp at c43
    · have d36 : ((t15.ren noS next).1).size ≠ t15.size := by first | (simpa using c36) | (simp at c36; omega)
      rw [ren_size] at c36; simp at c36
  · rintro a w h
    refine ret_ ?_
    have l_H_H27 : LE H H27 := ((le11.trans le15).trans le20).trans le27
    refine fin1 4 3 h l_H_H27 ?_
    exact ⟨by rw [hag]; exact congrArg Value.bool ((same_iff _ _).2 rfl), rfl⟩

end Go.Proofs.YtindlieilabgfaaGreatDoor
/- Walk: the law ScopeApart. -/
set_option linter.unusedVariables false
set_option linter.unusedSimpArgs false
set_option linter.unusedSectionVars false
set_option autoImplicit false
set_option relaxedAutoImplicit false
set_option maxRecDepth 10000
set_option maxHeartbeats 2000000
namespace Go.Proofs.YtindlieilabgfaaGreatDoor
open Go X
theorem binders_ok : ∀ (t : Tm) (v : Value) (E : World) (H : GH) (L : List It), VT H v t → t.size < 1000000000000 →
    Ok Tryz.prog 22 #[v] E H L fun r H' L' => (∃ A c, r = .slice A t.bs.length c ∧ SS H' A c t.bs) ∧ L = L' := by
  intro t
  induction t using Tm.ind with
  | h kd nm nn ks ih =>
  intro v E H L hv hb
  obtain ⟨At0, ct0, rfl, ht0⟩ := hv
  dsimp only [Tm.kind, Tm.name, Tm.n, Tm.kids] at ht0 ⊢
  simp only [Tm.size] at hb
  have hlen := length_le_sizeL ks
  refine enter (N := 28) [(0, _)] Tryz.func22 rfl rfl rfl rfl fun a w h => ?_
  refine sq ?_
  refine rg0 ?_
  refine bxA h fun g1 a w h => ?_
  refine as_ h fun a w h => ?_
  refine nl0 ?_
  refine thN ?_
  refine sq ?_
  refine rg0 ?_
  refine as_ h fun a w h => ?_
  refine nl0 ?_
  refine thN ?_
  refine sq ?_
  refine sq ?_
  have h := h.row (e := 9) (sz := 1)
  refine rg0 ?_
  refine ldW 1 tN24 h fun a w h => ?_
  refine cl bod38 (Binder_ok _ _ _ _ _ _ _) h (fun r6 H6 L6 a w le6 R h => ?_)
  obtain ⟨rfl, rfl, rfl⟩ := R
  refine nl0 ?_
  refine thN ?_
  refine cdB h (fun c6 => ?_) (fun c6 => ?_)
  · refine rg0 ?_
    refine mv h fun a w h => ?_
    refine fa fl24_1 (r := 1) h fun a w h => ?_
    refine ld 1 t1_9 h fun a w h => ?_
    refine bsl bs58 h fun g10 a w h => ?_
    refine apn (n := (([] : List Bs).length)) (m := 1) 1 0 (L' := fun i => _ :: i :: _) [_] ((([] : List Bs) ++ [nm]).length) (by first | (simp; done) | (simp; omega)) row58 h (by first | omega | (simp; done) | (simp; omega) | (have q := bs_bound (kd := kd) (nm := nm) d16; omega)) (by first | omega | (simp; done) | (simp; omega) | (have q := bs_bound (kd := kd) (nm := nm) d16; omega)) fun v11 a w hone11 h => ?_
    obtain ⟨B11, cp11, rfl⟩ := h.rowv 1
    have hr11 : RowR RStr 1 H ([] ++ [str nm]) (([] : List Bs) ++ [nm]) := (RowR.nil : RowR RStr 1 H [] ([] : List Bs)).snoc rfl rfl
    refine as_ h fun a w h => ?_
    refine nl0 ?_
    refine thN ?_
    refine sq ?_
    refine sq ?_
    refine rg0 ?_
    refine as_ h fun a w h => ?_
    refine nl0 ?_
    refine thN ?_
    refine blk ?_
    have h := h.del 0
    obtain ⟨Hg1, leHg1, h, hfg1⟩ := h.frz 1
    have h2 : S E Hg1 28 [] [(1, .pointer (some ⟨g1, 0, none⟩)), (2, .slice none 0 0), (3, .slice B11 (((if bnd kd then [nm] else []) ++ bsL (ks.take 0)).length) cp11), (4, .int .i64 (0 : Int))] (.row (.slice B11 (((if bnd kd then [nm] else []) ++ bsL (ks.take 0)).length) cp11) 9 1 (((if bnd kd then [nm] else []) ++ bsL (ks.take 0)).length) ([] ++ [str nm]) :: L) a w := by rw [show (((if bnd kd then [nm] else []) ++ bsL (ks.take 0)).length) = (([] : List Bs) ++ [nm]).length from Eq.symm (by (try have c6 : bnd kd = true := c6); (try have c6 : bnd kd = false := c6); rw [c6]; rfl)]; exact h.to 0 _
    refine lp (β := Nat × GH × (Option Addr) × Nat × (List Value)) (fun x a w => match x with | (k, HL0, Br3, pr3, xr3) => ((k ≤ ks.length) ∧ (LE Hg1 HL0) ∧ (RowR RStr 1 HL0 xr3 ((if bnd kd then [nm] else []) ++ bsL (ks.take k)))) ∧ S E HL0 28 [] [(1, .pointer (some ⟨g1, 0, none⟩)), (2, .slice none 0 0), (3, .slice Br3 (((if bnd kd then [nm] else []) ++ bsL (ks.take k)).length) pr3), (4, .int .i64 (k : Int))] (.row (.slice Br3 (((if bnd kd then [nm] else []) ++ bsL (ks.take k)).length) pr3) 9 1 (((if bnd kd then [nm] else []) ++ bsL (ks.take k)).length) xr3 :: L) a w)
      (fun x => match x with | (k, HL0, Br3, pr3, xr3) => ks.length - k) (0, Hg1, B11, cp11, ([] ++ [str nm])) ⟨⟨Nat.zero_le _, LE.rfl, (by have q := (hr11.mono fun cs y _ hr => hr); rwa [show (([] : List Bs) ++ [nm]) = ((if bnd kd then [nm] else []) ++ bsL (ks.take 0)) from by (try have c6 : bnd kd = true := c6); (try have c6 : bnd kd = false := c6); rw [c6]; rfl] at q)⟩, h2⟩ ?_
    rintro ⟨k, HL0, Br3, pr3, xr3⟩ a w ⟨⟨hk, leHL0, hrr3⟩, h⟩
    refine sq ?_
    refine sq ?_
    refine rg0 ?_
    refine mv h fun a w h => ?_
    refine fa fl24_3 (r := 3) h fun a w h => ?_
    refine ldH t1_22 (Hc.of (leHL0 _ _ hfg1) rfl) h fun a w h => ?_
    refine ln sli22 h fun a w h => ?_
    refine lt h fun a w h => ?_
    refine nl0 ?_
    refine thN ?_
    refine cdB h (fun c16 => ?_) (fun c16 => ?_)
    · have d16 : k < ks.length := by first | (simpa using c16) | (simp at c16; omega)
      refine sk_ ?_
      refine thN ?_
      refine sq ?_
      refine blk ?_
      refine rg0 ?_
      refine mv h fun a w h => ?_
      refine fa fl24_3 (r := 3) h fun a w h => ?_
      refine ldH t1_22 (Hc.of (leHL0 _ _ hfg1) rfl) h fun a w h => ?_
      refine mv h fun a w h => ?_
      have l_H_HL0 : LE H HL0 := leHg1.trans leHL0
      have hj23 : k < ks.length := by first | assumption | omega | (simp; done) | (simp; omega)
      obtain ⟨g23, o23, A23_0, c23_0, e23, hv23, hc23⟩ := KS.get (KS.up ht0 l_H_HL0) hj23
      obtain ⟨_, _, q23, hk23_0⟩ := hv23; cases q23
      refine iaE sli22 sz24 rfl hj23 e23 h fun a w h => ?_
      refine ldHN tN24 rfl hc23 h fun a w h => ?_
      have hz := size_get_le d16
      refine cl bod22 (ih _ (List.getElem_mem d16) _ E HL0 _ ⟨A23_0, c23_0, rfl, hk23_0⟩ (by first | assumption | omega)) h (fun r25 H25 L25 a w le25 R h => ?_)
      obtain ⟨⟨A25, c25, rfl, hk25⟩, rfl⟩ := R
      refine apsn (n := (((if bnd kd then [nm] else []) ++ bsL (ks.take k)).length)) (L' := fun i => i :: _) 0 ((((if bnd kd then [nm] else []) ++ bsL (ks.take k)) ++ ks[k].bs).length) (by first | (simp; done) | (simp; omega)) row58 hk25 rstr_one h (by first | omega | (simp; done) | (simp; omega) | (have q := bs_bound (kd := kd) (nm := nm) d16; omega)) (by first | omega | (simp; done) | (simp; omega) | (have q := bs_bound (kd := kd) (nm := nm) d16; omega)) fun v26 nw26 a w hone26 hnw26 h => ?_
      obtain ⟨B26, cp26, rfl⟩ := h.rowv 0
      have hr26 : RowR RStr 1 H25 (xr3 ++ nw26) (((if bnd kd then [nm] else []) ++ bsL (ks.take k)) ++ ks[k].bs) := (hrr3.mono fun cs y _ hr => hr).app hnw26
      refine as_ h fun a w h => ?_
      refine nl0 ?_
      refine ibN ?_
      refine thN ?_
      refine rg0 ?_
      refine mv h fun a w h => ?_
      refine inc ?_ h fun a w h => ?_
      · omega
      refine as_ h fun a w h => ?_
      refine nl0 ?_
      refine thN ?_
      have h2 : S E H25 28 [] [(1, .pointer (some ⟨g1, 0, none⟩)), (2, .slice none 0 0), (3, .slice B26 (((if bnd kd then [nm] else []) ++ bsL (ks.take (k + 1))).length) cp26), (4, .int .i64 ((k + 1) : Int))] (.row (.slice B26 (((if bnd kd then [nm] else []) ++ bsL (ks.take (k + 1))).length) cp26) 9 1 (((if bnd kd then [nm] else []) ++ bsL (ks.take (k + 1))).length) (xr3 ++ nw26) :: L) a w := by rw [show (((if bnd kd then [nm] else []) ++ bsL (ks.take (k + 1))).length) = (((if bnd kd then [nm] else []) ++ bsL (ks.take k)) ++ ks[k].bs).length from Eq.symm (by rw [take_bs d16, ← List.append_assoc])]; exact h.to 0 _
      have l_Hg1_H25 : LE Hg1 H25 := leHL0.trans le25
      exact ⟨((k + 1), H25, B26, cp26, (xr3 ++ nw26)), ⟨⟨by omega, l_Hg1_H25, (by have q := hr26; rwa [show (((if bnd kd then [nm] else []) ++ bsL (ks.take k)) ++ ks[k].bs) = ((if bnd kd then [nm] else []) ++ bsL (ks.take (k + 1))) from by rw [take_bs d16, List.append_assoc]] at q)⟩, h2⟩, by show _ - (k + 1) < _ - k; omega⟩
    · have d16 : ks.length ≤ k := by first | (simpa using c16) | (simp at c16; omega)
      refine exit_ ?_
      refine thE ?_
      refine thE ?_
      refine ibH ?_
      refine thN ?_
      refine sq ?_
      refine rg0 ?_
      refine mv h fun a w h => ?_
      refine as_ h fun a w h => ?_
      refine nl0 ?_
      refine thN ?_
      refine ret_ ?_
      have e9 : ((if bnd kd then [nm] else []) ++ bsL (ks.take k)) = (Tm.mk kd nm nn ks).bs := by rw [show k = ks.length by omega, List.take_length]; rfl
      obtain ⟨Hrr3, leHrr3, h, hsHrr3⟩ := h.frw 0 hrr3 rfl (fun _ l cs y _ hr => hr)
      have l_H_Hrr3 : LE H Hrr3 := (leHg1.trans leHL0).trans leHrr3
      refine fin1 2 0 h l_H_Hrr3 ?_
      exact ⟨by rw [e9] at hsHrr3 ⊢; exact ⟨_, _, rfl, hsHrr3⟩, rfl⟩
  · refine sk_ ?_
    refine thN ?_
    refine sq ?_
    refine sq ?_
    refine rg0 ?_
    refine as_ h fun a w h => ?_
    refine nl0 ?_
    refine thN ?_
    refine blk ?_
    obtain ⟨Hg1, leHg1, h, hfg1⟩ := h.frz 1
    have h2 : S E Hg1 28 [] [(1, .pointer (some ⟨g1, 0, none⟩)), (2, .slice none 0 0), (3, .slice none (((if bnd kd then [nm] else []) ++ bsL (ks.take 0)).length) 0), (4, .int .i64 (0 : Int))] (.row (.slice none (((if bnd kd then [nm] else []) ++ bsL (ks.take 0)).length) 0) 9 1 (((if bnd kd then [nm] else []) ++ bsL (ks.take 0)).length) [] :: L) a w := by rw [show (((if bnd kd then [nm] else []) ++ bsL (ks.take 0)).length) = ([] : List Bs).length from Eq.symm (by (try have c6 : bnd kd = true := c6); (try have c6 : bnd kd = false := c6); rw [c6]; rfl)]; exact h.to 0 _
    refine lp (β := Nat × GH × (Option Addr) × Nat × (List Value)) (fun x a w => match x with | (k, HL0, Br3, pr3, xr3) => ((k ≤ ks.length) ∧ (LE Hg1 HL0) ∧ (RowR RStr 1 HL0 xr3 ((if bnd kd then [nm] else []) ++ bsL (ks.take k)))) ∧ S E HL0 28 [] [(1, .pointer (some ⟨g1, 0, none⟩)), (2, .slice none 0 0), (3, .slice Br3 (((if bnd kd then [nm] else []) ++ bsL (ks.take k)).length) pr3), (4, .int .i64 (k : Int))] (.row (.slice Br3 (((if bnd kd then [nm] else []) ++ bsL (ks.take k)).length) pr3) 9 1 (((if bnd kd then [nm] else []) ++ bsL (ks.take k)).length) xr3 :: L) a w)
      (fun x => match x with | (k, HL0, Br3, pr3, xr3) => ks.length - k) (0, Hg1, none, 0, []) ⟨⟨Nat.zero_le _, LE.rfl, (by have q := ((RowR.nil : RowR RStr 1 H [] ([] : List Bs)).mono fun cs y _ hr => hr); rwa [show ([] : List Bs) = ((if bnd kd then [nm] else []) ++ bsL (ks.take 0)) from by (try have c6 : bnd kd = true := c6); (try have c6 : bnd kd = false := c6); rw [c6]; rfl] at q)⟩, h2⟩ ?_
    rintro ⟨k, HL0, Br3, pr3, xr3⟩ a w ⟨⟨hk, leHL0, hrr3⟩, h⟩
    refine sq ?_
    refine sq ?_
    refine rg0 ?_
    refine mv h fun a w h => ?_
    refine fa fl24_3 (r := 3) h fun a w h => ?_
    refine ldH t1_22 (Hc.of (leHL0 _ _ hfg1) rfl) h fun a w h => ?_
    refine ln sli22 h fun a w h => ?_
    refine lt h fun a w h => ?_
    refine nl0 ?_
    refine thN ?_
    refine cdB h (fun c16 => ?_) (fun c16 => ?_)
    · have d16 : k < ks.length := by first | (simpa using c16) | (simp at c16; omega)
      refine sk_ ?_
      refine thN ?_
      refine sq ?_
      refine blk ?_
      refine rg0 ?_
      refine mv h fun a w h => ?_
      refine fa fl24_3 (r := 3) h fun a w h => ?_
      refine ldH t1_22 (Hc.of (leHL0 _ _ hfg1) rfl) h fun a w h => ?_
      refine mv h fun a w h => ?_
      have l_H_HL0 : LE H HL0 := leHg1.trans leHL0
      have hj23 : k < ks.length := by first | assumption | omega | (simp; done) | (simp; omega)
      obtain ⟨g23, o23, A23_0, c23_0, e23, hv23, hc23⟩ := KS.get (KS.up ht0 l_H_HL0) hj23
      obtain ⟨_, _, q23, hk23_0⟩ := hv23; cases q23
      refine iaE sli22 sz24 rfl hj23 e23 h fun a w h => ?_
      refine ldHN tN24 rfl hc23 h fun a w h => ?_
      have hz := size_get_le d16
      refine cl bod22 (ih _ (List.getElem_mem d16) _ E HL0 _ ⟨A23_0, c23_0, rfl, hk23_0⟩ (by first | assumption | omega)) h (fun r25 H25 L25 a w le25 R h => ?_)
      obtain ⟨⟨A25, c25, rfl, hk25⟩, rfl⟩ := R
      refine apsn (n := (((if bnd kd then [nm] else []) ++ bsL (ks.take k)).length)) (L' := fun i => i :: _) 0 ((((if bnd kd then [nm] else []) ++ bsL (ks.take k)) ++ ks[k].bs).length) (by first | (simp; done) | (simp; omega)) row58 hk25 rstr_one h (by first | omega | (simp; done) | (simp; omega) | (have q := bs_bound (kd := kd) (nm := nm) d16; omega)) (by first | omega | (simp; done) | (simp; omega) | (have q := bs_bound (kd := kd) (nm := nm) d16; omega)) fun v26 nw26 a w hone26 hnw26 h => ?_
      obtain ⟨B26, cp26, rfl⟩ := h.rowv 0
      have hr26 : RowR RStr 1 H25 (xr3 ++ nw26) (((if bnd kd then [nm] else []) ++ bsL (ks.take k)) ++ ks[k].bs) := (hrr3.mono fun cs y _ hr => hr).app hnw26
      refine as_ h fun a w h => ?_
      refine nl0 ?_
      refine ibN ?_
      refine thN ?_
      refine rg0 ?_
      refine mv h fun a w h => ?_
      refine inc ?_ h fun a w h => ?_
      · omega
      refine as_ h fun a w h => ?_
      refine nl0 ?_
      refine thN ?_
      have h2 : S E H25 28 [] [(1, .pointer (some ⟨g1, 0, none⟩)), (2, .slice none 0 0), (3, .slice B26 (((if bnd kd then [nm] else []) ++ bsL (ks.take (k + 1))).length) cp26), (4, .int .i64 ((k + 1) : Int))] (.row (.slice B26 (((if bnd kd then [nm] else []) ++ bsL (ks.take (k + 1))).length) cp26) 9 1 (((if bnd kd then [nm] else []) ++ bsL (ks.take (k + 1))).length) (xr3 ++ nw26) :: L) a w := by rw [show (((if bnd kd then [nm] else []) ++ bsL (ks.take (k + 1))).length) = (((if bnd kd then [nm] else []) ++ bsL (ks.take k)) ++ ks[k].bs).length from Eq.symm (by rw [take_bs d16, ← List.append_assoc])]; exact h.to 0 _
      have l_Hg1_H25 : LE Hg1 H25 := leHL0.trans le25
      exact ⟨((k + 1), H25, B26, cp26, (xr3 ++ nw26)), ⟨⟨by omega, l_Hg1_H25, (by have q := hr26; rwa [show (((if bnd kd then [nm] else []) ++ bsL (ks.take k)) ++ ks[k].bs) = ((if bnd kd then [nm] else []) ++ bsL (ks.take (k + 1))) from by rw [take_bs d16, List.append_assoc]] at q)⟩, h2⟩, by show _ - (k + 1) < _ - k; omega⟩
    · have d16 : ks.length ≤ k := by first | (simpa using c16) | (simp at c16; omega)
      refine exit_ ?_
      refine thE ?_
      refine thE ?_
      refine ibH ?_
      refine thN ?_
      refine sq ?_
      refine rg0 ?_
      refine mv h fun a w h => ?_
      refine as_ h fun a w h => ?_
      refine nl0 ?_
      refine thN ?_
      refine ret_ ?_
      have e9 : ((if bnd kd then [nm] else []) ++ bsL (ks.take k)) = (Tm.mk kd nm nn ks).bs := by rw [show k = ks.length by omega, List.take_length]; rfl
      obtain ⟨Hrr3, leHrr3, h, hsHrr3⟩ := h.frw 0 hrr3 rfl (fun _ l cs y _ hr => hr)
      have l_H_Hrr3 : LE H Hrr3 := (leHg1.trans leHL0).trans leHrr3
      refine fin1 2 0 h l_H_Hrr3 ?_
      exact ⟨by rw [e9] at hsHrr3 ⊢; exact ⟨_, _, rfl, hsHrr3⟩, rfl⟩

theorem apart_ok (l : List UInt8) (next : Int) (A : Option Addr) (c : Nat) (E : World) (H : GH) (L : List It) (hl : US H A c l) (hb : l.length < 1000000000000) (h0 : 0 ≤ next) (h1 : next < 65536) (hL : Laid H) :
    Ok Tryz.prog 4 #[.slice A l.length c, .int .u16 next] E H L fun r H' L' => r = .bool true ∧ L = L' := by
  have hn : In64 next := by unfold In64; omega
  refine enter (N := 71) [(0, _), (1, _)] Tryz.func4 rfl rfl rfl rfl fun a w h => ?_
  refine sq ?_
  refine rg0 ?_
  refine as_ h fun a w h => ?_
  refine nl0 ?_
  refine thN ?_
  refine sq ?_
  refine rg0 ?_
  refine cl bod9 (examples_ok E H _ (hL.up LE.rfl)) h (fun r13 H13 L13 a w le13 R h => ?_)
  obtain ⟨rfl, hl13⟩ := R
  subst L13
  refine as_ h fun a w h => ?_
  refine nl0 ?_
  refine thN ?_
  refine sq ?_
  refine sq ?_
  refine rg0 ?_
  refine mv h fun a w h => ?_
  refine nt h fun a w h => ?_
  refine nl0 ?_
  refine thN ?_
  refine cdF h ?_
  refine sk_ ?_
  refine thN ?_
  refine sq ?_
  refine rg0 ?_
  refine mv h fun a w h => ?_
  refine cl bod21 (made_ok l _ _ E H13 _ (US.up hl le13) hb) h (fun r18 H18 L18 a w le18 R h => ?_)
  obtain ⟨t18, hmk18, ⟨A18, c18, rfl, hk18⟩, rfl⟩ := R
  have hsz18 := mk_size hmk18
  have hnum18 := mk_num hmk18
  have hlg18 := mk_long hmk18
  have hct18 := count_le_size t18
  refine mv h fun a w h => ?_
  refine cv (next) (w64 (by omega) (by omega)) it56 it3 h fun a w h => ?_
  have l_H_H18 : LE H H18 := le13.trans le18
  refine cl bod10 (Rename_ok t18 _ next E H18 _ ⟨A18, c18, rfl, hk18⟩ (hL.up l_H_H18) (by first | assumption | omega) (by first | assumption | omega)) h (fun r21 H21 L21 a w le21 R h => ?_)
  obtain ⟨_, rfl, ⟨A21_0_0, c21_0_0, rfl, hk21_0_0⟩, hl21⟩ := R
  subst L21
  refine mv h fun a w h => ?_
  refine ex h fun a w h => ?_
  refine ex h fun a w h => ?_
  refine al zr24 h fun g6 a w h => ?_
  refine sw0 tN24 h fun a w h => ?_
  refine as_ h fun a w h => ?_
  refine nl0 ?_
  refine thN ?_
  refine sq ?_
  have hus : (t18.ren noS next).1.size ≤ 16384 := by rw [ren_size]; exact hsz18
  have hul : (t18.ren noS next).1.long ≤ 21 := ren_long t18 noS next 21 hn (by omega) (by omega) (fun _ _ h => by cases h)
  have hfit : Fit next t18.count := by unfold Fit; omega
  have hbl := bs_len (t18.ren noS next).1
  have hcu := count_le_size (t18.ren noS next).1
  refine rg0 ?_
  refine ldW 0 tN24 h fun a w h => ?_
  refine cl bod22 (binders_ok ((t18.ren noS next).1) _ E H21 _ ⟨A21_0_0, c21_0_0, rfl, hk21_0_0⟩ (by first | assumption | omega)) h (fun r25 H25 L25 a w le25 R h => ?_)
  obtain ⟨⟨A25, c25, rfl, hk25⟩, rfl⟩ := R
  refine as_ h fun a w h => ?_
  refine nl0 ?_
  refine thN ?_
  refine sq ?_
  refine rg0 ?_
  refine ldW 0 tN24 h fun a w h => ?_
  refine cl bod23 (Free_ok ((t18.ren noS next).1) _ E H25 _ ⟨A21_0_0, c21_0_0, rfl, (KS.up hk21_0_0 le25)⟩ (by first | assumption | omega) (by first | assumption | omega)) h (fun r27 H27 L27 a w le27 R h => ?_)
  obtain ⟨A27, c27, ss27, rfl, rfl, rfl, hs27⟩ := R
  obtain ⟨Hf27, leHf27, h, hks27⟩ := h.frw 0 (rstr_row ss27) rfl (fun _ _ _ _ _ hr => hr)
  have hks27 : SS Hf27 A27 c27 ss27 := hks27
  have hfl27 := free_len hs27
  refine as_ h fun a w h => ?_
  refine nl0 ?_
  refine thN ?_
  refine sq ?_
  refine sq ?_
  refine rg0 ?_
  refine as_ h fun a w h => ?_
  refine nl0 ?_
  refine thN ?_
  refine blk ?_
  obtain ⟨Hg6, leHg6, h, hfg6⟩ := h.frz 0
  have h2 : S E Hg6 71 [] [(5, .bool true), (6, .pointer (some ⟨g6, 0, none⟩)), (8, .slice A25 (((t18.ren noS next).1).bs).length c25), (9, .slice A27 ss27.length c27), (10, .int .i64 (0 : Int))] (L) a w := h.to 0 _
  refine lp (β := Nat) (fun k a w => ((k ≤ (t18.ren noS next).1.bs.length)) ∧ S E Hg6 71 [] [(5, .bool true), (6, .pointer (some ⟨g6, 0, none⟩)), (8, .slice A25 (((t18.ren noS next).1).bs).length c25), (9, .slice A27 ss27.length c27), (10, .int .i64 (k : Int))] (L) a w)
    (fun k => (t18.ren noS next).1.bs.length - k) 0 ⟨Nat.zero_le _, h2⟩ ?_
  rintro k a w ⟨hk, h⟩
  refine sq ?_
  refine sq ?_
  refine rg0 ?_
  refine mv h fun a w h => ?_
  refine mv h fun a w h => ?_
  refine ln sli58 h fun a w h => ?_
  refine lt h fun a w h => ?_
  refine nl0 ?_
  refine thN ?_
  refine cdB h (fun c31 => ?_) (fun c31 => ?_)
  · have d31 : k < (((t18.ren noS next).1).bs).length := by first | (simpa using c31) | (simp at c31; omega)
    refine sk_ ?_
    refine thN ?_
    refine sq ?_
    refine blk ?_
    refine sq ?_
    refine sq ?_
    refine rg0 ?_
    refine as_ h fun a w h => ?_
    refine nl0 ?_
    refine thN ?_
    refine blk ?_
    have h2 : S E Hg6 71 [] [(5, .bool true), (6, .pointer (some ⟨g6, 0, none⟩)), (8, .slice A25 (((t18.ren noS next).1).bs).length c25), (9, .slice A27 ss27.length c27), (10, .int .i64 (k : Int)), (11, .int .i64 (0 : Int)), (28, .int .i64 (k : Int)), (29, .slice A25 (((t18.ren noS next).1).bs).length c25), (30, .int .i64 ((((t18.ren noS next).1).bs).length : Int)), (31, .bool (decide (((k : Int) : Int) < ((((t18.ren noS next).1).bs).length : Int))))] (L) a w := h.to 0 _
    refine lp (β := Nat) (fun k2 a w => ((k2 ≤ k)) ∧ S E Hg6 71 [] [(5, .bool true), (6, .pointer (some ⟨g6, 0, none⟩)), (8, .slice A25 (((t18.ren noS next).1).bs).length c25), (9, .slice A27 ss27.length c27), (10, .int .i64 (k : Int)), (11, .int .i64 (k2 : Int)), (28, .int .i64 (k : Int)), (29, .slice A25 (((t18.ren noS next).1).bs).length c25), (30, .int .i64 ((((t18.ren noS next).1).bs).length : Int)), (31, .bool (decide (((k : Int) : Int) < ((((t18.ren noS next).1).bs).length : Int))))] (L) a w)
      (fun k2 => k - k2) 0 ⟨Nat.zero_le _, h2⟩ ?_
    rintro k2 a w ⟨hk, h⟩
    refine sq ?_
    refine sq ?_
    refine rg0 ?_
    refine mv h fun a w h => ?_
    refine mv h fun a w h => ?_
    refine lt h fun a w h => ?_
    refine nl0 ?_
    refine thN ?_
    refine cdB h (fun c36 => ?_) (fun c36 => ?_)
    · have d36 : k2 < k := by first | (simpa using c36) | (simp at c36; omega)
      refine sk_ ?_
      refine thN ?_
      refine sq ?_
      refine blk ?_
      refine sq ?_
      refine rgd [] [] [] [3, 7] 1 mix (by kernel_rfl) h (fun a w h => ?_)
      refine mv h fun a w h => ?_
      refine mv h fun a w h => ?_
      have l_H25_Hg6 : LE H25 Hg6 := leHf27.trans leHg6
      have hj41 : k < (((t18.ren noS next).1).bs).length := by first | assumption | omega | (simp; done) | (simp; omega)
      obtain ⟨g41, o41, e41, hc41⟩ := SS.get (SS.up hk25 l_H25_Hg6) hj41
      refine iaE sli58 sz9 rfl hj41 e41 h fun a w h => ?_
      refine ldHD t1_9 (hc41) h fun a w h => ?_
      refine mv h fun a w h => ?_
      refine mv h fun a w h => ?_
      have hj45 : k2 < (((t18.ren noS next).1).bs).length := by first | assumption | omega | (simp; done) | (simp; omega)
      obtain ⟨g45, o45, e45, hc45⟩ := SS.get (SS.up hk25 l_H25_Hg6) hj45
      refine iaE sli58 sz9 rfl hj45 e45 h fun a w h => ?_
      refine ldHD t1_9 (hc45) h fun a w h => ?_
      refine eqb h fun a w h => ?_
      refine nl0 ?_
      refine thN ?_
      refine cdB h (fun c47 => ?_) (fun c47 => ?_)
      · have d47 : (((t18.ren noS next).1).bs)[k] = (((t18.ren noS next).1).bs)[k2] := by first | (simpa using c47) | (simp at c47; omega)
        exact absurd d47 (bs_apart hfit hj41 hj45 (by omega))
      · have d47 : (((t18.ren noS next).1).bs)[k] ≠ (((t18.ren noS next).1).bs)[k2] := by first | (simpa using c47) | (simp at c47; omega)
        refine sk_ ?_
        refine ibN ?_
        refine thN ?_
        refine rg0 ?_
        refine mv h fun a w h => ?_
        refine inc ?_ h fun a w h => ?_
        · omega
        refine as_ h fun a w h => ?_
        refine nl0 ?_
        refine thN ?_
        have h2 : S E Hg6 71 [] [(5, .bool true), (6, .pointer (some ⟨g6, 0, none⟩)), (8, .slice A25 (((t18.ren noS next).1).bs).length c25), (9, .slice A27 ss27.length c27), (10, .int .i64 (k : Int)), (11, .int .i64 ((k2 + 1) : Int)), (28, .int .i64 (k : Int)), (29, .slice A25 (((t18.ren noS next).1).bs).length c25), (30, .int .i64 ((((t18.ren noS next).1).bs).length : Int)), (31, .bool (decide (((k : Int) : Int) < ((((t18.ren noS next).1).bs).length : Int))))] (L) a w := h.to 0 _
        exact ⟨(k2 + 1), ⟨by omega, h2⟩, by show _ - (k2 + 1) < _ - k2; omega⟩
    · have d36 : k ≤ k2 := by first | (simpa using c36) | (simp at c36; omega)
      refine exit_ ?_
      refine thE ?_
      refine thE ?_
      refine ibH ?_
      refine thN ?_
      refine sq ?_
      refine rg0 ?_
      refine as_ h fun a w h => ?_
      refine nl0 ?_
      refine thN ?_
      refine blk ?_
      have h2 : S E Hg6 71 [] [(5, .bool true), (6, .pointer (some ⟨g6, 0, none⟩)), (8, .slice A25 (((t18.ren noS next).1).bs).length c25), (9, .slice A27 ss27.length c27), (10, .int .i64 (k : Int)), (11, .int .i64 (k2 : Int)), (12, .int .i64 (0 : Int)), (28, .int .i64 (k : Int)), (29, .slice A25 (((t18.ren noS next).1).bs).length c25), (30, .int .i64 ((((t18.ren noS next).1).bs).length : Int)), (31, .bool (decide (((k : Int) : Int) < ((((t18.ren noS next).1).bs).length : Int)))), (34, .int .i64 (k2 : Int)), (35, .int .i64 (k : Int)), (36, .bool (decide (((k2 : Int) : Int) < (k : Int))))] (L) a w := h.to 0 _
      refine lp (β := Nat) (fun k4 a w => ((k4 ≤ ss27.length)) ∧ S E Hg6 71 [] [(5, .bool true), (6, .pointer (some ⟨g6, 0, none⟩)), (8, .slice A25 (((t18.ren noS next).1).bs).length c25), (9, .slice A27 ss27.length c27), (10, .int .i64 (k : Int)), (11, .int .i64 (k2 : Int)), (12, .int .i64 (k4 : Int)), (28, .int .i64 (k : Int)), (29, .slice A25 (((t18.ren noS next).1).bs).length c25), (30, .int .i64 ((((t18.ren noS next).1).bs).length : Int)), (31, .bool (decide (((k : Int) : Int) < ((((t18.ren noS next).1).bs).length : Int)))), (34, .int .i64 (k2 : Int)), (35, .int .i64 (k : Int)), (36, .bool (decide (((k2 : Int) : Int) < (k : Int))))] (L) a w)
        (fun k4 => ss27.length - k4) 0 ⟨Nat.zero_le _, h2⟩ ?_
      rintro k4 a w ⟨hk, h⟩
      refine sq ?_
      refine sq ?_
      refine rg0 ?_
      refine mv h fun a w h => ?_
      refine mv h fun a w h => ?_
      refine ln sli58 h fun a w h => ?_
      refine lt h fun a w h => ?_
      refine nl0 ?_
      refine thN ?_
      refine cdB h (fun c51 => ?_) (fun c51 => ?_)
      · have d51 : k4 < ss27.length := by first | (simpa using c51) | (simp at c51; omega)
        refine sk_ ?_
        refine thN ?_
        refine sq ?_
        refine blk ?_
        refine sq ?_
        refine rgd [] [] [] [3, 7] 1 mix (by kernel_rfl) h (fun a w h => ?_)
        refine mv h fun a w h => ?_
        refine mv h fun a w h => ?_
        have hj56 : k4 < ss27.length := by first | assumption | omega | (simp; done) | (simp; omega)
        obtain ⟨g56, o56, e56, hc56⟩ := SS.get (SS.up hks27 leHg6) hj56
        refine iaE sli58 sz9 rfl hj56 e56 h fun a w h => ?_
        refine ldHD t1_9 (hc56) h fun a w h => ?_
        refine mv h fun a w h => ?_
        refine mv h fun a w h => ?_
        have l_H25_Hg6 : LE H25 Hg6 := leHf27.trans leHg6
        have hj60 : k < (((t18.ren noS next).1).bs).length := by first | assumption | omega | (simp; done) | (simp; omega)
        obtain ⟨g60, o60, e60, hc60⟩ := SS.get (SS.up hk25 l_H25_Hg6) hj60
        refine iaE sli58 sz9 rfl hj60 e60 h fun a w h => ?_
        refine ldHD t1_9 (hc60) h fun a w h => ?_
        refine eqb h fun a w h => ?_
        refine nl0 ?_
        refine thN ?_
        refine cdB h (fun c62 => ?_) (fun c62 => ?_)
        · have d62 : ss27[k4] = (((t18.ren noS next).1).bs)[k] := by first | (simpa using c62) | (simp at c62; omega)
          exact absurd d62 (bs_new hfit hnum18 hs27 hj56 hj60)
        · have d62 : ss27[k4] ≠ (((t18.ren noS next).1).bs)[k] := by first | (simpa using c62) | (simp at c62; omega)
          refine sk_ ?_
          refine ibN ?_
          refine thN ?_
          refine rg0 ?_
          refine mv h fun a w h => ?_
          refine inc ?_ h fun a w h => ?_
          · omega
          refine as_ h fun a w h => ?_
          refine nl0 ?_
          refine thN ?_
          have h2 : S E Hg6 71 [] [(5, .bool true), (6, .pointer (some ⟨g6, 0, none⟩)), (8, .slice A25 (((t18.ren noS next).1).bs).length c25), (9, .slice A27 ss27.length c27), (10, .int .i64 (k : Int)), (11, .int .i64 (k2 : Int)), (12, .int .i64 ((k4 + 1) : Int)), (28, .int .i64 (k : Int)), (29, .slice A25 (((t18.ren noS next).1).bs).length c25), (30, .int .i64 ((((t18.ren noS next).1).bs).length : Int)), (31, .bool (decide (((k : Int) : Int) < ((((t18.ren noS next).1).bs).length : Int)))), (34, .int .i64 (k2 : Int)), (35, .int .i64 (k : Int)), (36, .bool (decide (((k2 : Int) : Int) < (k : Int))))] (L) a w := h.to 0 _
          exact ⟨(k4 + 1), ⟨by omega, h2⟩, by show _ - (k4 + 1) < _ - k4; omega⟩
      · have d51 : ss27.length ≤ k4 := by first | (simpa using c51) | (simp at c51; omega)
        refine exit_ ?_
        refine thE ?_
        refine thE ?_
        refine ibH ?_
        refine ibN ?_
        refine thN ?_
        refine rg0 ?_
        refine mv h fun a w h => ?_
        refine inc ?_ h fun a w h => ?_
        · omega
        refine as_ h fun a w h => ?_
        refine nl0 ?_
        refine thN ?_
        have h2 : S E Hg6 71 [] [(5, .bool true), (6, .pointer (some ⟨g6, 0, none⟩)), (8, .slice A25 (((t18.ren noS next).1).bs).length c25), (9, .slice A27 ss27.length c27), (10, .int .i64 ((k + 1) : Int))] (L) a w := h.to 0 _
        exact ⟨(k + 1), ⟨by omega, h2⟩, by show _ - (k + 1) < _ - k; omega⟩
  · have d31 : (((t18.ren noS next).1).bs).length ≤ k := by first | (simpa using c31) | (simp at c31; omega)
    refine exit_ ?_
    refine thE ?_
    refine thE ?_
    refine ibH ?_
    refine thN ?_
    refine sqc (fun a w => S E Hg6 71 [] [(5, .bool true), (6, .pointer (some ⟨g6, 0, none⟩)), (8, .slice A25 (((t18.ren noS next).1).bs).length c25), (9, .slice A27 ss27.length c27), (10, .int .i64 (k : Int)), (28, .int .i64 (k : Int)), (29, .slice A25 (((t18.ren noS next).1).bs).length c25), (30, .int .i64 ((((t18.ren noS next).1).bs).length : Int)), (31, .bool (decide (((k : Int) : Int) < ((((t18.ren noS next).1).bs).length : Int)))), (4, .bool ((((((t18.ren noS next).1).bs).length : Int) : Int) == (((t18.ren noS next).1).count : Int)))] (L) a w) ?_ ?_
    · refine rg0 ?_
      refine mv h fun a w h => ?_
      refine mv h fun a w h => ?_
      refine mv h fun a w h => ?_
      refine ln sli58 h fun a w h => ?_
      refine ldHN tN24 rfl (Hc.all (LE.rfl _ _ hfg6)) h fun a w h => ?_
      have l_H21_Hg6 : LE H21 Hg6 := (le25.trans leHf27).trans leHg6
      refine cl bod14 (Count_ok ((t18.ren noS next).1) _ E Hg6 _ ⟨A21_0_0, c21_0_0, rfl, (KS.up hk21_0_0 l_H21_Hg6)⟩ (by first | assumption | omega)) h (fun r68 H68 L68 a w le68 R h => ?_)
      obtain ⟨rfl, rfl, rfl⟩ := R
      refine eqi h fun a w h => ?_
      refine pkT h fun a w h => ?_
      refine as_ h fun a w h => ?_
      refine nl0 ?_
      refine thN ?_
      have h2 : S E Hg6 71 [] [(5, .bool true), (6, .pointer (some ⟨g6, 0, none⟩)), (8, .slice A25 (((t18.ren noS next).1).bs).length c25), (9, .slice A27 ss27.length c27), (10, .int .i64 (k : Int)), (28, .int .i64 (k : Int)), (29, .slice A25 (((t18.ren noS next).1).bs).length c25), (30, .int .i64 ((((t18.ren noS next).1).bs).length : Int)), (31, .bool (decide (((k : Int) : Int) < ((((t18.ren noS next).1).bs).length : Int)))), (4, .bool ((((((t18.ren noS next).1).bs).length : Int) : Int) == (((t18.ren noS next).1).count : Int)))] (L) a w := h.to 0 _
      exact h2
    · rintro a w h
      refine ret_ ?_
      have l_H_Hg6 : LE H Hg6 := ((((le13.trans le18).trans le21).trans le25).trans leHf27).trans leHg6
      refine fin1 4 0 h l_H_Hg6 ?_
      exact ⟨congrArg Value.bool (by rw [hbl]; simp), rfl⟩

end Go.Proofs.YtindlieilabgfaaGreatDoor
/- ScopeApart: for all arguments of bulk at most 1048576 the law answers true, and they read as before. -/
set_option linter.unusedVariables false
set_option linter.unusedSectionVars false
set_option linter.unusedSimpArgs false
set_option autoImplicit false
set_option relaxedAutoImplicit false
set_option maxRecDepth 100000
namespace Go.Proofs.YtindlieilabgfaaGreatDoor.apart
open Go X Go.ChangeShapes Go.WideShapes Go.ChangeAt Go.RowKit
theorem own : ownKnob Tryz.prog.godebug = none := by kernel_rfl
theorem contract (H : Type) (enc : TypeId × Value → H) (W : World) (base : Nat) (args : Array Value) (ds gs : List (DataW H)) (before : List MemPlace)
    (hval : ∀ (j : Nat) t v, Tryz.f4.params[j]? = some t → args[j]? = some v → Value.okWide Tryz.prog W .any base t v)
    (hW : DataW.Whole enc Tryz.prog Tryz.f4.params.toList Rows.scopeApartSpec.vars false W args.toList ds gs before) (hk : Rows.uptoSmall H (ds ++ gs) = true) (hL : laidMetH Tryz.prog Rows.scopeApartUptoRow.laid W) :
    Calls Tryz.prog 4 args W fun e W' => ∃ v, e = .returned v ∧ Rows.scopeApartSpec.post enc Tryz.prog Tryz.f4 false true false false W args v W' := by
  have hW' := hW
  obtain ⟨p, q, hA, hV, rfl, hfz, hnd⟩ := hW
  rw [show Tryz.f4.params = #[29, 56] from rfl] at hA hval
  obtain ⟨v0, vs0, d0, ds0, p0, q0, ha0, rfl, rfl, h0, r0⟩ := trodAll_cons hA
  obtain ⟨v1, vs1, d1, ds1, p1, q1, ha1, rfl, rfl, h1, r1⟩ := trodAll_cons r0
  obtain ⟨rfl, rfl, rfl⟩ := trodAll_nil r1
  obtain rfl : args = #[v0, v1] := by cases args; simp_all
  have hgs : gs = [] := by
    cases gs with
    | nil => rfl
    | cons g gs => exact (show False from hV).elim
  subst hgs
  have hbulk : Rows.uptoBulkAll [d0, d1] ≤ 1048576 := by simpa [Rows.uptoSmall] using hk
  simp only [Rows.uptoBulkAll] at hbulk
  obtain ⟨fuel0, htr0⟩ := h0
  obtain ⟨fuel1, htr1⟩ := h1
  obtain ⟨A0, c0, l0, rfl, hl0, hb0⟩ := open_u8s (e := 5) Tryz.underlying29 Tryz.underlying5 (by kernel_rfl) (cells_slice Tryz.underlying29 (hval 0 29 v0 rfl rfl)) htr0 (by show Rows.uptoBulk d0 ≤ _; omega)
  obtain ⟨n1, rfl, lo1, hi1⟩ := open_int Tryz.underlying56 (cells_int Tryz.underlying56 (hval 1 56 v1 rfl rfl)) htr1
  simp [IntKind.min, IntKind.max, IntKind.signed, IntKind.bits] at lo1 hi1
  have hlaid : Laid (HW W) := by
    obtain ⟨ps, hv, _⟩ := (hL : laidMet Tryz.prog Rows.scopeApartUptoRow.laid W)
    exact laid_of hv (by simp [Rows.scopeApartUptoRow]) (by simp [Rows.scopeApartUptoRow]) (by simp [Rows.scopeApartUptoRow]) (by simp [Rows.scopeApartUptoRow])
  refine (apart_ok l0 n1 A0 c0 W (HW W) [] hl0 hb0 (by omega) (by omega) hlaid W (st_world W)).mono fun e W' ⟨r, H', L', he, hle, hst, hr, hl⟩ => ?_
  subst hr
  refine ⟨_, he, post_true (by simpa using hW') rfl rfl rfl rfl (below_of hle hst) (by kernel_rfl) (fun t ht => ?_) rfl Tryz.underlying4⟩
  rw [show Tryz.f4.params = #[29, 56] from rfl] at ht
  have ht' : t = 29 ∨ t = 56 := by simpa using ht
  rcases ht' with rfl | rfl <;> exact ⟨by kernel_rfl, of_decide_eq_true (by kernel_rfl)⟩
/-- A WORLD FOR THE WITNESS: the settled one, the tables laid. -/
def valOf : DataW Unit → Value
  | .lit (.int k n) => .int k n
  | .lit (.string s) => str s
  | _ => .bool false
def cellsOf : DataW Unit → Array Value
  | .agg ds => (ds.map valOf).toArray
  | _ => #[]
def lay (i : Nat) (o : Obj) : Obj := match i, o with
  | 0, .cells _ t z => .cells (cellsOf Rows.laid_chancel_term_kids) t z
  | 1, .cells _ t z => .cells (cellsOf Rows.laid_chancel_term_ops) t z
  | 2, .cells _ t z => .cells (cellsOf Rows.laid_internal_strconv_uint64pow10) t z
  | 3, .cells _ t z => .cells (cellsOf Rows.laid_chancel_lex_keys) t z
  | 4, .cells _ t z => .cells (cellsOf Rows.laid_math_bits_deBruijn32tab) t z
  | 5, .cells _ t z => .cells (cellsOf Rows.laid_math_bits_deBruijn64tab) t z
  | _, o => o
noncomputable def laidWorld (os : Os) : World :=
  { World.holding Tryz.prog os ⟨#[], #[], []⟩ with heap := (World.holding Tryz.prog os ⟨#[], #[], []⟩).heap.mapIdx lay }
def arg : Array Value := #[.slice none 0 0, .int .u16 0]
theorem laid_met (os : Os) : laidMet Tryz.prog Rows.scopeApartUptoRow.laid ((laidWorld os).forCall (fun _ _ => 0) ⟨#[], arg, []⟩).memory :=
  laidMet_of_run' 8 (by kernel_rfl) (by kernel_rfl)
theorem reads (os : Os) {H : Type} (enc : TypeId × Value → H) : ∃ places, DataW.whole enc Tryz.prog ((laidWorld os).forCall (fun _ _ => 0) ⟨#[], arg, []⟩).memory Tryz.f4.params.toList Rows.scopeApartSpec.vars false arg.toList 8 = some ([.nil, .lit (.int .u16 0)], [], places) :=
  ⟨[], by kernel_rfl⟩
theorem liftedUpto (os : Os) (started : os.Started) (H : Type) (enc : TypeId × Value → H) (F : Stop.Interp) :
    ReturnsInHanded {} Tryz.checked os 4 .any ((Rows.OpenSpec.upto Rows.scopeApartSpec).preRow enc Tryz.prog Tryz.f4 Rows.scopeApartUptoRow.domain false Rows.scopeApartUptoRow.laid) (((Rows.OpenSpec.upto Rows.scopeApartSpec).at F).post enc Tryz.prog Tryz.f4 false true false false) := by
  obtain ⟨places, hx⟩ := reads os enc
  refine returnsInHanded_of_row (C := Tryz.checked) (s := Rows.OpenSpec.upto Rows.scopeApartSpec) own started (by kernel_rfl) Tryz.func4
    (witness_row_at (enc := enc) (C := Tryz.checked) false (laidWorld os) arg rfl (by kernel_rfl) (by kernel_rfl) (by kernel_rfl)
      (OpenSpec.preRow_of_cond 8 hx (by kernel_rfl) (fun k hk => by cases hk; kernel_rfl) (by kernel_rfl) (laid_met os))) ?_
  intro W base args ds gs before hval hW _ hcond _ hL _ _
  exact contract H enc W base args ds gs before hval hW (hcond _ rfl) hL
theorem saidUpto : Rows.ScopeApartUptoSaid :=
  OpenClaim.holds_of_cond 4 Tryz.f4 rfl rfl rfl rfl rfl rfl rfl ⟨rfl, rfl, rfl, rfl, rfl⟩ rfl rfl rfl rfl rfl (by kernel_rfl) Tryz.func4 (by kernel_rfl)
    (of_decide_eq_true (by kernel_rfl)) (by unfold Func.isWrapper; first | (rw [if_pos (by decide +kernel)]; kernel_rfl) | (rw [if_neg (by decide +kernel)]; exact ⟨rfl, rfl⟩))
    (fun os started H enc _ F => by rw [OpenClaim.pre_eq_preRow]; exact liftedUpto os started H enc F)
theorem plain (f : FuncId) (fn : Func) (hf : Tryz.pinned.checked.prog.funcNamed "chancel/chancellaw07.ScopeApart" = some f) (hfn : Tryz.pinned.checked.prog.funcs[f]? = some fn) :
    true = Tryz.pinned.checked.prog.looks [] ∧ ∀ (j : Nat) t, fn.params[j]? = some t → Tryz.pinned.checked.prog.wantsStandIn t = false := by
  obtain rfl : f = 4 := Option.some.inj ((show Tryz.prog.funcNamed "chancel/chancellaw07.ScopeApart" = some 4 by kernel_rfl).symm.trans hf) |>.symm
  obtain rfl : fn = Tryz.f4 := (Option.some.inj (Tryz.func4.symm.trans hfn)).symm
  refine ⟨by kernel_rfl, fun j t ht => ?_⟩
  rw [show Tryz.f4.params = #[29, 56] from rfl] at ht
  have ht' : t = 29 ∨ t = 56 := by simpa using Array.mem_of_getElem? ht
  rcases ht' with rfl | rfl <;> exact (show Tryz.prog.wantsStandIn _ = false by kernel_rfl)
/-- THE SECOND FORM's CARD. -/
theorem cardUpto : Rows.ScopeApartUptoCardSaid :=
  Claim7.holds_tied_plain_at .later [] _ _ _ _ saidUpto (fun _ h => by cases h) (by kernel_rfl) (fun _ h => by cases h) scopeApartUpto_row_tie rfl ⟨rfl, rfl⟩ (by kernel_rfl) rfl plain (by kernel_rfl)
end Go.Proofs.YtindlieilabgfaaGreatDoor.apart
