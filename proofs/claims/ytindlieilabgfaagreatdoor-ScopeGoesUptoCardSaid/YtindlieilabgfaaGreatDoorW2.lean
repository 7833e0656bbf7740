/- Walks: term.Same, slices.EqualFunc. -/
import Derived.Test.YtindlieilabgfaaGreatDoorW1
set_option linter.unusedVariables false
set_option linter.unusedSimpArgs false
set_option linter.unusedSectionVars false
set_option autoImplicit false
set_option relaxedAutoImplicit false
set_option maxRecDepth 10000
namespace Go.Proofs.YtindlieilabgfaaGreatDoor
open Go X
theorem take_eq_succ {ks ms : List Tm} {k : Nat} (h : k < ks.length) (h' : k < ms.length) (e : ks.take k = ms.take k) (s : ks[k].same ms[k] = true) : ks.take (k + 1) = ms.take (k + 1) := by
  rw [List.take_succ_eq_append_getElem h, List.take_succ_eq_append_getElem h', e, (same_iff _ _).1 s]
theorem take_eq_all {ks ms : List Tm} {k : Nat} (hl : ks.length = ms.length) (hk : k = ks.length) (e : ks.take k = ms.take k) : sameL ks ms = true := by
  rw [sameL_iff]; subst hk; rw [List.take_length, hl, List.take_length] at e; exact e
theorem sameL_len {ks ms : List Tm} (h : ks.length ≠ ms.length) : sameL ks ms = false := by
  rw [Bool.eq_false_iff, ne_eq, sameL_iff]; rintro rfl; exact h rfl
theorem sameL_at {ks ms : List Tm} {k : Nat} (h : k < ks.length) (h' : k < ms.length) (s : ks[k].same ms[k] = false ∨ ks[k].same ms[k] = false) : sameL ks ms = false := by
  rw [Bool.eq_false_iff, ne_eq, sameL_iff]; rintro rfl
  have := (same_iff ks[k] ks[k]).2 rfl
  rcases s with s | s <;> rw [this] at s <;> cases s
theorem EqualFunc_ok (ks ms : List Tm) (A A' : Option Addr) (c c' : Nat) (E : World) (H : GH) (L : List It) (hks : KS H A c ks) (hms : KS H A' c' ms) (hb : ks.length < 1000000000000)
    (hf : ∀ x ∈ ks, ∀ y ∈ ms, ∀ vx vy, VT H vx x → VT H vy y → ∀ L, Ok Tryz.prog 27 #[vx, vy] E H L fun r H' L' => r = .bool (x.same y) ∧ H = H' ∧ L = L') :
    Ok Tryz.prog 56 #[.slice A ks.length c, .slice A' ms.length c', .func (.func 27) #[] #[]] E H L fun r H' L' => r = .bool (sameL ks ms) ∧ H = H' ∧ L = L' := by
  refine enter (N := 32) [(0, _), (1, _), (2, _)] Tryz.func56 rfl rfl rfl rfl fun a w h => ?_
  refine sq ?_
  refine rg0 ?_
  refine as_ h fun a w h => ?_
  refine nl0 ?_
  refine thN ?_
  refine sq ?_
  refine sq ?_
  refine rg0 ?_
  refine mv h fun a w h => ?_
  refine ln sli22 h fun a w h => ?_
  refine mv h fun a w h => ?_
  refine ln sli22 h fun a w h => ?_
  refine nei h fun a w h => ?_
  refine nl0 ?_
  refine thN ?_
  refine cdB h (fun c14 => ?_) (fun c14 => ?_)
  · have hfact : sameL ks ms = false := sameL_len (by simp at c14; omega)
    refine sq ?_
    refine rg0 ?_
    refine as_ h fun a w h => ?_
    refine nl0 ?_
    refine thN ?_
    refine ret_ ?_
    refine thR ?_
    refine fin1 6 0 h LE.rfl ?_
    exact ⟨by rw [hfact], rfl, rfl⟩
  · have hlen : ks.length = ms.length := by simp at c14; omega
    refine sk_ ?_
    refine thN ?_
    refine sq ?_
    refine sq ?_
    refine rg0 ?_
    refine mv h fun a w h => ?_
    refine ln sli22 h fun a w h => ?_
    refine mv h fun a w h => ?_
    refine nl0 ?_
    refine thN ?_
    refine blk ?_
    refine lp (β := Nat) (fun k a w => (k ≤ ks.length ∧ ks.take k = ms.take k) ∧ S E H 32 [] [(17, .int .i64 (k : Int)), (15, .slice A ks.length c), (16, .int .i64 (ks.length : Int)), (1, .slice A' ms.length c'), (2, .func (.func 27) #[] #[])] (L) a w)
      (fun k => ks.length - k) 0 ⟨⟨Nat.zero_le _, rfl⟩, h.to 0 _⟩ ?_
    rintro k a w ⟨pre, h⟩
    refine sq ?_
    refine rg0 ?_
    refine lt h fun a w h => ?_
    refine nl0 ?_
    refine thN ?_
    refine sq ?_
    refine cdB h (fun c18 => ?_) (fun c18 => ?_)
    · have c18 : k < ks.length := by simpa using c18
      have c18m : k < ms.length := by omega
      obtain ⟨g, off, A2, c2, rfl, hx, hcx⟩ := KS.get hks c18
      obtain ⟨g', off', A3, c3, rfl, hy, hcy⟩ := KS.get hms c18m
      refine sk_ ?_
      refine thN ?_
      refine sq ?_
      refine blk ?_
      refine sq ?_
      refine rg0 ?_
      refine mv h fun a w h => ?_
      refine ia sli22 sz24 rfl c18 h fun a w h => ?_
      refine ldHN tN24 rfl hcx h fun a w h => ?_
      refine al zr24 h fun g8 a w h => ?_
      refine as_ h fun a w h => ?_
      refine sw0 tN24 h fun a w h => ?_
      refine nl0 ?_
      refine thN ?_
      refine sq ?_
      refine rg0 ?_
      refine mv h fun a w h => ?_
      refine mv h fun a w h => ?_
      refine ia sli22 sz24 rfl c18m h fun a w h => ?_
      refine ldHN tN24 rfl hcy h fun a w h => ?_
      refine al zr24 h fun g9 a w h => ?_
      refine sw0 tN24 h fun a w h => ?_
      refine nl0 ?_
      refine thN ?_
      refine sq ?_
      refine rg0 ?_
      refine mv h fun a w h => ?_
      refine ldW 1 tN24 h fun a w h => ?_
      refine ldW 0 tN24 h fun a w h => ?_
      refine cl bod27 (hf _ (List.getElem_mem c18) _ (List.getElem_mem c18m) _ _ hx hy _) h fun r H1 L1 a w le R h => ?_
      obtain ⟨rfl, rfl, rfl⟩ := R
      refine nt h fun a w h => ?_
      refine nl0 ?_
      refine thN ?_
      refine cdB h (fun c30 => ?_) (fun c30 => ?_)
      · have hfact : sameL ks ms = false := sameL_at c18 c18m (by simpa using c30)
        refine sq ?_
        refine rg0 ?_
        refine as_ h fun a w h => ?_
        refine nl0 ?_
        refine thN ?_
        refine ret_ ?_
        refine ibR ?_
        refine thR ?_
        refine thR ?_
        refine ibR ?_
        refine thR ?_
        refine fin1 6 2 h LE.rfl ?_
        exact ⟨by rw [hfact], rfl, rfl⟩
      · have c30 : ks[k].same ms[k] = true := by simpa using c30
        refine sk_ ?_
        refine ibN ?_
        refine thN ?_
        refine rg0 ?_
        refine inc ?_ h fun a w h => ?_
        · omega
        refine mv h fun a w h => ?_
        refine nl0 ?_
        refine thN ?_
        exact ⟨(k + 1), ⟨⟨by omega, take_eq_succ c18 c18m pre.2 c30⟩, h.to 2 _⟩, by show _ - (k + 1) < _ - k; omega⟩
    · have hk : k = ks.length := by simp at c18; omega
      have hfact : sameL ks ms = true := take_eq_all hlen hk pre.2
      refine exit_ ?_
      refine thE ?_
      refine thE ?_
      refine ibH ?_
      refine thN ?_
      refine sq ?_
      refine rg0 ?_
      refine as_ h fun a w h => ?_
      refine nl0 ?_
      refine thN ?_
      refine ret_ ?_
      refine fin1 6 0 h LE.rfl ?_
      exact ⟨by rw [hfact], rfl, rfl⟩

theorem Same_ok : ∀ (t u : Tm) (v v' : Value) (E : World) (H : GH) (L : List It), VT H v t → VT H v' u → t.size < 1000000000000 →
    Ok Tryz.prog 27 #[v, v'] E H L fun r H' L' => r = .bool (t.same u) ∧ H = H' ∧ L = L' := by
  intro t
  induction t using Tm.ind with
  | h kd nm nn ks ih =>
  intro u v v' E H L hv hv' hb
  obtain ⟨kd', nm', nn', ms⟩ := u
  obtain ⟨A, c, rfl, hks⟩ := hv.mk
  obtain ⟨A', c', rfl, hms⟩ := hv'.mk
  simp only [Tm.size] at hb
  have hlen := length_le_sizeL ks
  refine enter (N := 31) [(0, _), (1, _)] Tryz.func27 rfl rfl rfl rfl fun a w h => ?_
  refine sq ?_
  refine rg0 ?_
  refine bxA h fun g2 a w h => ?_
  refine bxA h fun g3 a w h => ?_
  refine as_ h fun a w h => ?_
  refine nl0 ?_
  refine thN ?_
  refine sq ?_
  refine rg0 ?_
  refine fa fl24_0 (r := 0) h fun a w h => ?_
  refine ld 1 t1_3 h fun a w h => ?_
  refine fa fl24_0 (r := 0) h fun a w h => ?_
  refine ld 0 t1_3 h fun a w h => ?_
  refine eqi h fun a w h => ?_
  refine h.spl (fun c9 h => ?_) (fun c9 h => ?_)
  · refine mv h fun a w h => ?_
    refine fa fl24_1 (r := 1) h fun a w h => ?_
    refine ld 1 t1_9 h fun a w h => ?_
    refine fa fl24_1 (r := 1) h fun a w h => ?_
    refine ld 0 t1_9 h fun a w h => ?_
    refine eqb h fun a w h => ?_
    refine pkT h fun a w h => ?_
    refine h.spl (fun c16 h => ?_) (fun c16 h => ?_)
    · refine mv h fun a w h => ?_
      refine fa fl24_2 (r := 2) h fun a w h => ?_
      refine ld 1 t1_2 h fun a w h => ?_
      refine fa fl24_2 (r := 2) h fun a w h => ?_
      refine ld 0 t1_2 h fun a w h => ?_
      refine eqi h fun a w h => ?_
      refine pkT h fun a w h => ?_
      refine h.spl (fun c23 h => ?_) (fun c23 h => ?_)
      · refine mv h fun a w h => ?_
        refine fa fl24_3 (r := 3) h fun a w h => ?_
        refine ld 1 t1_22 h fun a w h => ?_
        refine fa fl24_3 (r := 3) h fun a w h => ?_
        refine ld 0 t1_22 h fun a w h => ?_
        refine cl bod56 (EqualFunc_ok ks ms A A' c c' E H _ hks hms (by omega) (fun x hx y _ vx vy hvx hvy L => ih x hx y vx vy E H L hvx hvy (by have := size_le_sizeL hx; omega))) h fun r H1 L1 a w le R h => ?_
        obtain ⟨rfl, rfl, rfl⟩ := R
        refine pkT h fun a w h => ?_
        refine as_ h fun a w h => ?_
        refine nl0 ?_
        refine thN ?_
        refine ret_ ?_
        refine fin1 4 2 h LE.rfl ?_
        exact ⟨by rw [same_mk, c9, c16, c23]; first | done | rfl, rfl, rfl⟩
      · refine mv h fun a w h => ?_
        refine sk h (k := fun a w h => ?_)
        refine sk h (k := fun a w h => ?_)
        refine sk h (k := fun a w h => ?_)
        refine sk h (k := fun a w h => ?_)
        refine sk h (k := fun a w h => ?_)
        refine pkF h fun a w h => ?_
        refine as_ h fun a w h => ?_
        refine nl0 ?_
        refine thN ?_
        refine ret_ ?_
        refine fin1 4 2 h LE.rfl ?_
        exact ⟨by rw [same_mk, c9, c16, c23]; first | done | rfl, rfl, rfl⟩
    · refine mv h fun a w h => ?_
      refine sk h (k := fun a w h => ?_)
      refine sk h (k := fun a w h => ?_)
      refine sk h (k := fun a w h => ?_)
      refine sk h (k := fun a w h => ?_)
      refine sk h (k := fun a w h => ?_)
      refine pkF h fun a w h => ?_
      refine mv h fun a w h => ?_
      refine sk h (k := fun a w h => ?_)
      refine sk h (k := fun a w h => ?_)
      refine sk h (k := fun a w h => ?_)
      refine sk h (k := fun a w h => ?_)
      refine sk h (k := fun a w h => ?_)
      refine pkF h fun a w h => ?_
      refine as_ h fun a w h => ?_
      refine nl0 ?_
      refine thN ?_
      refine ret_ ?_
      refine fin1 4 2 h LE.rfl ?_
      exact ⟨by rw [same_mk, c9, c16]; first | done | rfl, rfl, rfl⟩
  · refine mv h fun a w h => ?_
    refine sk h (k := fun a w h => ?_)
    refine sk h (k := fun a w h => ?_)
    refine sk h (k := fun a w h => ?_)
    refine sk h (k := fun a w h => ?_)
    refine sk h (k := fun a w h => ?_)
    refine pkF h fun a w h => ?_
    refine mv h fun a w h => ?_
    refine sk h (k := fun a w h => ?_)
    refine sk h (k := fun a w h => ?_)
    refine sk h (k := fun a w h => ?_)
    refine sk h (k := fun a w h => ?_)
    refine sk h (k := fun a w h => ?_)
    refine pkF h fun a w h => ?_
    refine mv h fun a w h => ?_
    refine sk h (k := fun a w h => ?_)
    refine sk h (k := fun a w h => ?_)
    refine sk h (k := fun a w h => ?_)
    refine sk h (k := fun a w h => ?_)
    refine sk h (k := fun a w h => ?_)
    refine pkF h fun a w h => ?_
    refine as_ h fun a w h => ?_
    refine nl0 ?_
    refine thN ?_
    refine ret_ ?_
    refine fin1 4 2 h LE.rfl ?_
    exact ⟨by rw [same_mk, c9]; first | done | rfl, rfl, rfl⟩
end Go.Proofs.YtindlieilabgfaaGreatDoor
