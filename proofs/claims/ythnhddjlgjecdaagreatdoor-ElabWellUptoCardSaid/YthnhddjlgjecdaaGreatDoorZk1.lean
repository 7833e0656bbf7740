/- ElabWell: for all arguments of bulk at most 1048576 the law answers true, and they read as before. -/
import Derived.Test.YthnhddjlgjecdaaGreatDoorZb6
import Derived.Tactics
import Derived.Defers
import Derived.Deep.MidRow
import Derived.Maps.AppendAt
import Derived.Below
import Derived.OrdersHeld
import Derived.KernelRfl
import Derived.Laws.Strings
import Derived.MapKept
import Derived.Shelf.Strconv.Itoa4
import Derived.Shelf.Strings.OnBuilder
import Derived.Lib.ItoaLen
import Derived.Test.YthnhddjlgjecdaaGreatDoorRows
import Derived.ChangeArms
import Derived.Lib.SmallJoins
import Derived.Deep.Strs
import Derived.Test.YthnhddjlgjecdaaGreatDoorProg
import Derived.Lib.LaidTab
import Derived.OpenShut
import Derived.FnData
import Derived.WideKeyArgs
import Derived.ChangeSame
import Derived.Deep.DeepHandedRow
import Derived.Laws.StructEq
import Derived.Shelf.Strings.Builder1
import Derived.Shelf.Strings.Builder2
import Derived.Shelf.Small.Bits
import Derived.Shelf.Strings.BuilderF
import Derived.Shelf.Strings.BuilderK
import Derived.Shelf.Strings.Builder2Cap
import Derived.Shelf.Strconv.Itoa0
import Derived.Shelf.Strconv.Itoa1
import Derived.Shelf.LaysM
import Derived.Shelf.Strconv.Itoa2
import Derived.Shelf.Strconv.Itoa3
import Derived.Shelf.Sort.Plain
import Derived.Shelf.Strings.BuilderCap
import Derived.Shelf.Slices.Turned
import Derived.Shelf.Slices.In.SortNone
import Derived.Shelf.SlIter.Nil
import Derived.Shelf.SortM.Plain
import Derived.Shelf.SortM.SortNone
import Derived.Ground.GgzProg
import Derived.Ground.SlgmProg
import Derived.Shelf.Spec.SlicesGrow
import Derived.Ground.Names7Prog
import Derived.Shelf.SlIterI.Nil
import Derived.Maps.Own
import Derived.Laws.CopyRow
import Derived.Lib.AppendZerosOnto
import Derived.Lib.Overlaps
import Derived.Laws.Externs
import Derived.Recover
import Derived.Test.YthnhddjlgjecdaaGreatDoorCards
import Derived.Test.YthnhddjlgjecdaaGreatDoorTie
import Derived.WalkKit
import Derived.ProofKit
set_option autoImplicit false
set_option linter.unnecessarySimpa false
set_option linter.unusedSectionVars false
set_option linter.unusedSimpArgs false
set_option linter.unusedVariables false
set_option maxHeartbeats 8000000
set_option maxRecDepth 100000
set_option relaxedAutoImplicit false




















































































































namespace Go.Proofs.YthnhddjlgjecdaaGreatDoor
open Go X
def FitsG (Γ : Bs → Option Sh) (I C F : List Bs) : Prop := (∀ x ∈ I, Γ x = some wh) ∧ (∀ x ∈ C, Γ x = some ce) ∧ ∀ x ∈ F, Γ x = some (fu wh wh)
theorem FitsG.int {Γ : Bs → Option Sh} {I C F : List Bs} {x : Bs} (h : FitsG Γ I C F) (hx : x ∉ C) : FitsG (updG Γ x wh) (I ++ [x]) C (lessB F x) := by
  obtain ⟨h1, h2, h3⟩ := h
  refine ⟨fun y hy => ?_, fun y hy => ?_, fun y hy => ?_⟩ <;> unfold updG <;> by_cases hc : y = x
  · rw [if_pos hc]
  · rw [if_neg hc]
    rcases List.mem_append.1 hy with hy | hy
    · exact h1 y hy
    · simp at hy; exact absurd hy hc
  · subst hc; exact absurd hy hx
  · rw [if_neg hc]; exact h2 y hy
  · exact absurd hc (mem_less hy).2
  · rw [if_neg hc]; exact h3 y (mem_less hy).1
theorem FitsG.fun {Γ : Bs → Option Sh} {I C F : List Bs} {x : Bs} (h : FitsG Γ I C F) (hx : x ∉ C) : FitsG (updG Γ x (fu wh wh)) (lessB I x) C (F ++ [x]) := by
  obtain ⟨h1, h2, h3⟩ := h
  refine ⟨fun y hy => ?_, fun y hy => ?_, fun y hy => ?_⟩ <;> unfold updG <;> by_cases hc : y = x
  · exact absurd hc (mem_less hy).2
  · rw [if_neg hc]; exact h1 y (mem_less hy).1
  · subst hc; exact absurd hy hx
  · rw [if_neg hc]; exact h2 y hy
  · rw [if_pos hc]
  · rw [if_neg hc]
    rcases List.mem_append.1 hy with hy | hy
    · exact h3 y hy
    · simp at hy; exact absurd hy hc
theorem sz_ce : ce.size = 1 := rfl
theorem wt_sc {q : Bool} {I C F : List Bs} {d : Nat} {t : Tm} (h : WT q I C F d t) : ∀ Γ, FitsG Γ I C F → (∀ c ∈ C, c ∉ uvw) → ∃ r : Tr, r.bare = t ∧ r.sc Γ ∧ r.s = if q then wh else fu wh wh := by
  induction h with
  | @num I C F d n hn => exact fun Γ _ _ => ⟨.mk 1 [] n wh zS [], rfl, by simp [Tr.sc, scL, Rule, arB, kidsL, sz_wh, sz_z], rfl⟩
  | @var I C F d x hx => exact fun Γ h _ => ⟨.mk 2 x 0 wh zS [], rfl, by simp [Tr.sc, scL, Rule, arB, kidsL, sz_wh, sz_z, h.1 x hx], rfl⟩
  | @op I C F d s a b hs ha hb iha ihb =>
    intro Γ h hc
    obtain ⟨ra, a1, a2, a3⟩ := iha Γ h hc
    obtain ⟨rb, b1, b2, b3⟩ := ihb Γ h hc
    exact ⟨.mk 12 s 0 wh zS [ra, rb], by simp [Tr.bare, bareL, a1, b1], by simp [Tr.sc, scL, Rule, arB, kidsL, sz_wh, sz_z, a2, b2, a3, b3, sAt, bnd], rfl⟩
  | @ite I C F d a b c ha hb hcc iha ihb ihc =>
    intro Γ h hc
    obtain ⟨ra, a1, a2, a3⟩ := iha Γ h hc
    obtain ⟨rb, b1, b2, b3⟩ := ihb Γ h hc
    obtain ⟨rc, c1, c2, c3⟩ := ihc Γ h hc
    exact ⟨.mk 6 [] 0 wh zS [ra, rb, rc], by simp [Tr.bare, bareL, a1, b1, c1], by simp [Tr.sc, scL, Rule, arB, kidsL, sz_wh, sz_z, a2, b2, a3, b3, c2, c3, sAt, bnd], rfl⟩
  | @ltI I C F d x a b hx ha hb iha ihb =>
    intro Γ h hc
    obtain ⟨ra, a1, a2, a3⟩ := iha Γ h hc
    obtain ⟨rb, b1, b2, b3⟩ := ihb _ (h.int fun hm => hc x hm hx) hc
    exact ⟨.mk 5 x 0 wh wh [ra, rb], by simp [Tr.bare, bareL, a1, b1], by simp [Tr.sc, scL, Rule, arB, kidsL, sz_wh, sz_z, a2, b2, a3, b3, sAt, bnd], rfl⟩
  | @ltF I C F d x a b hx ha hb iha ihb =>
    intro Γ h hc
    obtain ⟨ra, a1, a2, a3⟩ := iha Γ h hc
    obtain ⟨rb, b1, b2, b3⟩ := ihb _ (h.fun fun hm => hc x hm hx) hc
    exact ⟨.mk 5 x 0 wh (fu wh wh) [ra, rb], by simp [Tr.bare, bareL, a1, b1], by simp [Tr.sc, scL, Rule, arB, kidsL, sz_wh, sz_fu, a2, b2, a3, b3, sAt, bnd], rfl⟩
  | @get I C F d c hm =>
    exact fun Γ h hc => ⟨.mk 10 [] 0 wh zS [.mk 2 c 0 ce zS []], rfl, by simp [Tr.sc, scL, Rule, arB, kidsL, sz_wh, sz_ce, sz_z, sAt, bnd, Tr.s, h.2.1 c hm], rfl⟩
  | @set I C F d c a hm ha iha =>
    intro Γ h hc
    obtain ⟨ra, a1, a2, a3⟩ := iha Γ h hc
    exact ⟨.mk 11 [] 0 wh zS [.mk 2 c 0 ce zS [], ra], by simp [Tr.bare, bareL, a1], by simp [Tr.sc, scL, Rule, arB, kidsL, sz_wh, sz_ce, sz_z, sAt, bnd, Tr.s, h.2.1 c hm, a2]; simpa [Tr.s] using a3, rfl⟩
  | @seq I C F d a b ha hb iha ihb =>
    intro Γ h hc
    obtain ⟨ra, a1, a2, a3⟩ := iha Γ h hc
    obtain ⟨rb, b1, b2, b3⟩ := ihb Γ h hc
    exact ⟨.mk 13 [] 0 wh zS [ra, rb], by simp [Tr.bare, bareL, a1, b1], by simp [Tr.sc, scL, Rule, arB, kidsL, sz_wh, sz_z, a2, b2, a3, b3, sAt, bnd], rfl⟩
  | @rse I C F d a ha iha =>
    intro Γ h hc
    obtain ⟨ra, a1, a2, a3⟩ := iha Γ h hc
    exact ⟨.mk 8 [] 0 wh zS [ra], by simp [Tr.bare, bareL, a1], by simp [Tr.sc, scL, Rule, arB, kidsL, sz_wh, sz_z, a2, a3, sAt, bnd], rfl⟩
  | @tr I C F d x a b hx ha hb iha ihb =>
    intro Γ h hc
    obtain ⟨ra, a1, a2, a3⟩ := iha Γ h hc
    obtain ⟨rb, b1, b2, b3⟩ := ihb _ (h.int fun hm => hc x hm hx) hc
    exact ⟨.mk 9 x 0 wh wh [ra, rb], by simp [Tr.bare, bareL, a1, b1], by simp [Tr.sc, scL, Rule, arB, kidsL, sz_wh, sz_z, a2, b2, a3, b3, sAt, bnd], rfl⟩
  | @appV I C F d g a hg ha iha =>
    intro Γ h hc
    obtain ⟨ra, a1, a2, a3⟩ := iha Γ h hc
    exact ⟨.mk 4 [] 0 wh zS [.mk 2 g 0 (fu wh wh) zS [], ra], by simp [Tr.bare, bareL, a1], by simp [Tr.sc, scL, Rule, arB, kidsL, sz_wh, sz_fu, sz_z, sAt, bnd, Tr.s, h.2.2 g hg, a2]; simp [Tr.s] at a3; rw [a3], rfl⟩
  | @whl I C F d a b ha hb iha ihb =>
    intro Γ h hc
    obtain ⟨ra, a1, a2, a3⟩ := iha Γ h hc
    obtain ⟨rb, b1, b2, b3⟩ := ihb Γ h hc
    exact ⟨.mk 7 [] 0 wh zS [ra, rb], by simp [Tr.bare, bareL, a1, b1], by simp [Tr.sc, scL, Rule, arB, kidsL, sz_wh, sz_z, a2, b2, a3, b3, sAt, bnd], rfl⟩
  | @appF I C F d a b ha hb iha ihb =>
    intro Γ h hc
    obtain ⟨ra, a1, a2, a3⟩ := iha Γ h hc
    obtain ⟨rb, b1, b2, b3⟩ := ihb Γ h hc
    exact ⟨.mk 4 [] 0 wh zS [ra, rb], by simp [Tr.bare, bareL, a1, b1], by simp [Tr.sc, scL, Rule, arB, kidsL, sz_wh, sz_z, a2, b2, a3, b3, sAt, bnd], rfl⟩
  | @fn I C F d x b hx hb ihb =>
    intro Γ h hc
    obtain ⟨rb, b1, b2, b3⟩ := ihb _ (h.int fun hm => hc x hm hx) hc
    exact ⟨.mk 3 x 0 (fu wh wh) wh [rb], by simp [Tr.bare, bareL, b1], by simp [Tr.sc, scL, Rule, arB, kidsL, sz_wh, sz_fu, b2, b3, sAt, bnd], rfl⟩
def RG (σ : Bs → Option Bs) (Γ Γ' : Bs → Option Sh) (n : Int) : Prop := ∀ x s, Γ x = some s → Γ' ((σ x).getD x) = some s ∧ ∀ m, n ≤ m → (σ x).getD x ≠ Lib.itoa m
theorem RG.mono {σ : Bs → Option Bs} {Γ Γ' : Bs → Option Sh} {n m : Int} (h : RG σ Γ Γ' n) (hm : n ≤ m) : RG σ Γ Γ' m := fun x s hx => ⟨(h x s hx).1, fun k hk => (h x s hx).2 k (by omega)⟩
theorem RG.bind {σ : Bs → Option Bs} {Γ Γ' : Bs → Option Sh} {n m : Int} {x : Bs} {b : Sh} (h : RG σ Γ Γ' n) (hn : 0 ≤ n) (hm : n < m) : RG (updS σ x (Lib.itoa n)) (updG Γ x b) (updG Γ' (Lib.itoa n) b) m := fun y s hy => by
  unfold updG at hy
  unfold updS updG
  by_cases hc : y = x
  · rw [if_pos hc] at hy
    simp only [if_pos hc, Option.getD_some]
    refine ⟨by simpa using hy, fun k hk he => ?_⟩
    have := itoa_inj hn (by omega) he
    omega
  · rw [if_neg hc] at hy
    simp only [if_neg hc]
    obtain ⟨h1, h2⟩ := h y s hy
    rw [if_neg (h2 n (Int.le_refl _))]
    exact ⟨h1, fun k hk => h2 k (by omega)⟩
theorem map_s {a b : List Tr} (h : a.map Tr.s = b.map Tr.s) : a.length = b.length ∧ ∀ i, sAt a i = sAt b i := ⟨by simpa using congrArg List.length h, fun i => by unfold sAt; rw [h]⟩
mutual
theorem sc_ren : ∀ (t : Tm) (d : Tr) (σ : Bs → Option Bs) (n : Int) (Γ Γ' : Bs → Option Sh), d.bare = t → d.sc Γ → Fit n t.count → RG σ Γ Γ' n → ∃ d' : Tr, d'.bare = (t.ren σ n).1 ∧ d'.sc Γ' ∧ d'.s = d.s
  | .mk k s m ks, .mk kd nm nn ds db dk, σ, n, Γ, Γ', hb, hsc, hf, hr => by
    simp only [Tr.bare, Tm.mk.injEq] at hb
    obtain ⟨rfl, rfl, rfl, hb⟩ := hb
    simp only [Tr.sc] at hsc
    obtain ⟨ha, hru, hv, h1, h2, h3, hk⟩ := hsc
    simp only [Tm.count] at hf
    simp only [Tm.ren]
    have hn0 : 0 ≤ n := hf.1
    have hkey : ∃ dk', bareL dk' = (renL (bnd kd) nm (renN kd nm σ n) ks σ (if bnd kd then nx n else n)).1 ∧ scL (bnd kd) (renN kd nm σ n) db Γ' dk' ∧ dk'.map Tr.s = dk.map Tr.s := by
      by_cases hbk : bnd kd = true
      · rw [if_pos hbk] at hf ⊢
        have e := nx_fit (n := n) (c := countL ks) (by unfold Fit at *; omega)
        rw [e]
        refine scL_ren (bnd kd) nm _ db ks dk σ (n + 1) Γ Γ' hb hk (by unfold Fit at *; omega) (hr.mono (by omega)) fun _ => ⟨n, hn0, by omega, ?_, hr⟩
        unfold renN; rw [if_pos hbk]
      · rw [if_neg hbk] at hf ⊢
        exact scL_ren (bnd kd) nm _ db ks dk σ n Γ Γ' hb hk (by unfold Fit at *; omega) hr fun h => absurd h hbk
    obtain ⟨dk', e1, e2, e3⟩ := hkey
    obtain ⟨m1, m2⟩ := map_s e3
    refine ⟨.mk kd (renN kd nm σ n) nn ds db dk', by simp only [Tr.bare, e1], ?_, rfl⟩
    simp only [Tr.sc]
    refine ⟨by rw [m1]; exact ha, by rw [m2, m2, m2]; exact hru, fun hk2 => ?_, h1, h2, h3, e2⟩
    have := (hr _ _ (hv hk2)).1
    subst hk2
    unfold renN
    simpa [bnd] using this
theorem scL_ren (bd : Bool) (s s' : Bs) (b : Sh) : ∀ (ks : List Tm) (dk : List Tr) (σ : Bs → Option Bs) (n : Int) (Γ Γ' : Bs → Option Sh), bareL dk = ks → scL bd s b Γ dk → Fit n (countL ks) → RG σ Γ Γ' n → (bd = true → ∃ m : Int, 0 ≤ m ∧ m < n ∧ s' = Lib.itoa m ∧ RG σ Γ Γ' m) →
    ∃ dk', bareL dk' = (renL bd s s' ks σ n).1 ∧ scL bd s' b Γ' dk' ∧ dk'.map Tr.s = dk.map Tr.s
  | [], [], σ, n, Γ, Γ', hb, hk, hf, hr, hbd => ⟨[], rfl, trivial, rfl⟩
  | [], d :: dl, σ, n, Γ, Γ', hb, hk, hf, hr, hbd => by simp [bareL] at hb
  | t :: l, [], σ, n, Γ, Γ', hb, hk, hf, hr, hbd => by simp [bareL] at hb
  | t :: l, d :: dl, σ, n, Γ, Γ', hb, hk, hf, hr, hbd => by
    simp only [bareL, List.cons.injEq] at hb
    simp only [scL] at hk
    simp only [countL] at hf
    have hemp : dl.isEmpty = l.isEmpty := by
      rw [← hb.2, bareL_map]; cases dl <;> rfl
    rw [hemp] at hk
    have ft : Fit n t.count := by unfold Fit at *; omega
    obtain ⟨d', a1, a2, a3⟩ := sc_ren t d (if (bd && l.isEmpty) = true then updS σ s s' else σ) n _ (if (bd && l.isEmpty) = true then updG Γ' s' b else Γ') hb.1 hk.1 ft (by
      by_cases hc : (bd && l.isEmpty) = true
      · simp only [if_pos hc]
        simp only [Bool.and_eq_true] at hc
        obtain ⟨m, m1, m2, rfl, m4⟩ := hbd hc.1
        exact m4.bind m1 m2
      · simp only [if_neg hc]; exact hr)
    have e := ren_num t (if (bd && l.isEmpty) = true then updS σ s s' else σ) n ft
    obtain ⟨dl', b1, b2, b3⟩ := scL_ren bd s s' b l dl σ (n + t.count) Γ Γ' hb.2 hk.2 (by unfold Fit at *; omega) (hr.mono (by omega)) (fun h => by obtain ⟨m, m1, m2, m3, m4⟩ := hbd h; exact ⟨m, m1, by omega, m3, m4⟩)
    have hemp2 : dl'.isEmpty = l.isEmpty := by
      have : dl'.length = dl.length := (map_s b3).1
      rw [← hemp]
      cases dl' with
      | nil => cases dl with
        | nil => rfl
        | cons a l => simp at this
      | cons a l' => cases dl with
        | nil => simp at this
        | cons a l => rfl
    refine ⟨d' :: dl', ?_, ?_, by rw [List.map_cons, List.map_cons, a3, b3]⟩
    · simp only [renL, bareL, a1]
      rw [e, b1]
    · simp only [scL, hemp2]
      exact ⟨a2, b2⟩
end
mutual
theorem sc_hs : ∀ (t : Tr) (Γ : Bs → Option Sh), t.sc Γ → ∀ s ∈ t.hs, s.size ≤ 100
  | .mk kd nm n s b ks, Γ, h, u, hu => by
    simp only [Tr.sc] at h
    simp only [Tr.hs, List.mem_append] at hu
    rcases hu with hu | hu | hu
    · split at hu
      · simp at hu; subst hu; exact h.2.2.2.2.1
      · cases hu
    · exact scL_hs _ _ _ ks _ h.2.2.2.2.2.2 u hu
    · split at hu
      · simp at hu; subst hu; exact h.2.2.2.1
      · cases hu
theorem scL_hs (bd : Bool) (nm : Bs) (b : Sh) : ∀ (l : List Tr) (Γ : Bs → Option Sh), scL bd nm b Γ l → ∀ s ∈ hsL l, s.size ≤ 100
  | [], _, _, u, hu => by simp [hsL] at hu
  | t :: l, Γ, h, u, hu => by
    simp only [scL] at h
    simp only [hsL, List.mem_append] at hu
    rcases hu with hu | hu
    · exact sc_hs t _ h.1 u hu
    · exact scL_hs bd nm b l Γ h.2 u hu
end
theorem wt_free {q : Bool} {I C F : List Bs} {d : Nat} {t : Tm} (h : WT q I C F d t) : ∀ (b : Bs → Nat) (x : Bs), t.fr b x = true → (x ∈ I ∨ x ∈ C ∨ x ∈ F) ∧ b x = 0 := by
  have hI : ∀ {I C F : List Bs} {b : Bs → Nat} {y x : Bs}, (x ∈ I ++ [y] ∨ x ∈ C ∨ x ∈ lessB F y) ∧ inc1 b y x = 0 → (x ∈ I ∨ x ∈ C ∨ x ∈ F) ∧ b x = 0 := fun {I C F b y x} ⟨h1, h2⟩ => by
    unfold inc1 at h2
    by_cases hc : x = y
    · rw [if_pos hc] at h2; omega
    · rw [if_neg hc] at h2
      refine ⟨?_, h2⟩
      rcases h1 with h | h | h
      · rcases List.mem_append.1 h with h | h
        · exact .inl h
        · simp at h; exact absurd h hc
      · exact .inr (.inl h)
      · exact .inr (.inr (mem_less h).1)
  have hF : ∀ {I C F : List Bs} {b : Bs → Nat} {y x : Bs}, (x ∈ lessB I y ∨ x ∈ C ∨ x ∈ F ++ [y]) ∧ inc1 b y x = 0 → (x ∈ I ∨ x ∈ C ∨ x ∈ F) ∧ b x = 0 := fun {I C F b y x} ⟨h1, h2⟩ => by
    unfold inc1 at h2
    by_cases hc : x = y
    · rw [if_pos hc] at h2; omega
    · rw [if_neg hc] at h2
      refine ⟨?_, h2⟩
      rcases h1 with h | h | h
      · exact .inl (mem_less h).1
      · exact .inr (.inl h)
      · rcases List.mem_append.1 h with h | h
        · exact .inr (.inr h)
        · simp at h; exact absurd h hc
  have hV : ∀ {y : Bs} {b : Bs → Nat} {x : Bs}, (Tm.mk 2 y 0 []).fr b x = true → x = y ∧ b x = 0 := fun {y b x} h => by
    simp [Tm.fr, frL] at h
    grind
  induction h with
  | num n hn => intro b x h; simp [Tm.fr, frL] at h
  | var hx => intro b x h; obtain ⟨rfl, h2⟩ := hV h; exact ⟨.inl hx, h2⟩
  | op hs ha hb iha ihb => intro b x h; simp [Tm.fr, frL, bnd] at h; rcases h with h | h; exact iha b x h; exact ihb b x h
  | ite ha hb hcc iha ihb ihc => intro b x h; simp [Tm.fr, frL, bnd] at h; rcases h with h | h | h; exact iha b x h; exact ihb b x h; exact ihc b x h
  | ltI hx ha hb iha ihb => intro b x h; simp [Tm.fr, frL, bnd] at h; rcases h with h | h; exact iha b x h; exact hI (ihb _ x h)
  | ltF hx ha hb iha ihb => intro b x h; simp [Tm.fr, frL, bnd] at h; rcases h with h | h; exact iha b x h; exact hF (ihb _ x h)
  | get hc => intro b x h; rw [Tm.fr, frL, frL] at h; simp [bnd] at h; obtain ⟨rfl, h2⟩ := hV h; exact ⟨.inr (.inl hc), h2⟩
  | set hc ha iha => intro b x h; rw [Tm.fr, frL, frL, frL] at h; simp [bnd] at h; rcases h with h | h; obtain ⟨rfl, h2⟩ := hV h; exact ⟨.inr (.inl hc), h2⟩; exact iha b x h
  | seq ha hb iha ihb => intro b x h; simp [Tm.fr, frL, bnd] at h; rcases h with h | h; exact iha b x h; exact ihb b x h
  | rse ha iha => intro b x h; simp [Tm.fr, frL, bnd] at h; exact iha b x h
  | tr hx ha hb iha ihb => intro b x h; simp [Tm.fr, frL, bnd] at h; rcases h with h | h; exact iha b x h; exact hI (ihb _ x h)
  | appV hc ha iha => intro b x h; rw [Tm.fr, frL, frL, frL] at h; simp [bnd] at h; rcases h with h | h; obtain ⟨rfl, h2⟩ := hV h; exact ⟨.inr (.inr hc), h2⟩; exact iha b x h
  | whl ha hb iha ihb => intro b x h; simp [Tm.fr, frL, bnd] at h; rcases h with h | h; exact iha b x h; exact ihb b x h
  | appF ha hb iha ihb => intro b x h; simp [Tm.fr, frL, bnd] at h; rcases h with h | h; exact iha b x h; exact ihb b x h
  | fn hx hb ihb => intro b x h; simp [Tm.fr, frL, bnd] at h; exact hI (ihb _ x h)
theorem ceN_uvw : ∀ x ∈ ceN, x ∉ uvw := by decide
section
variable {ls : List Bs} {p : Pg}
theorem flat_len2 {α : Type} {f : α → Bs} {B : Nat} : ∀ {l : List α}, (∀ x ∈ l, (f x).length ≤ B) → (l.flatMap f).length ≤ l.length * B
  | [], _ => by simp
  | x :: l, h => by
    have h1 := h x (List.mem_cons_self ..)
    have h2 := flat_len2 (l := l) fun y hy => h y (List.mem_cons_of_mem _ hy)
    simp only [List.flatMap_cons, List.length_append, List.length_cons, Nat.succ_mul]; omega
theorem WP0.right (h : WP0 ls p) (hl : ∀ l ∈ ls, wordB l = true) (hb : p.body.right = true) (hs : p.body.show'.length ≤ 50000) : p.right = true := by
  obtain ⟨l1, l2, l3⟩ := h.len
  have dc : ∀ d, d ∈ p.inputs ∨ d ∈ p.cells → d.wrong = false ∧ d.name.length = 1 ∧ d.label.length ≤ 16 := fun d hd => by
    have hn : d.name ∈ inN ++ (ceN ++ fuN) := by
      rcases hd with hd | hd
      · exact List.mem_append_left _ (h.words.1 _ (List.mem_map_of_mem hd))
      · exact List.mem_append_right _ (List.mem_append_left _ (h.words.2.1 _ (List.mem_map_of_mem hd)))
    obtain ⟨w1, w2⟩ := allN _ hn
    have w3 := hl _ (h.lab d hd)
    refine ⟨?_, w2, word_len w3⟩
    have : 0 ≤ d.n ∧ d.n ≤ 3 := by
      rcases hd with hd | hd
      · rw [h.ni d hd]; omega
      · exact h.nc d hd
    unfold Dc.wrong
    rw [w1, w3]
    simp; omega
  have hfit : p.fits = true := by
    unfold Pg.fits Pg.bad
    simp only [Bool.and_eq_true, Bool.not_eq_true', Bool.or_eq_false_iff, List.any_eq_false, decide_eq_true_eq]
    refine ⟨⟨fun d hd => by simp [(dc d (.inl hd)).1], fun d hd => by simp [h.ni d hd], fun d hd => by simp [(dc d (.inr hd)).1], fun d hd => ?_⟩, ?_, hb⟩
    · obtain ⟨q1, _, q3, q4, _⟩ := h.def_ok d hd
      simp [Df.wrong, q1, q3, q4]
    · unfold mx3; split <;> split <;> omega
  have e1 := flat_len2 (f := Dc.inL) (B := 40) (l := p.inputs) fun d hd => by
    obtain ⟨_, q2, q3⟩ := dc d (.inl hd)
    simp only [Dc.inL, List.length_append, List.length_cons, List.length_nil]; omega
  have e2 := flat_len2 (f := Dc.cellL) (B := 40) (l := p.cells) fun d hd => by
    obtain ⟨_, q2, q3⟩ := dc d (.inr hd)
    obtain ⟨n1, n2⟩ := h.nc d hd
    have : (Lib.itoa d.n).length = 1 := by
      have := itoa5 d.n.toNat (by omega)
      rwa [show ((d.n.toNat : Nat) : Int) = d.n by omega] at this
    simp only [Dc.cellL, List.length_append, List.length_cons, List.length_nil]; omega
  have e3 := flat_len2 (f := Df.line) (B := 2700) (l := p.defs) fun d hd => by
    obtain ⟨_, q2, _, _, q5⟩ := h.def_ok d hd
    simp only [Df.line, List.length_append, List.length_cons, List.length_nil]; omega
  have hpos : 0 < p.text.length := by unfold Pg.text; simp only [List.length_append, List.length_cons, List.length_nil]; omega
  have hle : ¬ 65536 < (p.text.length : Int) := by
    unfold Pg.text
    simp only [List.length_append, List.length_cons, List.length_nil]
    have : p.inputs.length * 40 ≤ 120 := by omega
    have : p.cells.length * 40 ≤ 120 := by omega
    have : p.defs.length * 2700 ≤ 5400 := by omega
    omega
  unfold Pg.right Pg.print
  rw [if_pos hfit, decide_eq_false hle]
  simp only [Bool.false_eq_true, if_false, Bool.not_eq_true', decide_eq_false_iff_not]
  intro e; rw [e] at hpos; simp at hpos
theorem names_once : ∀ i < 4, ∀ j < 4, ∀ k < 3, ((List.range (inN.take i ++ ceN.take j ++ fuN.take k).length).any fun m => decide (indexL (inN.take i ++ ceN.take j ++ fuN.take k) ((inN.take i ++ ceN.take j ++ fuN.take k).getD m []) < (m : Int))) = false := by decide +kernel
theorem WP0.once (h : WP0 ls p) : p.twice = false := by
  obtain ⟨i, _, hi1, hi⟩ := h.i
  obtain ⟨j, hj1, hj⟩ := h.c
  obtain ⟨k, hk1, hk⟩ := h.f
  have e : p.known p.defs.length = inN.take i ++ ceN.take j ++ fuN.take k := by
    unfold Pg.known
    rw [List.take_length, List.map_append, hk]
    show p.iN ++ p.cN ++ _ = _
    rw [hi, hj]
  unfold Pg.twice
  rw [e]
  exact names_once i (by omega) j (by omega) k (by omega)
theorem strange_of_fr {t : Tm} {known : List Bs} (h : ∀ x, t.fr none0 x = true → x ∈ known) : t.strange known = false := by
  unfold Tm.strange
  rw [List.any_eq_false]
  intro x _ hc
  simp only [Bool.and_eq_true, Bool.not_eq_true'] at hc
  have := h x hc.1
  rw [List.contains_iff_mem.2 this] at hc
  cases hc.2
theorem wt_strange {q : Bool} {F : List Bs} {d k : Nat} {t : Tm} (h : WT q p.iN p.cN F d t) (hF : ∀ x ∈ F, x ∈ (p.defs.take k).map (·.name)) : t.strange (p.known k) = false := by
  refine strange_of_fr fun x hx => ?_
  unfold Pg.known
  rw [List.map_append]
  rcases (wt_free h _ _ hx).1 with h1 | h1 | h1
  · exact List.mem_append_left _ (List.mem_append_left _ h1)
  · exact List.mem_append_left _ (List.mem_append_right _ h1)
  · exact List.mem_append_right _ (hF x h1)
theorem WP0.go (h : WP0 ls p) : ∀ k, k ≤ p.defs.length → ∃ ds n, p.go k = some (ds, n)
  | 0, _ => ⟨_, _, rfl⟩
  | k + 1, hk => by
    obtain ⟨ds, n, e⟩ := h.go k (by omega)
    have hs := wt_strange (h.defs k (by omega)) (k := k) fun x hx => hx
    exact ⟨_, _, by simp only [Pg.go]; rw [e, List.getElem?_eq_getElem (show k < p.defs.length by omega)]; simp only []; rw [hs]; rfl⟩
theorem WP0.resolve (h : WP0 ls p) (hl : ∀ l ∈ ls, wordB l = true) (hb : p.body.right = true) (hs : p.body.show'.length ≤ 50000) (hf : p.body.strange (p.known p.defs.length) = false) : p.resolve.2 = 0 := by
  obtain ⟨ds, n, e⟩ := h.go p.defs.length (Nat.le_refl _)
  unfold Pg.resolve
  rw [h.right hl hb hs, h.once, e]
  simp only [Bool.not_true, Bool.false_eq_true, if_false]
  rw [hf]; rfl
theorem WP.resolve (h : WP ls p) (hl : ∀ l ∈ ls, wordB l = true) : p.resolve.2 = 0 := by
  obtain ⟨r1, r2, r3⟩ := wt_right h.body (h.toWP0.allW fun x hx => hx) (by omega)
  refine h.toWP0.resolve hl r1 (by omega) (wt_strange h.body fun x hx => ?_)
  rwa [List.take_length]
end
theorem scD_snoc : ∀ (l : List Td) (Γ : Bs → Option Sh) (d : Td), scD Γ (l ++ [d]) ↔ scD Γ l ∧ d.t.sc (afterD Γ l)
  | [], Γ, d => by simp [scD, afterD]
  | a :: l, Γ, d => by simp only [List.cons_append, scD, afterD, scD_snoc l, and_assoc]
theorem afterD_snoc : ∀ (l : List Td) (Γ : Bs → Option Sh) (d : Td), afterD Γ (l ++ [d]) = updG (afterD Γ l) d.name d.t.s
  | [], Γ, d => rfl
  | a :: l, Γ, d => by simp only [List.cons_append, afterD, afterD_snoc l]
theorem hsD_mem : ∀ (l : List Td) (Γ : Bs → Option Sh), scD Γ l → ∀ s ∈ hsD l, s.size ≤ 100
  | [], _, _, s, hs => by simp [hsD] at hs
  | d :: l, Γ, h, s, hs => by
    simp only [hsD, List.mem_append] at hs
    rcases hs with hs | hs
    · exact sc_hs _ _ h.1 s hs
    · exact hsD_mem l _ h.2 s hs
def NumFree (Γ : Bs → Option Sh) : Prop := ∀ x s, Γ x = some s → numB x = false
theorem NumFree.rg {Γ : Bs → Option Sh} (h : NumFree Γ) {n : Int} (hn : 0 ≤ n) : RG (fun _ => none) Γ Γ n := fun x s hx => ⟨hx, fun m hm e => by
  have h1 := h x s hx
  have h2 := numB_itoa (n := m) (by omega)
  rw [← e] at h2
  simp only [Option.getD_none] at h2
  rw [h1] at h2; cases h2⟩
theorem NumFree.upd {Γ : Bs → Option Sh} (h : NumFree Γ) {x : Bs} {s : Sh} (hx : numB x = false) : NumFree (updG Γ x s) := fun y u hy => by
  unfold updG at hy
  split at hy
  · rename_i e; rw [e]; exact hx
  · exact h y u hy
section
variable {ls : List Bs} {p : Pg}
theorem WP0.es0 (h : WP0 ls p) : FitsG p.es0.nm p.iN p.cN [] ∧ NumFree p.es0.nm := by
  obtain ⟨w1, w2, _⟩ := h.words
  have disj : ∀ x ∈ inN, x ∉ ceN := by decide
  refine ⟨⟨fun x hx => ?_, fun x hx => ?_, fun x hx => by cases hx⟩, fun x s hx => ?_⟩
  · simp only [Pg.es0, nmI_mem]
    rw [if_neg (fun hc => disj x (w1 x hx) (w2 x hc)), if_pos hx]
  · simp only [Pg.es0, nmI_mem]
    rw [if_pos hx]
  · simp only [Pg.es0, nmI_mem] at hx
    split at hx
    · rename_i hc
      exact wordB_num (allN x (List.mem_append_right _ (List.mem_append_left _ (w2 x hc)))).1
    · split at hx
      · rename_i hc
        exact wordB_num (allN x (List.mem_append_left _ (w1 x hc))).1
      · cases hx
theorem WP0.trees (h : WP0 ls p) : ∀ {k : Nat} {ds : List Df} {n : Int}, p.go k = some (ds, n) → ∃ (c : Nat) (tds : List Td), n = 1 + (c : Int) ∧ c ≤ 10000 * k ∧ tds.map (·.name) = ds.map (·.name) ∧ tds.map (·.t.bare) = ds.map (·.t) ∧ scD p.es0.nm tds ∧ FitsG (afterD p.es0.nm tds) p.iN p.cN ((p.defs.take k).map (·.name)) ∧ NumFree (afterD p.es0.nm tds)
  | 0, ds, n, hg => by
    simp only [Pg.go, Option.some.injEq, Prod.mk.injEq] at hg
    obtain ⟨rfl, rfl⟩ := hg
    exact ⟨0, [], rfl, by omega, rfl, rfl, trivial, h.es0.1, h.es0.2⟩
  | k + 1, ds, n, hg => by
    simp only [Pg.go] at hg
    split at hg
    · rename_i ds0 n0 d hg0 hd
      split at hg
      · cases hg
      · cases hg
        obtain ⟨c, tds, rfl, hc, t1, t2, t3, t4, t5⟩ := h.trees hg0
        obtain ⟨hk, rfl⟩ := List.getElem?_eq_some_iff.1 hd
        have hw := h.defs k hk
        obtain ⟨_, _, hr, _, _⟩ := h.def_ok _ (List.getElem_mem hk)
        have hs := (right_wrong hr).2
        have hcs := count_le_size p.defs[k].t
        have hf : Fit (1 + (c : Int)) p.defs[k].t.count := by unfold Fit; have := h.len; omega
        obtain ⟨r, b1, b2, b3⟩ := wt_sc hw _ t4 fun x hx => ceN_uvw x (h.words.2.1 x hx)
        obtain ⟨r', c1, c2, c3⟩ := sc_ren _ r (fun _ => none) (1 + (c : Int)) _ (afterD p.es0.nm tds) b1 b2 hf (t5.rg (by omega))
        have hr' : r'.s = fu wh wh := c3.trans (by simpa using b3)
        have hfn : p.defs[k].name ∈ fuN := h.words.2.2 _ (List.mem_map_of_mem (List.getElem_mem hk))
        refine ⟨c + p.defs[k].t.count, tds ++ [⟨p.defs[k].name, r'⟩], by rw [ren_num _ _ _ hf]; omega, by omega, by simp [t1], by simp [t2, c1], (scD_snoc _ _ _).2 ⟨t3, c2⟩, ?_, ?_⟩
        · rw [afterD_snoc, List.take_succ_eq_append_getElem hk, List.map_append]
          simp only [hr']
          have d1 : ∀ x ∈ fuN, x ∉ inN ∧ x ∉ ceN := by decide
          have := t4.fun (x := p.defs[k].name) (fun hm => (d1 _ hfn).2 (h.words.2.1 _ hm))
          refine ⟨fun x hx => this.1 x ?_, this.2.1, this.2.2⟩
          unfold lessB
          rw [List.mem_filter]
          refine ⟨hx, ?_⟩
          simp only [decide_eq_true_eq]
          rintro rfl
          exact (d1 _ hfn).1 (h.words.1 _ hx)
        · rw [afterD_snoc]
          exact t5.upd (wordB_num (allN _ (List.mem_append_right _ (List.mem_append_right _ hfn))).1)
    · cases hg
theorem WP.elb (h : WP ls p) (hl : ∀ l ∈ ls, wordB l = true) : p.elb.2 = 0 := by
  have hz := h.resolve hl
  obtain ⟨hr, ds, n, hg, hs, e⟩ := resolve_cases hz
  obtain ⟨c, tds, rfl, hc, t1, t2, t3, t4, t5⟩ := h.toWP0.trees hg
  obtain ⟨r, b1, b2, b3⟩ := wt_sc h.body _ (by rw [List.take_length] at t4; exact t4) fun x hx => ceN_uvw x (h.toWP0.words.2.1 x hx)
  have hcs := count_le_size p.body
  have hbs := (right_wrong (right_parts hr).2.1).2
  have hf : Fit (1 + (c : Int)) p.body.count := by unfold Fit; have := h.toWP0.len; omega
  obtain ⟨r', c1, c2, c3⟩ := sc_ren _ r (fun _ => none) (1 + (c : Int)) _ (afterD p.es0.nm tds) b1 b2 hf (t5.rg (by omega))
  have hes : p.resolve.1.es0.nm = p.es0.nm := by rw [e]; rfl
  obtain ⟨ty, ht⟩ := elabT_cpl (p := p.resolve.1) (resolve_pgok hz) (resolve_uq hz) (ds := tds) (b := r') (by rw [e]; exact t1) (by rw [e]; exact t2) (by rw [hes]; exact t3) (by rw [e]; exact c1) (by rw [hes]; exact c2) (c3.trans (by simpa using b3)) fun s hs => by
    rcases List.mem_append.1 hs with hs | hs
    · exact hsD_mem tds _ t3 s hs
    · exact sc_hs r' _ c2 s hs
  rw [elab_some hz ht]
end
end Go.Proofs.YthnhddjlgjecdaaGreatDoor








namespace Go.Proofs.YthnhddjlgjecdaaGreatDoor
open Go X
theorem two0_ok (kd : Int) (nm : Bs) (p q : Tm) (v v2 : Value) (E : World) (H : GH) (L : List It) (hp : VT H v p) (hq : VT H v2 q) : Ok Tryz.prog 28 #[.int .i64 kd, str nm, v, v2] E H L fun r H' L' => VT H' r (.mk kd nm 0 [p, q]) ∧ L = L' := by
  have := two9_ok kd nm p q v v2 (fun _ => False) E H L Sub.no (by rw [VX, wo_none]; exact hp) (by rw [VX, wo_none]; exact hq)
  simpa only [VX, wo_none] using this
theorem examples9_ok (E : World) (H : GH) (L : List It) (hL : Laid H) : Ok Tryz.prog 10 #[] E H L fun r H' L' => r = .bool true ∧ L = L' := by
  have hx1 := exE3_x.one
  have hx2 := exE3_x.two
  have hx3 := exE3_x.size
  have hx4 := exE3_x.big
  refine enter (N := 133) [] Tryz.func10 rfl rfl rfl rfl fun a w h => ?_
  refine au [1,2,0,6,0,2,7,5] h ?_; intro a w h
  refine al zr26 h fun g1 a w h => ?_
  refine au [5,5,0,2,7,5] h ?_; intro a w h
  refine al zr26 h fun g2 a w h => ?_
  refine au [5,5,0,2,3,4,3,4] h ?_; intro a w h
  refine cl bod28 (two0_ok 4 [] (Tm.mk 1 [] 1 [] : Tm) (Tm.mk 1 [] 1 [] : Tm) _ _ E H _ ⟨none, 0, rfl, RS.nil _ _ _⟩ ⟨none, 0, rfl, RS.nil _ _ _⟩) h (fun r18 H18 L18 a w le18 R h => ?_)
  obtain ⟨⟨A18_0, c18_0, rfl, hk18_0⟩, rfl⟩ := R
  refine bdl lay28 zr28 h fun a w h => ?_
  refine cl bod20 (Elab_ok exE1 _ E H18 _ ⟨none, 0, none, 0, none, 0, A18_0, c18_0, rfl, RS.nil _ _ _, RS.nil _ _ _, RS.nil _ _ _, hk18_0⟩ (hL.up le_) mildE1) h (fun r20 H20 L20 a w le20 R h => ?_)
  obtain ⟨_, rfl, ⟨A20_0, c20_0, A20_1, c20_1, A20_2, c20_2, A20_3, c20_3, rfl, hk20_0, hk20_1, hk20_2, hk20_3⟩, rfl⟩ := R
  rw [exE1_e] at h
  refine au [0,0,4,7,4,7] h ?_; intro a w h
  refine al zr59 h fun g3 a w h => ?_
  refine au [5,5,0,6,0,2,3,4,7,5] h ?_; intro a w h
  refine cl bod20 (Elab_ok exE2 _ E H20 _ ⟨none, 0, none, 0, none, 0, none, 0, rfl, RS.nil _ _ _, RS.nil _ _ _, RS.nil _ _ _, RS.nil _ _ _⟩ (hL.up le_) mildE2) h (fun r26 H26 L26 a w le26 R h => ?_)
  obtain ⟨_, rfl, ⟨A26_0, c26_0, A26_1, c26_1, A26_2, c26_2, A26_3, c26_3, rfl, hk26_0, hk26_1, hk26_2, hk26_3⟩, rfl⟩ := R
  rw [exE2_e] at h
  refine au [0,0,4,7,4,7] h ?_; intro a w h
  refine al zr59 h fun g5 a w h => ?_
  refine au [5,5,0,6,0,2,3,5,3,6] h ?_; intro a w h
  refine cl bod28 (two0_ok 12 [43] (Tm.mk 2 [120] 0 [] : Tm) (Tm.mk 1 [] 1 [] : Tm) _ _ E H26 _ ⟨none, 0, rfl, RS.nil _ _ _⟩ ⟨none, 0, rfl, RS.nil _ _ _⟩) h (fun r31 H31 L31 a w le31 R h => ?_)
  obtain ⟨⟨A31_0, c31_0, rfl, hk31_0⟩, rfl⟩ := R
  refine bsl bs24 h fun g32 a w h => ?_
  obtain ⟨Hq32, leHq32, h, hsHq32⟩ := h.fsl (R := RT) (sz := 4) (ys := [(Tm.mk 12 [43] 0 [(Tm.mk 2 [120] 0 [] : Tm), (Tm.mk 1 [] 1 [] : Tm)])]) 0 (RowR.one rfl (rt_of_vt (cs := [_, _, _, _]) ⟨_, _, rfl, hk31_0⟩)) (fun _ l cs y _ hr => RT.mono l y hr)
  refine bdl lay26 zr26 h fun a w h => ?_
  refine al zr26 h fun g7 a w h => ?_
  refine au [5,5,0,3] h ?_; intro a w h
  refine sqc (fun a w => ∃ (HJ65 : GH) (g8 : Nat) (Aj65_0 : Option Addr) (cj65_0 : Nat) (Aj65_1 : Option Addr) (cj65_1 : Nat) (Aj65_2 : Option Addr) (cj65_2 : Nat) (Aj65_3 : Option Addr) (cj65_3 : Nat), (LE Hq32 HJ65) ∧ (TdS HJ65 Aj65_0 cj65_0 exE3.elb.1.defs) ∧ (HS HJ65 Aj65_1 cj65_1 exE3.elb.1.body.s.kids) ∧ (HS HJ65 Aj65_2 cj65_2 exE3.elb.1.body.b.kids) ∧ (TrS HJ65 Aj65_3 cj65_3 exE3.elb.1.body.kids) ∧ S E HJ65 133 [] [(0, .bool false), (1, .pointer (some ⟨g1, 0, none⟩)), (2, .pointer (some ⟨g2, 0, none⟩)), (4, .int .i64 8), (6, .int .i64 5), (8, .pointer (some ⟨g8, 0, none⟩)), (9, .int .i64 0)] (.obj g8 (.cells #[.slice Aj65_0 exE3.elb.1.defs.length cj65_0, .int .i64 exE3.elb.1.body.kind, str exE3.elb.1.body.name, .int .i64 exE3.elb.1.body.n, .int .i64 exE3.elb.1.body.s.kind, .int .i64 exE3.elb.1.body.s.n, .slice Aj65_1 exE3.elb.1.body.s.kids.length cj65_1, .int .i64 exE3.elb.1.body.b.kind, .int .i64 exE3.elb.1.body.b.n, .slice Aj65_2 exE3.elb.1.body.b.kids.length cj65_2, .slice Aj65_3 exE3.elb.1.body.kids.length cj65_3] 59 (0, 0)) :: .obj g7 (.cells #[.int .i64 3, str [120], .int .i64 0, .slice (some ⟨g32, 0, none⟩) ([(Tm.mk 12 [43] 0 [(Tm.mk 2 [120] 0 [] : Tm), (Tm.mk 1 [] 1 [] : Tm)])]).length 1] 26 (0, 0)) :: .obj g5 (.cells #[.slice A26_0 exE2.elb.1.defs.length c26_0, .int .i64 exE2.elb.1.body.kind, str exE2.elb.1.body.name, .int .i64 exE2.elb.1.body.n, .int .i64 exE2.elb.1.body.s.kind, .int .i64 exE2.elb.1.body.s.n, .slice A26_1 exE2.elb.1.body.s.kids.length c26_1, .int .i64 exE2.elb.1.body.b.kind, .int .i64 exE2.elb.1.body.b.n, .slice A26_2 exE2.elb.1.body.b.kids.length c26_2, .slice A26_3 exE2.elb.1.body.kids.length c26_3] 59 (0, 0)) :: .obj g3 (.cells #[.slice A20_0 exE1.elb.1.defs.length c20_0, .int .i64 exE1.elb.1.body.kind, str exE1.elb.1.body.name, .int .i64 exE1.elb.1.body.n, .int .i64 exE1.elb.1.body.s.kind, .int .i64 exE1.elb.1.body.s.n, .slice A20_1 exE1.elb.1.body.s.kids.length c20_1, .int .i64 exE1.elb.1.body.b.kind, .int .i64 exE1.elb.1.body.b.n, .slice A20_2 exE1.elb.1.body.b.kids.length c20_2, .slice A20_3 exE1.elb.1.body.kids.length c20_3] 59 (0, 0)) :: .obj g2 (.cells #[.int .i64 2, str [120], .int .i64 0, .slice none 0 0] 26 (0, 0)) :: .obj g1 (.cells #[.int .i64 1, str [], .int .i64 1, .slice none 0 0] 26 (0, 0)) :: L) a w) ?_ ?_
  ·refine rgx [0, 4] [_, _] [0, 4] 14 mix h (fun a w h => ?_)
   refine au [8,0,4,5,2,6,8,1,7,5,2,6,8,3,7,5,2,6,8,4,4,6,2,6] h ?_; intro a w h
   refine brl3 2 5 11 true true true (by kernel_rfl) (by kernel_rfl) (by kernel_rfl) (by kernel_rfl) (fun _ => h.st.sees' LE.rfl (by simp)) ?_ ?_ ?_
   ·refine bsl bs23 h fun g37 a w h => ?_
    obtain ⟨Hq37, leHq37, h, hsHq37⟩ := h.fsl (R := RDf) (sz := 5) (ys := [(Df.mk [102] (Tm.mk 3 [120] 0 ([(Tm.mk 12 [43] 0 [(Tm.mk 2 [120] 0 [] : Tm), (Tm.mk 1 [] 1 [] : Tm)])]) : Tm) : Df)]) 0 (RowR.one rfl (⟨_, rfl, rt_of_vt (cs := [_, _, _, _]) ⟨_, _, rfl, hsHq32⟩⟩)) (fun _ l cs y _ hr => RDf.mono l hr)
    refine br0 ?_
    refine bg2 5 11 true true h ?_ ?_
    ·refine clG bod28 (two0_ok 4 [] (Tm.mk 2 [102] 0 [] : Tm) (Tm.mk 1 [] 1 [] : Tm) _ _ E Hq37 _ ⟨none, 0, rfl, RS.nil _ _ _⟩ ⟨none, 0, rfl, RS.nil _ _ _⟩) h (fun r40 H40 L40 a w le40 R h => ?_)
     obtain ⟨⟨A40_0, c40_0, rfl, hk40_0⟩, rfl⟩ := R
     refine au [2,7,8,6,7,5,2,6] h ?_; intro a w h
     have l_Hq32_H40 : LE Hq32 H40 := leHq37.trans le40
     refine bg2 7 11 true true h ?_ ?_
     ·refine clG bod20 (Elab_ok exE3 _ E H40 _ ⟨none, 0, none, 0, (some ⟨g37, 0, none⟩), 1, A40_0, c40_0, rfl, RS.nil _ _ _, RS.nil _ _ _, (FS.up hsHq37 le40), hk40_0⟩ (hL.up le_) mildE3) h (fun r42 H42 L42 a w le42 R h => ?_)
      obtain ⟨_, rfl, ⟨A42_0, c42_0, A42_1, c42_1, A42_2, c42_2, A42_3, c42_3, rfl, hk42_0, hk42_1, hk42_2, hk42_3⟩, rfl⟩ := R
      rw [exE3_e.1] at h
      refine au [2,7,8,8,0,0,2,6,8,9,4,7,2,6,8,10,4,7,2,6] h ?_; intro a w h
      have l_Hq32_H42 : LE Hq32 H42 := (leHq37.trans le40).trans le42
      refine bg1 11 true h ?_
      refine al zr59 h fun g8 a w h => ?_
      refine br0 ?_
      refine bf1 12 ?_
      refine au [5,5,2,7,8,13,0,6,2,6] h ?_; intro a w h
      refine en (by kernel_rfl) ?_
      refine thN ?_
      exact ⟨H42, g8, A42_0, c42_0, A42_1, c42_1, A42_2, c42_2, A42_3, c42_3, l_Hq32_H42, hk42_0, hk42_1, hk42_2, hk42_3, h.to 0 _⟩
     ·refine al zr59 h fun g8 a w h => ?_
      refine br0 ?_
      refine bg1 7 true h ?_
      refine clG bod20 (Elab_ok exE3 _ E H40 _ ⟨none, 0, none, 0, (some ⟨g37, 0, none⟩), 1, A40_0, c40_0, rfl, RS.nil _ _ _, RS.nil _ _ _, (FS.up hsHq37 le40), hk40_0⟩ (hL.up le_) mildE3) h (fun r42 H42 L42 a w le42 R h => ?_)
      obtain ⟨_, rfl, ⟨A42_0, c42_0, A42_1, c42_1, A42_2, c42_2, A42_3, c42_3, rfl, hk42_0, hk42_1, hk42_2, hk42_3⟩, rfl⟩ := R
      rw [exE3_e.1] at h
      refine au [2,7,8,8,0,0,2,6,8,9,4,7,2,6,8,10,4,7,2,6] h ?_; intro a w h
      have l_Hq32_H42 : LE Hq32 H42 := (leHq37.trans le40).trans le42
      refine bf1 12 ?_
      refine au [5,5,2,7,8,13,0,6,2,6] h ?_; intro a w h
      refine en (by kernel_rfl) ?_
      refine thN ?_
      exact ⟨H42, g8, A42_0, c42_0, A42_1, c42_1, A42_2, c42_2, A42_3, c42_3, l_Hq32_H42, hk42_0, hk42_1, hk42_2, hk42_3, h.to 0 _⟩
    ·refine al zr59 h fun g8 a w h => ?_
     refine br0 ?_
     refine bg1 5 true h ?_
     refine clG bod28 (two0_ok 4 [] (Tm.mk 2 [102] 0 [] : Tm) (Tm.mk 1 [] 1 [] : Tm) _ _ E Hq37 _ ⟨none, 0, rfl, RS.nil _ _ _⟩ ⟨none, 0, rfl, RS.nil _ _ _⟩) h (fun r40 H40 L40 a w le40 R h => ?_)
     obtain ⟨⟨A40_0, c40_0, rfl, hk40_0⟩, rfl⟩ := R
     refine au [2,7,8,6,7,5,2,6] h ?_; intro a w h
     refine bg1 7 true h ?_
     refine clG bod20 (Elab_ok exE3 _ E H40 _ ⟨none, 0, none, 0, (some ⟨g37, 0, none⟩), 1, A40_0, c40_0, rfl, RS.nil _ _ _, RS.nil _ _ _, (FS.up hsHq37 le40), hk40_0⟩ (hL.up le_) mildE3) h (fun r42 H42 L42 a w le42 R h => ?_)
     obtain ⟨_, rfl, ⟨A42_0, c42_0, A42_1, c42_1, A42_2, c42_2, A42_3, c42_3, rfl, hk42_0, hk42_1, hk42_2, hk42_3⟩, rfl⟩ := R
     rw [exE3_e.1] at h
     refine au [2,7,8,8,0,0,2,6,8,9,4,7,2,6,8,10,4,7,2,6] h ?_; intro a w h
     have l_Hq32_H42 : LE Hq32 H42 := (leHq37.trans le40).trans le42
     refine bf1 12 ?_
     refine au [5,5,2,7,8,13,0,6,2,6] h ?_; intro a w h
     refine en (by kernel_rfl) ?_
     refine thN ?_
     exact ⟨H42, g8, A42_0, c42_0, A42_1, c42_1, A42_2, c42_2, A42_3, c42_3, l_Hq32_H42, hk42_0, hk42_1, hk42_2, hk42_3, h.to 0 _⟩
   ·refine clG bod28 (two0_ok 4 [] (Tm.mk 2 [102] 0 [] : Tm) (Tm.mk 1 [] 1 [] : Tm) _ _ E Hq32 _ ⟨none, 0, rfl, RS.nil _ _ _⟩ ⟨none, 0, rfl, RS.nil _ _ _⟩) h (fun r40 H40 L40 a w le40 R h => ?_)
    obtain ⟨⟨A40_0, c40_0, rfl, hk40_0⟩, rfl⟩ := R
    refine br0 ?_
    refine bg2 2 11 true true h ?_ ?_
    ·refine bsl bs23 h fun g37 a w h => ?_
     obtain ⟨Hq37, leHq37, h, hsHq37⟩ := h.fsl (R := RDf) (sz := 5) (ys := [(Df.mk [102] (Tm.mk 3 [120] 0 ([(Tm.mk 12 [43] 0 [(Tm.mk 2 [120] 0 [] : Tm), (Tm.mk 1 [] 1 [] : Tm)])]) : Tm) : Df)]) 0 (RowR.one rfl (⟨_, rfl, rt_of_vt (cs := [_, _, _, _]) ⟨_, _, rfl, (KS.up hsHq32 le40)⟩⟩)) (fun _ l cs y _ hr => RDf.mono l hr)
     refine au [2,7,8,6,7,5,2,6] h ?_; intro a w h
     have l_Hq32_Hq37 : LE Hq32 Hq37 := le40.trans leHq37
     refine bg2 7 11 true true h ?_ ?_
     ·refine clG bod20 (Elab_ok exE3 _ E Hq37 _ ⟨none, 0, none, 0, (some ⟨g37, 0, none⟩), 1, A40_0, c40_0, rfl, RS.nil _ _ _, RS.nil _ _ _, hsHq37, (KS.up hk40_0 leHq37)⟩ (hL.up le_) mildE3) h (fun r42 H42 L42 a w le42 R h => ?_)
      obtain ⟨_, rfl, ⟨A42_0, c42_0, A42_1, c42_1, A42_2, c42_2, A42_3, c42_3, rfl, hk42_0, hk42_1, hk42_2, hk42_3⟩, rfl⟩ := R
      rw [exE3_e.1] at h
      refine au [2,7,8,8,0,0,2,6,8,9,4,7,2,6,8,10,4,7,2,6] h ?_; intro a w h
      have l_Hq32_H42 : LE Hq32 H42 := (le40.trans leHq37).trans le42
      refine bg1 11 true h ?_
      refine al zr59 h fun g8 a w h => ?_
      refine br0 ?_
      refine bf1 12 ?_
      refine au [5,5,2,7,8,13,0,6,2,6] h ?_; intro a w h
      refine en (by kernel_rfl) ?_
      refine thN ?_
      exact ⟨H42, g8, A42_0, c42_0, A42_1, c42_1, A42_2, c42_2, A42_3, c42_3, l_Hq32_H42, hk42_0, hk42_1, hk42_2, hk42_3, h.to 0 _⟩
     ·refine al zr59 h fun g8 a w h => ?_
      refine br0 ?_
      refine bg1 7 true h ?_
      refine clG bod20 (Elab_ok exE3 _ E Hq37 _ ⟨none, 0, none, 0, (some ⟨g37, 0, none⟩), 1, A40_0, c40_0, rfl, RS.nil _ _ _, RS.nil _ _ _, hsHq37, (KS.up hk40_0 leHq37)⟩ (hL.up le_) mildE3) h (fun r42 H42 L42 a w le42 R h => ?_)
      obtain ⟨_, rfl, ⟨A42_0, c42_0, A42_1, c42_1, A42_2, c42_2, A42_3, c42_3, rfl, hk42_0, hk42_1, hk42_2, hk42_3⟩, rfl⟩ := R
      rw [exE3_e.1] at h
      refine au [2,7,8,8,0,0,2,6,8,9,4,7,2,6,8,10,4,7,2,6] h ?_; intro a w h
      have l_Hq32_H42 : LE Hq32 H42 := (le40.trans leHq37).trans le42
      refine bf1 12 ?_
      refine au [5,5,2,7,8,13,0,6,2,6] h ?_; intro a w h
      refine en (by kernel_rfl) ?_
      refine thN ?_
      exact ⟨H42, g8, A42_0, c42_0, A42_1, c42_1, A42_2, c42_2, A42_3, c42_3, l_Hq32_H42, hk42_0, hk42_1, hk42_2, hk42_3, h.to 0 _⟩
    ·refine al zr59 h fun g8 a w h => ?_
     refine br0 ?_
     refine bg1 2 true h ?_
     refine bsl bs23 h fun g37 a w h => ?_
     obtain ⟨Hq37, leHq37, h, hsHq37⟩ := h.fsl (R := RDf) (sz := 5) (ys := [(Df.mk [102] (Tm.mk 3 [120] 0 ([(Tm.mk 12 [43] 0 [(Tm.mk 2 [120] 0 [] : Tm), (Tm.mk 1 [] 1 [] : Tm)])]) : Tm) : Df)]) 0 (RowR.one rfl (⟨_, rfl, rt_of_vt (cs := [_, _, _, _]) ⟨_, _, rfl, (KS.up hsHq32 le40)⟩⟩)) (fun _ l cs y _ hr => RDf.mono l hr)
     refine au [2,7,8,6,7,5,2,6] h ?_; intro a w h
     refine bg1 7 true h ?_
     refine clG bod20 (Elab_ok exE3 _ E Hq37 _ ⟨none, 0, none, 0, (some ⟨g37, 0, none⟩), 1, A40_0, c40_0, rfl, RS.nil _ _ _, RS.nil _ _ _, hsHq37, (KS.up hk40_0 leHq37)⟩ (hL.up le_) mildE3) h (fun r42 H42 L42 a w le42 R h => ?_)
     obtain ⟨_, rfl, ⟨A42_0, c42_0, A42_1, c42_1, A42_2, c42_2, A42_3, c42_3, rfl, hk42_0, hk42_1, hk42_2, hk42_3⟩, rfl⟩ := R
     rw [exE3_e.1] at h
     refine au [2,7,8,8,0,0,2,6,8,9,4,7,2,6,8,10,4,7,2,6] h ?_; intro a w h
     have l_Hq32_H42 : LE Hq32 H42 := (le40.trans leHq37).trans le42
     refine bf1 12 ?_
     refine au [5,5,2,7,8,13,0,6,2,6] h ?_; intro a w h
     refine en (by kernel_rfl) ?_
     refine thN ?_
     exact ⟨H42, g8, A42_0, c42_0, A42_1, c42_1, A42_2, c42_2, A42_3, c42_3, l_Hq32_H42, hk42_0, hk42_1, hk42_2, hk42_3, h.to 0 _⟩
   ·refine al zr59 h fun g8 a w h => ?_
    refine br0 ?_
    refine bg2 2 5 true true h ?_ ?_
    ·refine bsl bs23 h fun g37 a w h => ?_
     obtain ⟨Hq37, leHq37, h, hsHq37⟩ := h.fsl (R := RDf) (sz := 5) (ys := [(Df.mk [102] (Tm.mk 3 [120] 0 ([(Tm.mk 12 [43] 0 [(Tm.mk 2 [120] 0 [] : Tm), (Tm.mk 1 [] 1 [] : Tm)])]) : Tm) : Df)]) 0 (RowR.one rfl (⟨_, rfl, rt_of_vt (cs := [_, _, _, _]) ⟨_, _, rfl, hsHq32⟩⟩)) (fun _ l cs y _ hr => RDf.mono l hr)
     refine br0 ?_
     refine bg1 5 true h ?_
     refine clG bod28 (two0_ok 4 [] (Tm.mk 2 [102] 0 [] : Tm) (Tm.mk 1 [] 1 [] : Tm) _ _ E Hq37 _ ⟨none, 0, rfl, RS.nil _ _ _⟩ ⟨none, 0, rfl, RS.nil _ _ _⟩) h (fun r40 H40 L40 a w le40 R h => ?_)
     obtain ⟨⟨A40_0, c40_0, rfl, hk40_0⟩, rfl⟩ := R
     refine au [2,7,8,6,7,5,2,6] h ?_; intro a w h
     refine bg1 7 true h ?_
     refine clG bod20 (Elab_ok exE3 _ E H40 _ ⟨none, 0, none, 0, (some ⟨g37, 0, none⟩), 1, A40_0, c40_0, rfl, RS.nil _ _ _, RS.nil _ _ _, (FS.up hsHq37 le40), hk40_0⟩ (hL.up le_) mildE3) h (fun r42 H42 L42 a w le42 R h => ?_)
     obtain ⟨_, rfl, ⟨A42_0, c42_0, A42_1, c42_1, A42_2, c42_2, A42_3, c42_3, rfl, hk42_0, hk42_1, hk42_2, hk42_3⟩, rfl⟩ := R
     rw [exE3_e.1] at h
     refine au [2,7,8,8,0,0,2,6,8,9,4,7,2,6,8,10,4,7,2,6] h ?_; intro a w h
     have l_Hq32_H42 : LE Hq32 H42 := (leHq37.trans le40).trans le42
     refine bf1 12 ?_
     refine au [5,5,2,7,8,13,0,6,2,6] h ?_; intro a w h
     refine en (by kernel_rfl) ?_
     refine thN ?_
     exact ⟨H42, g8, A42_0, c42_0, A42_1, c42_1, A42_2, c42_2, A42_3, c42_3, l_Hq32_H42, hk42_0, hk42_1, hk42_2, hk42_3, h.to 0 _⟩
    ·refine clG bod28 (two0_ok 4 [] (Tm.mk 2 [102] 0 [] : Tm) (Tm.mk 1 [] 1 [] : Tm) _ _ E Hq32 _ ⟨none, 0, rfl, RS.nil _ _ _⟩ ⟨none, 0, rfl, RS.nil _ _ _⟩) h (fun r40 H40 L40 a w le40 R h => ?_)
     obtain ⟨⟨A40_0, c40_0, rfl, hk40_0⟩, rfl⟩ := R
     refine br0 ?_
     refine bg1 2 true h ?_
     refine bsl bs23 h fun g37 a w h => ?_
     obtain ⟨Hq37, leHq37, h, hsHq37⟩ := h.fsl (R := RDf) (sz := 5) (ys := [(Df.mk [102] (Tm.mk 3 [120] 0 ([(Tm.mk 12 [43] 0 [(Tm.mk 2 [120] 0 [] : Tm), (Tm.mk 1 [] 1 [] : Tm)])]) : Tm) : Df)]) 0 (RowR.one rfl (⟨_, rfl, rt_of_vt (cs := [_, _, _, _]) ⟨_, _, rfl, (KS.up hsHq32 le40)⟩⟩)) (fun _ l cs y _ hr => RDf.mono l hr)
     refine au [2,7,8,6,7,5,2,6] h ?_; intro a w h
     refine bg1 7 true h ?_
     refine clG bod20 (Elab_ok exE3 _ E Hq37 _ ⟨none, 0, none, 0, (some ⟨g37, 0, none⟩), 1, A40_0, c40_0, rfl, RS.nil _ _ _, RS.nil _ _ _, hsHq37, (KS.up hk40_0 leHq37)⟩ (hL.up le_) mildE3) h (fun r42 H42 L42 a w le42 R h => ?_)
     obtain ⟨_, rfl, ⟨A42_0, c42_0, A42_1, c42_1, A42_2, c42_2, A42_3, c42_3, rfl, hk42_0, hk42_1, hk42_2, hk42_3⟩, rfl⟩ := R
     rw [exE3_e.1] at h
     refine au [2,7,8,8,0,0,2,6,8,9,4,7,2,6,8,10,4,7,2,6] h ?_; intro a w h
     have l_Hq32_H42 : LE Hq32 H42 := (le40.trans leHq37).trans le42
     refine bf1 12 ?_
     refine au [5,5,2,7,8,13,0,6,2,6] h ?_; intro a w h
     refine en (by kernel_rfl) ?_
     refine thN ?_
     exact ⟨H42, g8, A42_0, c42_0, A42_1, c42_1, A42_2, c42_2, A42_3, c42_3, l_Hq32_H42, hk42_0, hk42_1, hk42_2, hk42_3, h.to 0 _⟩
  ·rintro a w ⟨HJ65, g8, Aj65_0, cj65_0, Aj65_1, cj65_1, Aj65_2, cj65_2, Aj65_3, cj65_3, leHJ65, hj65_0, hj65_1, hj65_2, hj65_3, h⟩
   refine au [1,2,3,7,3,7] h ?_; intro a w h
   refine cl bod28 (two0_ok 4 [] (Tm.mk 2 [120] 0 [] : Tm) (Tm.mk 2 [120] 0 [] : Tm) _ _ E HJ65 _ ⟨none, 0, rfl, RS.nil _ _ _⟩ ⟨none, 0, rfl, RS.nil _ _ _⟩) h (fun r47 H47 L47 a w le47 R h => ?_)
   obtain ⟨⟨A47_0, c47_0, rfl, hk47_0⟩, rfl⟩ := R
   refine bsl bs24 h fun g48 a w h => ?_
   obtain ⟨Hq48, leHq48, h, hsHq48⟩ := h.fsl (R := RT) (sz := 4) (ys := [(Tm.mk 4 [] 0 [(Tm.mk 2 [120] 0 [] : Tm), (Tm.mk 2 [120] 0 [] : Tm)])]) 0 (RowR.one rfl (rt_of_vt (cs := [_, _, _, _]) ⟨_, _, rfl, hk47_0⟩)) (fun _ l cs y _ hr => RT.mono l y hr)
   refine bdl lay26 zr26 h fun a w h => ?_
   refine al zr26 h fun g10 a w h => ?_
   refine au [5,5,0,2,3,3] h ?_; intro a w h
   refine ldW 6 tN26 h fun a w h => ?_
   refine cl bod28 (two0_ok 13 [] (Tm.mk 3 [120] 0 ([(Tm.mk 4 [] 0 [(Tm.mk 2 [120] 0 [] : Tm), (Tm.mk 2 [120] 0 [] : Tm)])]) : Tm) (Tm.mk 1 [] 1 [] : Tm) _ _ E Hq48 _ ⟨(some ⟨g48, 0, none⟩), 1, rfl, hsHq48⟩ ⟨none, 0, rfl, RS.nil _ _ _⟩) h (fun r53 H53 L53 a w le53 R h => ?_)
   obtain ⟨⟨A53_0, c53_0, rfl, hk53_0⟩, rfl⟩ := R
   refine bdl lay28 zr28 h fun a w h => ?_
   refine cl bod20 (Elab_ok exE4 _ E H53 _ ⟨none, 0, none, 0, none, 0, A53_0, c53_0, rfl, RS.nil _ _ _, RS.nil _ _ _, RS.nil _ _ _, hk53_0⟩ (hL.up le_) mildE4) h (fun r55 H55 L55 a w le55 R h => ?_)
   obtain ⟨_, rfl, ⟨A55_0, c55_0, A55_1, c55_1, A55_2, c55_2, A55_3, c55_3, rfl, hk55_0, hk55_1, hk55_2, hk55_3⟩, rfl⟩ := R
   rw [exE4_e] at h
   refine au [0,0,4,7,4,7] h ?_; intro a w h
   refine al zr59 h fun g11 a w h => ?_
   refine au [5,5,0,6,0,3,0,4] h ?_; intro a w h
   refine sqc (fun a w => S E H55 133 [] [(0, .bool false), (4, .int .i64 8), (6, .int .i64 5), (8, .pointer (some ⟨g8, 0, none⟩)), (9, .int .i64 0), (12, .int .i64 8), (68, .bool (((exE3.elb.1.body.kids.length : Int) : Int) != 2))] (.obj g11 (.cells #[.slice A55_0 exE4.elb.1.defs.length c55_0, .int .i64 exE4.elb.1.body.kind, str exE4.elb.1.body.name, .int .i64 exE4.elb.1.body.n, .int .i64 exE4.elb.1.body.s.kind, .int .i64 exE4.elb.1.body.s.n, .slice A55_1 exE4.elb.1.body.s.kids.length c55_1, .int .i64 exE4.elb.1.body.b.kind, .int .i64 exE4.elb.1.body.b.n, .slice A55_2 exE4.elb.1.body.b.kids.length c55_2, .slice A55_3 exE4.elb.1.body.kids.length c55_3] 59 (0, 0)) :: .obj g10 (.cells #[.int .i64 3, str [120], .int .i64 0, .slice (some ⟨g48, 0, none⟩) ([(Tm.mk 4 [] 0 [(Tm.mk 2 [120] 0 [] : Tm), (Tm.mk 2 [120] 0 [] : Tm)])]).length 1] 26 (0, 0)) :: .obj g8 (.cells #[.slice Aj65_0 exE3.elb.1.defs.length cj65_0, .int .i64 exE3.elb.1.body.kind, str exE3.elb.1.body.name, .int .i64 exE3.elb.1.body.n, .int .i64 exE3.elb.1.body.s.kind, .int .i64 exE3.elb.1.body.s.n, .slice Aj65_1 exE3.elb.1.body.s.kids.length cj65_1, .int .i64 exE3.elb.1.body.b.kind, .int .i64 exE3.elb.1.body.b.n, .slice Aj65_2 exE3.elb.1.body.b.kids.length cj65_2, .slice Aj65_3 exE3.elb.1.body.kids.length cj65_3] 59 (0, 0)) :: .obj g7 (.cells #[.int .i64 3, str [120], .int .i64 0, .slice (some ⟨g32, 0, none⟩) ([(Tm.mk 12 [43] 0 [(Tm.mk 2 [120] 0 [] : Tm), (Tm.mk 1 [] 1 [] : Tm)])]).length 1] 26 (0, 0)) :: .obj g5 (.cells #[.slice A26_0 exE2.elb.1.defs.length c26_0, .int .i64 exE2.elb.1.body.kind, str exE2.elb.1.body.name, .int .i64 exE2.elb.1.body.n, .int .i64 exE2.elb.1.body.s.kind, .int .i64 exE2.elb.1.body.s.n, .slice A26_1 exE2.elb.1.body.s.kids.length c26_1, .int .i64 exE2.elb.1.body.b.kind, .int .i64 exE2.elb.1.body.b.n, .slice A26_2 exE2.elb.1.body.b.kids.length c26_2, .slice A26_3 exE2.elb.1.body.kids.length c26_3] 59 (0, 0)) :: .obj g3 (.cells #[.slice A20_0 exE1.elb.1.defs.length c20_0, .int .i64 exE1.elb.1.body.kind, str exE1.elb.1.body.name, .int .i64 exE1.elb.1.body.n, .int .i64 exE1.elb.1.body.s.kind, .int .i64 exE1.elb.1.body.s.n, .slice A20_1 exE1.elb.1.body.s.kids.length c20_1, .int .i64 exE1.elb.1.body.b.kind, .int .i64 exE1.elb.1.body.b.n, .slice A20_2 exE1.elb.1.body.b.kids.length c20_2, .slice A20_3 exE1.elb.1.body.kids.length c20_3] 59 (0, 0)) :: .obj g2 (.cells #[.int .i64 2, str [120], .int .i64 0, .slice none 0 0] 26 (0, 0)) :: .obj g1 (.cells #[.int .i64 1, str [], .int .i64 1, .slice none 0 0] 26 (0, 0)) :: L) a w) ?_ ?_
   ·refine au [0,5,0,7,3,0,6,0,6,3] h ?_; intro a w h
    refine h.spl (fun c61 h => ?_) (fun c61 h => ?_)
    ·have d61 : exE3.elb.1.defs.length ≠ 1 := cd_ c61
     rw [hx1] at c61; simp at c61
    ·have d61 : exE3.elb.1.defs.length = 1 := cd_ c61
     refine au [0,0,0,7,0,7,3,0,6,0,6,3,5,0,0,3] h ?_; intro a w h
     exact h.to 0 _
   ·rintro a w h
    refine cdB h (fun c68 => ?_) (fun c68 => ?_)
    ·have d68 : exE3.elb.1.body.kids.length ≠ 2 := cd_ c68
     rw [hx2] at c68; simp at c68
    ·have d68 : exE3.elb.1.body.kids.length = 2 := cd_ c68
     refine au [1,8,1,0] h ?_
     refine sqc (fun a w => S E H55 133 [] [(0, .bool (exE3.elb.1.body.same exE3.elb.1.body))] (.obj g11 (.cells #[.slice A55_0 exE4.elb.1.defs.length c55_0, .int .i64 exE4.elb.1.body.kind, str exE4.elb.1.body.name, .int .i64 exE4.elb.1.body.n, .int .i64 exE4.elb.1.body.s.kind, .int .i64 exE4.elb.1.body.s.n, .slice A55_1 exE4.elb.1.body.s.kids.length c55_1, .int .i64 exE4.elb.1.body.b.kind, .int .i64 exE4.elb.1.body.b.n, .slice A55_2 exE4.elb.1.body.b.kids.length c55_2, .slice A55_3 exE4.elb.1.body.kids.length c55_3] 59 (0, 0)) :: .obj g10 (.cells #[.int .i64 3, str [120], .int .i64 0, .slice (some ⟨g48, 0, none⟩) ([(Tm.mk 4 [] 0 [(Tm.mk 2 [120] 0 [] : Tm), (Tm.mk 2 [120] 0 [] : Tm)])]).length 1] 26 (0, 0)) :: .obj g8 (.cells #[.slice Aj65_0 exE3.elb.1.defs.length cj65_0, .int .i64 exE3.elb.1.body.kind, str exE3.elb.1.body.name, .int .i64 exE3.elb.1.body.n, .int .i64 exE3.elb.1.body.s.kind, .int .i64 exE3.elb.1.body.s.n, .slice Aj65_1 exE3.elb.1.body.s.kids.length cj65_1, .int .i64 exE3.elb.1.body.b.kind, .int .i64 exE3.elb.1.body.b.n, .slice Aj65_2 exE3.elb.1.body.b.kids.length cj65_2, .slice Aj65_3 exE3.elb.1.body.kids.length cj65_3] 59 (0, 0)) :: .obj g7 (.cells #[.int .i64 3, str [120], .int .i64 0, .slice (some ⟨g32, 0, none⟩) ([(Tm.mk 12 [43] 0 [(Tm.mk 2 [120] 0 [] : Tm), (Tm.mk 1 [] 1 [] : Tm)])]).length 1] 26 (0, 0)) :: .obj g5 (.cells #[.slice A26_0 exE2.elb.1.defs.length c26_0, .int .i64 exE2.elb.1.body.kind, str exE2.elb.1.body.name, .int .i64 exE2.elb.1.body.n, .int .i64 exE2.elb.1.body.s.kind, .int .i64 exE2.elb.1.body.s.n, .slice A26_1 exE2.elb.1.body.s.kids.length c26_1, .int .i64 exE2.elb.1.body.b.kind, .int .i64 exE2.elb.1.body.b.n, .slice A26_2 exE2.elb.1.body.b.kids.length c26_2, .slice A26_3 exE2.elb.1.body.kids.length c26_3] 59 (0, 0)) :: .obj g3 (.cells #[.slice A20_0 exE1.elb.1.defs.length c20_0, .int .i64 exE1.elb.1.body.kind, str exE1.elb.1.body.name, .int .i64 exE1.elb.1.body.n, .int .i64 exE1.elb.1.body.s.kind, .int .i64 exE1.elb.1.body.s.n, .slice A20_1 exE1.elb.1.body.s.kids.length c20_1, .int .i64 exE1.elb.1.body.b.kind, .int .i64 exE1.elb.1.body.b.n, .slice A20_2 exE1.elb.1.body.b.kids.length c20_2, .slice A20_3 exE1.elb.1.body.kids.length c20_3] 59 (0, 0)) :: .obj g2 (.cells #[.int .i64 2, str [120], .int .i64 0, .slice none 0 0] 26 (0, 0)) :: .obj g1 (.cells #[.int .i64 1, str [], .int .i64 1, .slice none 0 0] 26 (0, 0)) :: L) a w) ?_ ?_
     ·refine au [0,5,0,0,6,2] h ?_; intro a w h
      refine h.spl (fun c70 h => ?_) (fun c70 h => ?_)
      ·have d70 : 8 = 8 := cd_ c70
       refine au [0,0,0,0,6,2] h ?_; intro a w h
       refine h.spl (fun c73 h => ?_) (fun c73 h => ?_)
       ·have d73 : 5 = 5 := cd_ c73
        refine au [4,8,0,0,0,0,6,2] h ?_; intro a w h
        refine h.spl (fun c77 h => ?_) (fun c77 h => ?_)
        ·have d77 : 0 = 0 := cd_ c77
         refine au [4,8,0,0,0,0,6,2] h ?_; intro a w h
         refine h.spl (fun c81 h => ?_) (fun c81 h => ?_)
         ·have d81 : 8 = 8 := cd_ c81
          refine au [4,8,0,0,0,7,3,0] h ?_; intro a w h
          have l_HJ65_H55 : LE HJ65 H55 := ((le47.trans leHq48).trans le53).trans le55
          have hj86 : 0 < exE3.elb.1.defs.length := by first | assumption | omega | (simp; done) | (simp; omega)
          obtain ⟨g86, o86, A86_0, c86_0, A86_1, c86_1, A86_2, c86_2, e86, hv86, hc86⟩ := TdS.get (TdS.up hj65_0 l_HJ65_H55) hj86
          obtain ⟨_, _, _, _, _, _, q86, hk86_0, hk86_1, hk86_2⟩ := hv86; cases q86
          refine iaE sli57 sz74 rfl hj86 e86 h fun a w h => ?_
          refine fa fl74_1 (r := o86 + 0 * 11 + 1) h fun a w h => ?_
          refine fa fl34_3 (r := o86 + 0 * 11 + 4) h fun a w h => ?_
          refine ldHN (l := [_, _, _]) tN31 rfl (sbL 4 3 hc86) h fun a w h => ?_
          refine cl bod26 (Text_ok exE3.elb.1.defs[0].t.s _ E H55 _ (hL.up le_) ⟨A86_0, c86_0, rfl, hk86_0⟩ (by rw [exE3_x.s]; decide) (fun _ x hx => by rw [exE3_x.s] at hx; simp [fu, wh, Sh.hl, hlL] at hx)) h (fun r90 H90 L90 a w le90 R h => ?_)
          obtain ⟨rfl, rfl, rfl⟩ := R
          refine eqb h fun a w h => ?_
          refine h.spl (fun c91 h => ?_) (fun c91 h => ?_)
          ·have d91 : (exE3.elb.1.defs[0].t.s.text) = [40, 105, 110, 116, 32, 45, 62, 32, 105, 110, 116, 41] := cd_ c91
           refine au [4,8,0,0,0,7,3,0] h ?_; intro a w h
           have hj96 : 0 < exE3.elb.1.defs.length := by first | assumption | omega | (simp; done) | (simp; omega)
           obtain ⟨g96, o96, A96_0, c96_0, A96_1, c96_1, A96_2, c96_2, e96, hv96, hc96⟩ := TdS.get (TdS.up hj65_0 l_HJ65_H55) hj96
           obtain ⟨_, _, _, _, _, _, q96, hk96_0, hk96_1, hk96_2⟩ := hv96; cases q96
           refine iaE sli57 sz74 rfl hj96 e96 h fun a w h => ?_
           refine fa fl74_1 (r := o96 + 0 * 11 + 1) h fun a w h => ?_
           refine fa fl34_4 (r := o96 + 0 * 11 + 7) h fun a w h => ?_
           refine fa fl31_0 (r := o96 + 0 * 11 + 7) h fun a w h => ?_
           refine ldH t1_3 (hc96 7 _ rfl) h fun a w h => ?_
           refine eqi h fun a w h => ?_
           refine h.spl (fun c101 h => ?_) (fun c101 h => ?_)
           ·have d101 : exE3.elb.1.defs[0].t.b.kind = 1 := cd_ c101
            refine au [4,8,0,0,0,7,0,7,0,7,3,0,6,2] h ?_; intro a w h
            refine h.spl (fun c108 h => ?_) (fun c108 h => ?_)
            ·have d108 : exE3.elb.1.body.s.kind = 1 := cd_ c108
             refine au [4,8,0,0,0,7,3,0] h ?_; intro a w h
             have hj113 : 0 < exE3.elb.1.defs.length := by first | assumption | omega | (simp; done) | (simp; omega)
             obtain ⟨g113, o113, A113_0, c113_0, A113_1, c113_1, A113_2, c113_2, e113, hv113, hc113⟩ := TdS.get (TdS.up hj65_0 l_HJ65_H55) hj113
             obtain ⟨_, _, _, _, _, _, q113, hk113_0, hk113_1, hk113_2⟩ := hv113; cases q113
             refine iaE sli57 sz74 rfl hj113 e113 h fun a w h => ?_
             refine fa fl74_1 (r := o113 + 0 * 11 + 1) h fun a w h => ?_
             refine fa fl34_1 (r := o113 + 0 * 11 + 2) h fun a w h => ?_
             refine ldH t1_9 (hc113 2 _ rfl) h fun a w h => ?_
             refine eqb h fun a w h => ?_
             refine h.spl (fun c117 h => ?_) (fun c117 h => ?_)
             ·have d117 : exE3.elb.1.defs[0].t.name = [49] := cd_ c117
              refine au [4,8,0,0,0,7] h ?_; intro a w h
              refine ldN (l := [_, _, _, _, _, _, _, _, _, _]) 2 tN34 h fun a w h => ?_
              refine cl bod16 (Bare_ok exE3.elb.1.body _ E H55 _ ⟨Aj65_1, cj65_1, Aj65_2, cj65_2, Aj65_3, cj65_3, rfl, (HS.up hj65_1 l_HJ65_H55), (HS.up hj65_2 l_HJ65_H55), (TrS.up hj65_3 l_HJ65_H55)⟩ (by omega)) h (fun r122 H122 L122 a w le122 R h => ?_)
              obtain ⟨⟨A122_0, c122_0, rfl, hk122_0⟩, rfl⟩ := R
              refine fld1 (r := 0) (by kernel_rfl) h fun a w h => ?_
              refine eqi h fun a w h => ?_
              refine h.spl (fun c124 h => ?_) (fun c124 h => ?_)
              ·have d124 : (exE3.elb.1.body.bare).kind = 4 := cd_ c124
               refine au [4,8,0,0,0,7] h ?_; intro a w h
               refine ldN (l := [_, _, _, _, _, _, _, _, _, _]) 2 tN34 h fun a w h => ?_
               refine fa fl59_1 (r := 1) h fun a w h => ?_
               refine ldN (l := [_, _, _, _, _, _, _, _, _, _]) 2 tN34 h fun a w h => ?_
               have l_HJ65_H122 : LE HJ65 H122 := (((le47.trans leHq48).trans le53).trans le55).trans le122
               refine cl bod11 (SameTr_ok exE3.elb.1.body exE3.elb.1.body _ _ E H122 _ ⟨Aj65_1, cj65_1, Aj65_2, cj65_2, Aj65_3, cj65_3, rfl, (HS.up hj65_1 l_HJ65_H122), (HS.up hj65_2 l_HJ65_H122), (TrS.up hj65_3 l_HJ65_H122)⟩ ⟨Aj65_1, cj65_1, Aj65_2, cj65_2, Aj65_3, cj65_3, rfl, (HS.up hj65_1 l_HJ65_H122), (HS.up hj65_2 l_HJ65_H122), (TrS.up hj65_3 l_HJ65_H122)⟩ (by omega) (by omega)) h (fun r131 H131 L131 a w le131 R h => ?_)
               obtain ⟨rfl, rfl, rfl⟩ := R
               refine au [4,8,0,6,0,3] h ?_; intro a w h
               have h := h.less le122
               exact h.to 0 _
              ·have d124 : (exE3.elb.1.body.bare).kind ≠ 4 := cd_ c124
               rw [exE3_x.bare] at c124; simp at c124
             ·have d117 : exE3.elb.1.defs[0].t.name ≠ [49] := cd_ c117
              rw [exE3_x.nm] at c117; simp at c117
            ·have d108 : exE3.elb.1.body.s.kind ≠ 1 := cd_ c108
             rw [exE3_x.bs] at c108; simp [wh, Sh.kind] at c108
           ·have d101 : exE3.elb.1.defs[0].t.b.kind ≠ 1 := cd_ c101
            rw [exE3_x.b] at c101; simp [wh, Sh.kind] at c101
          ·have d91 : (exE3.elb.1.defs[0].t.s.text) ≠ [40, 105, 110, 116, 32, 45, 62, 32, 105, 110, 116, 41] := cd_ c91
           rw [exE3_x.s, tx3] at c91; simp at c91
         ·have d81 : 8 ≠ 8 := cd_ c81
          simp at c81
        ·have d77 : 0 ≠ 0 := cd_ c77
         simp at c77
       ·have d73 : 5 ≠ 5 := cd_ c73
        simp at c73
      ·have d70 : 8 ≠ 8 := cd_ c70
       simp at c70
     ·rintro a w h
      refine ret_ ?_
      have l_H_H55 : LE H H55 := ((((((((le18.trans le20).trans le26).trans le31).trans leHq32).trans leHJ65).trans le47).trans leHq48).trans le53).trans le55
      refine fin1 0 8 h l_H_H55 ?_
      exact ⟨by rw [(tr_same_iff _ _).2 rfl], rfl⟩
theorem well_law (l : List UInt8) (n : Nat) (A : Option Addr) (c : Nat) (E : World) (H : GH) (L : List It) (hl : US H A c l) (hb : l.length < 1000000000000) (hn : n < 256) (hL : Laid H) :
    Ok Tryz.prog 6 #[.slice A l.length c, .int .u8 (n : Int)] E H L fun r H' L' => r = .bool true ∧ L = L' := by
  refine enter (N := 30) [(0, _), (1, _)] Tryz.func6 rfl rfl rfl rfl fun a w h => ?_
  refine au [1,2,0,6,0,2] h ?_; intro a w h
  refine cl bod10 (examples9_ok E H _ (hL.up le_)) h (fun r9 H9 L9 a w le9 R h => ?_)
  obtain ⟨rfl, rfl⟩ := R
  refine au [0,6,0,3,0,4,1,2,0,0,7,1,0,3,2,1,1,8,1,0,1,2] h ?_; intro a w h
  refine cl bod19 (names9_ok E H9 _) h (fun r12 H12 L12 a w le12 R h => ?_)
  obtain ⟨⟨A12, c12, rfl, hk12⟩, rfl⟩ := R
  refine au [0,0,0,0] h ?_; intro a w h
  have l_H_H12 : LE H H12 := le9.trans le12
  refine cl bod18 (well9_ok lohi l n _ _ _ _ E H12 _ hk12 (US.up hl l_H_H12) (by decide) (by decide) hb hn) h (fun r15 H15 L15 a w le15 R h => ?_)
  obtain ⟨p15, hw15, ⟨A15_0, c15_0, A15_1, c15_1, A15_2, c15_2, A15_3, c15_3, rfl, hk15_0, hk15_1, hk15_2, hk15_3⟩, rfl⟩ := R
  have hm15 := wp_mild hw15 lohi_word
  refine al zr28 h fun g6 a w h => ?_
  refine au [5,5,0,2,3,3] h ?_; intro a w h
  have hr15 := (resolve_cases (hw15.resolve lohi_word)).1
  have he15 := hw15.elb lohi_word
  refine cl bod20 (Elab_ok p15 _ E H15 _ ⟨A15_0, c15_0, A15_1, c15_1, A15_2, c15_2, A15_3, c15_3, rfl, hk15_0, hk15_1, hk15_2, hk15_3⟩ (hL.up le_) hm15) h (fun r18 H18 L18 a w le18 R h => ?_)
  obtain ⟨_, rfl, ⟨A18_0, c18_0, A18_1, c18_1, A18_2, c18_2, A18_3, c18_3, rfl, hk18_0, hk18_1, hk18_2, hk18_3⟩, rfl⟩ := R
  refine au [0,0,4,7,4,7] h ?_; intro a w h
  refine al zr59 h fun g7 a w h => ?_
  refine au [5,5,0,6,0,3] h ?_; intro a w h
  refine sqc (fun a w => S E H18 30 [] [(4, .bool ((p15.elb.2 : Int) == 0))] (.obj g7 (.cells #[.slice A18_0 p15.elb.1.defs.length c18_0, .int .i64 p15.elb.1.body.kind, str p15.elb.1.body.name, .int .i64 p15.elb.1.body.n, .int .i64 p15.elb.1.body.s.kind, .int .i64 p15.elb.1.body.s.n, .slice A18_1 p15.elb.1.body.s.kids.length c18_1, .int .i64 p15.elb.1.body.b.kind, .int .i64 p15.elb.1.body.b.n, .slice A18_2 p15.elb.1.body.b.kids.length c18_2, .slice A18_3 p15.elb.1.body.kids.length c18_3] 59 (0, 0)) :: .obj g6 (.cells #[.slice A15_0 p15.inputs.length c15_0, .slice A15_1 p15.cells.length c15_1, .slice A15_2 p15.defs.length c15_2, .int .i64 p15.body.kind, str p15.body.name, .int .i64 p15.body.n, .slice A15_3 p15.body.kids.length c15_3] 28 (0, 0)) :: L) a w) ?_ ?_
  ·refine au [0,5,0,0,0,0,3,4] h ?_; intro a w h
   refine cl bod27 (RightP_ok p15 _ E H18 _ ⟨A15_0, c15_0, A15_1, c15_1, A15_2, c15_2, A15_3, c15_3, rfl, (CS.up hk15_0 le18), (CS.up hk15_1 le18), (FS.up hk15_2 le18), (KS.up hk15_3 le18)⟩ (hL.up le_) hm15) h (fun r24 H24 L24 a w le24 R h => ?_)
   obtain ⟨rfl, rfl, rfl⟩ := R
   refine h.spl (fun c24 h => ?_) (fun c24 h => ?_)
   ·refine au [4,8,0,0,0,0,6,2,4,8,0,6,0,3] h ?_; intro a w h
    exact h.to 0 _
   ·rw [hr15] at c24; simp at c24
  ·rintro a w h
   refine ret_ ?_
   have l_H_H18 : LE H H18 := ((le9.trans le12).trans le15).trans le18
   refine fin1 4 2 h l_H_H18 ?_
   exact ⟨by rw [he15]; rfl, rfl⟩
end Go.Proofs.YthnhddjlgjecdaaGreatDoor
namespace Go.Proofs.YthnhddjlgjecdaaGreatDoor.wel
open Go X Go.ChangeShapes Go.WideShapes Go.ChangeAt Go.RowKit
theorem own : ownKnob Tryz.prog.godebug = none := by kernel_rfl
theorem contract (H : Type) (enc : TypeId × Value → H) (W : World) (base : Nat) (args : Array Value) (ds gs : List (DataW H)) (before : List MemPlace)
    (hval : ∀ (j : Nat) t v, Tryz.f6.params[j]? = some t → args[j]? = some v → Value.okWide Tryz.prog W .any base t v)
    (hW : DataW.Whole enc Tryz.prog Tryz.f6.params.toList Rows.elabWellSpec.vars false W args.toList ds gs before) (hk : Rows.uptoSmall H (ds ++ gs) = true) (hL : laidMetH Tryz.prog Rows.elabWellUptoRow.laid W) :
    Calls Tryz.prog 6 args W fun e W' => ∃ v, e = .returned v ∧ Rows.elabWellSpec.post enc Tryz.prog Tryz.f6 false true false false W args v W' := by
  have hW' := hW
  obtain ⟨p, q, hA, hV, rfl, hfz, hnd⟩ := hW
  rw [show Tryz.f6.params = #[35, 5] from rfl] at hA hval
  obtain ⟨v0, vs0, d0, ds0, p0, q0, ha0, rfl, rfl, h0, r0⟩ := trodAll_cons hA
  obtain ⟨v1, vs1, d1, ds1, p1, q1, ha1, rfl, rfl, h1, r1⟩ := trodAll_cons r0
  obtain ⟨rfl, rfl, rfl⟩ := trodAll_nil r1
  obtain rfl : args = #[v0, v1] := by cases args; simp_all
  have hgs : gs = [] := by
    cases gs with
    | nil => rfl
    | cons g gs => exact (show False from hV).elim
  subst hgs
  have hbulk : Rows.uptoBulkAll [d0, d1] ≤ 1048576 := by simpa [Rows.uptoSmall] using hk
  simp only [Rows.uptoBulkAll] at hbulk
  obtain ⟨fuel0, htr0⟩ := h0
  obtain ⟨fuel1, htr1⟩ := h1
  obtain ⟨A0, c0, l0, rfl, hl0, hb0⟩ := open_u8s (e := 5) Tryz.underlying35 Tryz.underlying5 (by kernel_rfl) (cells_slice Tryz.underlying35 (hval 0 35 v0 rfl rfl)) htr0 (by show Rows.uptoBulk d0 ≤ _; omega)
  obtain ⟨n1, rfl, lo1, hi1⟩ := open_int Tryz.underlying5 (cells_int Tryz.underlying5 (hval 1 5 v1 rfl rfl)) htr1
  obtain ⟨n1, rfl⟩ : ∃ n : Nat, n1 = (n : Int) := ⟨n1.toNat, by simp [IntKind.min, IntKind.max, IntKind.signed, IntKind.bits] at lo1; omega⟩
  simp [IntKind.min, IntKind.max, IntKind.signed, IntKind.bits] at lo1 hi1
  have hlaid : Laid (HW W) := by
    obtain ⟨ps, hv, _⟩ := (hL : laidMet Tryz.prog Rows.elabWellUptoRow.laid W)
    exact laid_of hv (by simp [Rows.elabWellUptoRow]) (by simp [Rows.elabWellUptoRow]) (by simp [Rows.elabWellUptoRow]) (by simp [Rows.elabWellUptoRow])
  refine (well_law l0 n1 A0 c0 W (HW W) [] hl0 (by omega) (by omega) hlaid W (st_world W)).mono fun e W' ⟨r, H', L', he, hle, hst, hr, hl⟩ => ?_
  subst hr
  refine ⟨_, he, post_true (by simpa using hW') rfl rfl rfl rfl (below_of hle hst) (by kernel_rfl) (fun t ht => ?_) rfl Tryz.underlying4⟩
  rw [show Tryz.f6.params = #[35, 5] from rfl] at ht
  have ht' : t = 35 ∨ t = 5 := by simpa using ht
  rcases ht' with rfl | rfl <;> exact ⟨by kernel_rfl, of_decide_eq_true (by kernel_rfl)⟩
def valOf : DataW Unit → Value
  | .lit (.int k n) => .int k n
  | .lit (.string s) => str s
  | _ => .bool false
def cellsOf : DataW Unit → Array Value
  | .agg ds => (ds.map valOf).toArray
  | _ => #[]
def lay (i : Nat) (o : Obj) : Obj := match i, o with
  | 2, .cells _ t z => .cells (cellsOf Rows.laid_chancel_term_kids) t z
  | 3, .cells _ t z => .cells (cellsOf Rows.laid_chancel_term_ops) t z
  | 1, .cells _ t z => .cells (cellsOf Rows.laid_internal_strconv_uint64pow10) t z
  | 4, .cells _ t z => .cells (cellsOf Rows.laid_chancel_lex_keys) t z
  | 5, .cells _ t z => .cells (cellsOf Rows.laid_math_bits_deBruijn32tab) t z
  | 6, .cells _ t z => .cells (cellsOf Rows.laid_math_bits_deBruijn64tab) t z
  | 0, .cells _ t z => .cells (cellsOf Rows.laid_chancel_eval_kids) t z
  | _, o => o
noncomputable def laidWorld (os : Os) : World :=
  { World.holding Tryz.prog os ⟨#[], #[], []⟩ with heap := (World.holding Tryz.prog os ⟨#[], #[], []⟩).heap.mapIdx lay }
def arg : Array Value := #[.slice none 0 0, .int .u8 0]
theorem laid_met (os : Os) : laidMet Tryz.prog Rows.elabWellUptoRow.laid ((laidWorld os).forCall (fun _ _ => 0) ⟨#[], arg, []⟩).memory :=
  laidMet_of_run' 8 (by kernel_rfl) (by kernel_rfl)
theorem reads (os : Os) {H : Type} (enc : TypeId × Value → H) : ∃ places, DataW.whole enc Tryz.prog ((laidWorld os).forCall (fun _ _ => 0) ⟨#[], arg, []⟩).memory Tryz.f6.params.toList Rows.elabWellSpec.vars false arg.toList 8 = some ([.nil, .lit (.int .u8 0)], [], places) :=
  ⟨[], by kernel_rfl⟩
theorem liftedUpto (os : Os) (started : os.Started) (H : Type) (enc : TypeId × Value → H) (F : Stop.Interp) :
    ReturnsInHanded {} Tryz.checked os 6 .any ((Rows.OpenSpec.upto Rows.elabWellSpec).preRow enc Tryz.prog Tryz.f6 Rows.elabWellUptoRow.domain false Rows.elabWellUptoRow.laid) (((Rows.OpenSpec.upto Rows.elabWellSpec).at F).post enc Tryz.prog Tryz.f6 false true false false) := by
  obtain ⟨places, hx⟩ := reads os enc
  refine returnsInHanded_of_row (C := Tryz.checked) (s := Rows.OpenSpec.upto Rows.elabWellSpec) own started (by kernel_rfl) Tryz.func6
    (witness_row_at (enc := enc) (C := Tryz.checked) false (laidWorld os) arg rfl (by kernel_rfl) (by kernel_rfl) (by kernel_rfl)
      (OpenSpec.preRow_of_cond 8 hx (by kernel_rfl) (fun k hk => by cases hk; kernel_rfl) (by kernel_rfl) (laid_met os))) ?_
  intro W base args ds gs before hval hW _ hcond _ hL _ _
  exact contract H enc W base args ds gs before hval hW (hcond _ rfl) hL
theorem andI {a b : Bool} (h : a = true) (k : b = true) : (a && b) = true := by rw [h, k]; rfl
theorem closed : joinedFacts Tryz.prog 6 Tryz.f6 (Rows.OpenSpec.upto Rows.elabWellSpec).bare Rows.elabWellUptoRow = true := by
  unfold joinedFacts
  repeat (refine andI ?_ ?_)
  all_goals (as_aux_lemma => kernel_rfl)
theorem saidUpto : Rows.ElabWellUptoSaid :=
  OpenClaim.holds_of_cond 6 Tryz.f6 rfl rfl rfl rfl rfl rfl rfl ⟨rfl, rfl, rfl, rfl, rfl⟩ rfl rfl rfl rfl rfl (by kernel_rfl) Tryz.func6 closed
    (of_decide_eq_true (by kernel_rfl)) (by unfold Func.isWrapper; first | (rw [if_pos (by decide +kernel)]; kernel_rfl) | (rw [if_neg (by decide +kernel)]; exact ⟨rfl, rfl⟩))
    (fun os started H enc _ F => by rw [OpenClaim.pre_eq_preRow]; exact liftedUpto os started H enc F)
theorem plain (f : FuncId) (fn : Func) (hf : Tryz.pinned.checked.prog.funcNamed "chancel/chancellaw09.ElabWell" = some f) (hfn : Tryz.pinned.checked.prog.funcs[f]? = some fn) :
    true = Tryz.pinned.checked.prog.looks [] ∧ ∀ (j : Nat) t, fn.params[j]? = some t → Tryz.pinned.checked.prog.wantsStandIn t = false := by
  obtain rfl : f = 6 := Option.some.inj ((show Tryz.prog.funcNamed "chancel/chancellaw09.ElabWell" = some 6 by kernel_rfl).symm.trans hf) |>.symm
  obtain rfl : fn = Tryz.f6 := (Option.some.inj (Tryz.func6.symm.trans hfn)).symm
  refine ⟨by kernel_rfl, fun j t ht => ?_⟩
  rw [show Tryz.f6.params = #[35, 5] from rfl] at ht
  have ht' : t = 35 ∨ t = 5 := by simpa using Array.mem_of_getElem? ht
  rcases ht' with rfl | rfl <;> exact (show Tryz.prog.wantsStandIn _ = false by kernel_rfl)
theorem cardUpto : Rows.ElabWellUptoCardSaid :=
  Claim7.holds_tied_plain_at .later [] _ _ _ _ saidUpto (fun _ h => by cases h) (by kernel_rfl) (fun _ h => by cases h) elabWellUpto_row_tie rfl ⟨rfl, rfl⟩ (by kernel_rfl) rfl plain (by kernel_rfl)
end Go.Proofs.YthnhddjlgjecdaaGreatDoor.wel
