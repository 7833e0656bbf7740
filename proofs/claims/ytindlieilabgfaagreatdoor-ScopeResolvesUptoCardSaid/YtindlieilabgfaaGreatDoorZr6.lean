/- ScopeResolves: for every program of bulk at most 1048576 the law answers true, and the program reads as before. -/
import Derived.Test.YtindlieilabgfaaGreatDoorZr5
import Derived.Test.YtindlieilabgfaaGreatDoorCards
import Derived.Test.YtindlieilabgfaaGreatDoorTie
import Derived.WalkKit
import Derived.ProofKit
import Derived.OpenShut
import Derived.Deep.DeepHandedRow
/- Walk: the law ScopeGoes. -/
set_option linter.unusedVariables false
set_option linter.unusedSimpArgs false
set_option linter.unusedSectionVars false
set_option autoImplicit false
set_option relaxedAutoImplicit false
set_option maxRecDepth 10000
set_option maxHeartbeats 2000000
namespace Go.Proofs.YtindlieilabgfaaGreatDoor
open Go X
theorem go_len {p : Pg} : ∀ {m : Nat} {ds : List Df} {n : Int}, p.go m = some (ds, n) → ds.length = m
  | 0, ds, n, h => by simp [Pg.go] at h; simp [← h.1]
  | m + 1, ds, n, h => by
    simp only [Pg.go] at h
    split at h
    · rename_i ds' n' d h1 h2
      split at h
      · cases h
      · simp at h; rw [← h.1]; simp [go_len h1]
    · cases h
/-- What comes behind begins as what was ahead. -/
theorem go_pre {p : Pg} {m : Nat} {ds : List Df} {n : Int} (h : p.go m = some (ds, n)) (hm : m ≤ p.defs.length) : ∀ i, i ≤ m → ∃ ni, p.go i = some (ds.take i, ni) := by
  induction m generalizing ds n with
  | zero => intro i hi; have : i = 0 := by omega
            subst this; exact ⟨1, rfl⟩
  | succ m ih =>
    intro i hi
    have hl := go_len h
    by_cases e : i = m + 1
    · subst e; exact ⟨n, by rw [List.take_of_length_le (by omega)]; exact h⟩
    · simp only [Pg.go] at h
      split at h
      · rename_i ds' n' d h1 h2
        split at h
        · cases h
        · simp at h
          obtain ⟨ni, h3⟩ := ih h1 (by omega) i (by omega)
          have hl1 := go_len h1
          refine ⟨ni, ?_⟩
          rw [h3, ← h.1, List.take_append_of_le_length (by omega)]
      · cases h
theorem go_at {p : Pg} {m : Nat} {ds : List Df} {n : Int} (h : p.go m = some (ds, n)) (hm : m ≤ p.defs.length) {i : Nat} (hi : i < ds.length) (hi2 : i < p.defs.length) {ni : Int} (hg : p.go i = some (ds.take i, ni)) :
    ds[i] = ⟨p.defs[i].name, (p.defs[i].t.ren noS ni).1⟩ ∧ p.go (i + 1) = some (ds.take (i + 1), (p.defs[i].t.ren noS ni).2) := by
  have hl := go_len h
  obtain ⟨n1, h1⟩ := go_pre h hm (i + 1) (by omega)
  have h2 := go_succ hg hi2
  rw [h1] at h2
  split at h2
  · cases h2
  · simp only [Option.some.injEq, Prod.mk.injEq] at h2
    rw [List.take_succ_eq_append_getElem hi] at h2
    have h3 := List.append_cancel_left h2.1
    simp only [List.cons.injEq, and_true] at h3
    exact ⟨h3, by rw [h1, h2.2]; rfl⟩
theorem resolve_ok {p : Pg} (h : p.resolve.2 = 0) : ∃ ds n, p.go p.defs.length = some (ds, n) ∧ p.resolve.1 = ⟨p.inputs, p.cells, ds, (p.body.ren noS n).1⟩ := by
  unfold Pg.resolve at *
  by_cases h1 : (!p.right) = true
  · rw [if_pos h1] at h; cases h
  rw [if_neg h1] at h ⊢
  by_cases h2 : p.twice = true
  · rw [if_pos h2] at h; cases h
  rw [if_neg h2] at h ⊢
  cases h3 : p.go p.defs.length with
  | none => rw [h3] at h; cases h
  | some q =>
    obtain ⟨ds, n⟩ := q
    rw [h3] at h
    by_cases h4 : p.body.strange (p.known p.defs.length) = true
    · have h5 : (if p.body.strange (p.known p.defs.length) = true then (Pg.zero, 5) else ((⟨p.inputs, p.cells, ds, (p.body.ren (fun _ => none) n).1⟩ : Pg), 0)).2 = (0 : Int) := h
      rw [if_pos h4] at h5; cases h5
    · refine ⟨ds, n, rfl, ?_⟩
      show (if p.body.strange (p.known p.defs.length) = true then (Pg.zero, 5) else ((⟨p.inputs, p.cells, ds, (p.body.ren (fun _ => none) n).1⟩ : Pg), (0 : Int))).1 = _
      rw [if_neg h4]; rfl
theorem sub5 {H : GH} {g o : Nat} {v0 : Value} {l : List Value} (h : ∀ i u, (v0 :: l)[i]? = some u → Hc H g (o + i) u) : ∀ i u, l[i]? = some u → Hc H g (o + 1 + i) u := fun i u hu => by
  have := h (i + 1) u (by simpa using hu)
  rwa [show o + (i + 1) = o + 1 + i by omega] at this

theorem goes_ok (p : Pg) (v : Value) (E : World) (H : GH) (L : List It) (hv : VP H v p) (hL : Laid H) (hb : Mild p) : Ok Tryz.prog 7 #[v] E H L fun r H' L' => r = .bool true ∧ L' = L := by
  have hv0 := hv
  obtain ⟨A1, c1, A2, c2, A3, c3, A4, c4, rfl, hi, hc, hd, hk⟩ := hv
  have hv := hv0
  have hbody := hb.b2
  have hdefs := hb.f
  have hlf := hb.lf
  refine enter (N := 80) [(0, _)] Tryz.func7 rfl rfl rfl rfl fun a w h => ?_
  refine sq ?_
  refine rg0 ?_
  refine bxA h fun g1 a w h => ?_
  refine as_ h fun a w h => ?_
  refine nl0 ?_
  refine thN ?_
  refine sq ?_
  obtain ⟨Hf, leHf, h, hf1⟩ := h.frz 0
  have l_H_Hf : LE H Hf := leHf
  have hdf := hd.up l_H_Hf
  refine rg0 ?_
  refine cl bod9 (examples_ok E Hf _ (hL.up l_H_Hf)) h fun r12 H12 L12 a w le12 R h => ?_
  obtain ⟨hr12, hl12⟩ := R
  rw [hr12, hl12] at h
  have l_H_H12 : LE H H12 := l_H_Hf.trans le12
  have l_Hf_H12 : LE Hf H12 := le12
  refine as_ h fun a w h => ?_
  refine nl0 ?_
  refine thN ?_
  refine sq ?_
  refine sq ?_
  refine rg0 ?_
  refine mv h fun a w h => ?_
  refine nt h fun a w h => ?_
  refine nl0 ?_
  refine thN ?_
  refine cdB h (fun c14 => ?_) (fun c14 => ?_)
  · exact absurd c14 (by decide)
  · refine sk_ ?_
    refine thN ?_
    refine sq ?_
    refine rg0 ?_
    refine ldHN tN28 rfl (Hc.all (l_Hf_H12 _ _ hf1)) h fun a w h => ?_
    refine cl bod17 (Resolve_ok p _ E H12 _ (hv.mono l_H_H12) (hL.up l_H_H12) hb) h fun r17 H17 L17 a w le17 R h => ?_
    obtain ⟨v17, hr17, ⟨D1, d1, D2, d2, D3, d3, D4, d4, hv17, hq1, hq2, hq3, hq4⟩, hl17⟩ := R
    rw [hr17, hl17, hv17] at h
    have l_H_H17 : LE H H17 := l_H_H12.trans le17
    have l_Hf_H17 : LE Hf H17 := l_Hf_H12.trans le17
    have l_H12_H17 : LE H12 H17 := le17
    refine mv h fun a w h => ?_
    refine ex h fun a w h => ?_
    refine ex h fun a w h => ?_
    refine al zr28 h fun g4 a w h => ?_
    refine sw0 tN28 h fun a w h => ?_
    refine as_ h fun a w h => ?_
    refine nl0 ?_
    refine thN ?_
    refine sq ?_
    refine sq ?_
    refine rg0 ?_
    refine mv h fun a w h => ?_
    refine nei h fun a w h => ?_
    refine nl0 ?_
    refine thN ?_
    refine cdB h (fun c21 => ?_) (fun c21 => ?_)
    · refine sq ?_
      refine rg0 ?_
      refine mv h fun a w h => ?_
      refine as_ h fun a w h => ?_
      refine nl0 ?_
      refine thN ?_
      refine ret_ ?_
      refine thR ?_
      have h := h.del 0
      refine fin1 2 0 h l_H_H17 ?_
      exact ⟨rfl, rfl⟩
    · obtain ⟨ds, nl, hgo, hqe⟩ := resolve_ok (by simpa using c21)
      have hdl := go_len hgo
      rw [hqe] at h hq1 hq2 hq3 hq4
      refine sk_ ?_
      refine thN ?_
      refine sq ?_
      obtain ⟨Hg, leHg, h, hf4⟩ := h.frz 0
      have l_H_Hg : LE H Hg := l_H_H17.trans leHg
      have l_Hf_Hg : LE Hf Hg := l_Hf_H17.trans leHg
      have l_H12_Hg : LE H12 Hg := l_H12_H17.trans leHg
      have l_H17_Hg : LE H17 Hg := leHg
      refine rg0 ?_
      refine as_ h fun a w h => ?_
      refine nl0 ?_
      refine thN ?_
      refine sq ?_
      refine sq ?_
      refine rg0 ?_
      refine as_ h fun a w h => ?_
      refine nl0 ?_
      refine thN ?_
      refine blk ?_
      refine lp (β := Nat × Int × GH) (fun x a w => match x with | (k, n, H5) => (k ≤ p.defs.length ∧ LE Hg H5 ∧ p.go k = some (ds.take k, n) ∧ In64 n) ∧ S E H5 80 [] [(7, .int .i64 (k : Int)), (6, .int .i64 n), (1, .pointer (some ⟨g1, 0, none⟩)), (4, .pointer (some ⟨g4, 0, none⟩)), (3, .bool true)] (L) a w)
        (fun x => match x with | (k, n, H5) => p.defs.length - k) (0, 1, Hg) ⟨⟨Nat.zero_le _, LE.rfl, rfl, ⟨by decide, by decide⟩⟩, h.to 0 _⟩ ?_
      rintro ⟨k, n, H5⟩ a w ⟨pre, h⟩
      obtain ⟨hkk, l_Hg_H5, hgo1, hn⟩ := pre
      have l_H_H5 := l_H_Hg.trans l_Hg_H5
      have l_Hf_H5 := l_Hf_Hg.trans l_Hg_H5
      have l_H17_H5 := l_H17_Hg.trans l_Hg_H5
      refine sq ?_
      refine sq ?_
      refine rg0 ?_
      refine mv h fun a w h => ?_
      refine fa fl28_2 (r := 2) h fun a w h => ?_
      refine ldH t1_26 (Hc.of (l_Hg_H5 _ _ hf4) rfl) h fun a w h => ?_
      refine ln sli26 h fun a w h => ?_
      refine lt h fun a w h => ?_
      refine nl0 ?_
      refine thN ?_
      refine cdB h (fun c27 => ?_) (fun c27 => ?_)
      · have c27 : k < ds.length := by simpa using c27
        have c27p : k < p.defs.length := by omega
        obtain ⟨hdk, hgo2⟩ := go_at hgo (Nat.le_refl _) c27 c27p hgo1
        obtain ⟨g, off, A6, c6, e6, hvt, hcell⟩ := FS.get (FS.up hdf l_Hf_H5) c27p
        obtain ⟨_, _, e8, hkt⟩ := hvt
        cases e8
        obtain ⟨gq, oq, A7, c7, e7, hvt7, hcq⟩ := FS.get (FS.up hq3 l_H17_H5) c27
        replace e7 : D3 = some ⟨gq, oq, none⟩ := e7
        obtain ⟨_, _, e9, hkq⟩ := hvt7
        cases e9
        refine sk_ ?_
        refine thN ?_
        refine sq ?_
        refine blk ?_
        refine sq ?_
        refine rg0 ?_
        refine fa fl28_2 (r := 2) h fun a w h => ?_
        refine ldH t1_26 (Hc.of (l_Hf_H5 _ _ hf1) rfl) h fun a w h => ?_
        refine mv h fun a w h => ?_
        rw [e6] at h
        refine ia sli26 sz68 rfl c27p h fun a w h => ?_
        refine fa fl68_1 (r := off + k * 5 + 1) h fun a w h => ?_
        refine ldHN (l := [_, _, _, _]) tN24 rfl (sub5 hcell) h fun a w h => ?_
        refine mv h fun a w h => ?_
        refine cl bod10 (Rename_ok (p.defs[k].t) _ n E H5 _ (VDf.t hkt) (hL.up l_H_H5) hn ((hb.f _ (List.getElem_mem c27p)).2.2)) h fun r38 H38 L38 a w le38 R h => ?_
        obtain ⟨v38, hr38, ⟨A38, c38, hv38, hk38⟩, hl38⟩ := R
        rw [hr38, hl38, hv38] at h
        have l_H_H38 : LE H H38 := l_H_H5.trans le38
        have l_Hf_H38 : LE Hf H38 := l_Hf_H5.trans le38
        have l_H17_H38 : LE H17 H38 := l_H17_H5.trans le38
        have l_Hg_H38 : LE Hg H38 := l_Hg_H5.trans le38
        have l_H5_H38 : LE H5 H38 := le38
        have hcell := fun i u hu => (hcell i u hu).mono l_H5_H38
        have hcq := fun i u hu => (hcq i u hu).mono l_H5_H38
        refine mv h fun a w h => ?_
        refine ex h fun a w h => ?_
        refine ex h fun a w h => ?_
        refine al zr24 h fun g8 a w h => ?_
        refine sw0 tN24 h fun a w h => ?_
        refine as_ h fun a w h => ?_
        refine nl0 ?_
        refine thN ?_
        refine sq ?_
        refine sq ?_
        refine rgd [0] [_] [16] [0, 2, 6, 11, 15, 17, 21] 0 mix (by kernel_rfl) h (fun a w h => ?_)
        refine ldWD 0 tN24 h fun a w h => ?_
        refine fa fl28_2 (r := 2) h fun a w h => ?_
        refine ldHD t1_26 (Hc.of (l_Hg_H38 _ _ hf4) rfl) h fun a w h => ?_
        refine mv h fun a w h => ?_
        rw [e7] at h
        refine ia sli26 sz68 rfl c27 h fun a w h => ?_
        refine fa fl68_1 (r := oq + k * 5 + 1) h fun a w h => ?_
        refine ldHND (l := [_, _, _, _]) tN24 rfl (sub5 hcq) h fun a w h => ?_
        refine cl bod27 (Same_ok (p.defs[k].t.ren noS n).1 ds[k].t _ _ E H38 _ (⟨A38, c38, rfl, KS.up hk38 LE.rfl⟩) (VDf.t (KS.up hkq l_H5_H38)) (by rw [ren_size]; exact (hb.f _ (List.getElem_mem c27p)).2.2)) h fun r48 H48 L48 a w le48 R h => ?_
        obtain ⟨rfl, rfl, rfl⟩ := R
        rw [show (p.defs[k].t.ren noS n).1.same ds[k].t = true from (same_iff _ _).2 (by rw [hdk])] at h
        refine nt h fun a w h => ?_
        refine h.spl (fun c49 h => ?_) (fun c49 h => ?_)
        · exact absurd c49 (by decide)
        · refine mv h fun a w h => ?_
          refine fa fl28_2 (r := 2) h fun a w h => ?_
          refine ldHD t1_26 (Hc.of (l_Hg_H38 _ _ hf4) rfl) h fun a w h => ?_
          refine mv h fun a w h => ?_
          rw [e7] at h
          refine ia sli26 sz68 rfl c27 h fun a w h => ?_
          refine fa fl68_0 (r := oq + k * 5 + 0) h fun a w h => ?_
          refine ldHD t1_9 (hcq 0 _ rfl) h fun a w h => ?_
          refine fa fl28_2 (r := 2) h fun a w h => ?_
          refine ldHD t1_26 (Hc.of (l_Hf_H38 _ _ hf1) rfl) h fun a w h => ?_
          refine mv h fun a w h => ?_
          rw [e6] at h
          refine ia sli26 sz68 rfl c27p h fun a w h => ?_
          refine fa fl68_0 (r := off + k * 5 + 0) h fun a w h => ?_
          refine ldHD t1_9 (hcell 0 _ rfl) h fun a w h => ?_
          refine neb h fun a w h => ?_
          refine pkF h fun a w h => ?_
          refine nl0 ?_
          refine thN ?_
          refine cdB h (fun c64 => ?_) (fun c64 => ?_)
          · rw [hdk] at c64
            simp at c64
          · refine sk_ ?_
            refine thN ?_
            refine rg0 ?_
            refine mv h fun a w h => ?_
            refine as_ h fun a w h => ?_
            refine nl0 ?_
            refine ibN ?_
            refine thN ?_
            refine rg0 ?_
            refine mv h fun a w h => ?_
            refine inc ?_ h fun a w h => ?_
            · omega
            refine as_ h fun a w h => ?_
            refine nl0 ?_
            refine thN ?_
            exact ⟨(k + 1, _, H38), ⟨⟨by omega, l_Hg_H38, hgo2, ren_in _ _ _ hn⟩, h.to 1 _⟩, by show _ - (k + 1) < _ - k; omega⟩
      · have hke : k = p.defs.length := by have c27 := of_decide_eq_false c27; change ¬ ((k : Int) < (ds.length : Int)) at c27; show k = _; omega
        have hnn : n = nl := by rw [hke, hgo] at hgo1; simp at hgo1; exact hgo1.2.symm
        refine exit_ ?_
        refine thE ?_
        refine thE ?_
        refine ibH ?_
        refine thN ?_
        refine sq ?_
        refine rg0 ?_
        refine fa fl28_3 (r := 3) h fun a w h => ?_
        refine ldHN (l := [_, _, _, _]) tN24 rfl (Hc.sub 3 4 (l_Hf_H5 _ _ hf1)) h fun a w h => ?_
        refine mv h fun a w h => ?_
        refine cl bod10 (Rename_ok (p.body) _ n E H5 _ (⟨A4, c4, rfl, KS.up hk l_H_H5⟩) (hL.up l_H_H5) hn (hb.b2)) h fun r70 H70 L70 a w le70 R h => ?_
        obtain ⟨v70, hr70, ⟨A70, c70, hv70, hk70⟩, hl70⟩ := R
        rw [hr70, hl70, hv70] at h
        have l_H_H70 : LE H H70 := l_H_H5.trans le70
        have l_Hf_H70 : LE Hf H70 := l_Hf_H5.trans le70
        have l_H17_H70 : LE H17 H70 := l_H17_H5.trans le70
        have l_Hg_H70 : LE Hg H70 := l_Hg_H5.trans le70
        have l_H5_H70 : LE H5 H70 := le70
        refine mv h fun a w h => ?_
        refine ex h fun a w h => ?_
        refine ex h fun a w h => ?_
        refine al zr24 h fun g10 a w h => ?_
        refine sw0 tN24 h fun a w h => ?_
        refine as_ h fun a w h => ?_
        refine nl0 ?_
        refine thN ?_
        refine sq ?_
        refine rg0 ?_
        refine mv h fun a w h => ?_
        refine mv h fun a w h => ?_
        refine ldW 0 tN24 h fun a w h => ?_
        refine fa fl28_3 (r := 3) h fun a w h => ?_
        refine ldHN (l := [_, _, _, _]) tN24 rfl (Hc.sub 3 4 (l_Hg_H70 _ _ hf4)) h fun a w h => ?_
        refine cl bod27 (Same_ok (p.body.ren noS n).1 (p.body.ren noS nl).1 _ _ E H70 _ (⟨A70, c70, rfl, KS.up hk70 LE.rfl⟩) (⟨D4, d4, rfl, KS.up hq4 l_H17_H70⟩) (by rw [ren_size]; exact hb.b2)) h fun r78 H78 L78 a w le78 R h => ?_
        obtain ⟨rfl, rfl, rfl⟩ := R
        rw [show (p.body.ren noS n).1.same (p.body.ren noS nl).1 = true from (same_iff _ _).2 (by rw [hnn])] at h
        refine pkT h fun a w h => ?_
        refine as_ h fun a w h => ?_
        refine nl0 ?_
        refine thN ?_
        refine ret_ ?_
        have h := h.del 0
        refine fin1 2 0 h l_H_H70 ?_
        exact ⟨rfl, rfl⟩
end Go.Proofs.YtindlieilabgfaaGreatDoor
/- append, with what the new length comes to. -/
set_option linter.unusedVariables false
set_option linter.unusedSectionVars false
set_option linter.unusedSimpArgs false
set_option autoImplicit false
set_option relaxedAutoImplicit false
namespace Go.Proofs.YtindlieilabgfaaGreatDoor.X
open Go
section
variable {P : Program} {ops : Array Oper} {Q : Exit → Act → World → Prop} {γ : Gd P ops Q} {rest : List Oper} {o : Oper} {E w : World} {H : GH} {N : Nat} {D : List Deferred} {F : List (Nat × Value)} {L : List It} {a : Act}
variable {t u : TypeId} {x y : Operand} {d : Nat} {g off : Nat} {v : Value}
theorem apn (kr kb : Nat) {e sz by_ n m : Nat} {xs : List Value} {ty' : TypeId} {z : Nat × Nat} {L' : It → List It} (news : List Value) (n' : Nat) (hn' : n + m = n') (ht : rowT P t e sz by_ = true) (h : S E H N D F L a w)
    (hb : n' * by_ ≤ 140737488355328) (h63 : n' ≤ 4611686018427387904)
    (k : ∀ v' a w, v'.oneCell' = true → S E H N D ((d, v') :: F) (L' (.row v' e sz n' (xs ++ news))) a w → γ.G rest a w)
    (hL : ∀ i, L.set kr i = L' i := by intro _; rfl) (hkr : L[kr]? = some (.row v e sz n xs) := by rfl) (hkb : L[kb]? = some (.obj g (.cells news.toArray ty' z)) := by rfl)
    (hl : news.length = m * sz := by rfl) (h1 : news.all (·.oneCell') = true := by rfl)
    (ho : o.op = .call { callee := .builtin .append, args := #[x, y], argTypes := #[t, t] } := by rfl) (hx : ev F x = some v := by rfl) (hy : ev F y = some (.slice (some ⟨g, 0, none⟩) m m) := by rfl)
    (hw : wn ops F o = some true := by rfl) (hd : o.dst = some d := by rfl) (hN : Nat.blt d N = true := by rfl) (hE : γ.isE rest.length = true := by rfl) (hS : γ.isN rest.length = true → ∀ v' w, St E H (L' (.row v' e sz n' (xs ++ news))) w → γ.S w := by first | exact fun e => Bool.noConfusion (show false = true from e) | exact fun _ _ _ hw => hw.sees' LE.rfl (by simp) | exact fun _ _ _ hw => hw.sees' (by assumption) (by simp)) : γ.G (o :: rest) a w := by
  subst hn'
  exact apb kr kb news ht h hb h63 k hL hkr hkb hl h1 ho hx hy hw hd hN hE hS
theorem apsn {α : Type} {R : GH → List Value → α → Prop} (kr : Nat) {e sz by_ n : Nat} {xs : List Value} {ys : List α} {vy : Value} {L' : It → List It} (n' : Nat) (hn' : n + ys.length = n') (ht : rowT P t e sz by_ = true) (hs : RS R sz H vy ys) (hone : ∀ cs y, y ∈ ys → R H cs y → ∀ u ∈ cs, u.oneCell' = true)
    (h : S E H N D F L a w) (hb : n' * by_ ≤ 140737488355328) (h63 : n' ≤ 4611686018427387904)
    (k : ∀ v' news a w, v'.oneCell' = true → RowR R sz H news ys → S E H N D ((d, v') :: F) (L' (.row v' e sz n' (xs ++ news))) a w → γ.G rest a w)
    (hL : ∀ i, L.set kr i = L' i := by intro _; rfl) (hkr : L[kr]? = some (.row v e sz n xs) := by rfl)
    (ho : o.op = .call { callee := .builtin .append, args := #[x, y], argTypes := #[t, t] } := by rfl) (hx : ev F x = some v := by rfl) (hy : ev F y = some vy := by rfl)
    (hw : wn ops F o = some true := by rfl) (hd : o.dst = some d := by rfl) (hN : Nat.blt d N = true := by rfl)
    (hE : γ.isE rest.length = true := by rfl) (hS : γ.isN rest.length = true → ∀ v' news w, St E H (L' (.row v' e sz n' (xs ++ news))) w → γ.S w := by first | exact fun e => Bool.noConfusion (show false = true from e) | exact fun _ _ _ _ hw => hw.sees' LE.rfl (by simp) | exact fun _ _ _ _ hw => hw.sees' (by assumption) (by simp)) : γ.G (o :: rest) a w := by
  subst hn'
  exact aps kr ht hs hone h hb h63 k hL hkr ho hx hy hw hd hN hE hS
end
end Go.Proofs.YtindlieilabgfaaGreatDoor.X
/- Walk: the law ScopeResolves. -/
set_option linter.unusedVariables false
set_option linter.unusedSimpArgs false
set_option linter.unusedSectionVars false
set_option autoImplicit false
set_option relaxedAutoImplicit false
set_option maxRecDepth 10000
set_option maxHeartbeats 2000000
namespace Go.Proofs.YtindlieilabgfaaGreatDoor
open Go X
theorem map_take_succ {α β : Type} {f : α → β} {xs : List α} {k : Nat} (h : k < xs.length) : (xs.take (k + 1)).map f = (xs.take k).map f ++ [f xs[k]] := by
  rw [List.take_succ_eq_append_getElem h, List.map_append]; rfl
theorem dup_snoc {xs : List Bs} {x : Bs} : (!decide xs.Nodup || xs.contains x) = !decide (xs ++ [x]).Nodup := by
  rw [Bool.eq_iff_iff]
  simp only [Bool.or_eq_true, Bool.not_eq_true', decide_eq_false_iff_not, List.contains_iff_mem, List.nodup_append, List.nodup_cons, List.not_mem_nil, not_false_eq_true, List.nodup_nil, and_self, true_and, List.mem_singleton]
  constructor
  · rintro (h | h) ⟨h1, h2⟩
    · exact h h1
    · exact h2 x h x rfl rfl
  · intro h
    by_cases h1 : xs.Nodup
    · refine .inr (Classical.byContradiction fun hx => h ⟨h1, fun a ha b hb e => hx ?_⟩)
      subst hb; exact e ▸ ha
    · exact .inl h1
theorem all_strange {t : Tm} {ss known : List Bs} (h : IsSet ss (t.fr none0)) : (!ss.all known.contains) = t.strange known := by
  rw [← strange_of h, List.not_all_eq_any_not]
theorem free_len {t : Tm} {ss : List Bs} (h : IsSet ss (t.fr none0)) : ss.length ≤ t.size := by
  have := sub_len (m := t.names) h.1 (fun x hx => fr_names t _ x ((h.2.1 x).1 hx)); rwa [names_len] at this
/-- Has one of the first k definitions a strange name? -/
def Pg.stg (p : Pg) : Nat → Bool
  | 0 => false
  | k + 1 => p.stg k || match p.defs[k]? with
    | some d => d.t.strange (p.known k)
    | none => false
theorem stg_succ {p : Pg} {k : Nat} (h : k < p.defs.length) : p.stg (k + 1) = (p.stg k || p.defs[k].t.strange (p.known k)) := by
  simp only [Pg.stg, List.getElem?_eq_getElem h]
theorem go_stg {p : Pg} : ∀ {m : Nat}, m ≤ p.defs.length → (p.go m).isNone = p.stg m
  | 0, _ => rfl
  | m + 1, h => by
    have ih := go_stg (p := p) (m := m) (by omega)
    have hm : m < p.defs.length := by omega
    rw [stg_succ hm, ← ih]
    simp only [Pg.go, List.getElem?_eq_getElem hm]
    cases p.go m with
    | none => rfl
    | some q =>
      obtain ⟨ds, n⟩ := q
      simp only
      split
      · rename_i hs; rw [hs]; rfl
      · rename_i hs; simp at hs; rw [hs]; rfl
theorem index_ge {ss : List Bs} {k : Nat} (hk : k < ss.length) : (decide (indexL ss (ss.getD k []) < (k : Int)) = true) ↔ ∃ j, ∃ hj : j < k, ss[j]'(by omega) = ss[k] := by
  have e0 : ss.getD k [] = ss[k] := by simp [List.getD_eq_getElem?_getD, hk]
  rw [e0, decide_eq_true_eq]
  unfold indexL
  split
  · rename_i j hj
    rw [List.findIdx?_eq_some_iff_getElem] at hj
    obtain ⟨h1, h2, h3⟩ := hj
    constructor
    · intro h; exact ⟨j, by omega, by simpa using h2⟩
    · rintro ⟨i, hi, e⟩
      rcases Nat.lt_or_ge j k with h | h
      · omega
      · exact absurd (by simpa using e) (h3 i (by omega))
  · rename_i hn
    rw [List.findIdx?_eq_none_iff] at hn
    have := hn _ (List.getElem_mem hk)
    simp at this
theorem twice_nodup (p : Pg) : p.twice = !decide (p.known p.defs.length).Nodup := by
  unfold Pg.twice
  generalize p.known p.defs.length = ss
  rw [Bool.eq_iff_iff, List.any_eq_true]
  simp only [Bool.not_eq_true', decide_eq_false_iff_not]
  rw [List.Nodup, List.pairwise_iff_getElem]
  constructor
  · rintro ⟨k, hk, h⟩ hp
    have hk := List.mem_range.1 hk
    obtain ⟨j, hj, e⟩ := (index_ge hk).1 h
    exact hp j k (by omega) hk hj e
  · intro h
    simp only [Classical.not_forall, Classical.not_not] at h
    obtain ⟨j, k, hj, hk, hlt, e⟩ := h
    exact ⟨k, List.mem_range.2 hk, (index_ge hk).2 ⟨j, hlt, e⟩⟩
theorem go_sizes {p : Pg} : ∀ {m : Nat} {ds : List Df} {n : Int}, p.go m = some (ds, n) → m ≤ p.defs.length → ds.map (·.t.size) = (p.defs.take m).map (·.t.size)
  | 0, ds, n, h, _ => by simp [Pg.go] at h; simp [← h.1]
  | m + 1, ds, n, h, hm => by
    have hlt : m < p.defs.length := by omega
    simp only [Pg.go, List.getElem?_eq_getElem hlt] at h
    cases h1 : p.go m with
    | none => rw [h1] at h; cases h
    | some q =>
      obtain ⟨ds', n'⟩ := q
      rw [h1] at h
      simp only at h
      split at h
      · cases h
      · simp only [Option.some.injEq, Prod.mk.injEq] at h
        rw [← h.1, List.map_append, go_sizes h1 (by omega), map_take_succ hlt]
        simp [ren_size]
theorem szW_map : ∀ {ds es : List Df} {n : Int}, ds.map (·.t.size) = es.map (·.t.size) → szW n ds = szW n es
  | [], [], _, _ => rfl
  | [], _ :: _, _, h => by simp at h
  | _ :: _, [], _, h => by simp at h
  | d :: ds, e :: es, n, h => by
    simp only [List.map_cons, List.cons.injEq] at h
    have := szW_map (n := IntKind.i64.wrap (n + (d.t.size : Int))) h.2
    unfold szW at *
    simp only [List.foldl_cons]
    rw [this, h.1]
theorem resolve_cases (p : Pg) (hr : p.right = true) :
    (p.twice = true → p.resolve = (Pg.zero, 6)) ∧ (p.twice = false → (p.stg p.defs.length || p.body.strange (p.known p.defs.length)) = true → p.resolve = (Pg.zero, 5)) ∧
    (p.twice = false → (p.stg p.defs.length || p.body.strange (p.known p.defs.length)) = false → p.resolve.2 = 0 ∧ p.resolve.1.inputs.length = p.inputs.length ∧ p.resolve.1.cells.length = p.cells.length ∧ p.resolve.1.defs.length = p.defs.length ∧ p.resolve.1.sizeW = p.sizeW) := by
  refine ⟨fun ht => ?_, fun ht hs => ?_, fun ht hs => ?_⟩
  · unfold Pg.resolve; rw [if_neg (by simp [hr]), if_pos ht]
  · unfold Pg.resolve; rw [if_neg (by simp [hr]), if_neg (by simp [ht])]
    have hg := go_stg (p := p) (Nat.le_refl _)
    cases h1 : p.go p.defs.length with
    | none => rfl
    | some q =>
      obtain ⟨ds, n⟩ := q
      rw [h1] at hg
      rw [← hg] at hs
      exact if_pos (by simpa using hs)
  · rw [Bool.or_eq_false_iff] at hs
    have hg := go_stg (p := p) (Nat.le_refl _)
    cases h1 : p.go p.defs.length with
    | none => rw [h1, hs.1] at hg; cases hg
    | some q =>
      obtain ⟨ds, n⟩ := q
      have e : p.resolve = (⟨p.inputs, p.cells, ds, (p.body.ren (fun _ => none) n).1⟩, 0) := by
        unfold Pg.resolve; rw [if_neg (by simp [hr]), if_neg (by simp [ht]), h1]
        exact if_neg (by simp [hs.2])
      rw [e]
      refine ⟨rfl, rfl, rfl, ?_, ?_⟩
      · have := congrArg List.length (go_sizes h1 (Nat.le_refl _)); simpa using this
      · unfold Pg.sizeW
        show szW ((p.body.ren (fun _ => none) n).1.size : Int) ds = _
        rw [ren_size]
        exact szW_map (by have := go_sizes h1 (Nat.le_refl _); rwa [List.take_length] at this)
theorem resolve_bad {p : Pg} (hr : p.right = false) : p.resolve = (Pg.zero, 11) := by
  unfold Pg.resolve; rw [if_pos (by simp [hr])]
theorem resolve_end {p : Pg} (hr : p.right = true) (ht : p.twice = false) : ((p.resolve.2 == 5) == (p.stg p.defs.length || p.body.strange (p.known p.defs.length)) && (p.stg p.defs.length || p.body.strange (p.known p.defs.length) || (p.resolve.2 == 0 &&
    (((p.resolve.1.inputs.length : Int) == p.inputs.length) && (((p.resolve.1.cells.length : Int) == p.cells.length) && (((p.resolve.1.defs.length : Int) == p.defs.length) && (p.resolve.1.sizeW == p.sizeW))))))) = true := by
  by_cases hs : (p.stg p.defs.length || p.body.strange (p.known p.defs.length)) = true
  · rw [(resolve_cases p hr).2.1 ht hs, hs]; rfl
  · have hs : (p.stg p.defs.length || p.body.strange (p.known p.defs.length)) = false := by simpa using hs
    obtain ⟨e1, e2, e3, e4, e5⟩ := (resolve_cases p hr).2.2 ht hs
    rw [hs, e1, e2, e3, e4, e5]; simp
theorem small_zero : SmallP Pg.zero := ⟨by simp [Pg.zero], by simp [Pg.zero], by simp [Pg.zero], fun d hd => by simp [Pg.zero] at hd, by simp [Pg.zero, Tm.size, sizeL]⟩
theorem small_resolve {p : Pg} (hb : Mild p) : SmallP p.resolve.1 := by
  by_cases hr : p.right = true
  · by_cases ht : p.twice = true
    · rw [(resolve_cases p hr).1 ht]; exact small_zero
    have ht : p.twice = false := by simpa using ht
    by_cases hs : (p.stg p.defs.length || p.body.strange (p.known p.defs.length)) = true
    · rw [(resolve_cases p hr).2.1 ht hs]; exact small_zero
    · obtain ⟨h1, h2, h3, h4, _⟩ := (resolve_cases p hr).2.2 ht (by simpa using hs)
      obtain ⟨ds, n, hg, e⟩ := resolve_ok h1
      refine ⟨by rw [h2]; exact hb.li, by rw [h3]; exact hb.lc, by rw [h4]; exact hb.lf, fun d hd => ?_, by rw [e]; show ((p.body.ren noS n).1).size < _; rw [ren_size]; exact hb.b2⟩
      rw [e] at hd
      have hm : d.t.size ∈ ds.map (·.t.size) := List.mem_map.2 ⟨d, hd, rfl⟩
      rw [go_sizes hg (Nat.le_refl _), List.take_length] at hm
      obtain ⟨d', hd', e'⟩ := List.mem_map.1 hm
      rw [← e']; exact (hb.f d' hd').2.2
  · rw [resolve_bad (by simpa using hr)]; exact small_zero
theorem Mild.small {p : Pg} (hb : Mild p) : SmallP p := ⟨hb.li, hb.lc, hb.lf, fun d hd => (hb.f d hd).2.2, hb.b2⟩

theorem resolves_ok (p : Pg) (v : Value) (E : World) (H : GH) (L : List It) (hv : VP H v p) (hL : Laid H) (hb : Mild p) : Ok Tryz.prog 8 #[v] E H L fun r H' L' => r = .bool true ∧ L = L' := by
  obtain ⟨Ap0, cp0, Ap1, cp1, Ap2, cp2, Ap3, cp3, rfl, hp0, hp1, hp2, hp3⟩ := hv
  have b1 := hb.li; have b2 := hb.lc; have b3 := hb.lf; have b4 := hb.b2; have b5 := hb.b1
  refine enter (N := 197) [(0, _)] Tryz.func8 rfl rfl rfl rfl fun a w h => ?_
  refine sq ?_
  refine rg0 ?_
  refine bxA h fun g1 a w h => ?_
  refine as_ h fun a w h => ?_
  refine nl0 ?_
  refine thN ?_
  refine sq ?_
  refine rg0 ?_
  refine cl bod9 (examples_ok E H _ (hL.up LE.rfl)) h (fun r14 H14 L14 a w le14 R h => ?_)
  obtain ⟨rfl, rfl⟩ := R
  refine as_ h fun a w h => ?_
  refine nl0 ?_
  refine thN ?_
  refine sq ?_
  refine sq ?_
  refine rg0 ?_
  refine mv h fun a w h => ?_
  refine nt h fun a w h => ?_
  refine nl0 ?_
  refine thN ?_
  refine cdF h ?_
  refine sk_ ?_
  refine thN ?_
  refine sq ?_
  refine sq ?_
  refine rg0 ?_
  refine ldW 0 tN28 h fun a w h => ?_
  refine cl bod31 (RightP_ok p _ E H14 _ ⟨Ap0, cp0, Ap1, cp1, Ap2, cp2, Ap3, cp3, rfl, (hp0.up le14), (hp1.up le14), (hp2.up le14), (hp3.up le14)⟩ (hL.up le14) (by first | assumption | omega)) h (fun r18 H18 L18 a w le18 R h => ?_)
  obtain ⟨rfl, rfl, rfl⟩ := R
  refine nt h fun a w h => ?_
  refine nl0 ?_
  refine thN ?_
  refine cdB h (fun c19 => ?_) (fun c19 => ?_)
  · have d19 : p.right = false := by first | (simpa using c19) | (simp at c19; omega)
    refine sq ?_
    refine rg0 ?_
    refine ldW 0 tN28 h fun a w h => ?_
    refine cl bod17 (Resolve_ok p _ E H14 _ ⟨Ap0, cp0, Ap1, cp1, Ap2, cp2, Ap3, cp3, rfl, (hp0.up le14), (hp1.up le14), (hp2.up le14), (hp3.up le14)⟩ (hL.up le14) (by first | assumption | omega)) h (fun r22 H22 L22 a w le22 R h => ?_)
    obtain ⟨_, rfl, ⟨A22_0_0, c22_0_0, A22_0_1, c22_0_1, A22_0_2, c22_0_2, A22_0_3, c22_0_3, rfl, hk22_0_0, hk22_0_1, hk22_0_2, hk22_0_3⟩, rfl⟩ := R
    refine mv h fun a w h => ?_
    refine ex h fun a w h => ?_
    refine ex h fun a w h => ?_
    refine al zr28 h fun g4 a w h => ?_
    refine sw0 tN28 h fun a w h => ?_
    refine as_ h fun a w h => ?_
    refine nl0 ?_
    refine thN ?_
    refine sqc (fun a w => S E H22 197 [] [(1, .pointer (some ⟨g1, 0, none⟩)), (2, .bool ((p.resolve.2 : Int) == 11)), (3, .bool true)] (.obj g4 (.cells #[.slice A22_0_0 p.resolve.1.inputs.length c22_0_0, .slice A22_0_1 p.resolve.1.cells.length c22_0_1, .slice A22_0_2 p.resolve.1.defs.length c22_0_2, .int .i64 p.resolve.1.body.kind, str p.resolve.1.body.name, .int .i64 p.resolve.1.body.n, .slice A22_0_3 p.resolve.1.body.kids.length c22_0_3] 28 (0, 0)) :: .obj g1 (.cells #[.slice Ap0 p.inputs.length cp0, .slice Ap1 p.cells.length cp1, .slice Ap2 p.defs.length cp2, .int .i64 p.body.kind, str p.body.name, .int .i64 p.body.n, .slice Ap3 p.body.kids.length cp3] 28 (0, 0)) :: L) a w) ?_ ?_
    · refine rg0 ?_
      refine mv h fun a w h => ?_
      refine mv h fun a w h => ?_
      refine mv h fun a w h => ?_
      refine eqi h fun a w h => ?_
      refine pkT h fun a w h => ?_
      refine as_ h fun a w h => ?_
      refine nl0 ?_
      refine thN ?_
      have h2 : S E H22 197 [] [(1, .pointer (some ⟨g1, 0, none⟩)), (2, .bool ((p.resolve.2 : Int) == 11)), (3, .bool true)] (.obj g4 (.cells #[.slice A22_0_0 p.resolve.1.inputs.length c22_0_0, .slice A22_0_1 p.resolve.1.cells.length c22_0_1, .slice A22_0_2 p.resolve.1.defs.length c22_0_2, .int .i64 p.resolve.1.body.kind, str p.resolve.1.body.name, .int .i64 p.resolve.1.body.n, .slice A22_0_3 p.resolve.1.body.kids.length c22_0_3] 28 (0, 0)) :: .obj g1 (.cells #[.slice Ap0 p.inputs.length cp0, .slice Ap1 p.cells.length cp1, .slice Ap2 p.defs.length cp2, .int .i64 p.body.kind, str p.body.name, .int .i64 p.body.n, .slice Ap3 p.body.kids.length cp3] 28 (0, 0)) :: L) a w := h.to 0 _
      exact h2
    · rintro a w h
      refine ret_ ?_
      refine thR ?_
      have l_H_H22 : LE H H22 := le14.trans le22
      refine fin1 2 2 h l_H_H22 ?_
      exact ⟨by rw [resolve_bad d19]; rfl, rfl⟩
  · have d19 : p.right = true := by first | (simpa using c19) | (simp at c19; omega)
    refine sk_ ?_
    refine thN ?_
    refine sq ?_
    refine rg0 ?_
    refine as_ h fun a w h => ?_
    refine nl0 ?_
    refine thN ?_
    refine sq ?_
    refine rg0 ?_
    refine as_ h fun a w h => ?_
    refine nl0 ?_
    refine thN ?_
    refine sq ?_
    refine sq ?_
    refine rg0 ?_
    refine as_ h fun a w h => ?_
    refine nl0 ?_
    refine thN ?_
    refine blk ?_
    have h := h.row (e := 9) (sz := 1)
    obtain ⟨Hg1, leHg1, h, hfg1⟩ := h.frz 1
    have h2 : S E Hg1 197 [] [(1, .pointer (some ⟨g1, 0, none⟩)), (2, .bool false), (3, .bool true), (6, .slice none (((p.inputs.take 0).map (·.name)).length) 0), (7, .bool (!decide ((p.inputs.take 0).map (·.name)).Nodup)), (8, .int .i64 (0 : Int))] (.row (.slice none (((p.inputs.take 0).map (·.name)).length) 0) 9 1 (((p.inputs.take 0).map (·.name)).length) [] :: L) a w := by rw [show (.bool (!decide ((p.inputs.take 0).map (·.name)).Nodup) : Value) = .bool false from Eq.symm (by first | rfl | (simp; done) | (simp; omega) | (congr 1; simp; omega) | (congr 1; omega))]; exact h.to 0 _
    refine lp (β := Nat × GH × (Option Addr) × Nat × (List Value)) (fun x a w => match x with | (k, HL0, Br6, pr6, xr6) => ((k ≤ p.inputs.length) ∧ (LE Hg1 HL0) ∧ (RowR RStr 1 HL0 xr6 ((p.inputs.take k).map (·.name)))) ∧ S E HL0 197 [] [(1, .pointer (some ⟨g1, 0, none⟩)), (2, .bool false), (3, .bool true), (6, .slice Br6 (((p.inputs.take k).map (·.name)).length) pr6), (7, .bool (!decide ((p.inputs.take k).map (·.name)).Nodup)), (8, .int .i64 (k : Int))] (.row (.slice Br6 (((p.inputs.take k).map (·.name)).length) pr6) 9 1 (((p.inputs.take k).map (·.name)).length) xr6 :: L) a w)
      (fun x => match x with | (k, HL0, Br6, pr6, xr6) => p.inputs.length - k) (0, Hg1, none, 0, []) ⟨⟨Nat.zero_le _, LE.rfl, (RowR.nil.mono fun cs y _ hr => hr)⟩, h2⟩ ?_
    rintro ⟨k, HL0, Br6, pr6, xr6⟩ a w ⟨⟨hk, leHL0, hrr6⟩, h⟩
    refine sq ?_
    refine sq ?_
    refine rg0 ?_
    refine mv h fun a w h => ?_
    refine fa fl28_0 (r := 0) h fun a w h => ?_
    refine ldH t1_25 (Hc.of (leHL0 _ _ hfg1) rfl) h fun a w h => ?_
    refine ln sli25 h fun a w h => ?_
    refine lt h fun a w h => ?_
    refine nl0 ?_
    refine thN ?_
    refine cdB h (fun c34 => ?_) (fun c34 => ?_)
    · have d34 : k < p.inputs.length := by first | (simpa using c34) | (simp at c34; omega)
      refine sk_ ?_
      refine thN ?_
      refine sq ?_
      refine blk ?_
      refine sqc (fun a w => S E HL0 197 [] [(1, .pointer (some ⟨g1, 0, none⟩)), (2, .bool false), (3, .bool true), (6, .slice Br6 (((p.inputs.take k).map (·.name)).length) pr6), (7, .bool ((!decide ((p.inputs.take k).map (·.name)).Nodup) || (((p.inputs.take k).map (·.name)).contains p.inputs[k].name))), (8, .int .i64 (k : Int)), (30, .int .i64 (k : Int)), (31, .pointer (some ⟨g1, 0, none⟩)), (32, .slice Ap0 p.inputs.length cp0), (33, .int .i64 (p.inputs.length : Int)), (34, .bool (decide (((k : Int) : Int) < (p.inputs.length : Int)))), (37, .bool ((!decide ((p.inputs.take k).map (·.name)).Nodup))), (38, .bool ((!decide ((p.inputs.take k).map (·.name)).Nodup))), (47, .bool ((!decide ((p.inputs.take k).map (·.name)).Nodup) || (((p.inputs.take k).map (·.name)).contains p.inputs[k].name)))] (.row (.slice Br6 (((p.inputs.take k).map (·.name)).length) pr6) 9 1 (((p.inputs.take k).map (·.name)).length) xr6 :: L) a w) ?_ ?_
      · refine rg0 ?_
        refine mv h fun a w h => ?_
        refine h.spl (fun c37 h => ?_) (fun c37 h => ?_)
        · refine mv h fun a w h => ?_
          refine sk h (k := fun a w h => ?_)
          refine sk h (k := fun a w h => ?_)
          refine sk h (k := fun a w h => ?_)
          refine sk h (k := fun a w h => ?_)
          refine sk h (k := fun a w h => ?_)
          refine sk h (k := fun a w h => ?_)
          refine sk h (k := fun a w h => ?_)
          refine sk h (k := fun a w h => ?_)
          refine pkT h fun a w h => ?_
          refine as_ h fun a w h => ?_
          refine nl0 ?_
          refine thN ?_
          have h2 : S E HL0 197 [] [(1, .pointer (some ⟨g1, 0, none⟩)), (2, .bool false), (3, .bool true), (6, .slice Br6 (((p.inputs.take k).map (·.name)).length) pr6), (7, .bool ((!decide ((p.inputs.take k).map (·.name)).Nodup) || (((p.inputs.take k).map (·.name)).contains p.inputs[k].name))), (8, .int .i64 (k : Int)), (30, .int .i64 (k : Int)), (31, .pointer (some ⟨g1, 0, none⟩)), (32, .slice Ap0 p.inputs.length cp0), (33, .int .i64 (p.inputs.length : Int)), (34, .bool (decide (((k : Int) : Int) < (p.inputs.length : Int)))), (37, .bool ((!decide ((p.inputs.take k).map (·.name)).Nodup))), (38, .bool ((!decide ((p.inputs.take k).map (·.name)).Nodup))), (47, .bool ((!decide ((p.inputs.take k).map (·.name)).Nodup) || (((p.inputs.take k).map (·.name)).contains p.inputs[k].name)))] (.row (.slice Br6 (((p.inputs.take k).map (·.name)).length) pr6) 9 1 (((p.inputs.take k).map (·.name)).length) xr6 :: L) a w := by rw [show (.bool ((!decide ((p.inputs.take k).map (·.name)).Nodup) || (((p.inputs.take k).map (·.name)).contains p.inputs[k].name)) : Value) = .bool true from Eq.symm (by (try rw [c37]) <;> (try simp only [Bool.true_or, Bool.or_true, Bool.false_or, Bool.or_false, Bool.true_and, Bool.and_true, Bool.false_and, Bool.and_false, Bool.not_true, Bool.not_false, cond_true, cond_false])), show (.bool ((!decide ((p.inputs.take k).map (·.name)).Nodup)) : Value) = .bool true from Eq.symm (by (try rw [c37]) <;> (try simp only [Bool.true_or, Bool.or_true, Bool.false_or, Bool.or_false, Bool.true_and, Bool.and_true, Bool.false_and, Bool.and_false, Bool.not_true, Bool.not_false, cond_true, cond_false]))]; exact h.to 0 _
          exact h2
        · refine mv h fun a w h => ?_
          refine mv h fun a w h => ?_
          refine fa fl28_0 (r := 0) h fun a w h => ?_
          refine ldH t1_25 (Hc.of (leHL0 _ _ hfg1) rfl) h fun a w h => ?_
          refine mv h fun a w h => ?_
          have l_H_HL0 : LE H HL0 := (le14.trans leHg1).trans leHL0
          have hj43 : k < p.inputs.length := by first | assumption | omega | (simp; done) | (simp; omega)
          obtain ⟨g43, o43, e43, hv43, hc43⟩ := CS.get (hp0.up l_H_HL0) hj43
          refine iaE sli25 sz72 rfl hj43 e43 h fun a w h => ?_
          refine fa fl72_0 (r := o43 + k * 3 + 0) h fun a w h => ?_
          refine ldH t1_9 (hc43 0 _ rfl) h fun a w h => ?_
          obtain ⟨Hn46_0, leHn46_0, h, hsHn46_0, backHn46_0⟩ := h.lendR 0 hrr6 rfl (fun _ l cs y _ hr => hr)
          refine cl bod32 (has_ok ((p.inputs.take k).map (·.name)) p.inputs[k].name _ _ E Hn46_0 _ hsHn46_0 (by first | assumption | omega | (simp; omega) | (simp [Pg.known]; omega))) h (fun r46 H46 L46 a w le46 R h => ?_)
          obtain ⟨rfl, rfl, rfl⟩ := R
          have h := backHn46_0.get LE.rfl h
          refine pkF h fun a w h => ?_
          refine as_ h fun a w h => ?_
          refine nl0 ?_
          refine thN ?_
          have h2 : S E HL0 197 [] [(1, .pointer (some ⟨g1, 0, none⟩)), (2, .bool false), (3, .bool true), (6, .slice Br6 (((p.inputs.take k).map (·.name)).length) pr6), (7, .bool ((!decide ((p.inputs.take k).map (·.name)).Nodup) || (((p.inputs.take k).map (·.name)).contains p.inputs[k].name))), (8, .int .i64 (k : Int)), (30, .int .i64 (k : Int)), (31, .pointer (some ⟨g1, 0, none⟩)), (32, .slice Ap0 p.inputs.length cp0), (33, .int .i64 (p.inputs.length : Int)), (34, .bool (decide (((k : Int) : Int) < (p.inputs.length : Int)))), (37, .bool ((!decide ((p.inputs.take k).map (·.name)).Nodup))), (38, .bool ((!decide ((p.inputs.take k).map (·.name)).Nodup))), (47, .bool ((!decide ((p.inputs.take k).map (·.name)).Nodup) || (((p.inputs.take k).map (·.name)).contains p.inputs[k].name)))] (.row (.slice Br6 (((p.inputs.take k).map (·.name)).length) pr6) 9 1 (((p.inputs.take k).map (·.name)).length) xr6 :: L) a w := by rw [show (.bool ((!decide ((p.inputs.take k).map (·.name)).Nodup) || (((p.inputs.take k).map (·.name)).contains p.inputs[k].name)) : Value) = .bool (((p.inputs.take k).map (·.name)).contains p.inputs[k].name) from Eq.symm (by (try rw [c37]) <;> (try simp only [Bool.true_or, Bool.or_true, Bool.false_or, Bool.or_false, Bool.true_and, Bool.and_true, Bool.false_and, Bool.and_false, Bool.not_true, Bool.not_false, cond_true, cond_false])), show (.bool ((!decide ((p.inputs.take k).map (·.name)).Nodup)) : Value) = .bool false from Eq.symm (by (try rw [c37]) <;> (try simp only [Bool.true_or, Bool.or_true, Bool.false_or, Bool.or_false, Bool.true_and, Bool.and_true, Bool.false_and, Bool.and_false, Bool.not_true, Bool.not_false, cond_true, cond_false]))]; exact h.to 0 _
          exact h2
      · rintro a w h
        refine rg0 ?_
        refine mv h fun a w h => ?_
        refine fa fl28_0 (r := 0) h fun a w h => ?_
        refine ldH t1_25 (Hc.of (leHL0 _ _ hfg1) rfl) h fun a w h => ?_
        refine mv h fun a w h => ?_
        have l_H_HL0 : LE H HL0 := (le14.trans leHg1).trans leHL0
        have hj52 : k < p.inputs.length := by first | assumption | omega | (simp; done) | (simp; omega)
        obtain ⟨g52, o52, e52, hv52, hc52⟩ := CS.get (hp0.up l_H_HL0) hj52
        refine iaE sli25 sz72 rfl hj52 e52 h fun a w h => ?_
        refine fa fl72_0 (r := o52 + k * 3 + 0) h fun a w h => ?_
        refine ldH t1_9 (hc52 0 _ rfl) h fun a w h => ?_
        refine bsl bs58 h fun g55 a w h => ?_
        refine apn (n := (((p.inputs.take k).map (·.name)).length)) (m := 1) 1 0 (L' := fun i => _ :: i :: _) [_] ((((p.inputs.take k).map (·.name)) ++ [p.inputs[k].name]).length) (by first | (simp; done) | (simp; omega)) row58 h (by first | omega | (simp; omega) | (simp [Pg.known]; omega)) (by first | omega | (simp; omega) | (simp [Pg.known]; omega)) fun v56 a w hone56 h => ?_
        obtain ⟨B56, cp56, rfl⟩ := h.rowv 1
        have hr56 : RowR RStr 1 HL0 (xr6 ++ [str p.inputs[k].name]) (((p.inputs.take k).map (·.name)) ++ [p.inputs[k].name]) := hrr6.snoc rfl rfl
        refine as_ h fun a w h => ?_
        refine nl0 ?_
        refine ibN ?_
        refine thN ?_
        refine rg0 ?_
        refine mv h fun a w h => ?_
        refine inc ?_ h fun a w h => ?_
        · omega
        refine as_ h fun a w h => ?_
        refine nl0 ?_
        refine thN ?_
        have h := h.del 0
        have h2 : S E HL0 197 [] [(1, .pointer (some ⟨g1, 0, none⟩)), (2, .bool false), (3, .bool true), (6, .slice B56 (((p.inputs.take (k + 1)).map (·.name)).length) cp56), (7, .bool (!decide ((p.inputs.take (k + 1)).map (·.name)).Nodup)), (8, .int .i64 ((k + 1) : Int))] (.row (.slice B56 (((p.inputs.take (k + 1)).map (·.name)).length) cp56) 9 1 (((p.inputs.take (k + 1)).map (·.name)).length) (xr6 ++ [str p.inputs[k].name]) :: L) a w := by rw [show (((p.inputs.take (k + 1)).map (·.name)).length) = (((p.inputs.take k).map (·.name)) ++ [p.inputs[k].name]).length from Eq.symm (by first | rfl | (simp; done) | (simp; omega) | (congr 1; simp; omega) | (congr 1; omega)), show (.bool (!decide ((p.inputs.take (k + 1)).map (·.name)).Nodup) : Value) = .bool ((!decide ((p.inputs.take k).map (·.name)).Nodup) || (((p.inputs.take k).map (·.name)).contains p.inputs[k].name)) from Eq.symm (by rw [map_take_succ d34, ← dup_snoc])]; exact h.to 0 _
        exact ⟨((k + 1), HL0, B56, cp56, (xr6 ++ [str p.inputs[k].name])), ⟨⟨by omega, leHL0, (by have q := hr56; rwa [show (((p.inputs.take k).map (·.name)) ++ [p.inputs[k].name]) = ((p.inputs.take (k + 1)).map (·.name)) from by rw [map_take_succ d34]] at q)⟩, h2⟩, by show _ - (k + 1) < _ - k; omega⟩
    · have d34 : p.inputs.length ≤ k := by first | (simpa using c34) | (simp at c34; omega)
      refine exit_ ?_
      refine thE ?_
      refine thE ?_
      refine ibH ?_
      refine thN ?_
      refine sq ?_
      refine sq ?_
      refine rg0 ?_
      refine as_ h fun a w h => ?_
      refine nl0 ?_
      refine thN ?_
      refine blk ?_
      have h2 : S E HL0 197 [] [(1, .pointer (some ⟨g1, 0, none⟩)), (2, .bool false), (3, .bool true), (6, .slice Br6 ((p.inputs.map (·.name) ++ (p.cells.take 0).map (·.name)).length) pr6), (7, .bool (!decide (p.inputs.map (·.name) ++ (p.cells.take 0).map (·.name)).Nodup)), (8, .int .i64 (k : Int)), (9, .int .i64 (0 : Int)), (30, .int .i64 (k : Int)), (31, .pointer (some ⟨g1, 0, none⟩)), (32, .slice Ap0 p.inputs.length cp0), (33, .int .i64 (p.inputs.length : Int)), (34, .bool (decide (((k : Int) : Int) < (p.inputs.length : Int))))] (.row (.slice Br6 ((p.inputs.map (·.name) ++ (p.cells.take 0).map (·.name)).length) pr6) 9 1 ((p.inputs.map (·.name) ++ (p.cells.take 0).map (·.name)).length) xr6 :: L) a w := by rw [show ((p.inputs.map (·.name) ++ (p.cells.take 0).map (·.name)).length) = ((p.inputs.take k).map (·.name)).length from Eq.symm (by rw [show k = p.inputs.length by omega]; simp), show (.bool (!decide (p.inputs.map (·.name) ++ (p.cells.take 0).map (·.name)).Nodup) : Value) = .bool (!decide ((p.inputs.take k).map (·.name)).Nodup) from Eq.symm (by rw [show k = p.inputs.length by omega]; simp)]; exact h.to 0 _
      refine lp (β := Nat × GH × (Option Addr) × Nat × (List Value)) (fun x a w => match x with | (k2, HL2, Br6, pr6, xr6) => ((k2 ≤ p.cells.length) ∧ (LE HL0 HL2) ∧ (RowR RStr 1 HL2 xr6 (p.inputs.map (·.name) ++ (p.cells.take k2).map (·.name)))) ∧ S E HL2 197 [] [(1, .pointer (some ⟨g1, 0, none⟩)), (2, .bool false), (3, .bool true), (6, .slice Br6 ((p.inputs.map (·.name) ++ (p.cells.take k2).map (·.name)).length) pr6), (7, .bool (!decide (p.inputs.map (·.name) ++ (p.cells.take k2).map (·.name)).Nodup)), (8, .int .i64 (k : Int)), (9, .int .i64 (k2 : Int)), (30, .int .i64 (k : Int)), (31, .pointer (some ⟨g1, 0, none⟩)), (32, .slice Ap0 p.inputs.length cp0), (33, .int .i64 (p.inputs.length : Int)), (34, .bool (decide (((k : Int) : Int) < (p.inputs.length : Int))))] (.row (.slice Br6 ((p.inputs.map (·.name) ++ (p.cells.take k2).map (·.name)).length) pr6) 9 1 ((p.inputs.map (·.name) ++ (p.cells.take k2).map (·.name)).length) xr6 :: L) a w)
        (fun x => match x with | (k2, HL2, Br6, pr6, xr6) => p.cells.length - k2) (0, HL0, Br6, pr6, xr6) ⟨⟨Nat.zero_le _, LE.rfl, (by have q := hrr6; rwa [show ((p.inputs.take k).map (·.name)) = (p.inputs.map (·.name) ++ (p.cells.take 0).map (·.name)) from by rw [show k = p.inputs.length by omega]; simp] at q)⟩, h2⟩ ?_
      rintro ⟨k2, HL2, Br6, pr6, xr6⟩ a w ⟨⟨hk, leHL2, hrr6⟩, h⟩
      refine sq ?_
      refine sq ?_
      refine rg0 ?_
      refine mv h fun a w h => ?_
      refine fa fl28_1 (r := 1) h fun a w h => ?_
      have l_Hg1_HL2 : LE Hg1 HL2 := leHL0.trans leHL2
      refine ldH t1_25 (Hc.of (l_Hg1_HL2 _ _ hfg1) rfl) h fun a w h => ?_
      refine ln sli25 h fun a w h => ?_
      refine lt h fun a w h => ?_
      refine nl0 ?_
      refine thN ?_
      refine cdB h (fun c61 => ?_) (fun c61 => ?_)
      · have d61 : k2 < p.cells.length := by first | (simpa using c61) | (simp at c61; omega)
        refine sk_ ?_
        refine thN ?_
        refine sq ?_
        refine blk ?_
        refine sqc (fun a w => S E HL2 197 [] [(1, .pointer (some ⟨g1, 0, none⟩)), (2, .bool false), (3, .bool true), (6, .slice Br6 ((p.inputs.map (·.name) ++ (p.cells.take k2).map (·.name)).length) pr6), (7, .bool ((!decide (p.inputs.map (·.name) ++ (p.cells.take k2).map (·.name)).Nodup) || ((p.inputs.map (·.name) ++ (p.cells.take k2).map (·.name)).contains p.cells[k2].name))), (8, .int .i64 (k : Int)), (30, .int .i64 (k : Int)), (31, .pointer (some ⟨g1, 0, none⟩)), (32, .slice Ap0 p.inputs.length cp0), (33, .int .i64 (p.inputs.length : Int)), (34, .bool (decide (((k : Int) : Int) < (p.inputs.length : Int)))), (9, .int .i64 (k2 : Int)), (57, .int .i64 (k2 : Int)), (58, .pointer (some ⟨g1, 1, none⟩)), (59, .slice Ap1 p.cells.length cp1), (60, .int .i64 (p.cells.length : Int)), (61, .bool (decide (((k2 : Int) : Int) < (p.cells.length : Int)))), (64, .bool ((!decide (p.inputs.map (·.name) ++ (p.cells.take k2).map (·.name)).Nodup))), (65, .bool ((!decide (p.inputs.map (·.name) ++ (p.cells.take k2).map (·.name)).Nodup))), (74, .bool ((!decide (p.inputs.map (·.name) ++ (p.cells.take k2).map (·.name)).Nodup) || ((p.inputs.map (·.name) ++ (p.cells.take k2).map (·.name)).contains p.cells[k2].name)))] (.row (.slice Br6 ((p.inputs.map (·.name) ++ (p.cells.take k2).map (·.name)).length) pr6) 9 1 ((p.inputs.map (·.name) ++ (p.cells.take k2).map (·.name)).length) xr6 :: L) a w) ?_ ?_
        · refine rg0 ?_
          refine mv h fun a w h => ?_
          refine h.spl (fun c64 h => ?_) (fun c64 h => ?_)
          · refine mv h fun a w h => ?_
            refine sk h (k := fun a w h => ?_)
            refine sk h (k := fun a w h => ?_)
            refine sk h (k := fun a w h => ?_)
            refine sk h (k := fun a w h => ?_)
            refine sk h (k := fun a w h => ?_)
            refine sk h (k := fun a w h => ?_)
            refine sk h (k := fun a w h => ?_)
            refine sk h (k := fun a w h => ?_)
            refine pkT h fun a w h => ?_
            refine as_ h fun a w h => ?_
            refine nl0 ?_
            refine thN ?_
            have h2 : S E HL2 197 [] [(1, .pointer (some ⟨g1, 0, none⟩)), (2, .bool false), (3, .bool true), (6, .slice Br6 ((p.inputs.map (·.name) ++ (p.cells.take k2).map (·.name)).length) pr6), (7, .bool ((!decide (p.inputs.map (·.name) ++ (p.cells.take k2).map (·.name)).Nodup) || ((p.inputs.map (·.name) ++ (p.cells.take k2).map (·.name)).contains p.cells[k2].name))), (8, .int .i64 (k : Int)), (30, .int .i64 (k : Int)), (31, .pointer (some ⟨g1, 0, none⟩)), (32, .slice Ap0 p.inputs.length cp0), (33, .int .i64 (p.inputs.length : Int)), (34, .bool (decide (((k : Int) : Int) < (p.inputs.length : Int)))), (9, .int .i64 (k2 : Int)), (57, .int .i64 (k2 : Int)), (58, .pointer (some ⟨g1, 1, none⟩)), (59, .slice Ap1 p.cells.length cp1), (60, .int .i64 (p.cells.length : Int)), (61, .bool (decide (((k2 : Int) : Int) < (p.cells.length : Int)))), (64, .bool ((!decide (p.inputs.map (·.name) ++ (p.cells.take k2).map (·.name)).Nodup))), (65, .bool ((!decide (p.inputs.map (·.name) ++ (p.cells.take k2).map (·.name)).Nodup))), (74, .bool ((!decide (p.inputs.map (·.name) ++ (p.cells.take k2).map (·.name)).Nodup) || ((p.inputs.map (·.name) ++ (p.cells.take k2).map (·.name)).contains p.cells[k2].name)))] (.row (.slice Br6 ((p.inputs.map (·.name) ++ (p.cells.take k2).map (·.name)).length) pr6) 9 1 ((p.inputs.map (·.name) ++ (p.cells.take k2).map (·.name)).length) xr6 :: L) a w := by rw [show (.bool ((!decide (p.inputs.map (·.name) ++ (p.cells.take k2).map (·.name)).Nodup) || ((p.inputs.map (·.name) ++ (p.cells.take k2).map (·.name)).contains p.cells[k2].name)) : Value) = .bool true from Eq.symm (by (try rw [c64]) <;> (try simp only [Bool.true_or, Bool.or_true, Bool.false_or, Bool.or_false, Bool.true_and, Bool.and_true, Bool.false_and, Bool.and_false, Bool.not_true, Bool.not_false, cond_true, cond_false])), show (.bool ((!decide (p.inputs.map (·.name) ++ (p.cells.take k2).map (·.name)).Nodup)) : Value) = .bool true from Eq.symm (by (try rw [c64]) <;> (try simp only [Bool.true_or, Bool.or_true, Bool.false_or, Bool.or_false, Bool.true_and, Bool.and_true, Bool.false_and, Bool.and_false, Bool.not_true, Bool.not_false, cond_true, cond_false]))]; exact h.to 0 _
            exact h2
          · refine mv h fun a w h => ?_
            refine mv h fun a w h => ?_
            refine fa fl28_1 (r := 1) h fun a w h => ?_
            refine ldH t1_25 (Hc.of (l_Hg1_HL2 _ _ hfg1) rfl) h fun a w h => ?_
            refine mv h fun a w h => ?_
            have l_H_HL2 : LE H HL2 := ((le14.trans leHg1).trans leHL0).trans leHL2
            have hj70 : k2 < p.cells.length := by first | assumption | omega | (simp; done) | (simp; omega)
            obtain ⟨g70, o70, e70, hv70, hc70⟩ := CS.get (hp1.up l_H_HL2) hj70
            refine iaE sli25 sz72 rfl hj70 e70 h fun a w h => ?_
            refine fa fl72_0 (r := o70 + k2 * 3 + 0) h fun a w h => ?_
            refine ldH t1_9 (hc70 0 _ rfl) h fun a w h => ?_
            obtain ⟨Hn73_0, leHn73_0, h, hsHn73_0, backHn73_0⟩ := h.lendR 0 hrr6 rfl (fun _ l cs y _ hr => hr)
            refine cl bod32 (has_ok (p.inputs.map (·.name) ++ (p.cells.take k2).map (·.name)) p.cells[k2].name _ _ E Hn73_0 _ hsHn73_0 (by first | assumption | omega | (simp; omega) | (simp [Pg.known]; omega))) h (fun r73 H73 L73 a w le73 R h => ?_)
            obtain ⟨rfl, rfl, rfl⟩ := R
            have h := backHn73_0.get LE.rfl h
            refine pkF h fun a w h => ?_
            refine as_ h fun a w h => ?_
            refine nl0 ?_
            refine thN ?_
            have h2 : S E HL2 197 [] [(1, .pointer (some ⟨g1, 0, none⟩)), (2, .bool false), (3, .bool true), (6, .slice Br6 ((p.inputs.map (·.name) ++ (p.cells.take k2).map (·.name)).length) pr6), (7, .bool ((!decide (p.inputs.map (·.name) ++ (p.cells.take k2).map (·.name)).Nodup) || ((p.inputs.map (·.name) ++ (p.cells.take k2).map (·.name)).contains p.cells[k2].name))), (8, .int .i64 (k : Int)), (30, .int .i64 (k : Int)), (31, .pointer (some ⟨g1, 0, none⟩)), (32, .slice Ap0 p.inputs.length cp0), (33, .int .i64 (p.inputs.length : Int)), (34, .bool (decide (((k : Int) : Int) < (p.inputs.length : Int)))), (9, .int .i64 (k2 : Int)), (57, .int .i64 (k2 : Int)), (58, .pointer (some ⟨g1, 1, none⟩)), (59, .slice Ap1 p.cells.length cp1), (60, .int .i64 (p.cells.length : Int)), (61, .bool (decide (((k2 : Int) : Int) < (p.cells.length : Int)))), (64, .bool ((!decide (p.inputs.map (·.name) ++ (p.cells.take k2).map (·.name)).Nodup))), (65, .bool ((!decide (p.inputs.map (·.name) ++ (p.cells.take k2).map (·.name)).Nodup))), (74, .bool ((!decide (p.inputs.map (·.name) ++ (p.cells.take k2).map (·.name)).Nodup) || ((p.inputs.map (·.name) ++ (p.cells.take k2).map (·.name)).contains p.cells[k2].name)))] (.row (.slice Br6 ((p.inputs.map (·.name) ++ (p.cells.take k2).map (·.name)).length) pr6) 9 1 ((p.inputs.map (·.name) ++ (p.cells.take k2).map (·.name)).length) xr6 :: L) a w := by rw [show (.bool ((!decide (p.inputs.map (·.name) ++ (p.cells.take k2).map (·.name)).Nodup) || ((p.inputs.map (·.name) ++ (p.cells.take k2).map (·.name)).contains p.cells[k2].name)) : Value) = .bool ((p.inputs.map (·.name) ++ (p.cells.take k2).map (·.name)).contains p.cells[k2].name) from Eq.symm (by (try rw [c64]) <;> (try simp only [Bool.true_or, Bool.or_true, Bool.false_or, Bool.or_false, Bool.true_and, Bool.and_true, Bool.false_and, Bool.and_false, Bool.not_true, Bool.not_false, cond_true, cond_false])), show (.bool ((!decide (p.inputs.map (·.name) ++ (p.cells.take k2).map (·.name)).Nodup)) : Value) = .bool false from Eq.symm (by (try rw [c64]) <;> (try simp only [Bool.true_or, Bool.or_true, Bool.false_or, Bool.or_false, Bool.true_and, Bool.and_true, Bool.false_and, Bool.and_false, Bool.not_true, Bool.not_false, cond_true, cond_false]))]; exact h.to 0 _
            exact h2
        · rintro a w h
          refine rg0 ?_
          refine mv h fun a w h => ?_
          refine fa fl28_1 (r := 1) h fun a w h => ?_
          refine ldH t1_25 (Hc.of (l_Hg1_HL2 _ _ hfg1) rfl) h fun a w h => ?_
          refine mv h fun a w h => ?_
          have l_H_HL2 : LE H HL2 := ((le14.trans leHg1).trans leHL0).trans leHL2
          have hj79 : k2 < p.cells.length := by first | assumption | omega | (simp; done) | (simp; omega)
          obtain ⟨g79, o79, e79, hv79, hc79⟩ := CS.get (hp1.up l_H_HL2) hj79
          refine iaE sli25 sz72 rfl hj79 e79 h fun a w h => ?_
          refine fa fl72_0 (r := o79 + k2 * 3 + 0) h fun a w h => ?_
          refine ldH t1_9 (hc79 0 _ rfl) h fun a w h => ?_
          refine bsl bs58 h fun g82 a w h => ?_
          refine apn (n := ((p.inputs.map (·.name) ++ (p.cells.take k2).map (·.name)).length)) (m := 1) 1 0 (L' := fun i => _ :: i :: _) [_] (((p.inputs.map (·.name) ++ (p.cells.take k2).map (·.name)) ++ [p.cells[k2].name]).length) (by first | (simp; done) | (simp; omega)) row58 h (by first | omega | (simp; omega) | (simp [Pg.known]; omega)) (by first | omega | (simp; omega) | (simp [Pg.known]; omega)) fun v83 a w hone83 h => ?_
          obtain ⟨B83, cp83, rfl⟩ := h.rowv 1
          have hr83 : RowR RStr 1 HL2 (xr6 ++ [str p.cells[k2].name]) ((p.inputs.map (·.name) ++ (p.cells.take k2).map (·.name)) ++ [p.cells[k2].name]) := hrr6.snoc rfl rfl
          refine as_ h fun a w h => ?_
          refine nl0 ?_
          refine ibN ?_
          refine thN ?_
          refine rg0 ?_
          refine mv h fun a w h => ?_
          refine inc ?_ h fun a w h => ?_
          · omega
          refine as_ h fun a w h => ?_
          refine nl0 ?_
          refine thN ?_
          have h := h.del 0
          have h2 : S E HL2 197 [] [(1, .pointer (some ⟨g1, 0, none⟩)), (2, .bool false), (3, .bool true), (6, .slice B83 ((p.inputs.map (·.name) ++ (p.cells.take (k2 + 1)).map (·.name)).length) cp83), (7, .bool (!decide (p.inputs.map (·.name) ++ (p.cells.take (k2 + 1)).map (·.name)).Nodup)), (8, .int .i64 (k : Int)), (9, .int .i64 ((k2 + 1) : Int)), (30, .int .i64 (k : Int)), (31, .pointer (some ⟨g1, 0, none⟩)), (32, .slice Ap0 p.inputs.length cp0), (33, .int .i64 (p.inputs.length : Int)), (34, .bool (decide (((k : Int) : Int) < (p.inputs.length : Int))))] (.row (.slice B83 ((p.inputs.map (·.name) ++ (p.cells.take (k2 + 1)).map (·.name)).length) cp83) 9 1 ((p.inputs.map (·.name) ++ (p.cells.take (k2 + 1)).map (·.name)).length) (xr6 ++ [str p.cells[k2].name]) :: L) a w := by rw [show ((p.inputs.map (·.name) ++ (p.cells.take (k2 + 1)).map (·.name)).length) = ((p.inputs.map (·.name) ++ (p.cells.take k2).map (·.name)) ++ [p.cells[k2].name]).length from Eq.symm (by first | rfl | (simp; done) | (simp; omega) | (congr 1; simp; omega) | (congr 1; omega)), show (.bool (!decide (p.inputs.map (·.name) ++ (p.cells.take (k2 + 1)).map (·.name)).Nodup) : Value) = .bool ((!decide (p.inputs.map (·.name) ++ (p.cells.take k2).map (·.name)).Nodup) || ((p.inputs.map (·.name) ++ (p.cells.take k2).map (·.name)).contains p.cells[k2].name)) from Eq.symm (by rw [map_take_succ d61, ← List.append_assoc, ← dup_snoc])]; exact h.to 0 _
          exact ⟨((k2 + 1), HL2, B83, cp83, (xr6 ++ [str p.cells[k2].name])), ⟨⟨by omega, leHL2, (by have q := hr83; rwa [show ((p.inputs.map (·.name) ++ (p.cells.take k2).map (·.name)) ++ [p.cells[k2].name]) = (p.inputs.map (·.name) ++ (p.cells.take (k2 + 1)).map (·.name)) from by rw [map_take_succ d61, List.append_assoc]] at q)⟩, h2⟩, by show _ - (k2 + 1) < _ - k2; omega⟩
      · have d61 : p.cells.length ≤ k2 := by first | (simpa using c61) | (simp at c61; omega)
        refine exit_ ?_
        refine thE ?_
        refine thE ?_
        refine ibH ?_
        refine thN ?_
        refine sq ?_
        refine rg0 ?_
        refine as_ h fun a w h => ?_
        refine nl0 ?_
        refine thN ?_
        refine sq ?_
        refine sq ?_
        refine rg0 ?_
        refine as_ h fun a w h => ?_
        refine nl0 ?_
        refine thN ?_
        refine blk ?_
        have h2 : S E HL2 197 [] [(1, .pointer (some ⟨g1, 0, none⟩)), (2, .bool false), (3, .bool true), (6, .slice Br6 ((p.known 0).length) pr6), (7, .bool (!decide (p.known 0).Nodup)), (8, .int .i64 (k : Int)), (9, .int .i64 (k2 : Int)), (10, .bool (p.stg 0)), (11, .int .i64 (0 : Int)), (30, .int .i64 (k : Int)), (31, .pointer (some ⟨g1, 0, none⟩)), (32, .slice Ap0 p.inputs.length cp0), (33, .int .i64 (p.inputs.length : Int)), (34, .bool (decide (((k : Int) : Int) < (p.inputs.length : Int)))), (57, .int .i64 (k2 : Int)), (58, .pointer (some ⟨g1, 1, none⟩)), (59, .slice Ap1 p.cells.length cp1), (60, .int .i64 (p.cells.length : Int)), (61, .bool (decide (((k2 : Int) : Int) < (p.cells.length : Int))))] (.row (.slice Br6 ((p.known 0).length) pr6) 9 1 ((p.known 0).length) xr6 :: L) a w := by rw [show ((p.known 0).length) = (p.inputs.map (·.name) ++ (p.cells.take k2).map (·.name)).length from Eq.symm (by rw [show k2 = p.cells.length by omega]; simp [Pg.known]), show (.bool (!decide (p.known 0).Nodup) : Value) = .bool (!decide (p.inputs.map (·.name) ++ (p.cells.take k2).map (·.name)).Nodup) from Eq.symm (by rw [show k2 = p.cells.length by omega]; simp [Pg.known]), show (.bool (p.stg 0) : Value) = .bool false from Eq.symm (by rfl)]; exact h.to 0 _
        refine lp (β := Nat × GH × (Option Addr) × Nat × (List Value)) (fun x a w => match x with | (k3, HL4, Br6, pr6, xr6) => ((k3 ≤ p.defs.length) ∧ (LE HL2 HL4) ∧ (RowR RStr 1 HL4 xr6 (p.known k3))) ∧ S E HL4 197 [] [(1, .pointer (some ⟨g1, 0, none⟩)), (2, .bool false), (3, .bool true), (6, .slice Br6 ((p.known k3).length) pr6), (7, .bool (!decide (p.known k3).Nodup)), (8, .int .i64 (k : Int)), (9, .int .i64 (k2 : Int)), (10, .bool (p.stg k3)), (11, .int .i64 (k3 : Int)), (30, .int .i64 (k : Int)), (31, .pointer (some ⟨g1, 0, none⟩)), (32, .slice Ap0 p.inputs.length cp0), (33, .int .i64 (p.inputs.length : Int)), (34, .bool (decide (((k : Int) : Int) < (p.inputs.length : Int)))), (57, .int .i64 (k2 : Int)), (58, .pointer (some ⟨g1, 1, none⟩)), (59, .slice Ap1 p.cells.length cp1), (60, .int .i64 (p.cells.length : Int)), (61, .bool (decide (((k2 : Int) : Int) < (p.cells.length : Int))))] (.row (.slice Br6 ((p.known k3).length) pr6) 9 1 ((p.known k3).length) xr6 :: L) a w)
          (fun x => match x with | (k3, HL4, Br6, pr6, xr6) => p.defs.length - k3) (0, HL2, Br6, pr6, xr6) ⟨⟨Nat.zero_le _, LE.rfl, (by have q := hrr6; rwa [show (p.inputs.map (·.name) ++ (p.cells.take k2).map (·.name)) = (p.known 0) from by rw [show k2 = p.cells.length by omega]; simp [Pg.known]] at q)⟩, h2⟩ ?_
        rintro ⟨k3, HL4, Br6, pr6, xr6⟩ a w ⟨⟨hk, leHL4, hrr6⟩, h⟩
        refine sq ?_
        refine sq ?_
        refine rg0 ?_
        refine mv h fun a w h => ?_
        refine fa fl28_2 (r := 2) h fun a w h => ?_
        have l_Hg1_HL4 : LE Hg1 HL4 := (leHL0.trans leHL2).trans leHL4
        refine ldH t1_26 (Hc.of (l_Hg1_HL4 _ _ hfg1) rfl) h fun a w h => ?_
        refine ln sli26 h fun a w h => ?_
        refine lt h fun a w h => ?_
        refine nl0 ?_
        refine thN ?_
        refine cdB h (fun c88 => ?_) (fun c88 => ?_)
        · have d88 : k3 < p.defs.length := by first | (simpa using c88) | (simp at c88; omega)
          refine sk_ ?_
          refine thN ?_
          refine sq ?_
          refine blk ?_
          refine sqc (fun a w => S E HL4 197 [] [(1, .pointer (some ⟨g1, 0, none⟩)), (2, .bool false), (3, .bool true), (6, .slice Br6 ((p.known k3).length) pr6), (7, .bool (!decide (p.known k3).Nodup)), (8, .int .i64 (k : Int)), (30, .int .i64 (k : Int)), (31, .pointer (some ⟨g1, 0, none⟩)), (32, .slice Ap0 p.inputs.length cp0), (33, .int .i64 (p.inputs.length : Int)), (34, .bool (decide (((k : Int) : Int) < (p.inputs.length : Int)))), (9, .int .i64 (k2 : Int)), (57, .int .i64 (k2 : Int)), (58, .pointer (some ⟨g1, 1, none⟩)), (59, .slice Ap1 p.cells.length cp1), (60, .int .i64 (p.cells.length : Int)), (61, .bool (decide (((k2 : Int) : Int) < (p.cells.length : Int)))), (10, .bool ((p.stg k3) || (p.defs[k3].t.strange (p.known k3)))), (11, .int .i64 (k3 : Int)), (84, .int .i64 (k3 : Int)), (85, .pointer (some ⟨g1, 2, none⟩)), (86, .slice Ap2 p.defs.length cp2), (87, .int .i64 (p.defs.length : Int)), (88, .bool (decide (((k3 : Int) : Int) < (p.defs.length : Int)))), (91, .bool ((p.stg k3))), (92, .bool ((p.stg k3))), (103, .bool ((p.stg k3) || (p.defs[k3].t.strange (p.known k3))))] (.row (.slice Br6 ((p.known k3).length) pr6) 9 1 ((p.known k3).length) xr6 :: L) a w) ?_ ?_
          · refine rg0 ?_
            refine mv h fun a w h => ?_
            refine h.spl (fun c91 h => ?_) (fun c91 h => ?_)
            · refine mv h fun a w h => ?_
              refine sk h (k := fun a w h => ?_)
              refine sk h (k := fun a w h => ?_)
              refine sk h (k := fun a w h => ?_)
              refine sk h (k := fun a w h => ?_)
              refine sk h (k := fun a w h => ?_)
              refine sk h (k := fun a w h => ?_)
              have hbf := hb.f _ (List.getElem_mem d88)
              refine sk h (k := fun a w h => ?_)
              refine sk h (k := fun a w h => ?_)
              refine sk h (k := fun a w h => ?_)
              refine sk h (k := fun a w h => ?_)
              refine pkT h fun a w h => ?_
              refine as_ h fun a w h => ?_
              refine nl0 ?_
              refine thN ?_
              have h2 : S E HL4 197 [] [(1, .pointer (some ⟨g1, 0, none⟩)), (2, .bool false), (3, .bool true), (6, .slice Br6 ((p.known k3).length) pr6), (7, .bool (!decide (p.known k3).Nodup)), (8, .int .i64 (k : Int)), (30, .int .i64 (k : Int)), (31, .pointer (some ⟨g1, 0, none⟩)), (32, .slice Ap0 p.inputs.length cp0), (33, .int .i64 (p.inputs.length : Int)), (34, .bool (decide (((k : Int) : Int) < (p.inputs.length : Int)))), (9, .int .i64 (k2 : Int)), (57, .int .i64 (k2 : Int)), (58, .pointer (some ⟨g1, 1, none⟩)), (59, .slice Ap1 p.cells.length cp1), (60, .int .i64 (p.cells.length : Int)), (61, .bool (decide (((k2 : Int) : Int) < (p.cells.length : Int)))), (10, .bool ((p.stg k3) || (p.defs[k3].t.strange (p.known k3)))), (11, .int .i64 (k3 : Int)), (84, .int .i64 (k3 : Int)), (85, .pointer (some ⟨g1, 2, none⟩)), (86, .slice Ap2 p.defs.length cp2), (87, .int .i64 (p.defs.length : Int)), (88, .bool (decide (((k3 : Int) : Int) < (p.defs.length : Int)))), (91, .bool ((p.stg k3))), (92, .bool ((p.stg k3))), (103, .bool ((p.stg k3) || (p.defs[k3].t.strange (p.known k3))))] (.row (.slice Br6 ((p.known k3).length) pr6) 9 1 ((p.known k3).length) xr6 :: L) a w := by rw [show (.bool ((p.stg k3) || (p.defs[k3].t.strange (p.known k3))) : Value) = .bool true from Eq.symm (by (try rw [c91]) <;> (try simp only [Bool.true_or, Bool.or_true, Bool.false_or, Bool.or_false, Bool.true_and, Bool.and_true, Bool.false_and, Bool.and_false, Bool.not_true, Bool.not_false, cond_true, cond_false])), show (.bool ((p.stg k3)) : Value) = .bool true from Eq.symm (by (try rw [c91]) <;> (try simp only [Bool.true_or, Bool.or_true, Bool.false_or, Bool.or_false, Bool.true_and, Bool.and_true, Bool.false_and, Bool.and_false, Bool.not_true, Bool.not_false, cond_true, cond_false]))]; exact h.to 0 _
              exact h2
            · refine mv h fun a w h => ?_
              refine fa fl28_2 (r := 2) h fun a w h => ?_
              refine ldH t1_26 (Hc.of (l_Hg1_HL4 _ _ hfg1) rfl) h fun a w h => ?_
              refine mv h fun a w h => ?_
              have l_H_HL4 : LE H HL4 := (((le14.trans leHg1).trans leHL0).trans leHL2).trans leHL4
              have hj96 : k3 < p.defs.length := by first | assumption | omega | (simp; done) | (simp; omega)
              obtain ⟨g96, o96, A96_0, c96_0, e96, hv96, hc96⟩ := FS.get (hp2.up l_H_HL4) hj96
              obtain ⟨_, _, q96, hk96_0⟩ := hv96; cases q96
              refine iaE sli26 sz68 rfl hj96 e96 h fun a w h => ?_
              refine fa fl68_1 (r := o96 + k3 * 5 + 1) h fun a w h => ?_
              refine ldHN (l := [_, _, _, _]) tN24 rfl (sbL 1 4 hc96) h fun a w h => ?_
              have hbf := hb.f _ (List.getElem_mem d88)
              refine cl bod23 (Free_ok p.defs[k3].t _ E HL4 _ ⟨A96_0, c96_0, rfl, hk96_0⟩ (by first | assumption | omega) (by first | assumption | omega)) h fun r99 H99 L99 a w le99 R h => ?_
              obtain ⟨A99, c99, ss99, rfl, rfl, rfl, hs99⟩ := R
              obtain ⟨Hf99, leHf99, h, hks99⟩ := h.frw 0 (rstr_row ss99) rfl (fun _ _ _ _ _ hr => hr)
              have hks99 : SS Hf99 A99 c99 ss99 := hks99
              have hfl99 := free_len hs99
              refine mv h fun a w h => ?_
              obtain ⟨Hn101_1, leHn101_1, h, hsHn101_1, backHn101_1⟩ := h.lendR 0 (hrr6.mono fun cs y _ hr => hr) rfl (fun _ l cs y _ hr => hr)
              refine cl bod33 (all_ok ss99 (p.known k3) _ _ _ _ E Hn101_1 _ (hks99.up leHn101_1) hsHn101_1 (by first | assumption | omega) (by first | assumption | omega | (simp; omega) | (simp [Pg.known]; omega))) h (fun r101 H101 L101 a w le101 R h => ?_)
              obtain ⟨rfl, rfl, rfl⟩ := R
              have h := backHn101_1.get LE.rfl h
              refine nt h fun a w h => ?_
              rw [all_strange hs99] at h
              refine pkF h fun a w h => ?_
              refine as_ h fun a w h => ?_
              refine nl0 ?_
              refine thN ?_
              have h := h.less leHf99
              have h2 : S E HL4 197 [] [(1, .pointer (some ⟨g1, 0, none⟩)), (2, .bool false), (3, .bool true), (6, .slice Br6 ((p.known k3).length) pr6), (7, .bool (!decide (p.known k3).Nodup)), (8, .int .i64 (k : Int)), (30, .int .i64 (k : Int)), (31, .pointer (some ⟨g1, 0, none⟩)), (32, .slice Ap0 p.inputs.length cp0), (33, .int .i64 (p.inputs.length : Int)), (34, .bool (decide (((k : Int) : Int) < (p.inputs.length : Int)))), (9, .int .i64 (k2 : Int)), (57, .int .i64 (k2 : Int)), (58, .pointer (some ⟨g1, 1, none⟩)), (59, .slice Ap1 p.cells.length cp1), (60, .int .i64 (p.cells.length : Int)), (61, .bool (decide (((k2 : Int) : Int) < (p.cells.length : Int)))), (10, .bool ((p.stg k3) || (p.defs[k3].t.strange (p.known k3)))), (11, .int .i64 (k3 : Int)), (84, .int .i64 (k3 : Int)), (85, .pointer (some ⟨g1, 2, none⟩)), (86, .slice Ap2 p.defs.length cp2), (87, .int .i64 (p.defs.length : Int)), (88, .bool (decide (((k3 : Int) : Int) < (p.defs.length : Int)))), (91, .bool ((p.stg k3))), (92, .bool ((p.stg k3))), (103, .bool ((p.stg k3) || (p.defs[k3].t.strange (p.known k3))))] (.row (.slice Br6 ((p.known k3).length) pr6) 9 1 ((p.known k3).length) xr6 :: L) a w := by rw [show (.bool ((p.stg k3) || (p.defs[k3].t.strange (p.known k3))) : Value) = .bool (p.defs[k3].t.strange (p.known k3)) from Eq.symm (by (try rw [c91]) <;> (try simp only [Bool.true_or, Bool.or_true, Bool.false_or, Bool.or_false, Bool.true_and, Bool.and_true, Bool.false_and, Bool.and_false, Bool.not_true, Bool.not_false, cond_true, cond_false])), show (.bool ((p.stg k3)) : Value) = .bool false from Eq.symm (by (try rw [c91]) <;> (try simp only [Bool.true_or, Bool.or_true, Bool.false_or, Bool.or_false, Bool.true_and, Bool.and_true, Bool.false_and, Bool.and_false, Bool.not_true, Bool.not_false, cond_true, cond_false]))]; exact h.to 0 _
              exact h2
          · rintro a w h
            refine sqc (fun a w => S E HL4 197 [] [(1, .pointer (some ⟨g1, 0, none⟩)), (2, .bool false), (3, .bool true), (6, .slice Br6 ((p.known k3).length) pr6), (7, .bool ((!decide (p.known k3).Nodup) || ((p.known k3).contains p.defs[k3].name))), (8, .int .i64 (k : Int)), (30, .int .i64 (k : Int)), (31, .pointer (some ⟨g1, 0, none⟩)), (32, .slice Ap0 p.inputs.length cp0), (33, .int .i64 (p.inputs.length : Int)), (34, .bool (decide (((k : Int) : Int) < (p.inputs.length : Int)))), (9, .int .i64 (k2 : Int)), (57, .int .i64 (k2 : Int)), (58, .pointer (some ⟨g1, 1, none⟩)), (59, .slice Ap1 p.cells.length cp1), (60, .int .i64 (p.cells.length : Int)), (61, .bool (decide (((k2 : Int) : Int) < (p.cells.length : Int)))), (10, .bool ((p.stg k3) || (p.defs[k3].t.strange (p.known k3)))), (11, .int .i64 (k3 : Int)), (84, .int .i64 (k3 : Int)), (85, .pointer (some ⟨g1, 2, none⟩)), (86, .slice Ap2 p.defs.length cp2), (87, .int .i64 (p.defs.length : Int)), (88, .bool (decide (((k3 : Int) : Int) < (p.defs.length : Int)))), (91, .bool ((p.stg k3))), (92, .bool ((p.stg k3))), (103, .bool ((p.stg k3) || (p.defs[k3].t.strange (p.known k3)))), (104, .bool ((!decide (p.known k3).Nodup))), (105, .bool ((!decide (p.known k3).Nodup))), (114, .bool ((!decide (p.known k3).Nodup) || ((p.known k3).contains p.defs[k3].name)))] (.row (.slice Br6 ((p.known k3).length) pr6) 9 1 ((p.known k3).length) xr6 :: L) a w) ?_ ?_
            · refine rg0 ?_
              refine mv h fun a w h => ?_
              refine h.spl (fun c104 h => ?_) (fun c104 h => ?_)
              · refine mv h fun a w h => ?_
                refine sk h (k := fun a w h => ?_)
                refine sk h (k := fun a w h => ?_)
                refine sk h (k := fun a w h => ?_)
                refine sk h (k := fun a w h => ?_)
                refine sk h (k := fun a w h => ?_)
                refine sk h (k := fun a w h => ?_)
                refine sk h (k := fun a w h => ?_)
                refine sk h (k := fun a w h => ?_)
                refine pkT h fun a w h => ?_
                refine as_ h fun a w h => ?_
                refine nl0 ?_
                refine thN ?_
                have h2 : S E HL4 197 [] [(1, .pointer (some ⟨g1, 0, none⟩)), (2, .bool false), (3, .bool true), (6, .slice Br6 ((p.known k3).length) pr6), (7, .bool ((!decide (p.known k3).Nodup) || ((p.known k3).contains p.defs[k3].name))), (8, .int .i64 (k : Int)), (30, .int .i64 (k : Int)), (31, .pointer (some ⟨g1, 0, none⟩)), (32, .slice Ap0 p.inputs.length cp0), (33, .int .i64 (p.inputs.length : Int)), (34, .bool (decide (((k : Int) : Int) < (p.inputs.length : Int)))), (9, .int .i64 (k2 : Int)), (57, .int .i64 (k2 : Int)), (58, .pointer (some ⟨g1, 1, none⟩)), (59, .slice Ap1 p.cells.length cp1), (60, .int .i64 (p.cells.length : Int)), (61, .bool (decide (((k2 : Int) : Int) < (p.cells.length : Int)))), (10, .bool ((p.stg k3) || (p.defs[k3].t.strange (p.known k3)))), (11, .int .i64 (k3 : Int)), (84, .int .i64 (k3 : Int)), (85, .pointer (some ⟨g1, 2, none⟩)), (86, .slice Ap2 p.defs.length cp2), (87, .int .i64 (p.defs.length : Int)), (88, .bool (decide (((k3 : Int) : Int) < (p.defs.length : Int)))), (91, .bool ((p.stg k3))), (92, .bool ((p.stg k3))), (103, .bool ((p.stg k3) || (p.defs[k3].t.strange (p.known k3)))), (104, .bool ((!decide (p.known k3).Nodup))), (105, .bool ((!decide (p.known k3).Nodup))), (114, .bool ((!decide (p.known k3).Nodup) || ((p.known k3).contains p.defs[k3].name)))] (.row (.slice Br6 ((p.known k3).length) pr6) 9 1 ((p.known k3).length) xr6 :: L) a w := by rw [show (.bool ((!decide (p.known k3).Nodup) || ((p.known k3).contains p.defs[k3].name)) : Value) = .bool true from Eq.symm (by (try rw [c104]) <;> (try simp only [Bool.true_or, Bool.or_true, Bool.false_or, Bool.or_false, Bool.true_and, Bool.and_true, Bool.false_and, Bool.and_false, Bool.not_true, Bool.not_false, cond_true, cond_false])), show (.bool ((!decide (p.known k3).Nodup)) : Value) = .bool true from Eq.symm (by (try rw [c104]) <;> (try simp only [Bool.true_or, Bool.or_true, Bool.false_or, Bool.or_false, Bool.true_and, Bool.and_true, Bool.false_and, Bool.and_false, Bool.not_true, Bool.not_false, cond_true, cond_false]))]; exact h.to 0 _
                exact h2
              · refine mv h fun a w h => ?_
                refine mv h fun a w h => ?_
                refine fa fl28_2 (r := 2) h fun a w h => ?_
                refine ldH t1_26 (Hc.of (l_Hg1_HL4 _ _ hfg1) rfl) h fun a w h => ?_
                refine mv h fun a w h => ?_
                have l_H_HL4 : LE H HL4 := (((le14.trans leHg1).trans leHL0).trans leHL2).trans leHL4
                have hj110 : k3 < p.defs.length := by first | assumption | omega | (simp; done) | (simp; omega)
                obtain ⟨g110, o110, A110_0, c110_0, e110, hv110, hc110⟩ := FS.get (hp2.up l_H_HL4) hj110
                obtain ⟨_, _, q110, hk110_0⟩ := hv110; cases q110
                refine iaE sli26 sz68 rfl hj110 e110 h fun a w h => ?_
                refine fa fl68_0 (r := o110 + k3 * 5 + 0) h fun a w h => ?_
                refine ldH t1_9 (hc110 0 _ rfl) h fun a w h => ?_
                obtain ⟨Hn113_0, leHn113_0, h, hsHn113_0, backHn113_0⟩ := h.lendR 0 hrr6 rfl (fun _ l cs y _ hr => hr)
                refine cl bod32 (has_ok (p.known k3) p.defs[k3].name _ _ E Hn113_0 _ hsHn113_0 (by first | assumption | omega | (simp; omega) | (simp [Pg.known]; omega))) h (fun r113 H113 L113 a w le113 R h => ?_)
                obtain ⟨rfl, rfl, rfl⟩ := R
                have h := backHn113_0.get LE.rfl h
                refine pkF h fun a w h => ?_
                refine as_ h fun a w h => ?_
                refine nl0 ?_
                refine thN ?_
                have h2 : S E HL4 197 [] [(1, .pointer (some ⟨g1, 0, none⟩)), (2, .bool false), (3, .bool true), (6, .slice Br6 ((p.known k3).length) pr6), (7, .bool ((!decide (p.known k3).Nodup) || ((p.known k3).contains p.defs[k3].name))), (8, .int .i64 (k : Int)), (30, .int .i64 (k : Int)), (31, .pointer (some ⟨g1, 0, none⟩)), (32, .slice Ap0 p.inputs.length cp0), (33, .int .i64 (p.inputs.length : Int)), (34, .bool (decide (((k : Int) : Int) < (p.inputs.length : Int)))), (9, .int .i64 (k2 : Int)), (57, .int .i64 (k2 : Int)), (58, .pointer (some ⟨g1, 1, none⟩)), (59, .slice Ap1 p.cells.length cp1), (60, .int .i64 (p.cells.length : Int)), (61, .bool (decide (((k2 : Int) : Int) < (p.cells.length : Int)))), (10, .bool ((p.stg k3) || (p.defs[k3].t.strange (p.known k3)))), (11, .int .i64 (k3 : Int)), (84, .int .i64 (k3 : Int)), (85, .pointer (some ⟨g1, 2, none⟩)), (86, .slice Ap2 p.defs.length cp2), (87, .int .i64 (p.defs.length : Int)), (88, .bool (decide (((k3 : Int) : Int) < (p.defs.length : Int)))), (91, .bool ((p.stg k3))), (92, .bool ((p.stg k3))), (103, .bool ((p.stg k3) || (p.defs[k3].t.strange (p.known k3)))), (104, .bool ((!decide (p.known k3).Nodup))), (105, .bool ((!decide (p.known k3).Nodup))), (114, .bool ((!decide (p.known k3).Nodup) || ((p.known k3).contains p.defs[k3].name)))] (.row (.slice Br6 ((p.known k3).length) pr6) 9 1 ((p.known k3).length) xr6 :: L) a w := by rw [show (.bool ((!decide (p.known k3).Nodup) || ((p.known k3).contains p.defs[k3].name)) : Value) = .bool ((p.known k3).contains p.defs[k3].name) from Eq.symm (by (try rw [c104]) <;> (try simp only [Bool.true_or, Bool.or_true, Bool.false_or, Bool.or_false, Bool.true_and, Bool.and_true, Bool.false_and, Bool.and_false, Bool.not_true, Bool.not_false, cond_true, cond_false])), show (.bool ((!decide (p.known k3).Nodup)) : Value) = .bool false from Eq.symm (by (try rw [c104]) <;> (try simp only [Bool.true_or, Bool.or_true, Bool.false_or, Bool.or_false, Bool.true_and, Bool.and_true, Bool.false_and, Bool.and_false, Bool.not_true, Bool.not_false, cond_true, cond_false]))]; exact h.to 0 _
                exact h2
            · rintro a w h
              refine rg0 ?_
              refine mv h fun a w h => ?_
              refine fa fl28_2 (r := 2) h fun a w h => ?_
              refine ldH t1_26 (Hc.of (l_Hg1_HL4 _ _ hfg1) rfl) h fun a w h => ?_
              refine mv h fun a w h => ?_
              have l_H_HL4 : LE H HL4 := (((le14.trans leHg1).trans leHL0).trans leHL2).trans leHL4
              have hj119 : k3 < p.defs.length := by first | assumption | omega | (simp; done) | (simp; omega)
              obtain ⟨g119, o119, A119_0, c119_0, e119, hv119, hc119⟩ := FS.get (hp2.up l_H_HL4) hj119
              obtain ⟨_, _, q119, hk119_0⟩ := hv119; cases q119
              refine iaE sli26 sz68 rfl hj119 e119 h fun a w h => ?_
              refine fa fl68_0 (r := o119 + k3 * 5 + 0) h fun a w h => ?_
              refine ldH t1_9 (hc119 0 _ rfl) h fun a w h => ?_
              refine bsl bs58 h fun g122 a w h => ?_
              refine apn (n := ((p.known k3).length)) (m := 1) 1 0 (L' := fun i => _ :: i :: _) [_] (((p.known k3) ++ [p.defs[k3].name]).length) (by first | (simp; done) | (simp; omega)) row58 h (by first | omega | (simp; omega) | (simp [Pg.known]; omega)) (by first | omega | (simp; omega) | (simp [Pg.known]; omega)) fun v123 a w hone123 h => ?_
              obtain ⟨B123, cp123, rfl⟩ := h.rowv 1
              have hr123 : RowR RStr 1 HL4 (xr6 ++ [str p.defs[k3].name]) ((p.known k3) ++ [p.defs[k3].name]) := hrr6.snoc rfl rfl
              refine as_ h fun a w h => ?_
              refine nl0 ?_
              refine ibN ?_
              refine thN ?_
              refine rg0 ?_
              refine mv h fun a w h => ?_
              refine inc ?_ h fun a w h => ?_
              · omega
              refine as_ h fun a w h => ?_
              refine nl0 ?_
              refine thN ?_
              have h := h.del 0
              have h2 : S E HL4 197 [] [(1, .pointer (some ⟨g1, 0, none⟩)), (2, .bool false), (3, .bool true), (6, .slice B123 ((p.known (k3 + 1)).length) cp123), (7, .bool (!decide (p.known (k3 + 1)).Nodup)), (8, .int .i64 (k : Int)), (9, .int .i64 (k2 : Int)), (10, .bool (p.stg (k3 + 1))), (11, .int .i64 ((k3 + 1) : Int)), (30, .int .i64 (k : Int)), (31, .pointer (some ⟨g1, 0, none⟩)), (32, .slice Ap0 p.inputs.length cp0), (33, .int .i64 (p.inputs.length : Int)), (34, .bool (decide (((k : Int) : Int) < (p.inputs.length : Int)))), (57, .int .i64 (k2 : Int)), (58, .pointer (some ⟨g1, 1, none⟩)), (59, .slice Ap1 p.cells.length cp1), (60, .int .i64 (p.cells.length : Int)), (61, .bool (decide (((k2 : Int) : Int) < (p.cells.length : Int))))] (.row (.slice B123 ((p.known (k3 + 1)).length) cp123) 9 1 ((p.known (k3 + 1)).length) (xr6 ++ [str p.defs[k3].name]) :: L) a w := by rw [show ((p.known (k3 + 1)).length) = ((p.known k3) ++ [p.defs[k3].name]).length from Eq.symm (by rw [known_succ p d88]), show (.bool (!decide (p.known (k3 + 1)).Nodup) : Value) = .bool ((!decide (p.known k3).Nodup) || ((p.known k3).contains p.defs[k3].name)) from Eq.symm (by rw [known_succ p d88, ← dup_snoc]), show (.bool (p.stg (k3 + 1)) : Value) = .bool ((p.stg k3) || (p.defs[k3].t.strange (p.known k3))) from Eq.symm (by rw [stg_succ d88])]; exact h.to 0 _
              exact ⟨((k3 + 1), HL4, B123, cp123, (xr6 ++ [str p.defs[k3].name])), ⟨⟨by omega, leHL4, (by have q := hr123; rwa [show ((p.known k3) ++ [p.defs[k3].name]) = (p.known (k3 + 1)) from by rw [known_succ p d88]] at q)⟩, h2⟩, by show _ - (k3 + 1) < _ - k3; omega⟩
        · have d88 : p.defs.length ≤ k3 := by first | (simpa using c88) | (simp at c88; omega)
          refine exit_ ?_
          refine thE ?_
          refine thE ?_
          refine ibH ?_
          refine thN ?_
          refine sqc (fun a w => S E HL4 197 [] [(1, .pointer (some ⟨g1, 0, none⟩)), (2, .bool false), (3, .bool true), (6, .slice Br6 ((p.known k3).length) pr6), (7, .bool (!decide (p.known k3).Nodup)), (8, .int .i64 (k : Int)), (30, .int .i64 (k : Int)), (31, .pointer (some ⟨g1, 0, none⟩)), (32, .slice Ap0 p.inputs.length cp0), (33, .int .i64 (p.inputs.length : Int)), (34, .bool (decide (((k : Int) : Int) < (p.inputs.length : Int)))), (9, .int .i64 (k2 : Int)), (57, .int .i64 (k2 : Int)), (58, .pointer (some ⟨g1, 1, none⟩)), (59, .slice Ap1 p.cells.length cp1), (60, .int .i64 (p.cells.length : Int)), (61, .bool (decide (((k2 : Int) : Int) < (p.cells.length : Int)))), (10, .bool ((p.stg k3) || (p.body.strange (p.known k3)))), (11, .int .i64 (k3 : Int)), (84, .int .i64 (k3 : Int)), (85, .pointer (some ⟨g1, 2, none⟩)), (86, .slice Ap2 p.defs.length cp2), (87, .int .i64 (p.defs.length : Int)), (88, .bool (decide (((k3 : Int) : Int) < (p.defs.length : Int))))] (.row (.slice Br6 ((p.known k3).length) pr6) 9 1 ((p.known k3).length) xr6 :: L) a w) ?_ ?_
          · refine rg0 ?_
            refine mv h fun a w h => ?_
            refine h.spl (fun c124 h => ?_) (fun c124 h => ?_)
            · refine mv h fun a w h => ?_
              refine sk h (k := fun a w h => ?_)
              refine sk h (k := fun a w h => ?_)
              refine sk h (k := fun a w h => ?_)
              refine sk h (k := fun a w h => ?_)
              refine sk h (k := fun a w h => ?_)
              refine sk h (k := fun a w h => ?_)
              refine pkT h fun a w h => ?_
              refine as_ h fun a w h => ?_
              refine nl0 ?_
              refine thN ?_
              have h2 : S E HL4 197 [] [(1, .pointer (some ⟨g1, 0, none⟩)), (2, .bool false), (3, .bool true), (6, .slice Br6 ((p.known k3).length) pr6), (7, .bool (!decide (p.known k3).Nodup)), (8, .int .i64 (k : Int)), (30, .int .i64 (k : Int)), (31, .pointer (some ⟨g1, 0, none⟩)), (32, .slice Ap0 p.inputs.length cp0), (33, .int .i64 (p.inputs.length : Int)), (34, .bool (decide (((k : Int) : Int) < (p.inputs.length : Int)))), (9, .int .i64 (k2 : Int)), (57, .int .i64 (k2 : Int)), (58, .pointer (some ⟨g1, 1, none⟩)), (59, .slice Ap1 p.cells.length cp1), (60, .int .i64 (p.cells.length : Int)), (61, .bool (decide (((k2 : Int) : Int) < (p.cells.length : Int)))), (10, .bool ((p.stg k3) || (p.body.strange (p.known k3)))), (11, .int .i64 (k3 : Int)), (84, .int .i64 (k3 : Int)), (85, .pointer (some ⟨g1, 2, none⟩)), (86, .slice Ap2 p.defs.length cp2), (87, .int .i64 (p.defs.length : Int)), (88, .bool (decide (((k3 : Int) : Int) < (p.defs.length : Int))))] (.row (.slice Br6 ((p.known k3).length) pr6) 9 1 ((p.known k3).length) xr6 :: L) a w := by rw [show (.bool ((p.stg k3) || (p.body.strange (p.known k3))) : Value) = .bool true from Eq.symm (by (try rw [c124]) <;> (try simp only [Bool.true_or, Bool.or_true, Bool.false_or, Bool.or_false, Bool.true_and, Bool.and_true, Bool.false_and, Bool.and_false, Bool.not_true, Bool.not_false, cond_true, cond_false]))]; exact h.to 0 _
              exact h2
            · refine mv h fun a w h => ?_
              refine fa fl28_3 (r := 3) h fun a w h => ?_
              refine ldHN (l := [_, _, _, _]) tN24 rfl (Hc.sub 3 4 (l_Hg1_HL4 _ _ hfg1)) h fun a w h => ?_
              have l_H_HL4 : LE H HL4 := (((le14.trans leHg1).trans leHL0).trans leHL2).trans leHL4
              refine cl bod23 (Free_ok p.body _ E HL4 _ ⟨Ap3, cp3, rfl, (hp3.up l_H_HL4)⟩ (by first | assumption | omega) (by first | assumption | omega)) h fun r128 H128 L128 a w le128 R h => ?_
              obtain ⟨A128, c128, ss128, rfl, rfl, rfl, hs128⟩ := R
              obtain ⟨Hf128, leHf128, h, hks128⟩ := h.frw 0 (rstr_row ss128) rfl (fun _ _ _ _ _ hr => hr)
              have hks128 : SS Hf128 A128 c128 ss128 := hks128
              have hfl128 := free_len hs128
              refine mv h fun a w h => ?_
              obtain ⟨Hn130_1, leHn130_1, h, hsHn130_1, backHn130_1⟩ := h.lendR 0 (hrr6.mono fun cs y _ hr => hr) rfl (fun _ l cs y _ hr => hr)
              refine cl bod33 (all_ok ss128 (p.known k3) _ _ _ _ E Hn130_1 _ (hks128.up leHn130_1) hsHn130_1 (by first | assumption | omega) (by first | assumption | omega | (simp; omega) | (simp [Pg.known]; omega))) h (fun r130 H130 L130 a w le130 R h => ?_)
              obtain ⟨rfl, rfl, rfl⟩ := R
              have h := backHn130_1.get LE.rfl h
              refine nt h fun a w h => ?_
              rw [all_strange hs128] at h
              refine pkF h fun a w h => ?_
              refine as_ h fun a w h => ?_
              refine nl0 ?_
              refine thN ?_
              have h := h.less leHf128
              have h2 : S E HL4 197 [] [(1, .pointer (some ⟨g1, 0, none⟩)), (2, .bool false), (3, .bool true), (6, .slice Br6 ((p.known k3).length) pr6), (7, .bool (!decide (p.known k3).Nodup)), (8, .int .i64 (k : Int)), (30, .int .i64 (k : Int)), (31, .pointer (some ⟨g1, 0, none⟩)), (32, .slice Ap0 p.inputs.length cp0), (33, .int .i64 (p.inputs.length : Int)), (34, .bool (decide (((k : Int) : Int) < (p.inputs.length : Int)))), (9, .int .i64 (k2 : Int)), (57, .int .i64 (k2 : Int)), (58, .pointer (some ⟨g1, 1, none⟩)), (59, .slice Ap1 p.cells.length cp1), (60, .int .i64 (p.cells.length : Int)), (61, .bool (decide (((k2 : Int) : Int) < (p.cells.length : Int)))), (10, .bool ((p.stg k3) || (p.body.strange (p.known k3)))), (11, .int .i64 (k3 : Int)), (84, .int .i64 (k3 : Int)), (85, .pointer (some ⟨g1, 2, none⟩)), (86, .slice Ap2 p.defs.length cp2), (87, .int .i64 (p.defs.length : Int)), (88, .bool (decide (((k3 : Int) : Int) < (p.defs.length : Int))))] (.row (.slice Br6 ((p.known k3).length) pr6) 9 1 ((p.known k3).length) xr6 :: L) a w := by rw [show (.bool ((p.stg k3) || (p.body.strange (p.known k3))) : Value) = .bool (p.body.strange (p.known k3)) from Eq.symm (by (try rw [c124]) <;> (try simp only [Bool.true_or, Bool.or_true, Bool.false_or, Bool.or_false, Bool.true_and, Bool.and_true, Bool.false_and, Bool.and_false, Bool.not_true, Bool.not_false, cond_true, cond_false]))]; exact h.to 0 _
              exact h2
          · rintro a w h
            refine sq ?_
            refine rg0 ?_
            refine ldHN tN28 rfl (Hc.all (l_Hg1_HL4 _ _ hfg1)) h fun a w h => ?_
            have l_H_HL4 : LE H HL4 := (((le14.trans leHg1).trans leHL0).trans leHL2).trans leHL4
            refine cl bod17 (Resolve_ok p _ E HL4 _ ⟨Ap0, cp0, Ap1, cp1, Ap2, cp2, Ap3, cp3, rfl, (hp0.up l_H_HL4), (hp1.up l_H_HL4), (hp2.up l_H_HL4), (hp3.up l_H_HL4)⟩ (hL.up l_H_HL4) (by first | assumption | omega)) h (fun r135 H135 L135 a w le135 R h => ?_)
            obtain ⟨_, rfl, ⟨A135_0_0, c135_0_0, A135_0_1, c135_0_1, A135_0_2, c135_0_2, A135_0_3, c135_0_3, rfl, hk135_0_0, hk135_0_1, hk135_0_2, hk135_0_3⟩, rfl⟩ := R
            refine mv h fun a w h => ?_
            refine ex h fun a w h => ?_
            refine ex h fun a w h => ?_
            refine al zr28 h fun g12 a w h => ?_
            refine sw0 tN28 h fun a w h => ?_
            refine as_ h fun a w h => ?_
            refine nl0 ?_
            refine thN ?_
            refine sq ?_
            refine sq ?_
            refine rg0 ?_
            refine mv h fun a w h => ?_
            refine nl0 ?_
            refine thN ?_
            refine cdB h (fun c138 => ?_) (fun c138 => ?_)
            · refine sqc (fun a w => S E H135 197 [] [(1, .pointer (some ⟨g1, 0, none⟩)), (2, .bool (((p.resolve.2 : Int) == 6) && (p.resolve.1.same (Pg.mk [] [] [] (Tm.mk 0 [] 0 [] : Tm) : Pg)))), (3, .bool true), (6, .slice Br6 ((p.known k3).length) pr6), (7, .bool (!decide (p.known k3).Nodup)), (8, .int .i64 (k : Int)), (30, .int .i64 (k : Int)), (31, .pointer (some ⟨g1, 0, none⟩)), (32, .slice Ap0 p.inputs.length cp0), (33, .int .i64 (p.inputs.length : Int)), (34, .bool (decide (((k : Int) : Int) < (p.inputs.length : Int)))), (9, .int .i64 (k2 : Int)), (57, .int .i64 (k2 : Int)), (58, .pointer (some ⟨g1, 1, none⟩)), (59, .slice Ap1 p.cells.length cp1), (60, .int .i64 (p.cells.length : Int)), (61, .bool (decide (((k2 : Int) : Int) < (p.cells.length : Int)))), (10, .bool ((p.stg k3) || (p.body.strange (p.known k3)))), (11, .int .i64 (k3 : Int)), (84, .int .i64 (k3 : Int)), (85, .pointer (some ⟨g1, 2, none⟩)), (86, .slice Ap2 p.defs.length cp2), (87, .int .i64 (p.defs.length : Int)), (88, .bool (decide (((k3 : Int) : Int) < (p.defs.length : Int)))), (12, .pointer (some ⟨g12, 0, none⟩)), (13, .int .i64 p.resolve.2)] (.obj g12 (.cells #[.slice A135_0_0 p.resolve.1.inputs.length c135_0_0, .slice A135_0_1 p.resolve.1.cells.length c135_0_1, .slice A135_0_2 p.resolve.1.defs.length c135_0_2, .int .i64 p.resolve.1.body.kind, str p.resolve.1.body.name, .int .i64 p.resolve.1.body.n, .slice A135_0_3 p.resolve.1.body.kids.length c135_0_3] 28 (0, 0)) :: .row (.slice Br6 ((p.known k3).length) pr6) 9 1 ((p.known k3).length) xr6 :: L) a w) ?_ ?_
              · refine rg0 ?_
                refine mv h fun a w h => ?_
                refine mv h fun a w h => ?_
                refine mv h fun a w h => ?_
                refine eqi h fun a w h => ?_
                refine pkT h fun a w h => ?_
                refine h.spl (fun c143 h => ?_) (fun c143 h => ?_)
                · have d143 : p.resolve.2 = 6 := by first | (simpa using c143) | (simp at c143; omega)
                  refine mv h fun a w h => ?_
                  refine ldW 0 tN28 h fun a w h => ?_
                  refine bdl lay28 zr28 h fun a w h => ?_
                  refine cl bod34 (SameP_ok p.resolve.1 (Pg.mk [] [] [] (Tm.mk 0 [] 0 [] : Tm) : Pg) _ _ E H135 _ ⟨A135_0_0, c135_0_0, A135_0_1, c135_0_1, A135_0_2, c135_0_2, A135_0_3, c135_0_3, rfl, hk135_0_0, hk135_0_1, hk135_0_2, hk135_0_3⟩ ⟨none, 0, none, 0, none, 0, none, 0, rfl, RS.nil _ _ _, RS.nil _ _ _, RS.nil _ _ _, RS.nil _ _ _⟩ (small_resolve hb)) h (fun r147 H147 L147 a w le147 R h => ?_)
                  obtain ⟨rfl, rfl, rfl⟩ := R
                  refine pkT h fun a w h => ?_
                  refine as_ h fun a w h => ?_
                  refine nl0 ?_
                  refine thN ?_
                  have h2 : S E H135 197 [] [(1, .pointer (some ⟨g1, 0, none⟩)), (2, .bool (((p.resolve.2 : Int) == 6) && (p.resolve.1.same (Pg.mk [] [] [] (Tm.mk 0 [] 0 [] : Tm) : Pg)))), (3, .bool true), (6, .slice Br6 ((p.known k3).length) pr6), (7, .bool (!decide (p.known k3).Nodup)), (8, .int .i64 (k : Int)), (30, .int .i64 (k : Int)), (31, .pointer (some ⟨g1, 0, none⟩)), (32, .slice Ap0 p.inputs.length cp0), (33, .int .i64 (p.inputs.length : Int)), (34, .bool (decide (((k : Int) : Int) < (p.inputs.length : Int)))), (9, .int .i64 (k2 : Int)), (57, .int .i64 (k2 : Int)), (58, .pointer (some ⟨g1, 1, none⟩)), (59, .slice Ap1 p.cells.length cp1), (60, .int .i64 (p.cells.length : Int)), (61, .bool (decide (((k2 : Int) : Int) < (p.cells.length : Int)))), (10, .bool ((p.stg k3) || (p.body.strange (p.known k3)))), (11, .int .i64 (k3 : Int)), (84, .int .i64 (k3 : Int)), (85, .pointer (some ⟨g1, 2, none⟩)), (86, .slice Ap2 p.defs.length cp2), (87, .int .i64 (p.defs.length : Int)), (88, .bool (decide (((k3 : Int) : Int) < (p.defs.length : Int)))), (12, .pointer (some ⟨g12, 0, none⟩)), (13, .int .i64 p.resolve.2)] (.obj g12 (.cells #[.slice A135_0_0 p.resolve.1.inputs.length c135_0_0, .slice A135_0_1 p.resolve.1.cells.length c135_0_1, .slice A135_0_2 p.resolve.1.defs.length c135_0_2, .int .i64 p.resolve.1.body.kind, str p.resolve.1.body.name, .int .i64 p.resolve.1.body.n, .slice A135_0_3 p.resolve.1.body.kids.length c135_0_3] 28 (0, 0)) :: .row (.slice Br6 ((p.known k3).length) pr6) 9 1 ((p.known k3).length) xr6 :: L) a w := by rw [show (.bool (((p.resolve.2 : Int) == 6) && (p.resolve.1.same (Pg.mk [] [] [] (Tm.mk 0 [] 0 [] : Tm) : Pg))) : Value) = .bool (p.resolve.1.same (Pg.mk [] [] [] (Tm.mk 0 [] 0 [] : Tm) : Pg)) from Eq.symm (by (try rw [c143]) <;> (try simp only [Bool.true_or, Bool.or_true, Bool.false_or, Bool.or_false, Bool.true_and, Bool.and_true, Bool.false_and, Bool.and_false, Bool.not_true, Bool.not_false, cond_true, cond_false]))]; exact h.to 0 _
                  exact h2
                · have d143 : p.resolve.2 ≠ 6 := by first | (simpa using c143) | (simp at c143; omega)
                  refine mv h fun a w h => ?_
                  refine sk h (k := fun a w h => ?_)
                  refine sk h (k := fun a w h => ?_)
                  refine sk h (k := fun a w h => ?_)
                  refine pkF h fun a w h => ?_
                  refine as_ h fun a w h => ?_
                  refine nl0 ?_
                  refine thN ?_
                  have h2 : S E H135 197 [] [(1, .pointer (some ⟨g1, 0, none⟩)), (2, .bool (((p.resolve.2 : Int) == 6) && (p.resolve.1.same (Pg.mk [] [] [] (Tm.mk 0 [] 0 [] : Tm) : Pg)))), (3, .bool true), (6, .slice Br6 ((p.known k3).length) pr6), (7, .bool (!decide (p.known k3).Nodup)), (8, .int .i64 (k : Int)), (30, .int .i64 (k : Int)), (31, .pointer (some ⟨g1, 0, none⟩)), (32, .slice Ap0 p.inputs.length cp0), (33, .int .i64 (p.inputs.length : Int)), (34, .bool (decide (((k : Int) : Int) < (p.inputs.length : Int)))), (9, .int .i64 (k2 : Int)), (57, .int .i64 (k2 : Int)), (58, .pointer (some ⟨g1, 1, none⟩)), (59, .slice Ap1 p.cells.length cp1), (60, .int .i64 (p.cells.length : Int)), (61, .bool (decide (((k2 : Int) : Int) < (p.cells.length : Int)))), (10, .bool ((p.stg k3) || (p.body.strange (p.known k3)))), (11, .int .i64 (k3 : Int)), (84, .int .i64 (k3 : Int)), (85, .pointer (some ⟨g1, 2, none⟩)), (86, .slice Ap2 p.defs.length cp2), (87, .int .i64 (p.defs.length : Int)), (88, .bool (decide (((k3 : Int) : Int) < (p.defs.length : Int)))), (12, .pointer (some ⟨g12, 0, none⟩)), (13, .int .i64 p.resolve.2)] (.obj g12 (.cells #[.slice A135_0_0 p.resolve.1.inputs.length c135_0_0, .slice A135_0_1 p.resolve.1.cells.length c135_0_1, .slice A135_0_2 p.resolve.1.defs.length c135_0_2, .int .i64 p.resolve.1.body.kind, str p.resolve.1.body.name, .int .i64 p.resolve.1.body.n, .slice A135_0_3 p.resolve.1.body.kids.length c135_0_3] 28 (0, 0)) :: .row (.slice Br6 ((p.known k3).length) pr6) 9 1 ((p.known k3).length) xr6 :: L) a w := by rw [show (.bool (((p.resolve.2 : Int) == 6) && (p.resolve.1.same (Pg.mk [] [] [] (Tm.mk 0 [] 0 [] : Tm) : Pg))) : Value) = .bool false from Eq.symm (by (try rw [c143]) <;> (try simp only [Bool.true_or, Bool.or_true, Bool.false_or, Bool.or_false, Bool.true_and, Bool.and_true, Bool.false_and, Bool.and_false, Bool.not_true, Bool.not_false, cond_true, cond_false]))]; exact h.to 0 _
                  exact h2
              · rintro a w h
                refine ret_ ?_
                refine thR ?_
                have hk3 : k3 = p.defs.length := by omega
                rw [hk3] at c138
                have ht : p.twice = true := by rw [twice_nodup]; exact c138
                have er := (resolve_cases p d19).1 ht
                have l_H_H135 : LE H H135 := ((((le14.trans leHg1).trans leHL0).trans leHL2).trans leHL4).trans le135
                refine fin1 2 2 h l_H_H135 ?_
                exact ⟨by rw [er]; rfl, rfl⟩
            · refine sk_ ?_
              refine thN ?_
              refine sqc (fun a w => S E H135 197 [] [(1, .pointer (some ⟨g1, 0, none⟩)), (2, .bool ((((p.resolve.2 : Int) == 5) == ((p.stg k3) || (p.body.strange (p.known k3)))) && (((p.stg k3) || (p.body.strange (p.known k3))) || (((p.resolve.2 : Int) == 0) && ((((p.resolve.1.inputs.length : Int) : Int) == (p.inputs.length : Int)) && ((((p.resolve.1.cells.length : Int) : Int) == (p.cells.length : Int)) && ((((p.resolve.1.defs.length : Int) : Int) == (p.defs.length : Int)) && ((p.resolve.1.sizeW : Int) == p.sizeW)))))))), (3, .bool true), (6, .slice Br6 ((p.known k3).length) pr6), (7, .bool (!decide (p.known k3).Nodup)), (8, .int .i64 (k : Int)), (30, .int .i64 (k : Int)), (31, .pointer (some ⟨g1, 0, none⟩)), (32, .slice Ap0 p.inputs.length cp0), (33, .int .i64 (p.inputs.length : Int)), (34, .bool (decide (((k : Int) : Int) < (p.inputs.length : Int)))), (9, .int .i64 (k2 : Int)), (57, .int .i64 (k2 : Int)), (58, .pointer (some ⟨g1, 1, none⟩)), (59, .slice Ap1 p.cells.length cp1), (60, .int .i64 (p.cells.length : Int)), (61, .bool (decide (((k2 : Int) : Int) < (p.cells.length : Int)))), (10, .bool ((p.stg k3) || (p.body.strange (p.known k3)))), (11, .int .i64 (k3 : Int)), (84, .int .i64 (k3 : Int)), (85, .pointer (some ⟨g1, 2, none⟩)), (86, .slice Ap2 p.defs.length cp2), (87, .int .i64 (p.defs.length : Int)), (88, .bool (decide (((k3 : Int) : Int) < (p.defs.length : Int))))] (.obj g12 (.cells #[.slice A135_0_0 p.resolve.1.inputs.length c135_0_0, .slice A135_0_1 p.resolve.1.cells.length c135_0_1, .slice A135_0_2 p.resolve.1.defs.length c135_0_2, .int .i64 p.resolve.1.body.kind, str p.resolve.1.body.name, .int .i64 p.resolve.1.body.n, .slice A135_0_3 p.resolve.1.body.kids.length c135_0_3] 28 (0, 0)) :: .row (.slice Br6 ((p.known k3).length) pr6) 9 1 ((p.known k3).length) xr6 :: L) a w) ?_ ?_
              · refine rgx [0] [_] [14, 17, 23, 26, 32, 35, 40, 42] 49 mix h (fun a w h => ?_)
                refine tkl 0 false (by kernel_rfl) ?_
                refine mv h fun a w h => ?_
                refine tk0 ?_
                refine tkl 1 false (by kernel_rfl) ?_
                refine mv h fun a w h => ?_
                refine tk0 ?_
                refine tkl 2 false (by kernel_rfl) ?_
                refine mv h fun a w h => ?_
                refine tk0 ?_
                refine tkl 3 false (by kernel_rfl) ?_
                refine eqi h fun a w h => ?_
                refine tk0 ?_
                refine tkl 4 false (by kernel_rfl) ?_
                refine mv h fun a w h => ?_
                refine tk0 ?_
                refine tkl 5 false (by kernel_rfl) ?_
                refine eqbo boo4 h fun a w h => ?_
                refine tk0 ?_
                refine tkl 6 false (by kernel_rfl) ?_
                refine pkT h fun a w h => ?_
                refine h.spl (fun c155 h => ?_) (fun c155 h => ?_)
                · have d155 : ((p.resolve.2 : Int) == 5) = ((p.stg k3) || (p.body.strange (p.known k3))) := by first | (simpa using c155) | (simp at c155; omega)
                  refine tk0 ?_
                  refine tkl 7 false (by kernel_rfl) ?_
                  refine mv h fun a w h => ?_
                  refine tk0 ?_
                  refine tkl 8 false (by kernel_rfl) ?_
                  refine mv h fun a w h => ?_
                  refine h.spl (fun c157 h => ?_) (fun c157 h => ?_)
                  · refine tk0 ?_
                    refine tkl 9 false (by kernel_rfl) ?_
                    refine mv h fun a w h => ?_
                    refine tk0 ?_
                    refine tkl 10 false (by kernel_rfl) ?_
                    refine sk h (k := fun a w h => ?_)
                    refine tk0 ?_
                    refine tkl 11 false (by kernel_rfl) ?_
                    refine sk h (k := fun a w h => ?_)
                    refine tk0 ?_
                    refine tkl 12 false (by kernel_rfl) ?_
                    refine sk h (k := fun a w h => ?_)
                    refine tk0 ?_
                    refine tkl 13 false (by kernel_rfl) ?_
                    refine sk h (k := fun a w h => ?_)
                    refine tk0 ?_
                    refine tkl 14 true (by kernel_rfl) ?_
                    refine sk h (k := fun a w h => ?_)
                    refine tk0 ?_
                    refine tkl 15 false (by kernel_rfl) ?_
                    refine sk h (k := fun a w h => ?_)
                    refine tk0 ?_
                    refine tkl 16 false (by kernel_rfl) ?_
                    refine sk h (k := fun a w h => ?_)
                    refine tk0 ?_
                    refine tkl 17 true (by kernel_rfl) ?_
                    refine sk h (k := fun a w h => ?_)
                    refine tk0 ?_
                    refine tkl 18 false (by kernel_rfl) ?_
                    refine sk h (k := fun a w h => ?_)
                    refine tk0 ?_
                    refine tkl 19 false (by kernel_rfl) ?_
                    refine sk h (k := fun a w h => ?_)
                    refine tk0 ?_
                    refine tkl 20 false (by kernel_rfl) ?_
                    refine sk h (k := fun a w h => ?_)
                    refine tk0 ?_
                    refine tkl 21 false (by kernel_rfl) ?_
                    refine sk h (k := fun a w h => ?_)
                    refine tk0 ?_
                    refine tkl 22 false (by kernel_rfl) ?_
                    refine sk h (k := fun a w h => ?_)
                    refine tk0 ?_
                    refine tkl 23 true (by kernel_rfl) ?_
                    refine sk h (k := fun a w h => ?_)
                    refine tk0 ?_
                    refine tkl 24 false (by kernel_rfl) ?_
                    refine sk h (k := fun a w h => ?_)
                    refine tk0 ?_
                    refine tkl 25 false (by kernel_rfl) ?_
                    refine sk h (k := fun a w h => ?_)
                    refine tk0 ?_
                    refine tkl 26 true (by kernel_rfl) ?_
                    refine sk h (k := fun a w h => ?_)
                    refine tk0 ?_
                    refine tkl 27 false (by kernel_rfl) ?_
                    refine sk h (k := fun a w h => ?_)
                    refine tk0 ?_
                    refine tkl 28 false (by kernel_rfl) ?_
                    refine sk h (k := fun a w h => ?_)
                    refine tk0 ?_
                    refine tkl 29 false (by kernel_rfl) ?_
                    refine sk h (k := fun a w h => ?_)
                    refine tk0 ?_
                    refine tkl 30 false (by kernel_rfl) ?_
                    refine sk h (k := fun a w h => ?_)
                    refine tk0 ?_
                    refine tkl 31 false (by kernel_rfl) ?_
                    refine sk h (k := fun a w h => ?_)
                    refine tk0 ?_
                    refine tkl 32 true (by kernel_rfl) ?_
                    refine sk h (k := fun a w h => ?_)
                    refine tk0 ?_
                    refine tkl 33 false (by kernel_rfl) ?_
                    refine sk h (k := fun a w h => ?_)
                    refine tk0 ?_
                    refine tkl 34 false (by kernel_rfl) ?_
                    refine sk h (k := fun a w h => ?_)
                    refine tk0 ?_
                    refine tkl 35 true (by kernel_rfl) ?_
                    refine sk h (k := fun a w h => ?_)
                    refine tk0 ?_
                    refine tkl 36 false (by kernel_rfl) ?_
                    refine sk h (k := fun a w h => ?_)
                    refine tk0 ?_
                    refine tkl 37 false (by kernel_rfl) ?_
                    refine sk h (k := fun a w h => ?_)
                    refine tk0 ?_
                    refine tkl 38 false (by kernel_rfl) ?_
                    refine sk h (k := fun a w h => ?_)
                    refine tk0 ?_
                    refine tkl 39 false (by kernel_rfl) ?_
                    refine sk h (k := fun a w h => ?_)
                    refine tk0 ?_
                    refine tkl 40 true (by kernel_rfl) ?_
                    refine sk h (k := fun a w h => ?_)
                    refine tk0 ?_
                    refine tkl 42 true (by kernel_rfl) ?_
                    refine sk h (k := fun a w h => ?_)
                    refine tk0 ?_
                    refine brl1 41 true (by kernel_rfl) (by kernel_rfl) (fun _ => h.st.sees' (by first | exact LE.rfl | assumption) (by simp)) ?_
                    refine sk h (k := fun a w h => ?_)
                    refine br0 ?_
                    refine brl1 43 true (by kernel_rfl) (by kernel_rfl) (fun _ => h.st.sees' (by first | exact LE.rfl | assumption) (by simp)) ?_
                    refine sk h (k := fun a w h => ?_)
                    refine br0 ?_
                    refine tkl 44 false (by kernel_rfl) ?_
                    refine sk h (k := fun a w h => ?_)
                    refine tk0 ?_
                    refine tkl 45 false (by kernel_rfl) ?_
                    refine sk h (k := fun a w h => ?_)
                    refine tk0 ?_
                    refine tkl 46 false (by kernel_rfl) ?_
                    refine pkT h fun a w h => ?_
                    refine tk0 ?_
                    refine tkl 47 false (by kernel_rfl) ?_
                    refine pkT h fun a w h => ?_
                    refine tk0 ?_
                    refine tkl 48 false (by kernel_rfl) ?_
                    refine as_ h fun a w h => ?_
                    refine tk0 ?_
                    refine en (by kernel_rfl) ?_
                    refine thN ?_
                    have h2 : S E H135 197 [] [(1, .pointer (some ⟨g1, 0, none⟩)), (2, .bool ((((p.resolve.2 : Int) == 5) == ((p.stg k3) || (p.body.strange (p.known k3)))) && (((p.stg k3) || (p.body.strange (p.known k3))) || (((p.resolve.2 : Int) == 0) && ((((p.resolve.1.inputs.length : Int) : Int) == (p.inputs.length : Int)) && ((((p.resolve.1.cells.length : Int) : Int) == (p.cells.length : Int)) && ((((p.resolve.1.defs.length : Int) : Int) == (p.defs.length : Int)) && ((p.resolve.1.sizeW : Int) == p.sizeW)))))))), (3, .bool true), (6, .slice Br6 ((p.known k3).length) pr6), (7, .bool (!decide (p.known k3).Nodup)), (8, .int .i64 (k : Int)), (30, .int .i64 (k : Int)), (31, .pointer (some ⟨g1, 0, none⟩)), (32, .slice Ap0 p.inputs.length cp0), (33, .int .i64 (p.inputs.length : Int)), (34, .bool (decide (((k : Int) : Int) < (p.inputs.length : Int)))), (9, .int .i64 (k2 : Int)), (57, .int .i64 (k2 : Int)), (58, .pointer (some ⟨g1, 1, none⟩)), (59, .slice Ap1 p.cells.length cp1), (60, .int .i64 (p.cells.length : Int)), (61, .bool (decide (((k2 : Int) : Int) < (p.cells.length : Int)))), (10, .bool ((p.stg k3) || (p.body.strange (p.known k3)))), (11, .int .i64 (k3 : Int)), (84, .int .i64 (k3 : Int)), (85, .pointer (some ⟨g1, 2, none⟩)), (86, .slice Ap2 p.defs.length cp2), (87, .int .i64 (p.defs.length : Int)), (88, .bool (decide (((k3 : Int) : Int) < (p.defs.length : Int))))] (.obj g12 (.cells #[.slice A135_0_0 p.resolve.1.inputs.length c135_0_0, .slice A135_0_1 p.resolve.1.cells.length c135_0_1, .slice A135_0_2 p.resolve.1.defs.length c135_0_2, .int .i64 p.resolve.1.body.kind, str p.resolve.1.body.name, .int .i64 p.resolve.1.body.n, .slice A135_0_3 p.resolve.1.body.kids.length c135_0_3] 28 (0, 0)) :: .row (.slice Br6 ((p.known k3).length) pr6) 9 1 ((p.known k3).length) xr6 :: L) a w := by rw [show (.bool ((((p.resolve.2 : Int) == 5) == ((p.stg k3) || (p.body.strange (p.known k3)))) && (((p.stg k3) || (p.body.strange (p.known k3))) || (((p.resolve.2 : Int) == 0) && ((((p.resolve.1.inputs.length : Int) : Int) == (p.inputs.length : Int)) && ((((p.resolve.1.cells.length : Int) : Int) == (p.cells.length : Int)) && ((((p.resolve.1.defs.length : Int) : Int) == (p.defs.length : Int)) && ((p.resolve.1.sizeW : Int) == p.sizeW))))))) : Value) = .bool true from Eq.symm (by (try rw [c155]) <;> (try rw [c157]) <;> (try simp only [Bool.true_or, Bool.or_true, Bool.false_or, Bool.or_false, Bool.true_and, Bool.and_true, Bool.false_and, Bool.and_false, Bool.not_true, Bool.not_false, cond_true, cond_false]))]; exact h.to 0 _
                    exact h2
                  · refine tk0 ?_
                    refine tkl 9 false (by kernel_rfl) ?_
                    refine mv h fun a w h => ?_
                    refine tk0 ?_
                    refine tkl 10 false (by kernel_rfl) ?_
                    refine mv h fun a w h => ?_
                    refine tk0 ?_
                    refine tkl 11 false (by kernel_rfl) ?_
                    refine eqi h fun a w h => ?_
                    refine h.spl (fun c160 h => ?_) (fun c160 h => ?_)
                    · have d160 : p.resolve.2 = 0 := by first | (simpa using c160) | (simp at c160; omega)
                      refine tk0 ?_
                      refine tkl 12 false (by kernel_rfl) ?_
                      refine mv h fun a w h => ?_
                      refine tk0 ?_
                      refine tkl 13 false (by kernel_rfl) ?_
                      refine fa fl28_0 (r := 0) h fun a w h => ?_
                      refine tk0 ?_
                      refine tkl 14 true (by kernel_rfl) ?_
                      refine ldT 0 t1_25 h fun a w h => ?_
                      refine tk0 ?_
                      refine tkl 15 false (by kernel_rfl) ?_
                      refine ln sli25 h fun a w h => ?_
                      refine tk0 ?_
                      refine tkl 16 false (by kernel_rfl) ?_
                      refine fa fl28_0 (r := 0) h fun a w h => ?_
                      refine tk0 ?_
                      refine tkl 17 true (by kernel_rfl) ?_
                      have l_Hg1_H135 : LE Hg1 H135 := ((leHL0.trans leHL2).trans leHL4).trans le135
                      refine ldHT t1_25 (Hc.of (l_Hg1_H135 _ _ hfg1) rfl) h fun a w h => ?_
                      refine tk0 ?_
                      refine tkl 18 false (by kernel_rfl) ?_
                      refine ln sli25 h fun a w h => ?_
                      refine tk0 ?_
                      refine tkl 19 false (by kernel_rfl) ?_
                      refine eqi h fun a w h => ?_
                      refine tk0 ?_
                      refine tkl 20 false (by kernel_rfl) ?_
                      refine pkT h fun a w h => ?_
                      refine h.spl (fun c169 h => ?_) (fun c169 h => ?_)
                      · have d169 : p.resolve.1.inputs.length = p.inputs.length := by first | (simpa using c169) | (simp at c169; omega)
                        refine tk0 ?_
                        refine tkl 21 false (by kernel_rfl) ?_
                        refine mv h fun a w h => ?_
                        refine tk0 ?_
                        refine tkl 22 false (by kernel_rfl) ?_
                        refine fa fl28_1 (r := 1) h fun a w h => ?_
                        refine tk0 ?_
                        refine tkl 23 true (by kernel_rfl) ?_
                        refine ldT 0 t1_25 h fun a w h => ?_
                        refine tk0 ?_
                        refine tkl 24 false (by kernel_rfl) ?_
                        refine ln sli25 h fun a w h => ?_
                        refine tk0 ?_
                        refine tkl 25 false (by kernel_rfl) ?_
                        refine fa fl28_1 (r := 1) h fun a w h => ?_
                        refine tk0 ?_
                        refine tkl 26 true (by kernel_rfl) ?_
                        refine ldHT t1_25 (Hc.of (l_Hg1_H135 _ _ hfg1) rfl) h fun a w h => ?_
                        refine tk0 ?_
                        refine tkl 27 false (by kernel_rfl) ?_
                        refine ln sli25 h fun a w h => ?_
                        refine tk0 ?_
                        refine tkl 28 false (by kernel_rfl) ?_
                        refine eqi h fun a w h => ?_
                        refine tk0 ?_
                        refine tkl 29 false (by kernel_rfl) ?_
                        refine pkT h fun a w h => ?_
                        refine h.spl (fun c178 h => ?_) (fun c178 h => ?_)
                        · have d178 : p.resolve.1.cells.length = p.cells.length := by first | (simpa using c178) | (simp at c178; omega)
                          refine tk0 ?_
                          refine tkl 30 false (by kernel_rfl) ?_
                          refine mv h fun a w h => ?_
                          refine tk0 ?_
                          refine tkl 31 false (by kernel_rfl) ?_
                          refine fa fl28_2 (r := 2) h fun a w h => ?_
                          refine tk0 ?_
                          refine tkl 32 true (by kernel_rfl) ?_
                          refine ldT 0 t1_26 h fun a w h => ?_
                          refine tk0 ?_
                          refine tkl 33 false (by kernel_rfl) ?_
                          refine ln sli26 h fun a w h => ?_
                          refine tk0 ?_
                          refine tkl 34 false (by kernel_rfl) ?_
                          refine fa fl28_2 (r := 2) h fun a w h => ?_
                          refine tk0 ?_
                          refine tkl 35 true (by kernel_rfl) ?_
                          refine ldHT t1_26 (Hc.of (l_Hg1_H135 _ _ hfg1) rfl) h fun a w h => ?_
                          refine tk0 ?_
                          refine tkl 36 false (by kernel_rfl) ?_
                          refine ln sli26 h fun a w h => ?_
                          refine tk0 ?_
                          refine tkl 37 false (by kernel_rfl) ?_
                          refine eqi h fun a w h => ?_
                          refine tk0 ?_
                          refine tkl 38 false (by kernel_rfl) ?_
                          refine pkT h fun a w h => ?_
                          refine h.spl (fun c187 h => ?_) (fun c187 h => ?_)
                          · have d187 : p.resolve.1.defs.length = p.defs.length := by first | (simpa using c187) | (simp at c187; omega)
                            refine tk0 ?_
                            refine tkl 39 false (by kernel_rfl) ?_
                            refine mv h fun a w h => ?_
                            refine tk0 ?_
                            refine tkl 40 true (by kernel_rfl) ?_
                            refine ldWT 0 tN28 h fun a w h => ?_
                            refine tk0 ?_
                            refine tkl 42 true (by kernel_rfl) ?_
                            refine ldHNT tN28 rfl (Hc.all (l_Hg1_H135 _ _ hfg1)) h fun a w h => ?_
                            refine tk0 ?_
                            refine brl1 41 true (by kernel_rfl) (by kernel_rfl) (fun _ => h.st.sees' (by first | exact LE.rfl | assumption) (by simp)) ?_
                            refine cl bod35 (SizeP_ok p.resolve.1 _ E H135 _ ⟨A135_0_0, c135_0_0, A135_0_1, c135_0_1, A135_0_2, c135_0_2, A135_0_3, c135_0_3, rfl, hk135_0_0, hk135_0_1, hk135_0_2, hk135_0_3⟩ (small_resolve hb)) h (fun r190 H190 L190 a w le190 R h => ?_)
                            obtain ⟨rfl, rfl, rfl⟩ := R
                            refine br0 ?_
                            refine brl1 43 true (by kernel_rfl) (by kernel_rfl) (fun _ => h.st.sees' (by first | exact LE.rfl | assumption) (by simp)) ?_
                            have l_H_H135 : LE H H135 := ((((le14.trans leHg1).trans leHL0).trans leHL2).trans leHL4).trans le135
                            refine cl bod35 (SizeP_ok p _ E H135 _ ⟨Ap0, cp0, Ap1, cp1, Ap2, cp2, Ap3, cp3, rfl, (hp0.up l_H_H135), (hp1.up l_H_H135), (hp2.up l_H_H135), (hp3.up l_H_H135)⟩ hb.small) h (fun r192 H192 L192 a w le192 R h => ?_)
                            obtain ⟨rfl, rfl, rfl⟩ := R
                            refine br0 ?_
                            refine tkl 44 false (by kernel_rfl) ?_
                            refine eqi h fun a w h => ?_
                            refine tk0 ?_
                            refine tkl 45 false (by kernel_rfl) ?_
                            refine pkT h fun a w h => ?_
                            refine tk0 ?_
                            refine tkl 46 false (by kernel_rfl) ?_
                            refine pkF h fun a w h => ?_
                            refine tk0 ?_
                            refine tkl 47 false (by kernel_rfl) ?_
                            refine pkT h fun a w h => ?_
                            refine tk0 ?_
                            refine tkl 48 false (by kernel_rfl) ?_
                            refine as_ h fun a w h => ?_
                            refine tk0 ?_
                            refine en (by kernel_rfl) ?_
                            refine thN ?_
                            have h2 : S E H135 197 [] [(1, .pointer (some ⟨g1, 0, none⟩)), (2, .bool ((((p.resolve.2 : Int) == 5) == ((p.stg k3) || (p.body.strange (p.known k3)))) && (((p.stg k3) || (p.body.strange (p.known k3))) || (((p.resolve.2 : Int) == 0) && ((((p.resolve.1.inputs.length : Int) : Int) == (p.inputs.length : Int)) && ((((p.resolve.1.cells.length : Int) : Int) == (p.cells.length : Int)) && ((((p.resolve.1.defs.length : Int) : Int) == (p.defs.length : Int)) && ((p.resolve.1.sizeW : Int) == p.sizeW)))))))), (3, .bool true), (6, .slice Br6 ((p.known k3).length) pr6), (7, .bool (!decide (p.known k3).Nodup)), (8, .int .i64 (k : Int)), (30, .int .i64 (k : Int)), (31, .pointer (some ⟨g1, 0, none⟩)), (32, .slice Ap0 p.inputs.length cp0), (33, .int .i64 (p.inputs.length : Int)), (34, .bool (decide (((k : Int) : Int) < (p.inputs.length : Int)))), (9, .int .i64 (k2 : Int)), (57, .int .i64 (k2 : Int)), (58, .pointer (some ⟨g1, 1, none⟩)), (59, .slice Ap1 p.cells.length cp1), (60, .int .i64 (p.cells.length : Int)), (61, .bool (decide (((k2 : Int) : Int) < (p.cells.length : Int)))), (10, .bool ((p.stg k3) || (p.body.strange (p.known k3)))), (11, .int .i64 (k3 : Int)), (84, .int .i64 (k3 : Int)), (85, .pointer (some ⟨g1, 2, none⟩)), (86, .slice Ap2 p.defs.length cp2), (87, .int .i64 (p.defs.length : Int)), (88, .bool (decide (((k3 : Int) : Int) < (p.defs.length : Int))))] (.obj g12 (.cells #[.slice A135_0_0 p.resolve.1.inputs.length c135_0_0, .slice A135_0_1 p.resolve.1.cells.length c135_0_1, .slice A135_0_2 p.resolve.1.defs.length c135_0_2, .int .i64 p.resolve.1.body.kind, str p.resolve.1.body.name, .int .i64 p.resolve.1.body.n, .slice A135_0_3 p.resolve.1.body.kids.length c135_0_3] 28 (0, 0)) :: .row (.slice Br6 ((p.known k3).length) pr6) 9 1 ((p.known k3).length) xr6 :: L) a w := by rw [show (.bool ((((p.resolve.2 : Int) == 5) == ((p.stg k3) || (p.body.strange (p.known k3)))) && (((p.stg k3) || (p.body.strange (p.known k3))) || (((p.resolve.2 : Int) == 0) && ((((p.resolve.1.inputs.length : Int) : Int) == (p.inputs.length : Int)) && ((((p.resolve.1.cells.length : Int) : Int) == (p.cells.length : Int)) && ((((p.resolve.1.defs.length : Int) : Int) == (p.defs.length : Int)) && ((p.resolve.1.sizeW : Int) == p.sizeW))))))) : Value) = .bool ((p.resolve.1.sizeW : Int) == p.sizeW) from Eq.symm (by (try rw [c155]) <;> (try rw [c157]) <;> (try rw [c160]) <;> (try rw [c169]) <;> (try rw [c178]) <;> (try rw [c187]) <;> (try simp only [Bool.true_or, Bool.or_true, Bool.false_or, Bool.or_false, Bool.true_and, Bool.and_true, Bool.false_and, Bool.and_false, Bool.not_true, Bool.not_false, cond_true, cond_false]))]; exact h.to 0 _
                            exact h2
                          · have d187 : p.resolve.1.defs.length ≠ p.defs.length := by first | (simpa using c187) | (simp at c187; omega)
                            refine tk0 ?_
                            refine tkl 39 false (by kernel_rfl) ?_
                            refine mv h fun a w h => ?_
                            refine tk0 ?_
                            refine tkl 40 true (by kernel_rfl) ?_
                            refine sk h (k := fun a w h => ?_)
                            refine tk0 ?_
                            refine tkl 42 true (by kernel_rfl) ?_
                            refine sk h (k := fun a w h => ?_)
                            refine tk0 ?_
                            refine brl1 41 true (by kernel_rfl) (by kernel_rfl) (fun _ => h.st.sees' (by first | exact LE.rfl | assumption) (by simp)) ?_
                            refine sk h (k := fun a w h => ?_)
                            refine br0 ?_
                            refine brl1 43 true (by kernel_rfl) (by kernel_rfl) (fun _ => h.st.sees' (by first | exact LE.rfl | assumption) (by simp)) ?_
                            refine sk h (k := fun a w h => ?_)
                            refine br0 ?_
                            refine tkl 44 false (by kernel_rfl) ?_
                            refine sk h (k := fun a w h => ?_)
                            refine tk0 ?_
                            refine tkl 45 false (by kernel_rfl) ?_
                            refine pkF h fun a w h => ?_
                            refine tk0 ?_
                            refine tkl 46 false (by kernel_rfl) ?_
                            refine pkF h fun a w h => ?_
                            refine tk0 ?_
                            refine tkl 47 false (by kernel_rfl) ?_
                            refine pkT h fun a w h => ?_
                            refine tk0 ?_
                            refine tkl 48 false (by kernel_rfl) ?_
                            refine as_ h fun a w h => ?_
                            refine tk0 ?_
                            refine en (by kernel_rfl) ?_
                            refine thN ?_
                            have h2 : S E H135 197 [] [(1, .pointer (some ⟨g1, 0, none⟩)), (2, .bool ((((p.resolve.2 : Int) == 5) == ((p.stg k3) || (p.body.strange (p.known k3)))) && (((p.stg k3) || (p.body.strange (p.known k3))) || (((p.resolve.2 : Int) == 0) && ((((p.resolve.1.inputs.length : Int) : Int) == (p.inputs.length : Int)) && ((((p.resolve.1.cells.length : Int) : Int) == (p.cells.length : Int)) && ((((p.resolve.1.defs.length : Int) : Int) == (p.defs.length : Int)) && ((p.resolve.1.sizeW : Int) == p.sizeW)))))))), (3, .bool true), (6, .slice Br6 ((p.known k3).length) pr6), (7, .bool (!decide (p.known k3).Nodup)), (8, .int .i64 (k : Int)), (30, .int .i64 (k : Int)), (31, .pointer (some ⟨g1, 0, none⟩)), (32, .slice Ap0 p.inputs.length cp0), (33, .int .i64 (p.inputs.length : Int)), (34, .bool (decide (((k : Int) : Int) < (p.inputs.length : Int)))), (9, .int .i64 (k2 : Int)), (57, .int .i64 (k2 : Int)), (58, .pointer (some ⟨g1, 1, none⟩)), (59, .slice Ap1 p.cells.length cp1), (60, .int .i64 (p.cells.length : Int)), (61, .bool (decide (((k2 : Int) : Int) < (p.cells.length : Int)))), (10, .bool ((p.stg k3) || (p.body.strange (p.known k3)))), (11, .int .i64 (k3 : Int)), (84, .int .i64 (k3 : Int)), (85, .pointer (some ⟨g1, 2, none⟩)), (86, .slice Ap2 p.defs.length cp2), (87, .int .i64 (p.defs.length : Int)), (88, .bool (decide (((k3 : Int) : Int) < (p.defs.length : Int))))] (.obj g12 (.cells #[.slice A135_0_0 p.resolve.1.inputs.length c135_0_0, .slice A135_0_1 p.resolve.1.cells.length c135_0_1, .slice A135_0_2 p.resolve.1.defs.length c135_0_2, .int .i64 p.resolve.1.body.kind, str p.resolve.1.body.name, .int .i64 p.resolve.1.body.n, .slice A135_0_3 p.resolve.1.body.kids.length c135_0_3] 28 (0, 0)) :: .row (.slice Br6 ((p.known k3).length) pr6) 9 1 ((p.known k3).length) xr6 :: L) a w := by rw [show (.bool ((((p.resolve.2 : Int) == 5) == ((p.stg k3) || (p.body.strange (p.known k3)))) && (((p.stg k3) || (p.body.strange (p.known k3))) || (((p.resolve.2 : Int) == 0) && ((((p.resolve.1.inputs.length : Int) : Int) == (p.inputs.length : Int)) && ((((p.resolve.1.cells.length : Int) : Int) == (p.cells.length : Int)) && ((((p.resolve.1.defs.length : Int) : Int) == (p.defs.length : Int)) && ((p.resolve.1.sizeW : Int) == p.sizeW))))))) : Value) = .bool false from Eq.symm (by (try rw [c155]) <;> (try rw [c157]) <;> (try rw [c160]) <;> (try rw [c169]) <;> (try rw [c178]) <;> (try rw [c187]) <;> (try simp only [Bool.true_or, Bool.or_true, Bool.false_or, Bool.or_false, Bool.true_and, Bool.and_true, Bool.false_and, Bool.and_false, Bool.not_true, Bool.not_false, cond_true, cond_false]))]; exact h.to 0 _
                            exact h2
                        · have d178 : p.resolve.1.cells.length ≠ p.cells.length := by first | (simpa using c178) | (simp at c178; omega)
                          refine tk0 ?_
                          refine tkl 30 false (by kernel_rfl) ?_
                          refine mv h fun a w h => ?_
                          refine tk0 ?_
                          refine tkl 31 false (by kernel_rfl) ?_
                          refine sk h (k := fun a w h => ?_)
                          refine tk0 ?_
                          refine tkl 32 true (by kernel_rfl) ?_
                          refine sk h (k := fun a w h => ?_)
                          refine tk0 ?_
                          refine tkl 33 false (by kernel_rfl) ?_
                          refine sk h (k := fun a w h => ?_)
                          refine tk0 ?_
                          refine tkl 34 false (by kernel_rfl) ?_
                          refine sk h (k := fun a w h => ?_)
                          refine tk0 ?_
                          refine tkl 35 true (by kernel_rfl) ?_
                          refine sk h (k := fun a w h => ?_)
                          refine tk0 ?_
                          refine tkl 36 false (by kernel_rfl) ?_
                          refine sk h (k := fun a w h => ?_)
                          refine tk0 ?_
                          refine tkl 37 false (by kernel_rfl) ?_
                          refine sk h (k := fun a w h => ?_)
                          refine tk0 ?_
                          refine tkl 38 false (by kernel_rfl) ?_
                          refine pkF h fun a w h => ?_
                          refine tk0 ?_
                          refine tkl 39 false (by kernel_rfl) ?_
                          refine mv h fun a w h => ?_
                          refine tk0 ?_
                          refine tkl 40 true (by kernel_rfl) ?_
                          refine sk h (k := fun a w h => ?_)
                          refine tk0 ?_
                          refine tkl 42 true (by kernel_rfl) ?_
                          refine sk h (k := fun a w h => ?_)
                          refine tk0 ?_
                          refine brl1 41 true (by kernel_rfl) (by kernel_rfl) (fun _ => h.st.sees' (by first | exact LE.rfl | assumption) (by simp)) ?_
                          refine sk h (k := fun a w h => ?_)
                          refine br0 ?_
                          refine brl1 43 true (by kernel_rfl) (by kernel_rfl) (fun _ => h.st.sees' (by first | exact LE.rfl | assumption) (by simp)) ?_
                          refine sk h (k := fun a w h => ?_)
                          refine br0 ?_
                          refine tkl 44 false (by kernel_rfl) ?_
                          refine sk h (k := fun a w h => ?_)
                          refine tk0 ?_
                          refine tkl 45 false (by kernel_rfl) ?_
                          refine pkF h fun a w h => ?_
                          refine tk0 ?_
                          refine tkl 46 false (by kernel_rfl) ?_
                          refine pkF h fun a w h => ?_
                          refine tk0 ?_
                          refine tkl 47 false (by kernel_rfl) ?_
                          refine pkT h fun a w h => ?_
                          refine tk0 ?_
                          refine tkl 48 false (by kernel_rfl) ?_
                          refine as_ h fun a w h => ?_
                          refine tk0 ?_
                          refine en (by kernel_rfl) ?_
                          refine thN ?_
                          have h2 : S E H135 197 [] [(1, .pointer (some ⟨g1, 0, none⟩)), (2, .bool ((((p.resolve.2 : Int) == 5) == ((p.stg k3) || (p.body.strange (p.known k3)))) && (((p.stg k3) || (p.body.strange (p.known k3))) || (((p.resolve.2 : Int) == 0) && ((((p.resolve.1.inputs.length : Int) : Int) == (p.inputs.length : Int)) && ((((p.resolve.1.cells.length : Int) : Int) == (p.cells.length : Int)) && ((((p.resolve.1.defs.length : Int) : Int) == (p.defs.length : Int)) && ((p.resolve.1.sizeW : Int) == p.sizeW)))))))), (3, .bool true), (6, .slice Br6 ((p.known k3).length) pr6), (7, .bool (!decide (p.known k3).Nodup)), (8, .int .i64 (k : Int)), (30, .int .i64 (k : Int)), (31, .pointer (some ⟨g1, 0, none⟩)), (32, .slice Ap0 p.inputs.length cp0), (33, .int .i64 (p.inputs.length : Int)), (34, .bool (decide (((k : Int) : Int) < (p.inputs.length : Int)))), (9, .int .i64 (k2 : Int)), (57, .int .i64 (k2 : Int)), (58, .pointer (some ⟨g1, 1, none⟩)), (59, .slice Ap1 p.cells.length cp1), (60, .int .i64 (p.cells.length : Int)), (61, .bool (decide (((k2 : Int) : Int) < (p.cells.length : Int)))), (10, .bool ((p.stg k3) || (p.body.strange (p.known k3)))), (11, .int .i64 (k3 : Int)), (84, .int .i64 (k3 : Int)), (85, .pointer (some ⟨g1, 2, none⟩)), (86, .slice Ap2 p.defs.length cp2), (87, .int .i64 (p.defs.length : Int)), (88, .bool (decide (((k3 : Int) : Int) < (p.defs.length : Int))))] (.obj g12 (.cells #[.slice A135_0_0 p.resolve.1.inputs.length c135_0_0, .slice A135_0_1 p.resolve.1.cells.length c135_0_1, .slice A135_0_2 p.resolve.1.defs.length c135_0_2, .int .i64 p.resolve.1.body.kind, str p.resolve.1.body.name, .int .i64 p.resolve.1.body.n, .slice A135_0_3 p.resolve.1.body.kids.length c135_0_3] 28 (0, 0)) :: .row (.slice Br6 ((p.known k3).length) pr6) 9 1 ((p.known k3).length) xr6 :: L) a w := by rw [show (.bool ((((p.resolve.2 : Int) == 5) == ((p.stg k3) || (p.body.strange (p.known k3)))) && (((p.stg k3) || (p.body.strange (p.known k3))) || (((p.resolve.2 : Int) == 0) && ((((p.resolve.1.inputs.length : Int) : Int) == (p.inputs.length : Int)) && ((((p.resolve.1.cells.length : Int) : Int) == (p.cells.length : Int)) && ((((p.resolve.1.defs.length : Int) : Int) == (p.defs.length : Int)) && ((p.resolve.1.sizeW : Int) == p.sizeW))))))) : Value) = .bool false from Eq.symm (by (try rw [c155]) <;> (try rw [c157]) <;> (try rw [c160]) <;> (try rw [c169]) <;> (try rw [c178]) <;> (try simp only [Bool.true_or, Bool.or_true, Bool.false_or, Bool.or_false, Bool.true_and, Bool.and_true, Bool.false_and, Bool.and_false, Bool.not_true, Bool.not_false, cond_true, cond_false]))]; exact h.to 0 _
                          exact h2
                      · have d169 : p.resolve.1.inputs.length ≠ p.inputs.length := by first | (simpa using c169) | (simp at c169; omega)
                        refine tk0 ?_
                        refine tkl 21 false (by kernel_rfl) ?_
                        refine mv h fun a w h => ?_
                        refine tk0 ?_
                        refine tkl 22 false (by kernel_rfl) ?_
                        refine sk h (k := fun a w h => ?_)
                        refine tk0 ?_
                        refine tkl 23 true (by kernel_rfl) ?_
                        refine sk h (k := fun a w h => ?_)
                        refine tk0 ?_
                        refine tkl 24 false (by kernel_rfl) ?_
                        refine sk h (k := fun a w h => ?_)
                        refine tk0 ?_
                        refine tkl 25 false (by kernel_rfl) ?_
                        refine sk h (k := fun a w h => ?_)
                        refine tk0 ?_
                        refine tkl 26 true (by kernel_rfl) ?_
                        refine sk h (k := fun a w h => ?_)
                        refine tk0 ?_
                        refine tkl 27 false (by kernel_rfl) ?_
                        refine sk h (k := fun a w h => ?_)
                        refine tk0 ?_
                        refine tkl 28 false (by kernel_rfl) ?_
                        refine sk h (k := fun a w h => ?_)
                        refine tk0 ?_
                        refine tkl 29 false (by kernel_rfl) ?_
                        refine pkF h fun a w h => ?_
                        refine tk0 ?_
                        refine tkl 30 false (by kernel_rfl) ?_
                        refine mv h fun a w h => ?_
                        refine tk0 ?_
                        refine tkl 31 false (by kernel_rfl) ?_
                        refine sk h (k := fun a w h => ?_)
                        refine tk0 ?_
                        refine tkl 32 true (by kernel_rfl) ?_
                        refine sk h (k := fun a w h => ?_)
                        refine tk0 ?_
                        refine tkl 33 false (by kernel_rfl) ?_
                        refine sk h (k := fun a w h => ?_)
                        refine tk0 ?_
                        refine tkl 34 false (by kernel_rfl) ?_
                        refine sk h (k := fun a w h => ?_)
                        refine tk0 ?_
                        refine tkl 35 true (by kernel_rfl) ?_
                        refine sk h (k := fun a w h => ?_)
                        refine tk0 ?_
                        refine tkl 36 false (by kernel_rfl) ?_
                        refine sk h (k := fun a w h => ?_)
                        refine tk0 ?_
                        refine tkl 37 false (by kernel_rfl) ?_
                        refine sk h (k := fun a w h => ?_)
                        refine tk0 ?_
                        refine tkl 38 false (by kernel_rfl) ?_
                        refine pkF h fun a w h => ?_
                        refine tk0 ?_
                        refine tkl 39 false (by kernel_rfl) ?_
                        refine mv h fun a w h => ?_
                        refine tk0 ?_
                        refine tkl 40 true (by kernel_rfl) ?_
                        refine sk h (k := fun a w h => ?_)
                        refine tk0 ?_
                        refine tkl 42 true (by kernel_rfl) ?_
                        refine sk h (k := fun a w h => ?_)
                        refine tk0 ?_
                        refine brl1 41 true (by kernel_rfl) (by kernel_rfl) (fun _ => h.st.sees' (by first | exact LE.rfl | assumption) (by simp)) ?_
                        refine sk h (k := fun a w h => ?_)
                        refine br0 ?_
                        refine brl1 43 true (by kernel_rfl) (by kernel_rfl) (fun _ => h.st.sees' (by first | exact LE.rfl | assumption) (by simp)) ?_
                        refine sk h (k := fun a w h => ?_)
                        refine br0 ?_
                        refine tkl 44 false (by kernel_rfl) ?_
                        refine sk h (k := fun a w h => ?_)
                        refine tk0 ?_
                        refine tkl 45 false (by kernel_rfl) ?_
                        refine pkF h fun a w h => ?_
                        refine tk0 ?_
                        refine tkl 46 false (by kernel_rfl) ?_
                        refine pkF h fun a w h => ?_
                        refine tk0 ?_
                        refine tkl 47 false (by kernel_rfl) ?_
                        refine pkT h fun a w h => ?_
                        refine tk0 ?_
                        refine tkl 48 false (by kernel_rfl) ?_
                        refine as_ h fun a w h => ?_
                        refine tk0 ?_
                        refine en (by kernel_rfl) ?_
                        refine thN ?_
                        have h2 : S E H135 197 [] [(1, .pointer (some ⟨g1, 0, none⟩)), (2, .bool ((((p.resolve.2 : Int) == 5) == ((p.stg k3) || (p.body.strange (p.known k3)))) && (((p.stg k3) || (p.body.strange (p.known k3))) || (((p.resolve.2 : Int) == 0) && ((((p.resolve.1.inputs.length : Int) : Int) == (p.inputs.length : Int)) && ((((p.resolve.1.cells.length : Int) : Int) == (p.cells.length : Int)) && ((((p.resolve.1.defs.length : Int) : Int) == (p.defs.length : Int)) && ((p.resolve.1.sizeW : Int) == p.sizeW)))))))), (3, .bool true), (6, .slice Br6 ((p.known k3).length) pr6), (7, .bool (!decide (p.known k3).Nodup)), (8, .int .i64 (k : Int)), (30, .int .i64 (k : Int)), (31, .pointer (some ⟨g1, 0, none⟩)), (32, .slice Ap0 p.inputs.length cp0), (33, .int .i64 (p.inputs.length : Int)), (34, .bool (decide (((k : Int) : Int) < (p.inputs.length : Int)))), (9, .int .i64 (k2 : Int)), (57, .int .i64 (k2 : Int)), (58, .pointer (some ⟨g1, 1, none⟩)), (59, .slice Ap1 p.cells.length cp1), (60, .int .i64 (p.cells.length : Int)), (61, .bool (decide (((k2 : Int) : Int) < (p.cells.length : Int)))), (10, .bool ((p.stg k3) || (p.body.strange (p.known k3)))), (11, .int .i64 (k3 : Int)), (84, .int .i64 (k3 : Int)), (85, .pointer (some ⟨g1, 2, none⟩)), (86, .slice Ap2 p.defs.length cp2), (87, .int .i64 (p.defs.length : Int)), (88, .bool (decide (((k3 : Int) : Int) < (p.defs.length : Int))))] (.obj g12 (.cells #[.slice A135_0_0 p.resolve.1.inputs.length c135_0_0, .slice A135_0_1 p.resolve.1.cells.length c135_0_1, .slice A135_0_2 p.resolve.1.defs.length c135_0_2, .int .i64 p.resolve.1.body.kind, str p.resolve.1.body.name, .int .i64 p.resolve.1.body.n, .slice A135_0_3 p.resolve.1.body.kids.length c135_0_3] 28 (0, 0)) :: .row (.slice Br6 ((p.known k3).length) pr6) 9 1 ((p.known k3).length) xr6 :: L) a w := by rw [show (.bool ((((p.resolve.2 : Int) == 5) == ((p.stg k3) || (p.body.strange (p.known k3)))) && (((p.stg k3) || (p.body.strange (p.known k3))) || (((p.resolve.2 : Int) == 0) && ((((p.resolve.1.inputs.length : Int) : Int) == (p.inputs.length : Int)) && ((((p.resolve.1.cells.length : Int) : Int) == (p.cells.length : Int)) && ((((p.resolve.1.defs.length : Int) : Int) == (p.defs.length : Int)) && ((p.resolve.1.sizeW : Int) == p.sizeW))))))) : Value) = .bool false from Eq.symm (by (try rw [c155]) <;> (try rw [c157]) <;> (try rw [c160]) <;> (try rw [c169]) <;> (try simp only [Bool.true_or, Bool.or_true, Bool.false_or, Bool.or_false, Bool.true_and, Bool.and_true, Bool.false_and, Bool.and_false, Bool.not_true, Bool.not_false, cond_true, cond_false]))]; exact h.to 0 _
                        exact h2
                    · have d160 : p.resolve.2 ≠ 0 := by first | (simpa using c160) | (simp at c160; omega)
                      refine tk0 ?_
                      refine tkl 12 false (by kernel_rfl) ?_
                      refine mv h fun a w h => ?_
                      refine tk0 ?_
                      refine tkl 13 false (by kernel_rfl) ?_
                      refine sk h (k := fun a w h => ?_)
                      refine tk0 ?_
                      refine tkl 14 true (by kernel_rfl) ?_
                      refine sk h (k := fun a w h => ?_)
                      refine tk0 ?_
                      refine tkl 15 false (by kernel_rfl) ?_
                      refine sk h (k := fun a w h => ?_)
                      refine tk0 ?_
                      refine tkl 16 false (by kernel_rfl) ?_
                      refine sk h (k := fun a w h => ?_)
                      refine tk0 ?_
                      refine tkl 17 true (by kernel_rfl) ?_
                      refine sk h (k := fun a w h => ?_)
                      refine tk0 ?_
                      refine tkl 18 false (by kernel_rfl) ?_
                      refine sk h (k := fun a w h => ?_)
                      refine tk0 ?_
                      refine tkl 19 false (by kernel_rfl) ?_
                      refine sk h (k := fun a w h => ?_)
                      refine tk0 ?_
                      refine tkl 20 false (by kernel_rfl) ?_
                      refine pkF h fun a w h => ?_
                      refine tk0 ?_
                      refine tkl 21 false (by kernel_rfl) ?_
                      refine mv h fun a w h => ?_
                      refine tk0 ?_
                      refine tkl 22 false (by kernel_rfl) ?_
                      refine sk h (k := fun a w h => ?_)
                      refine tk0 ?_
                      refine tkl 23 true (by kernel_rfl) ?_
                      refine sk h (k := fun a w h => ?_)
                      refine tk0 ?_
                      refine tkl 24 false (by kernel_rfl) ?_
                      refine sk h (k := fun a w h => ?_)
                      refine tk0 ?_
                      refine tkl 25 false (by kernel_rfl) ?_
                      refine sk h (k := fun a w h => ?_)
                      refine tk0 ?_
                      refine tkl 26 true (by kernel_rfl) ?_
                      refine sk h (k := fun a w h => ?_)
                      refine tk0 ?_
                      refine tkl 27 false (by kernel_rfl) ?_
                      refine sk h (k := fun a w h => ?_)
                      refine tk0 ?_
                      refine tkl 28 false (by kernel_rfl) ?_
                      refine sk h (k := fun a w h => ?_)
                      refine tk0 ?_
                      refine tkl 29 false (by kernel_rfl) ?_
                      refine pkF h fun a w h => ?_
                      refine tk0 ?_
                      refine tkl 30 false (by kernel_rfl) ?_
                      refine mv h fun a w h => ?_
                      refine tk0 ?_
                      refine tkl 31 false (by kernel_rfl) ?_
                      refine sk h (k := fun a w h => ?_)
                      refine tk0 ?_
                      refine tkl 32 true (by kernel_rfl) ?_
                      refine sk h (k := fun a w h => ?_)
                      refine tk0 ?_
                      refine tkl 33 false (by kernel_rfl) ?_
                      refine sk h (k := fun a w h => ?_)
                      refine tk0 ?_
                      refine tkl 34 false (by kernel_rfl) ?_
                      refine sk h (k := fun a w h => ?_)
                      refine tk0 ?_
                      refine tkl 35 true (by kernel_rfl) ?_
                      refine sk h (k := fun a w h => ?_)
                      refine tk0 ?_
                      refine tkl 36 false (by kernel_rfl) ?_
                      refine sk h (k := fun a w h => ?_)
                      refine tk0 ?_
                      refine tkl 37 false (by kernel_rfl) ?_
                      refine sk h (k := fun a w h => ?_)
                      refine tk0 ?_
                      refine tkl 38 false (by kernel_rfl) ?_
                      refine pkF h fun a w h => ?_
                      refine tk0 ?_
                      refine tkl 39 false (by kernel_rfl) ?_
                      refine mv h fun a w h => ?_
                      refine tk0 ?_
                      refine tkl 40 true (by kernel_rfl) ?_
                      refine sk h (k := fun a w h => ?_)
                      refine tk0 ?_
                      refine tkl 42 true (by kernel_rfl) ?_
                      refine sk h (k := fun a w h => ?_)
                      refine tk0 ?_
                      refine brl1 41 true (by kernel_rfl) (by kernel_rfl) (fun _ => h.st.sees' (by first | exact LE.rfl | assumption) (by simp)) ?_
                      refine sk h (k := fun a w h => ?_)
                      refine br0 ?_
                      refine brl1 43 true (by kernel_rfl) (by kernel_rfl) (fun _ => h.st.sees' (by first | exact LE.rfl | assumption) (by simp)) ?_
                      refine sk h (k := fun a w h => ?_)
                      refine br0 ?_
                      refine tkl 44 false (by kernel_rfl) ?_
                      refine sk h (k := fun a w h => ?_)
                      refine tk0 ?_
                      refine tkl 45 false (by kernel_rfl) ?_
                      refine pkF h fun a w h => ?_
                      refine tk0 ?_
                      refine tkl 46 false (by kernel_rfl) ?_
                      refine pkF h fun a w h => ?_
                      refine tk0 ?_
                      refine tkl 47 false (by kernel_rfl) ?_
                      refine pkT h fun a w h => ?_
                      refine tk0 ?_
                      refine tkl 48 false (by kernel_rfl) ?_
                      refine as_ h fun a w h => ?_
                      refine tk0 ?_
                      refine en (by kernel_rfl) ?_
                      refine thN ?_
                      have h2 : S E H135 197 [] [(1, .pointer (some ⟨g1, 0, none⟩)), (2, .bool ((((p.resolve.2 : Int) == 5) == ((p.stg k3) || (p.body.strange (p.known k3)))) && (((p.stg k3) || (p.body.strange (p.known k3))) || (((p.resolve.2 : Int) == 0) && ((((p.resolve.1.inputs.length : Int) : Int) == (p.inputs.length : Int)) && ((((p.resolve.1.cells.length : Int) : Int) == (p.cells.length : Int)) && ((((p.resolve.1.defs.length : Int) : Int) == (p.defs.length : Int)) && ((p.resolve.1.sizeW : Int) == p.sizeW)))))))), (3, .bool true), (6, .slice Br6 ((p.known k3).length) pr6), (7, .bool (!decide (p.known k3).Nodup)), (8, .int .i64 (k : Int)), (30, .int .i64 (k : Int)), (31, .pointer (some ⟨g1, 0, none⟩)), (32, .slice Ap0 p.inputs.length cp0), (33, .int .i64 (p.inputs.length : Int)), (34, .bool (decide (((k : Int) : Int) < (p.inputs.length : Int)))), (9, .int .i64 (k2 : Int)), (57, .int .i64 (k2 : Int)), (58, .pointer (some ⟨g1, 1, none⟩)), (59, .slice Ap1 p.cells.length cp1), (60, .int .i64 (p.cells.length : Int)), (61, .bool (decide (((k2 : Int) : Int) < (p.cells.length : Int)))), (10, .bool ((p.stg k3) || (p.body.strange (p.known k3)))), (11, .int .i64 (k3 : Int)), (84, .int .i64 (k3 : Int)), (85, .pointer (some ⟨g1, 2, none⟩)), (86, .slice Ap2 p.defs.length cp2), (87, .int .i64 (p.defs.length : Int)), (88, .bool (decide (((k3 : Int) : Int) < (p.defs.length : Int))))] (.obj g12 (.cells #[.slice A135_0_0 p.resolve.1.inputs.length c135_0_0, .slice A135_0_1 p.resolve.1.cells.length c135_0_1, .slice A135_0_2 p.resolve.1.defs.length c135_0_2, .int .i64 p.resolve.1.body.kind, str p.resolve.1.body.name, .int .i64 p.resolve.1.body.n, .slice A135_0_3 p.resolve.1.body.kids.length c135_0_3] 28 (0, 0)) :: .row (.slice Br6 ((p.known k3).length) pr6) 9 1 ((p.known k3).length) xr6 :: L) a w := by rw [show (.bool ((((p.resolve.2 : Int) == 5) == ((p.stg k3) || (p.body.strange (p.known k3)))) && (((p.stg k3) || (p.body.strange (p.known k3))) || (((p.resolve.2 : Int) == 0) && ((((p.resolve.1.inputs.length : Int) : Int) == (p.inputs.length : Int)) && ((((p.resolve.1.cells.length : Int) : Int) == (p.cells.length : Int)) && ((((p.resolve.1.defs.length : Int) : Int) == (p.defs.length : Int)) && ((p.resolve.1.sizeW : Int) == p.sizeW))))))) : Value) = .bool false from Eq.symm (by (try rw [c155]) <;> (try rw [c157]) <;> (try rw [c160]) <;> (try simp only [Bool.true_or, Bool.or_true, Bool.false_or, Bool.or_false, Bool.true_and, Bool.and_true, Bool.false_and, Bool.and_false, Bool.not_true, Bool.not_false, cond_true, cond_false]))]; exact h.to 0 _
                      exact h2
                · have d155 : ((p.resolve.2 : Int) == 5) ≠ ((p.stg k3) || (p.body.strange (p.known k3))) := by first | (simpa using c155) | (simp at c155; omega)
                  refine tk0 ?_
                  refine tkl 7 false (by kernel_rfl) ?_
                  refine mv h fun a w h => ?_
                  refine tk0 ?_
                  refine tkl 8 false (by kernel_rfl) ?_
                  refine sk h (k := fun a w h => ?_)
                  refine tk0 ?_
                  refine tkl 9 false (by kernel_rfl) ?_
                  refine sk h (k := fun a w h => ?_)
                  refine tk0 ?_
                  refine tkl 10 false (by kernel_rfl) ?_
                  refine sk h (k := fun a w h => ?_)
                  refine tk0 ?_
                  refine tkl 11 false (by kernel_rfl) ?_
                  refine sk h (k := fun a w h => ?_)
                  refine tk0 ?_
                  refine tkl 12 false (by kernel_rfl) ?_
                  refine sk h (k := fun a w h => ?_)
                  refine tk0 ?_
                  refine tkl 13 false (by kernel_rfl) ?_
                  refine sk h (k := fun a w h => ?_)
                  refine tk0 ?_
                  refine tkl 14 true (by kernel_rfl) ?_
                  refine sk h (k := fun a w h => ?_)
                  refine tk0 ?_
                  refine tkl 15 false (by kernel_rfl) ?_
                  refine sk h (k := fun a w h => ?_)
                  refine tk0 ?_
                  refine tkl 16 false (by kernel_rfl) ?_
                  refine sk h (k := fun a w h => ?_)
                  refine tk0 ?_
                  refine tkl 17 true (by kernel_rfl) ?_
                  refine sk h (k := fun a w h => ?_)
                  refine tk0 ?_
                  refine tkl 18 false (by kernel_rfl) ?_
                  refine sk h (k := fun a w h => ?_)
                  refine tk0 ?_
                  refine tkl 19 false (by kernel_rfl) ?_
                  refine sk h (k := fun a w h => ?_)
                  refine tk0 ?_
                  refine tkl 20 false (by kernel_rfl) ?_
                  refine sk h (k := fun a w h => ?_)
                  refine tk0 ?_
                  refine tkl 21 false (by kernel_rfl) ?_
                  refine sk h (k := fun a w h => ?_)
                  refine tk0 ?_
                  refine tkl 22 false (by kernel_rfl) ?_
                  refine sk h (k := fun a w h => ?_)
                  refine tk0 ?_
                  refine tkl 23 true (by kernel_rfl) ?_
                  refine sk h (k := fun a w h => ?_)
                  refine tk0 ?_
                  refine tkl 24 false (by kernel_rfl) ?_
                  refine sk h (k := fun a w h => ?_)
                  refine tk0 ?_
                  refine tkl 25 false (by kernel_rfl) ?_
                  refine sk h (k := fun a w h => ?_)
                  refine tk0 ?_
                  refine tkl 26 true (by kernel_rfl) ?_
                  refine sk h (k := fun a w h => ?_)
                  refine tk0 ?_
                  refine tkl 27 false (by kernel_rfl) ?_
                  refine sk h (k := fun a w h => ?_)
                  refine tk0 ?_
                  refine tkl 28 false (by kernel_rfl) ?_
                  refine sk h (k := fun a w h => ?_)
                  refine tk0 ?_
                  refine tkl 29 false (by kernel_rfl) ?_
                  refine sk h (k := fun a w h => ?_)
                  refine tk0 ?_
                  refine tkl 30 false (by kernel_rfl) ?_
                  refine sk h (k := fun a w h => ?_)
                  refine tk0 ?_
                  refine tkl 31 false (by kernel_rfl) ?_
                  refine sk h (k := fun a w h => ?_)
                  refine tk0 ?_
                  refine tkl 32 true (by kernel_rfl) ?_
                  refine sk h (k := fun a w h => ?_)
                  refine tk0 ?_
                  refine tkl 33 false (by kernel_rfl) ?_
                  refine sk h (k := fun a w h => ?_)
                  refine tk0 ?_
                  refine tkl 34 false (by kernel_rfl) ?_
                  refine sk h (k := fun a w h => ?_)
                  refine tk0 ?_
                  refine tkl 35 true (by kernel_rfl) ?_
                  refine sk h (k := fun a w h => ?_)
                  refine tk0 ?_
                  refine tkl 36 false (by kernel_rfl) ?_
                  refine sk h (k := fun a w h => ?_)
                  refine tk0 ?_
                  refine tkl 37 false (by kernel_rfl) ?_
                  refine sk h (k := fun a w h => ?_)
                  refine tk0 ?_
                  refine tkl 38 false (by kernel_rfl) ?_
                  refine sk h (k := fun a w h => ?_)
                  refine tk0 ?_
                  refine tkl 39 false (by kernel_rfl) ?_
                  refine sk h (k := fun a w h => ?_)
                  refine tk0 ?_
                  refine tkl 40 true (by kernel_rfl) ?_
                  refine sk h (k := fun a w h => ?_)
                  refine tk0 ?_
                  refine tkl 42 true (by kernel_rfl) ?_
                  refine sk h (k := fun a w h => ?_)
                  refine tk0 ?_
                  refine brl1 41 true (by kernel_rfl) (by kernel_rfl) (fun _ => h.st.sees' (by first | exact LE.rfl | assumption) (by simp)) ?_
                  refine sk h (k := fun a w h => ?_)
                  refine br0 ?_
                  refine brl1 43 true (by kernel_rfl) (by kernel_rfl) (fun _ => h.st.sees' (by first | exact LE.rfl | assumption) (by simp)) ?_
                  refine sk h (k := fun a w h => ?_)
                  refine br0 ?_
                  refine tkl 44 false (by kernel_rfl) ?_
                  refine sk h (k := fun a w h => ?_)
                  refine tk0 ?_
                  refine tkl 45 false (by kernel_rfl) ?_
                  refine sk h (k := fun a w h => ?_)
                  refine tk0 ?_
                  refine tkl 46 false (by kernel_rfl) ?_
                  refine sk h (k := fun a w h => ?_)
                  refine tk0 ?_
                  refine tkl 47 false (by kernel_rfl) ?_
                  refine pkF h fun a w h => ?_
                  refine tk0 ?_
                  refine tkl 48 false (by kernel_rfl) ?_
                  refine as_ h fun a w h => ?_
                  refine tk0 ?_
                  refine en (by kernel_rfl) ?_
                  refine thN ?_
                  have h2 : S E H135 197 [] [(1, .pointer (some ⟨g1, 0, none⟩)), (2, .bool ((((p.resolve.2 : Int) == 5) == ((p.stg k3) || (p.body.strange (p.known k3)))) && (((p.stg k3) || (p.body.strange (p.known k3))) || (((p.resolve.2 : Int) == 0) && ((((p.resolve.1.inputs.length : Int) : Int) == (p.inputs.length : Int)) && ((((p.resolve.1.cells.length : Int) : Int) == (p.cells.length : Int)) && ((((p.resolve.1.defs.length : Int) : Int) == (p.defs.length : Int)) && ((p.resolve.1.sizeW : Int) == p.sizeW)))))))), (3, .bool true), (6, .slice Br6 ((p.known k3).length) pr6), (7, .bool (!decide (p.known k3).Nodup)), (8, .int .i64 (k : Int)), (30, .int .i64 (k : Int)), (31, .pointer (some ⟨g1, 0, none⟩)), (32, .slice Ap0 p.inputs.length cp0), (33, .int .i64 (p.inputs.length : Int)), (34, .bool (decide (((k : Int) : Int) < (p.inputs.length : Int)))), (9, .int .i64 (k2 : Int)), (57, .int .i64 (k2 : Int)), (58, .pointer (some ⟨g1, 1, none⟩)), (59, .slice Ap1 p.cells.length cp1), (60, .int .i64 (p.cells.length : Int)), (61, .bool (decide (((k2 : Int) : Int) < (p.cells.length : Int)))), (10, .bool ((p.stg k3) || (p.body.strange (p.known k3)))), (11, .int .i64 (k3 : Int)), (84, .int .i64 (k3 : Int)), (85, .pointer (some ⟨g1, 2, none⟩)), (86, .slice Ap2 p.defs.length cp2), (87, .int .i64 (p.defs.length : Int)), (88, .bool (decide (((k3 : Int) : Int) < (p.defs.length : Int))))] (.obj g12 (.cells #[.slice A135_0_0 p.resolve.1.inputs.length c135_0_0, .slice A135_0_1 p.resolve.1.cells.length c135_0_1, .slice A135_0_2 p.resolve.1.defs.length c135_0_2, .int .i64 p.resolve.1.body.kind, str p.resolve.1.body.name, .int .i64 p.resolve.1.body.n, .slice A135_0_3 p.resolve.1.body.kids.length c135_0_3] 28 (0, 0)) :: .row (.slice Br6 ((p.known k3).length) pr6) 9 1 ((p.known k3).length) xr6 :: L) a w := by rw [show (.bool ((((p.resolve.2 : Int) == 5) == ((p.stg k3) || (p.body.strange (p.known k3)))) && (((p.stg k3) || (p.body.strange (p.known k3))) || (((p.resolve.2 : Int) == 0) && ((((p.resolve.1.inputs.length : Int) : Int) == (p.inputs.length : Int)) && ((((p.resolve.1.cells.length : Int) : Int) == (p.cells.length : Int)) && ((((p.resolve.1.defs.length : Int) : Int) == (p.defs.length : Int)) && ((p.resolve.1.sizeW : Int) == p.sizeW))))))) : Value) = .bool false from Eq.symm (by (try rw [c155]) <;> (try simp only [Bool.true_or, Bool.or_true, Bool.false_or, Bool.or_false, Bool.true_and, Bool.and_true, Bool.false_and, Bool.and_false, Bool.not_true, Bool.not_false, cond_true, cond_false]))]; exact h.to 0 _
                  exact h2
              · rintro a w h
                refine ret_ ?_
                have hk3 : k3 = p.defs.length := by omega
                rw [hk3] at c138
                have ht : p.twice = false := by rw [twice_nodup]; exact c138
                have l_H_H135 : LE H H135 := ((((le14.trans leHg1).trans leHL0).trans leHL2).trans leHL4).trans le135
                refine fin1 2 2 h l_H_H135 ?_
                exact ⟨congrArg Value.bool (by rw [hk3]; exact resolve_end d19 ht), rfl⟩

end Go.Proofs.YtindlieilabgfaaGreatDoor
/- ScopeResolves: for every program of bulk at most 1048576 the law answers true, and the program reads as before. -/
set_option linter.unusedVariables false
set_option linter.unusedSectionVars false
set_option linter.unusedSimpArgs false
set_option autoImplicit false
set_option relaxedAutoImplicit false
set_option maxRecDepth 100000
namespace Go.Proofs.YtindlieilabgfaaGreatDoor.resolves
open Go X Go.ChangeShapes Go.WideShapes Go.ChangeAt Go.RowKit

theorem own : ownKnob Tryz.prog.godebug = none := by kernel_rfl
theorem contract (H : Type) (enc : TypeId × Value → H) (W : World) (base : Nat) (args : Array Value) (ds gs : List (DataW H)) (before : List MemPlace)
    (hval : ∀ (j : Nat) t v, Tryz.f8.params[j]? = some t → args[j]? = some v → Value.okWide Tryz.prog W .any base t v)
    (hW : DataW.Whole enc Tryz.prog Tryz.f8.params.toList Rows.scopeResolvesSpec.vars false W args.toList ds gs before) (hk : Rows.uptoSmall H (ds ++ gs) = true) (hL : laidMetH Tryz.prog Rows.scopeResolvesUptoRow.laid W) :
    Calls Tryz.prog 8 args W fun e W' => ∃ v, e = .returned v ∧ Rows.scopeResolvesSpec.post enc Tryz.prog Tryz.f8 false true false false W args v W' := by
  have hW' := hW
  obtain ⟨p, q, hA, hV, rfl, hfz, hnd⟩ := hW
  rw [show Tryz.f8.params = #[28] from rfl] at hA hval
  obtain ⟨v0, vs0, d0, ds0, p0, q0, hargs, rfl, rfl, h0, r0⟩ := trodAll_cons hA
  obtain ⟨rfl, rfl, rfl⟩ := trodAll_nil r0
  obtain rfl : args = #[v0] := by cases args; simp_all
  have hgs : gs = [] := by
    cases gs with
    | nil => rfl
    | cons g gs => exact (show False from hV).elim
  subst hgs
  have hok := hval 0 28 v0 rfl rfl
  have hagg : ∃ cs, v0 = .agg cs := by
    unfold Value.okWide at hok
    rw [Tryz.underlying28] at hok
    obtain ⟨cs, h, _⟩ := hok
    exact ⟨cs, h⟩
  have hbulk : Rows.uptoBulk d0 ≤ 1048576 := by
    have : Rows.uptoBulkAll ([d0] ++ []) ≤ 1048576 := by simpa [Rows.uptoSmall] using hk
    simp only [List.append_nil, Rows.uptoBulkAll] at this
    omega
  obtain ⟨fuel, htr⟩ := h0
  obtain ⟨pg, hVP, hM⟩ := open_pg fuel v0 hagg (d0, p0) htr hbulk
  have hlaid : Laid (HW W) := by
    obtain ⟨ps, hv, _⟩ := (hL : laidMet Tryz.prog Rows.scopeResolvesUptoRow.laid W)
    exact laid_of hv (by simp [Rows.scopeResolvesUptoRow]) (by simp [Rows.scopeResolvesUptoRow]) (by simp [Rows.scopeResolvesUptoRow]) (by simp [Rows.scopeResolvesUptoRow])
  refine (resolves_ok pg v0 W (HW W) [] hVP hlaid hM W (st_world W)).mono fun e W' ⟨r, H', L', he, hle, hst, hr, hl⟩ => ?_
  subst hr
  refine ⟨_, he, post_true (by simpa using hW') rfl rfl rfl rfl (below_of hle hst) (by kernel_rfl) (fun t ht => ?_) rfl Tryz.underlying4⟩
  rw [show Tryz.f8.params = #[28] from rfl] at ht
  obtain rfl : t = 28 := by simpa using ht
  exact ⟨by kernel_rfl, of_decide_eq_true (by kernel_rfl)⟩
/-- A WORLD FOR THE WITNESS: the settled one, the tables laid. -/
def valOf : DataW Unit → Value
  | .lit (.int k n) => .int k n
  | .lit (.string s) => str s
  | _ => .bool false
def cellsOf : DataW Unit → Array Value
  | .agg ds => (ds.map valOf).toArray
  | _ => #[]
def lay (i : Nat) (o : Obj) : Obj := match i, o with
  | 0, .cells _ t z => .cells (cellsOf Rows.laid_chancel_term_kids) t z
  | 1, .cells _ t z => .cells (cellsOf Rows.laid_chancel_term_ops) t z
  | 2, .cells _ t z => .cells (cellsOf Rows.laid_internal_strconv_uint64pow10) t z
  | 3, .cells _ t z => .cells (cellsOf Rows.laid_chancel_lex_keys) t z
  | 4, .cells _ t z => .cells (cellsOf Rows.laid_math_bits_deBruijn32tab) t z
  | 5, .cells _ t z => .cells (cellsOf Rows.laid_math_bits_deBruijn64tab) t z
  | _, o => o
noncomputable def laidWorld (os : Os) : World :=
  { World.holding Tryz.prog os ⟨#[], #[], []⟩ with heap := (World.holding Tryz.prog os ⟨#[], #[], []⟩).heap.mapIdx lay }
def arg : Value := .agg #[.slice none 0 0, .slice none 0 0, .slice none 0 0, .int .i64 0, .string ⟨#[]⟩, .int .i64 0, .slice none 0 0]
theorem laid_met (os : Os) : laidMet Tryz.prog Rows.scopeResolvesUptoRow.laid ((laidWorld os).forCall (fun _ _ => 0) ⟨#[], #[arg], []⟩).memory :=
  laidMet_of_run' 8 (by kernel_rfl) (by kernel_rfl)
theorem reads (os : Os) {H : Type} (enc : TypeId × Value → H) : ∃ places, DataW.whole enc Tryz.prog ((laidWorld os).forCall (fun _ _ => 0) ⟨#[], #[arg], []⟩).memory Tryz.f8.params.toList Rows.scopeResolvesSpec.vars false #[arg].toList 8 = some ([.agg [.nil, .nil, .nil, .agg [.lit (.int .i64 0), .lit (.string []), .lit (.int .i64 0), .nil]]], [], places) :=
  ⟨[], by kernel_rfl⟩
theorem liftedUpto (os : Os) (started : os.Started) (H : Type) (enc : TypeId × Value → H) (F : Stop.Interp) :
    ReturnsInHanded {} Tryz.checked os 8 .any ((Rows.OpenSpec.upto Rows.scopeResolvesSpec).preRow enc Tryz.prog Tryz.f8 Rows.scopeResolvesUptoRow.domain false Rows.scopeResolvesUptoRow.laid) (((Rows.OpenSpec.upto Rows.scopeResolvesSpec).at F).post enc Tryz.prog Tryz.f8 false true false false) := by
  obtain ⟨places, hx⟩ := reads os enc
  refine returnsInHanded_of_row (C := Tryz.checked) (s := Rows.OpenSpec.upto Rows.scopeResolvesSpec) own started (by kernel_rfl) Tryz.func8
    (witness_row_at (enc := enc) (C := Tryz.checked) false (laidWorld os) #[arg] rfl (by kernel_rfl) (by kernel_rfl) (by kernel_rfl)
      (OpenSpec.preRow_of_cond 8 hx (by kernel_rfl) (fun k hk => by cases hk; kernel_rfl) (by kernel_rfl) (laid_met os))) ?_
  intro W base args ds gs before hval hW _ hcond _ hL _ _
  exact contract H enc W base args ds gs before hval hW (hcond _ rfl) hL
theorem saidUpto : Rows.ScopeResolvesUptoSaid :=
  OpenClaim.holds_of_cond 8 Tryz.f8 rfl rfl rfl rfl rfl rfl rfl ⟨rfl, rfl, rfl, rfl, rfl⟩ rfl rfl rfl rfl rfl (by kernel_rfl) Tryz.func8 (by kernel_rfl)
    (of_decide_eq_true (by kernel_rfl)) (by unfold Func.isWrapper; first | (rw [if_pos (by decide +kernel)]; kernel_rfl) | (rw [if_neg (by decide +kernel)]; exact ⟨rfl, rfl⟩))
    (fun os started H enc _ F => by rw [OpenClaim.pre_eq_preRow]; exact liftedUpto os started H enc F)
theorem plain (f : FuncId) (fn : Func) (hf : Tryz.pinned.checked.prog.funcNamed "chancel/chancellaw07.ScopeResolves" = some f) (hfn : Tryz.pinned.checked.prog.funcs[f]? = some fn) :
    true = Tryz.pinned.checked.prog.looks [] ∧ ∀ (j : Nat) t, fn.params[j]? = some t → Tryz.pinned.checked.prog.wantsStandIn t = false := by
  obtain rfl : f = 8 := Option.some.inj ((show Tryz.prog.funcNamed "chancel/chancellaw07.ScopeResolves" = some 8 by kernel_rfl).symm.trans hf) |>.symm
  obtain rfl : fn = Tryz.f8 := (Option.some.inj (Tryz.func8.symm.trans hfn)).symm
  refine ⟨by kernel_rfl, fun j t ht => ?_⟩
  rw [show Tryz.f8.params = #[28] from rfl] at ht
  obtain rfl : t = 28 := by simpa using Array.mem_of_getElem? ht
  exact (show Tryz.prog.wantsStandIn 28 = false by kernel_rfl)
/-- THE SECOND FORM's CARD. -/
theorem cardUpto : Rows.ScopeResolvesUptoCardSaid :=
  Claim7.holds_tied_plain_at .later [] _ _ _ _ saidUpto (fun _ h => by cases h) (by kernel_rfl) (fun _ h => by cases h) scopeResolvesUpto_row_tie rfl ⟨rfl, rfl⟩ (by kernel_rfl) rfl plain (by kernel_rfl)
end Go.Proofs.YtindlieilabgfaaGreatDoor.resolves
