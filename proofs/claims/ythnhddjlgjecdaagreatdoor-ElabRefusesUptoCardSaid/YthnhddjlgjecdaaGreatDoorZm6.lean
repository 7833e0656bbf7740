/- Parts of the proof: S23, S24, S25, M1, M2, M3, M4, M5, V22, M6, S27, S28, S29, V23. -/
import Derived.Test.YthnhddjlgjecdaaGreatDoorZm5
set_option autoImplicit false
set_option linter.unnecessarySimpa false
set_option linter.unusedSectionVars false
set_option linter.unusedSimpArgs false
set_option linter.unusedVariables false
set_option maxHeartbeats 8000000
set_option maxRecDepth 100000
set_option relaxedAutoImplicit false
namespace Go.Proofs.YthnhddjlgjecdaaGreatDoor
open Go X
abbrev gr (θ : Int → Sh) (s : Sh) : Sh := s.ap fun n => some (θ n)
theorem gr_wh (θ : Int → Sh) : gr θ wh = wh := by simp [gr, wh, Sh.ap, apL]
theorem gr_ce (θ : Int → Sh) : gr θ ce = ce := by simp [gr, ce, Sh.ap, apL]
theorem gr_fu (θ : Int → Sh) (a b : Sh) : gr θ (fu a b) = fu (gr θ a) (gr θ b) := by simp [gr, fu, Sh.ap, apL]
theorem gr_hole (θ : Int → Sh) (e : Es) : gr θ e.hole.2 = θ (e.nx : Int) := by simp [gr, Es.hole, Sh.ap]
theorem same_cpl {θ : Int → Sh} {e : Es} {a b : Sh} (hθ : ∀ n, (θ n).size ≤ 100) (he : EOk e) (hu : UArg e.sub a b) (hs : Sat θ e.sub) (h : gr θ a = gr θ b) : ∃ e', e.same a b = some e' ∧ Sat θ e'.sub ∧ e'.nx = e.nx := by
 obtain ⟨f, hf⟩ := uniR_ex hu.ord hu.ra hu.rb
 obtain ⟨l', h1, h2⟩ := uni_complete θ hθ f _ _ _ _ hf he.ord hu.ra hu.rb hs h
 exact ⟨⟨l', e.nx, e.nm⟩, by unfold Es.same; rw [h1]; rfl, h2, rfl⟩
def hN (kd : Int) : Nat := if kd = 4 ∨ kd = 8 then 1 else 0
theorem shape_cpl {M : Nat} {θ : Int → Sh} {e : Es} {kd : Int} {nm : Bs} {b ds db : Sh} {ss : List Sh} {k0 k1 k2 : Sh} (hθ : ∀ n, (θ n).size ≤ 100) (he : EOk e) (hs : Sat θ e.sub) (hk : ∀ i, i < ss.length → Gd1 M e.nx (ss.getD i zS)) (hnm : kd = 2 → ∃ u, e.nm nm = some u ∧ gr θ u = ds)
   (hl : (kd = 3 ∨ kd = 8 ∨ kd = 7 ∨ kd = 10 → 0 < ss.length) ∧ (kd = 4 ∨ kd = 9 ∨ kd = 11 ∨ kd = 12 ∨ kd = 5 ∨ kd = 13 → 1 < ss.length) ∧ (kd = 6 → 2 < ss.length)) (hM : M + 2 ≤ 10000000) (hM1 : 1 ≤ M) (hn : e.nx + 1 ≤ 1000000000)
   (hr : Rule kd ds db k0 k1 k2) (h0 : gr θ (ss.getD 0 zS) = k0) (h1 : gr θ (ss.getD 1 zS) = k1) (h2 : gr θ (ss.getD 2 zS) = k2) (hb : gr θ b = db) (ha : 1 ≤ kd ∧ kd ≤ 13) (hx : kd = 4 ∨ kd = 8 → θ (e.nx : Int) = ds) :
   ∃ e' s, e.shape kd nm b ss = some (e', s) ∧ Sat θ e'.sub ∧ gr θ s = ds ∧ e'.nx = e.nx + hN kd := by
 have g := hk
 have wM : Gd1 M e.nx wh := gd_wh hM1
 have cM : Gd1 M e.nx ce := gd_ce hM1
 have sm : ∀ {a b : Sh} {e1 : Es}, EOk e1 → e1.nx = e.nx → Gd1 M e.nx a → Gd1 M e.nx b → Sat θ e1.sub → gr θ a = gr θ b → ∃ e2, e1.same a b = some e2 ∧ Sat θ e2.sub ∧ EOk e2 ∧ e2.nx = e.nx := fun {a b e1} h1 hx ha hb hs h => by
   have u := uarg_gd h1 ha hb (by omega) (by omega)
   obtain ⟨e2, q1, q2, q3⟩ := same_cpl hθ h1 u hs h
   exact ⟨e2, q1, q2, (same_eok h1 u q1).1, q3.trans hx⟩
 unfold Es.shape Es.shape3
 obtain ⟨r1, r3, r4, r5, r6, r7, r8, r9, r10, r11, r12, r13⟩ := hr
 have : kd = 1 ∨ kd = 2 ∨ kd = 3 ∨ kd = 4 ∨ kd = 5 ∨ kd = 6 ∨ kd = 7 ∨ kd = 8 ∨ kd = 9 ∨ kd = 10 ∨ kd = 11 ∨ kd = 12 ∨ kd = 13 := by omega
 rcases this with rfl | rfl | rfl | rfl | rfl | rfl | rfl | rfl | rfl | rfl | rfl | rfl | rfl
 · exact ⟨e, wh, rfl, hs, by rw [gr_wh]; exact (r1 rfl).symm, rfl⟩
 · obtain ⟨u, e0, hu⟩ := hnm rfl
   exact ⟨e, u, by simp [e0], hs, hu, rfl⟩
 · exact ⟨e, _, rfl, hs, by rw [gr_fu, h0, hb]; exact (r3 rfl).symm, rfl⟩
 · have g0 := (g 0 (by have := hl.2.1 (.inl rfl); omega)).mono (M' := M + 2) (nx' := e.hole.1.nx) (by omega) (by simp only [Es.hole]; omega)
   have g1 := (g 1 (hl.2.1 (.inl rfl))).mono (M' := M) (nx' := e.hole.1.nx) (by omega) (by simp only [Es.hole]; omega)
   have gh : Gd1 1 e.hole.1.nx e.hole.2 := gd_hole (Nat.le_refl _)
   obtain ⟨e2, q1, q2, q3⟩ := same_cpl hθ (hole_eok he) (uarg_gd (hole_eok he) g0 (gd_fu g1 gh (by omega)) (by omega) (by simp only [Es.hole]; omega)) hs (by rw [gr_fu, gr_hole, h0, h1, hx (.inl rfl)]; exact r4 rfl)
   exact ⟨e2, e.hole.2, by show Option.map _ _ = _; rw [q1]; rfl, q2, by rw [gr_hole]; exact hx (.inl rfl), by rw [q3]; rfl⟩
 · exact ⟨e, _, rfl, hs, by rw [h1]; exact (r5 rfl).2.symm, rfl⟩
 · have l6 := hl.2.2 rfl
   obtain ⟨a1, a2, a3⟩ := r6 rfl
   obtain ⟨e1, q1, q2, q3, q4⟩ := sm he rfl (g 0 (by omega)) wM hs (by rw [h0, gr_wh, a1])
   obtain ⟨e2, p1, p2, p3, p4⟩ := sm q3 q4 (g 1 (by omega)) (g 2 (by omega)) q2 (by rw [h1, h2, a2, a3])
   exact ⟨e2, _, by show Option.bind _ _ = _; rw [q1]; show Option.map _ _ = _; rw [p1]; rfl, p2, by rw [h1, a2], p4⟩
 · obtain ⟨a1, a2⟩ := r7 rfl
   obtain ⟨e1, q1, q2, q3, q4⟩ := sm he rfl (g 0 (hl.1 (by simp))) wM hs (by rw [h0, gr_wh, a1])
   exact ⟨e1, wh, by show Option.map _ _ = _; rw [q1]; rfl, q2, by rw [gr_wh, a2], q4⟩
 · have a1 := r8 rfl
   obtain ⟨e1, q1, q2, q3, q4⟩ := sm he rfl (g 0 (hl.1 (by simp))) wM hs (by rw [h0, gr_wh, a1])
   refine ⟨e1.hole.1, e1.hole.2, by show Option.map _ _ = _; rw [q1]; rfl, q2, by rw [gr_hole, q4]; exact hx (.inr rfl), by show e1.nx + 1 = _; rw [q4]; rfl⟩
 · obtain ⟨a1, a2, a3⟩ := r9 rfl
   have l9 := hl.2.1 (by simp)
   obtain ⟨e1, q1, q2, q3, q4⟩ := sm he rfl (g 0 (by omega)) (g 1 l9) hs (by rw [h0, h1, a1, a2])
   exact ⟨e1, _, by show Option.map _ _ = _; rw [q1]; rfl, q2, by rw [h1, a2], q4⟩
 · obtain ⟨a1, a2⟩ := r10 rfl
   obtain ⟨e1, q1, q2, q3, q4⟩ := sm he rfl (g 0 (hl.1 (by simp))) cM hs (by rw [h0, gr_ce, a1])
   exact ⟨e1, wh, by show Option.map _ _ = _; rw [q1]; rfl, q2, by rw [gr_wh, a2], q4⟩
 · obtain ⟨a1, a2, a3⟩ := r11 rfl
   have l9 := hl.2.1 (by simp)
   obtain ⟨e1, q1, q2, q3, q4⟩ := sm he rfl (g 0 (by omega)) cM hs (by rw [h0, gr_ce, a1])
   obtain ⟨e2, p1, p2, p3, p4⟩ := sm q3 q4 (g 1 l9) wM q2 (by rw [h1, gr_wh, a2])
   exact ⟨e2, wh, by show Option.bind _ _ = _; rw [q1]; show Option.map _ _ = _; rw [p1]; rfl, p2, by rw [gr_wh, a3], p4⟩
 · obtain ⟨a1, a2, a3⟩ := r12 rfl
   have l9 := hl.2.1 (by simp)
   obtain ⟨e1, q1, q2, q3, q4⟩ := sm he rfl (g 0 (by omega)) wM hs (by rw [h0, gr_wh, a1])
   obtain ⟨e2, p1, p2, p3, p4⟩ := sm q3 q4 (g 1 l9) wM q2 (by rw [h1, gr_wh, a2])
   exact ⟨e2, wh, by show Option.bind _ _ = _; rw [q1]; show Option.map _ _ = _; rw [p1]; rfl, p2, by rw [gr_wh, a3], p4⟩
 · exact ⟨e, _, rfl, hs, by rw [h1]; exact (r13 rfl).symm, rfl⟩
def updG (Γ : Bs → Option Sh) (x : Bs) (s : Sh) : Bs → Option Sh := fun y => if y = x then some s else Γ y
mutual
def Tr.sc (Γ : Bs → Option Sh) : Tr → Prop
 | .mk kd nm n s b ks => arB kd ks.length = true ∧ Rule kd s b (sAt ks 0) (sAt ks 1) (sAt ks 2) ∧ (kd = 2 → Γ nm = some s) ∧ s.size ≤ 100 ∧ b.size ≤ 100 ∧ (bnd kd = false → b = zS) ∧ scL (bnd kd) nm b Γ ks
def scL (bd : Bool) (nm : Bs) (b : Sh) (Γ : Bs → Option Sh) : List Tr → Prop
 | [] => True
 | t :: l => t.sc (if bd && l.isEmpty then updG Γ nm b else Γ) ∧ scL bd nm b Γ l
end
mutual
def Tr.hs : Tr → List Sh
 | .mk kd _ _ s b ks => (if kd = 3 then [b] else []) ++ (hsL ks ++ if kd = 4 ∨ kd = 8 then [s] else [])
def hsL : List Tr → List Sh
 | [] => []
 | t :: l => t.hs ++ hsL l
end
def AtH (θ : Int → Sh) (m : Nat) (l : List Sh) : Prop := ∀ i (h : i < l.length), θ ((m + i : Nat) : Int) = l[i]
theorem AtH.left {θ : Int → Sh} {m : Nat} {l k : List Sh} (h : AtH θ m (l ++ k)) : AtH θ m l := fun i hi => by
 have := h i (by simp; omega)
 rwa [List.getElem_append_left hi] at this
theorem AtH.right {θ : Int → Sh} {m : Nat} {l k : List Sh} (h : AtH θ m (l ++ k)) : AtH θ (m + l.length) k := fun i hi => by
 have := h (l.length + i) (by simp; omega)
 rw [List.getElem_append_right (by omega)] at this
 simp only [Nat.add_sub_cancel_left] at this
 rw [Nat.add_assoc]; exact this
mutual
def Tr.gs (θ : Int → Sh) : Tr → Prop
 | .mk _ _ _ s b ks => (s.right = true ∧ (gr θ s).size ≤ 100) ∧ (b = zS ∨ (b.right = true ∧ (gr θ b).size ≤ 100)) ∧ gsL θ ks
def gsL (θ : Int → Sh) : List Tr → Prop
 | [] => True
 | t :: l => t.gs θ ∧ gsL θ l
end
theorem gsL_snoc {θ : Int → Sh} {t : Tr} : ∀ {l : List Tr}, gsL θ l → t.gs θ → gsL θ (l ++ [t])
 | [], _, h => ⟨h, trivial⟩
 | u :: l, h, ht => ⟨h.1, gsL_snoc h.2 ht⟩
def Fits (θ : Int → Sh) (Γ nm : Bs → Option Sh) : Prop := ∀ x s, Γ x = some s → ∃ u, nm x = some u ∧ gr θ u = s
theorem Fits.le {θ : Int → Sh} {Γ a b : Bs → Option Sh} (h : Fits θ Γ a) (hl : NmLe a b) : Fits θ Γ b := fun x s hx => by
 obtain ⟨u, h1, h2⟩ := h x s hx
 exact ⟨u, hl x u h1, h2⟩
theorem Fits.upd {θ : Int → Sh} {Γ a : Bs → Option Sh} (h : Fits θ Γ a) (e : Es) (he : e.nm = a) {x : Bs} {s u : Sh} (hu : gr θ u = s) : Fits θ (updG Γ x s) (e.put x u).nm := fun y t hy => by
 unfold updG at hy
 simp only [Es.put, he]
 split at hy
 · rename_i hc; cases hy; exact ⟨u, by rw [if_pos hc], hu⟩
 · rename_i hc; rw [if_neg hc]; exact h y t hy
theorem sAt_snoc {acc : List Tr} {t : Tr} {i : Nat} : sAt (acc ++ [t]) i = if i = acc.length then t.s else sAt acc i := by
 unfold sAt
 rw [List.map_append, List.getD_eq_getElem?_getD, List.getD_eq_getElem?_getD]
 by_cases h : i < acc.length
 · rw [List.getElem?_append_left (by simpa using h), if_neg (by omega)]
 · rw [List.getElem?_append_right (by simpa using h)]
   simp only [List.length_map]
   by_cases h2 : i = acc.length
   · subst h2; simp
   · rw [if_neg h2, List.getElem?_eq_none (by simp; omega), List.getElem?_eq_none (by simp; omega)]
theorem sAt_none {ks : List Tr} {i : Nat} (h : ks.length ≤ i) : sAt ks i = zS := by
 unfold sAt
 rw [List.getD_eq_getElem?_getD, List.getElem?_eq_none (by simpa using h)]; rfl
theorem gr_z (θ : Int → Sh) : gr θ zS = zS := by simp [gr, Sh.ap, apL]
mutual
theorem el_cpl (θ : Int → Sh) (hθ : ∀ n, (θ n).size ≤ 100) : ∀ (t : Tm) (d : Tr) (Γ : Bs → Option Sh) (e : Es) (M : Nat) (K : Bs → Bool), d.bare = t → d.sc Γ → AtH θ e.nx d.hs → Fits θ Γ e.nm → Sat θ e.sub → t.okn K = true → (∀ x, K x = true → (e.nm x).isSome = true) → Inv M e → 1 ≤ M → M + 2 * t.size ≤ 10000000 → e.nx + 4 * t.size ≤ 1000000000 →
   t.bs.Nodup → (∀ x ∈ t.bs, e.nm x = none) → ∃ e' r, t.el e = some (e', r) ∧ Sat θ e'.sub ∧ gr θ r.s = d.s ∧ r.gs θ ∧ e'.nx = e.nx + d.hs.length
 | .mk kd nm n ks, .mk kd' nm' n' ds db dk, Γ, e, M, K, hb, hsc, hat, hfit, hsat, hk, hK, hi, hM, hMs, hn, hd, hf => by
   simp only [Tr.bare, Tm.mk.injEq] at hb
   obtain ⟨rfl, rfl, rfl, hb⟩ := hb
   simp only [Tr.sc] at hsc
   obtain ⟨ha, hrule, hvar, hds, hdb, hz, hkids⟩ := hsc
   have hk0 := hk
   simp only [Tm.okn, Bool.and_eq_true] at hk
   obtain ⟨ha2, hk2, hk3⟩ := hk
   have hlen : dk.length = ks.length := by rw [← hb, bareL_map, List.length_map]
   have hl3 : ks.length ≤ 3 := by have := arB_cases ha2; omega
   simp only [Tm.size] at hMs hn
   simp only [Tm.bs] at hd hf
   simp only [Tr.hs] at hat ⊢
   have hd2 : (bsL ks).Nodup := (List.nodup_append.1 hd).2.1
   have hd3 : bnd kd' = true → nm' ∉ bsL ks ∧ e.nm nm' = none := fun hb => by
     rw [if_pos hb] at hd hf
     exact ⟨fun hm => (List.nodup_append.1 hd).2.2 nm' (by simp) nm' hm rfl, hf nm' (by simp)⟩
   have hko : KidsOk kd' ks.length M e (.mk 0 0 []) [] := ⟨hi, fun t ht => (by cases ht), hM, fun _ h => absurd rfl h⟩
   obtain ⟨e1, b1, ts, h1, hs1, hts, hgs, hb1, hnx1⟩ := elL_cpl θ hθ kd' nm' db ks dk [] Γ e zS [] M K ks.length hb hkids
     (by
       by_cases h3 : kd' = 3
       · rw [if_pos h3] at hat ⊢; rw [← List.append_assoc] at hat; exact hat.left
       · rw [if_neg h3] at hat ⊢; rw [List.nil_append] at hat ⊢; exact hat.left)
     hfit hsat rfl (fun i hi => by simp at hi) trivial ha2 (by simp) hk3 hK hko hM (by omega) (by omega) hd2 hd3 (fun x hx => hf x (List.mem_append_right _ hx))
     (fun h5 => by have := hrule.2.2.2.1 h5; simpa using this.1) (fun h9 => (hrule.2.2.2.2.2.2.2.1 h9).2.2) (by rw [hlen])
   obtain ⟨g1, g2, g3, g4, g5⟩ := elL_inv kd' nm' ks e (.mk 0 0 []) [] e1 b1 ts M K ks.length h1 ha2 (by simp) hk3 hK hko hM (by omega) (by omega)
   obtain ⟨a1, a2, a3, a4⟩ := elL_snd kd' nm' ks e (.mk 0 0 []) [] e1 b1 ts M K ks.length h1 ha2 (by simp) hk3 hK hko hM (by omega) (by omega) hd2 hd3 (fun x hx => hf x (List.mem_append_right _ hx))
   have ha' : arB kd' ts.length = true := by rw [g2]; exact ha2
   have hgt : ∀ i, i < (ts.map Tr.s).length → Gd1 (M + 2 * sizeL ks) e1.nx ((ts.map Tr.s).getD i zS) := fun i hi => by
     rw [List.getD_eq_getElem?_getD, List.getElem?_eq_getElem hi, Option.getD_some, List.getElem_map]
     exact (g1.accs _ (List.getElem_mem _)).s
   have hat2 : kd' = 4 ∨ kd' = 8 → θ (e1.nx : Int) = ds := fun h48 => by
     have h3 : kd' ≠ 3 := by omega
     rw [if_neg h3, if_pos h48, List.nil_append] at hat
     have := hat.right 0 (by simp)
     rw [hnx1, if_neg h3]
     simpa using this
   have hbb : gr θ b1 = db := by
     by_cases hc : bnd kd' = true
     · refine hb1 hc ?_
       rintro rfl
       have := arB_cases ha2
       unfold bnd at hc
       simp at hc this
       omega
     · rw [a2 (by simpa using hc), hz (by simpa using hc), gr_z]
   obtain ⟨e2, s, h2, hs2, hgr, hnx2⟩ := shape_cpl (M := M + 2 * sizeL ks) (nm := nm') (b := b1) (ss := ts.map Tr.s) hθ g1.inv.ok hs1 hgt
     (fun h2' => by
       subst h2'
       obtain ⟨u, q1, q2⟩ := hfit nm' ds (hvar rfl)
       exact ⟨u, a1.le _ _ q1, q2⟩)
     (shape_arg (M := M) (e := e) (nm := nm') ha' (by rw [List.length_map])) (by omega) (by omega) (by omega) hrule
     (by have := hts 0; unfold sAt at this ⊢; exact this) (by have := hts 1; unfold sAt at this ⊢; exact this) (by have := hts 2; unfold sAt at this ⊢; exact this) hbb (by have := arB_cases ha2; omega) hat2
   refine ⟨e2, .mk kd' nm' n' s b1 ts, by simp only [Tm.el]; rw [h1]; simp only []; rw [h2], hs2, hgr, ?_, ?_⟩
   · simp only [Tr.gs]
     have hnode := KidsOk.node (K := K) ha' (fun h2' => by subst h2'; exact g5 nm' (hK nm' (by simpa using hk2))) (by rw [g2]; exact g1) (by omega) (by omega) (by omega) h2 n'
     refine ⟨⟨hnode.2.2.2.2.s.right, by rw [hgr]; exact hds⟩, ?_, hgs⟩
     by_cases hc : bnd kd' = true
     · right
       refine ⟨?_, by rw [hbb]; exact hdb⟩
       have hne : ks ≠ [] := by
         rintro rfl
         have := arB_cases ha2
         unfold bnd at hc
         simp at hc this
         omega
       have := a3 hc hne
       have hcase : kd' = 3 ∨ kd' = 5 ∨ kd' = 9 := by unfold bnd at hc; simpa using hc
       rcases hcase with h3 | h5 | h9
       · exact (g1.b3 h3 (by rintro rfl; have := arB_cases ha2; simp at g2; omega)).right
       · have hl : 2 ≤ ([] : List Tr).length + ks.length := by have := arB_cases ha2; simp; omega
         rw [this.2.2 h5 hl]
         exact (hgt 0 (by rw [List.length_map, g2]; simp at hl; omega)).right
       · rw [this.2.1 h9]; decide
     · left; exact a2 (by simpa using hc)
   · rw [hnx2, hnx1]
     unfold hN
     by_cases h3 : kd' = 3
     · have h48 : ¬ (kd' = 4 ∨ kd' = 8) := by omega
       have hne : ks ≠ [] := by
         rintro rfl
         have := arB_cases ha2
         simp at this
         omega
       simp only [if_pos h3, if_neg h48, if_neg hne, List.length_append, List.length_cons, List.length_nil]; omega
     · by_cases h48 : kd' = 4 ∨ kd' = 8
       · simp only [if_neg h3, if_pos h48, List.length_append, List.length_cons, List.length_nil]; omega
       · simp only [if_neg h3, if_neg h48, List.length_append, List.length_nil]; omega
theorem elL_cpl (θ : Int → Sh) (hθ : ∀ n, (θ n).size ≤ 100) (kd : Int) (nm : Bs) (db : Sh) : ∀ (ks : List Tm) (dk dacc : List Tr) (Γ : Bs → Option Sh) (e : Es) (b : Sh) (acc : List Tr) (M : Nat) (K : Bs → Bool) (n : Nat), bareL dk = ks → scL (bnd kd) nm db Γ dk → AtH θ e.nx ((if kd = 3 then [db] else []) ++ hsL dk) → Fits θ Γ e.nm → Sat θ e.sub → acc.length = dacc.length → (∀ i, i < dacc.length → gr θ (sAt acc i) = sAt dacc i) → gsL θ acc → arB kd n = true → acc.length + ks.length = n → oknL (bnd kd) nm K ks = true → (∀ x, K x = true → (e.nm x).isSome = true) → KidsOk kd n M e b acc → 1 ≤ M → M + 2 * sizeL ks ≤ 10000000 → e.nx + (4 * sizeL ks + ks.length) ≤ 1000000000 →
   (bsL ks).Nodup → (bnd kd = true → nm ∉ bsL ks ∧ e.nm nm = none) → (∀ x ∈ bsL ks, e.nm x = none) → (kd = 5 → db = sAt (dacc ++ dk) 0) → (kd = 9 → db = wh) → (dk.length = ks.length) →
   ∃ e' b' ts, elL kd nm e b acc ks = some (e', b', ts) ∧ Sat θ e'.sub ∧ (∀ i, gr θ (sAt ts i) = sAt (dacc ++ dk) i) ∧ gsL θ ts ∧ (bnd kd = true → ks ≠ [] → gr θ b' = db) ∧ e'.nx = e.nx + ((if kd = 3 then (if ks = [] then 0 else 1) else 0) + (hsL dk).length)
 | [], dk, dacc, Γ, e, b, acc, M, K, n, hb, hsc, hat, hfit, hsat, hal, hacc, hgs, ha, hlen, hk, hK, hq, hM, hMs, hn, hd, hd3, hf, h5, h9, hdl => by
   have : dk = [] := by cases dk with
     | nil => rfl
     | cons a l => simp at hdl
   subst this
   refine ⟨e, b, acc, rfl, hsat, fun i => ?_, hgs, fun _ h => absurd rfl h, by simp [hsL]⟩
   rw [List.append_nil]
   by_cases hi : i < dacc.length
   · exact hacc i hi
   · rw [sAt_none (by omega), sAt_none (by omega), gr_z]
 | t :: l, dk, dacc, Γ, e, b, acc, M, K, n, hb, hsc, hat, hfit, hsat, hal, hacc, hgs, ha, hlen, hk, hK, hq, hM, hMs, hn, hd, hd3, hf, h5, h9, hdl => by
   cases dk with
   | nil => simp at hdl
   | cons d dl =>
     have hb0 := hb
     simp only [bareL, List.cons.injEq] at hb
     obtain ⟨hbd, hbl⟩ := hb
     simp only [scL] at hsc
     obtain ⟨hsd, hsl⟩ := hsc
     simp only [List.length_cons, Nat.add_right_cancel_iff] at hdl
     have hemp : dl.isEmpty = l.isEmpty := by cases dl <;> cases l <;> simp_all
     rw [hemp] at hsd
     simp only [sizeL, List.length_cons] at hMs hn hlen
     simp only [bsL] at hd hd3 hf
     rw [oknL, Bool.and_eq_true] at hk
     obtain ⟨q1, q2, q3, q4, q5, q6, q7⟩ := kid_pre (nm := nm) (K := K) ha hlen hq.inv hM (fun t ht => (hq.accs t ht).s) hK hq.bs
     obtain ⟨n1, n2, n3⟩ := List.nodup_append.1 hd
     -- the solver ahead of this kid
     have hl3 : kd = 3 → l = [] ∧ acc = [] := fun h3 => by
       subst h3
       have h1 : n = 1 := by have := arB_cases ha; omega
       subst h1
       exact ⟨List.eq_nil_of_length_eq_zero (by omega), List.eq_nil_of_length_eq_zero (by omega)⟩
     have hbv : bnd kd = true → gr θ (e.bound kd acc).2 = db ∨ l ≠ [] := fun hbk => by
       by_cases hl : l = []
       · left
         have hcase : kd = 3 ∨ kd = 5 ∨ kd = 9 := by unfold bnd at hbk; simpa using hbk
         rcases hcase with h3 | h5' | h9'
         · subst h3
           show gr θ e.hole.2 = db
           rw [gr_hole]
           have := hat.left 0 (by simp)
           simpa using this
         · rw [kd_b.2 h5', h5 h5']
           have hn2 : n = 2 := by subst h5'; have := arB_cases ha; omega
           subst hl
           have hal1 : acc.length = 1 := by simp at hlen; omega
           have := hacc 0 (by omega)
           cases acc with
           | nil => simp at hal1
           | cons a acc =>
             cases dacc with
             | nil => simp at hal
             | cons da dacc => simpa [sAt] using this
         · rw [kd_b.1 h9', h9 h9', gr_wh]
       · exact .inr hl
     have hpn : (e.pre kd nm b acc l.isEmpty).1.nx = e.nx + (if kd = 3 then 1 else 0) := by
       unfold Es.pre
       split
       · rename_i hc
         show (e.bound kd acc).1.nx = _
         unfold Es.bound
         split
         · rfl
         · split <;> rfl
       · rename_i hc
         by_cases h3 : kd = 3
         · exfalso
           obtain ⟨h4, _⟩ := hl3 h3
           subst h3; subst h4
           exact hc (by decide)
         · rw [if_neg h3]; rfl
     have hfit' : Fits θ (if (bnd kd && l.isEmpty) = true then updG Γ nm db else Γ) (e.pre kd nm b acc l.isEmpty).1.nm := by
       unfold Es.pre
       split
       · rename_i hc
         simp only [Bool.and_eq_true, List.isEmpty_iff] at hc
         exact hfit.upd _ (bound_sub e kd acc).2 ((hbv hc.1).resolve_right (fun h => h hc.2))
       · exact hfit
     have hsat' : Sat θ (e.pre kd nm b acc l.isEmpty).1.sub := by rw [pre_sub]; exact hsat
     have hat' : AtH θ (e.pre kd nm b acc l.isEmpty).1.nx d.hs := by
       rw [hpn]
       simp only [hsL] at hat
       by_cases h3 : kd = 3
       · rw [if_pos h3] at hat ⊢; exact hat.right.left
       · rw [if_neg h3, List.nil_append] at hat; rw [if_neg h3]; exact hat.left
     have pn : ∀ x, x ≠ nm ∨ bnd kd = false ∨ l ≠ [] → (e.pre kd nm b acc l.isEmpty).1.nm x = e.nm x := fun x hx => by
       unfold Es.pre
       split
       · rename_i hc
         simp only [Bool.and_eq_true, List.isEmpty_iff] at hc
         have : x ≠ nm := by rcases hx with hx | hx | hx; exact hx; rw [hc.1] at hx; cases hx; exact absurd hc.2 hx
         simp only [Es.put]
         rw [if_neg this, (bound_sub e kd acc).2]
       · rfl
     have hfr : ∀ x ∈ t.bs, (e.pre kd nm b acc l.isEmpty).1.nm x = none := fun x hx => by
       rw [pn x]
       · exact hf x (List.mem_append_left _ hx)
       · cases hb : bnd kd with
         | false => exact .inr (.inl rfl)
         | true => exact .inl fun e => (hd3 hb).1 (by subst e; exact List.mem_append_left _ hx)
     obtain ⟨e2, tr, h1, hs2, hgr, hgt, hnx2⟩ := el_cpl θ hθ t d _ _ M _ hbd hsd hat' hfit' hsat' hk.1 q5 q1 hM (by omega) (by omega) n1 hfr
     obtain ⟨d1, d2⟩ := el_inv t _ e2 tr M _ h1 hk.1 q5 q1 hM (by omega) (by omega)
     have hq2 := KidsOk.kid (nm := nm) (K := K) ha hlen hq hM hK d1 d2
     have dh := d1.hi
     have dl' := d1.lo
     have hK2 : ∀ x, K x = true → (e2.nm x).isSome = true := fun x hx => d1.dom x (q4 x (hK x hx))
     have hacc2 : ∀ i, i < (dacc ++ [d]).length → gr θ (sAt (acc ++ [tr]) i) = sAt (dacc ++ [d]) i := fun i hi => by
       rw [sAt_snoc, sAt_snoc, hal]
       split
       · exact hgr
       · exact hacc i (by simp at hi; omega)
     rw [elL_cons, h1]
     cases l with
     | nil =>
       have hdl0 : dl = [] := List.eq_nil_of_length_eq_zero (by simpa using hdl)
       subst hdl0
       simp only [elL]
       refine ⟨_, _, _, rfl, hs2, fun i => ?_, gsL_snoc hgs hgt, fun hbk _ => ?_, ?_⟩
       · by_cases hi : i < (dacc ++ [d]).length
         · exact hacc2 i hi
         · rw [sAt_none (by simp at hi ⊢; omega), sAt_none (by omega), gr_z]
       · unfold Es.pre
         rw [if_pos (by rw [hbk]; rfl)]
         exact (hbv hbk).resolve_right (fun h => h rfl)
       · rw [hnx2, hpn]
         simp only [hsL, List.append_nil]
         split <;> simp <;> omega
     | cons t2 l2 =>
       have hp : e.pre kd nm b acc (t2 :: l2).isEmpty = (e, b) := by unfold Es.pre; simp
       have h3 : kd ≠ 3 := fun h => by have := (hl3 h).1; cases this
       have hsn := el_snd t _ e2 tr M _ h1 hk.1 q5 q1 hM (by omega) (by omega) n1 hfr
       rw [hp] at hsn hnx2 hq2 hfr
       simp only [hp]
       have no2 : ∀ x, e.nm x = none → x ∉ t.bs → e2.nm x = none := fun x h1 h3 => by
         cases hx : e2.nm x with
         | none => rfl
         | some s =>
           rcases hsn.1.dom x (by rw [hx]; rfl) with h | h
           · simp only [h1] at h; cases h
           · exact absurd h h3
       rw [if_neg h3, List.nil_append] at hat
       simp only [hsL] at hat
       obtain ⟨e', b', ts, r1, r2, r3, r4, r5, r6⟩ := elL_cpl θ hθ kd nm db (t2 :: l2) dl (dacc ++ [d]) Γ e2 b (acc ++ [tr]) (M + 2 * t.size) K n hbl hsl
         (by rw [if_neg h3, List.nil_append, hnx2]; exact hat.right) (hfit.le hsn.1.le) hs2 (by simp [hal]) hacc2 (gsL_snoc hgs hgt) ha (by simp at hlen ⊢; omega) hk.2 hK2 hq2 (by omega) (by omega) (by omega) n2
         (fun hb => ⟨fun hm => (hd3 hb).1 (List.mem_append_right _ hm), no2 nm (hd3 hb).2 (fun hm => (hd3 hb).1 (List.mem_append_left _ hm))⟩)
         (fun x hx => no2 x (hf x (List.mem_append_right _ hx)) (fun hm => n3 x hm x hx rfl))
         (fun h => by rw [h5 h, List.append_assoc]; rfl) h9 hdl
       refine ⟨e', b', ts, r1, r2, fun i => by rw [r3 i, List.append_assoc]; rfl, r4, fun hbk _ => r5 hbk (by simp), ?_⟩
       rw [r6, hnx2, if_neg h3, if_neg h3]
       simp only [hsL, List.length_append]; omega
end
mutual
theorem ap_wh_hl : ∀ t : Sh, (t.ap fun _ => some wh).hl = []
 | .mk k n ks => by
   simp only [Sh.ap]
   split
   · rfl
   · rename_i h
     simp only [Sh.hl, if_neg h, List.nil_append, apL_wh_hl ks]
theorem apL_wh_hl : ∀ l : List Sh, hlL (apL (fun _ => some wh) l) = []
 | [] => rfl
 | t :: l => by simp only [apL, hlL, ap_wh_hl t, apL_wh_hl l, List.append_nil]
end
mutual
theorem ap_wh_size : ∀ t : Sh, (t.ap fun _ => some wh).size ≤ t.size
 | .mk k n ks => by
   simp only [Sh.ap]
   split
   · show Sh.size wh ≤ _
     simp [wh, Sh.size, sizeSL]
   · simp only [Sh.size]
     have := apL_wh_size ks
     omega
theorem apL_wh_size : ∀ l : List Sh, sizeSL (apL (fun _ => some wh) l) ≤ sizeSL l
 | [] => Nat.le_refl _
 | t :: l => by
   simp only [apL, sizeSL]
   have := ap_wh_size t; have := apL_wh_size l
   omega
end
theorem endS_fin {l : List Bd} {s s' : Sh} (h : endS l s = some s') : s' = finS l s ∧ s'.hl = [] ∧ s'.size ≤ 100 := by
 unfold endS at h
 split at h
 · cases h
 · rename_i hs
   cases h
   refine ⟨rfl, ap_wh_hl _, ?_⟩
   have := ap_wh_size (s.ap (look l))
   omega
mutual
def Tr.fine : Tr → Prop
 | .mk _ _ _ s b ks => (s.hl = [] ∧ s.size ≤ 100) ∧ (b.hl = [] ∧ b.size ≤ 100) ∧ fineL ks
def fineL : List Tr → Prop
 | [] => True
 | t :: l => t.fine ∧ fineL l
end
theorem fineL_mem : ∀ {l : List Tr}, fineL l ↔ ∀ t ∈ l, t.fine
 | [] => by simp [fineL]
 | u :: l => by simp [fineL, fineL_mem (l := l)]
theorem done_s {l : List Bd} {t t' : Tr} (h : t.done l = some t') : t'.s = finS l t.s := by
 obtain ⟨kd, nm, n, s, b, ks⟩ := t
 simp only [Tr.done, Option.bind_eq_some_iff, Option.map_eq_some_iff] at h
 obtain ⟨s', h1, b', _, ks', _, rfl⟩ := h
 exact (endS_fin h1).1
theorem doneL_map {l : List Bd} : ∀ {ts ts' : List Tr}, doneL l ts = some ts' → ts'.map Tr.s = ts.map fun t => finS l t.s
 | [], ts', h => by simp only [doneL, Option.some.injEq] at h; subst h; rfl
 | t :: ts, ts', h => by
   simp only [doneL, Option.bind_eq_some_iff, Option.map_eq_some_iff] at h
   obtain ⟨t', h1, ts2, h2, rfl⟩ := h
   simp only [List.map_cons, done_s h1, doneL_map h2]
theorem doneL_sAt {l : List Bd} {ts ts' : List Tr} (h : doneL l ts = some ts') (i : Nat) : sAt ts' i = finS l (sAt ts i) := by
 unfold sAt
 rw [doneL_map h, List.getD_eq_getElem?_getD, List.getD_eq_getElem?_getD, List.getElem?_map, List.getElem?_map]
 cases ts[i]? with
 | none => simp [fin_z]
 | some t => rfl
mutual
theorem doneOk (l : List Bd) (G : Bs → Option Sh) : ∀ (t t' : Tr), t.done l = some t' → t'.fine ∧ (t.ok G (finS l) → t'.ok G id)
 | .mk kd nm n s b ks, t', h => by
   simp only [Tr.done, Option.bind_eq_some_iff, Option.map_eq_some_iff] at h
   obtain ⟨s', h1, b', h2, ks', h3, rfl⟩ := h
   obtain ⟨e1, f1⟩ := endS_fin h1
   obtain ⟨e2, f2⟩ := endS_fin h2
   obtain ⟨k1, k2⟩ := doneLOk l G ks ks' h3
   have hlen : ks'.length = ks.length := by have := congrArg List.length (doneL_map h3); simpa using this
   refine ⟨⟨f1, f2, k1⟩, fun ho => ?_⟩
   simp only [Tr.ok] at ho ⊢
   obtain ⟨o1, o2, o3, o4, o5, o6⟩ := ho
   refine ⟨by rw [hlen]; exact o1, ?_, fun h => by rw [o3 h, e1]; rfl, fun h => by rw [o4 h, e2]; rfl, fun h => by rw [e2, o5 h, fin_z], k2 o6⟩
   simp only [id, doneL_sAt h3, e1, e2]
   exact o2
theorem doneLOk (l : List Bd) (G : Bs → Option Sh) : ∀ (ts ts' : List Tr), doneL l ts = some ts' → fineL ts' ∧ (okL G (finS l) ts → okL G id ts')
 | [], ts', h => by simp only [doneL, Option.some.injEq] at h; subst h; exact ⟨trivial, fun _ => trivial⟩
 | t :: ts, ts', h => by
   simp only [doneL, Option.bind_eq_some_iff, Option.map_eq_some_iff] at h
   obtain ⟨t', h1, ts2, h2, rfl⟩ := h
   obtain ⟨a1, a2⟩ := doneOk l G t t' h1
   obtain ⟨b1, b2⟩ := doneLOk l G ts ts2 h2
   exact ⟨⟨a1, b1⟩, fun h => ⟨a2 h.1, b2 h.2⟩⟩
end
mutual
theorem done_cpl {θ : Int → Sh} {l : List Bd} (ho : Ord l) (hs : Sat θ l) : ∀ t : Tr, t.gs θ → ∃ t', t.done l = some t'
 | .mk kd nm n s b ks, h => by
   simp only [Tr.gs] at h
   have key : ∀ u : Sh, u = zS ∨ (u.right = true ∧ (gr θ u).size ≤ 100) → ∃ u', endS l u = some u' := fun u hu => by
     unfold endS
     refine ⟨_, if_neg ?_⟩
     rcases hu with rfl | ⟨h1, h2⟩
     · simp [Sh.ap, apL, Sh.size, sizeSL]
     · have h3 := size_ap θ (u.ap (look l)) (right_ap (look_right ho) u h1)
       rw [hs.ap h1] at h3
       unfold gr at h2
       omega
   obtain ⟨s', h1⟩ := key s (.inr h.1)
   obtain ⟨b', h2⟩ := key b h.2.1
   obtain ⟨ks', h3⟩ := doneL_cpl ho hs ks h.2.2
   exact ⟨_, by simp only [Tr.done, h1, h2, h3]; rfl⟩
theorem doneL_cpl {θ : Int → Sh} {l : List Bd} (ho : Ord l) (hs : Sat θ l) : ∀ ts : List Tr, gsL θ ts → ∃ ts', doneL l ts = some ts'
 | [], _ => ⟨[], rfl⟩
 | t :: ts, h => by
   obtain ⟨t', h1⟩ := done_cpl ho hs t h.1
   obtain ⟨ts', h2⟩ := doneL_cpl ho hs ts h.2
   exact ⟨t' :: ts', by simp only [doneL, h1, h2]; rfl⟩
end
def bsD (l : List Df) : List Bs := l.flatMap fun d => d.t.bs
structure Uq (p : Pg) : Prop where
 decl : (p.known p.defs.length).Nodup
 bs : (bsD p.defs ++ p.body.bs).Nodup
 apart : ∀ x ∈ p.known p.defs.length, x ∉ bsD p.defs ++ p.body.bs
def DomOk (p : Pg) (k : Nat) (e : Es) : Prop := ∀ x, (e.nm x).isSome = true → x ∈ p.known k ∨ x ∈ bsD (p.defs.take k)
theorem known_le (p : Pg) {k : Nat} {x : Bs} (h : x ∈ p.known k) : x ∈ p.known p.defs.length := by
 unfold Pg.known at h ⊢
 rw [List.take_length]
 rcases List.mem_append.1 h with h | h
 · exact List.mem_append_left _ h
 · refine List.mem_append_right _ ?_
   obtain ⟨d, hd, rfl⟩ := List.mem_map.1 h
   exact List.mem_map.2 ⟨d, List.mem_of_mem_take hd, rfl⟩
theorem bsD_take {l : List Df} {k : Nat} (h : k < l.length) : bsD (l.take (k + 1)) = bsD (l.take k) ++ l[k].t.bs := by
 unfold bsD
 rw [List.take_succ_eq_append_getElem h, List.flatMap_append]; simp
theorem bsD_split {l : List Df} {k : Nat} (h : k < l.length) : bsD l = bsD (l.take k) ++ (l[k].t.bs ++ bsD (l.drop (k + 1))) := by
 have : l = l.take k ++ l[k] :: l.drop (k + 1) := by rw [← List.drop_eq_getElem_cons h, List.take_append_drop]
 unfold bsD
 conv => lhs; rw [this]
 rw [List.flatMap_append, List.flatMap_cons]
theorem Uq.fresh {p : Pg} (h : Uq p) {k : Nat} (hk : k < p.defs.length) {e : Es} (hd : DomOk p k e) : p.defs[k].t.bs.Nodup ∧ (∀ x ∈ p.defs[k].t.bs, e.nm x = none) := by
 have hb := (List.nodup_append.1 h.bs).1
 rw [bsD_split hk] at hb
 obtain ⟨_, b2, b3⟩ := List.nodup_append.1 hb
 refine ⟨(List.nodup_append.1 b2).1, fun x hx => ?_⟩
 cases hn : e.nm x with
 | none => rfl
 | some s =>
   rcases hd x (by rw [hn]; rfl) with h1 | h1
   · exact absurd (List.mem_append_left _ (by rw [bsD_split hk]; exact List.mem_append_right _ (List.mem_append_left _ hx))) (h.apart x (known_le p h1))
   · exact absurd rfl (b3 x h1 x (List.mem_append_left _ hx))
theorem Uq.freshB {p : Pg} (h : Uq p) {e : Es} (hd : DomOk p p.defs.length e) : p.body.bs.Nodup ∧ (∀ x ∈ p.body.bs, e.nm x = none) := by
 obtain ⟨b1, b2, b3⟩ := List.nodup_append.1 h.bs
 refine ⟨b2, fun x hx => ?_⟩
 cases hn : e.nm x with
 | none => rfl
 | some s =>
   rcases hd x (by rw [hn]; rfl) with h1 | h1
   · exact absurd (List.mem_append_right _ hx) (h.apart x h1)
   · rw [List.take_length] at h1
     exact absurd rfl (b3 x h1 x hx)
theorem Uq.name {p : Pg} (h : Uq p) {k : Nat} (hk : k < p.defs.length) {e e1 : Es} (hd : DomOk p k e) (hs : Snd e e1 p.defs[k].t.bs) : e1.nm p.defs[k].name = none := by
 have hin : p.defs[k].name ∈ p.known (k + 1) := by rw [known_succ p hk]; simp
 have hnb : p.defs[k].name ∉ bsD p.defs := fun hm => h.apart _ (known_le p hin) (List.mem_append_left _ hm)
 have hno : p.defs[k].name ∉ p.known k := fun hm => by
   have hnd : (p.known (k + 1)).Nodup := by
     have e : p.known p.defs.length = p.known (k + 1) ++ (p.defs.drop (k + 1)).map (·.name) := by
       unfold Pg.known
       rw [List.take_length, List.append_assoc, ← List.map_append, List.take_append_drop]
     have := h.decl
     rw [e] at this
     exact (List.nodup_append.1 this).1
   rw [known_succ p hk] at hnd
   exact (List.nodup_append.1 hnd).2.2 _ hm _ (by simp) rfl
 cases hn : e1.nm p.defs[k].name with
 | none => rfl
 | some s =>
   rcases hs.dom _ (by rw [hn]; rfl) with h1 | h1
   · rcases hd _ h1 with h2 | h2
     · exact absurd h2 hno
     · refine absurd ?_ hnb
       rw [bsD_split hk]; exact List.mem_append_left _ h2
   · refine absurd ?_ hnb
     rw [bsD_split hk]; exact List.mem_append_right _ (List.mem_append_left _ h1)
theorem DomOk.step {p : Pg} {k : Nat} (hk : k < p.defs.length) {e e1 : Es} (hd : DomOk p k e) (hs : Snd e e1 p.defs[k].t.bs) {s : Sh} : DomOk p (k + 1) (e1.put p.defs[k].name s) := fun x hx => by
 rw [known_succ p hk, bsD_take hk]
 simp only [Es.put] at hx
 split at hx
 · rename_i h; exact .inl (by simp [h])
 · rcases hs.dom x hx with h | h
   · rcases hd x h with h | h
     · exact .inl (List.mem_append_left _ h)
     · exact .inr (List.mem_append_left _ h)
   · exact .inr (List.mem_append_right _ h)
def AccOk (l : List Bd) (nmF : Bs → Option Sh) (acc : List Td) : Prop := ∀ t ∈ acc, t.t.ok (fun x => (nmF x).map (finS l)) (finS l) ∧ nmF t.name = some t.t.s
theorem NmLe.put {e : Es} {x : Bs} {s : Sh} (h : e.nm x = none) : NmLe e.nm (e.put x s).nm := fun y u hy => by
 simp only [Es.put]
 split
 · rename_i hc; subst hc; rw [h] at hy; cases hy
 · exact hy
theorem elD_snd {p : Pg} (hp : PgOk p) (hu : Uq p) : ∀ (j k : Nat) (e : Es) (acc : List Td), k + j = p.defs.length → Tp p k e acc → DomOk p k e → ∀ e' ts, elD e (p.defs.drop k) acc = some (e', ts) → acc.map (·.name) = (p.defs.take k).map (·.name) → acc.map (·.t.bare) = (p.defs.take k).map (·.t) →
   Tp p p.defs.length e' ts ∧ More e.sub e'.sub ∧ NmLe e.nm e'.nm ∧ DomOk p p.defs.length e' ∧ ts.map (·.name) = p.defs.map (·.name) ∧ ts.map (·.t.bare) = p.defs.map (·.t) ∧ ∀ l nmF, Ord l → More e'.sub l → NmLe e'.nm nmF → AccOk l nmF acc → AccOk l nmF ts
 | 0, k, e, acc, hk, htp, hd, e', ts, h, hn, hb => by
   obtain rfl : k = p.defs.length := by omega
   rw [List.drop_length] at h
   simp only [elD, Option.some.injEq, Prod.mk.injEq] at h
   obtain ⟨rfl, rfl⟩ := h
   rw [List.take_length] at hn hb
   exact ⟨htp, More.refl htp.inv.ok.ord, fun _ _ h => h, hd, hn, hb, fun _ _ _ _ _ h => h⟩
 | j + 1, k, e, acc, hk, htp, hd, e', ts, h, hn, hb => by
   have hkl : k < p.defs.length := by omega
   rw [List.drop_eq_getElem_cons hkl, elD] at h
   split at h
   · cases h
   · rename_i e1 tr h1
     have hc := htp.call hp hkl
     obtain ⟨K, c1, c2⟩ := hc.kn
     obtain ⟨f1, f2⟩ := hu.fresh hkl hd
     obtain ⟨s1, s2⟩ := el_snd _ _ _ _ _ K h1 c1 c2 hc.inv hc.one hc.sz hc.nx f1 f2
     have hnew := hu.name hkl hd s1
     have htp2 := htp.step hp hkl h1
     obtain ⟨r1, r2, r3, r4, r5, r6, r7⟩ := elD_snd hp hu j (k + 1) _ _ (by omega) htp2 (hd.step hkl s1) e' ts h
       (by rw [List.map_append, hn, List.take_succ_eq_append_getElem hkl, List.map_append]; rfl)
       (by rw [List.map_append, hb, List.take_succ_eq_append_getElem hkl, List.map_append]; simp [el_bare _ _ _ _ h1])
     refine ⟨r1, s1.more.trans htp.inv.ok.ord htp2.inv.ok.ord r2, fun x s hx => r3 x s (NmLe.put hnew x s (s1.le x s hx)), r4, r5, r6, fun l nmF ho hm hle ha => r7 l nmF ho hm hle fun t ht => ?_⟩
     rcases List.mem_append.1 ht with ht | ht
     · exact ha t ht
     · simp only [List.mem_singleton] at ht
       subst ht
       refine ⟨s2 l nmF ho (r2.trans htp2.inv.ok.ord r1.inv.ok.ord hm) (fun x s hx => hle x s (r3 x s (NmLe.put hnew x s hx))), ?_⟩
       exact hle _ _ (r3 _ _ (by simp [Es.put]))
theorem doneD_at {l : List Bd} {G : Bs → Option Sh} : ∀ {ts ds : List Td}, doneD l ts = some ds → ds.map (·.name) = ts.map (·.name) ∧ ds.map (·.t.bare) = ts.map (·.t.bare) ∧ ((∀ t ∈ ts, t.t.ok G (finS l) ∧ G t.name = some (finS l t.t.s)) → ∀ d ∈ ds, d.t.ok G id ∧ d.t.fine ∧ G d.name = some d.t.s)
 | [], ds, h => by simp only [doneD, Option.some.injEq] at h; subst h; exact ⟨rfl, rfl, fun _ d hd => (by cases hd)⟩
 | t :: ts, ds, h => by
   simp only [doneD, Option.bind_eq_some_iff, Option.map_eq_some_iff] at h
   obtain ⟨t', h1, ts2, h2, rfl⟩ := h
   obtain ⟨q1, q2, q3⟩ := doneD_at (G := G) h2
   obtain ⟨o1, o2⟩ := doneOk l G _ _ h1
   refine ⟨by simp [q1], by simp [q2, done_bare l _ _ h1], fun ha d hd => ?_⟩
   rcases List.mem_cons.1 hd with rfl | hd
   · obtain ⟨a1, a2⟩ := ha t (List.mem_cons_self ..)
     exact ⟨o2 a1, o1, by rw [a2, done_s h1]⟩
   · exact q3 (fun u hu => ha u (List.mem_cons_of_mem _ hu)) d hd
structure Shaped (p : Pg) (ty : Ty) (G : Bs → Option Sh) : Prop where
 inp : ∀ d ∈ p.inputs, G d.name = some wh
 cel : ∀ d ∈ p.cells, G d.name = some ce
 names : ty.defs.map (·.name) = p.defs.map (·.name)
 bares : ty.defs.map (·.t.bare) = p.defs.map (·.t)
 defs : ∀ d ∈ ty.defs, d.t.ok G id ∧ d.t.fine ∧ G d.name = some d.t.s
 body : ty.body.ok G id ∧ ty.body.fine ∧ ty.body.bare = p.body ∧ ty.body.s = wh
theorem es0_dom (p : Pg) : DomOk p 0 p.es0 := fun x hx => by
 simp only [Pg.es0, nmI_mem] at hx
 left
 simp only [Pg.known, List.take_zero, List.map_nil, List.append_nil, List.map_append, List.mem_append]
 by_cases h1 : x ∈ p.cells.map (·.name)
 · exact .inr h1
 · rw [if_neg h1] at hx
   by_cases h2 : x ∈ p.inputs.map (·.name)
   · exact .inl h2
   · rw [if_neg h2] at hx; cases hx
theorem es0_nm {p : Pg} (hu : Uq p) : (∀ d ∈ p.inputs, p.es0.nm d.name = some wh) ∧ ∀ d ∈ p.cells, p.es0.nm d.name = some ce := by
 have hd := hu.decl
 unfold Pg.known at hd
 rw [List.map_append] at hd
 have h1 := (List.nodup_append.1 (List.nodup_append.1 hd).1).2.2
 refine ⟨fun d hd => ?_, fun d hd => ?_⟩
 · simp only [Pg.es0, nmI_mem]
   rw [if_neg (fun h => h1 d.name (List.mem_map_of_mem hd) d.name h rfl), if_pos (List.mem_map_of_mem hd)]
 · simp only [Pg.es0, nmI_mem]
   rw [if_pos (List.mem_map_of_mem hd)]
theorem elabT_snd {p : Pg} {ty : Ty} (hp : PgOk p) (hu : Uq p) (h : elabT p = some ty) : ∃ G, Shaped p ty G := by
 unfold elabT at h
 simp only [Option.bind_eq_some_iff, Option.map_eq_some_iff] at h
 obtain ⟨⟨e1, ts⟩, h1, ⟨e2, tr⟩, h2, e3, h3, ds, h4, b, h5, rfl⟩ := h
 simp only [] at h2 h3 h4 h5
 obtain ⟨r1, r2, r3, r4, r5, r6, r7⟩ := elD_snd hp hu p.defs.length 0 p.es0 [] (by omega) (Tp.start p) (es0_dom p) e1 ts (by simpa using h1) rfl rfl
 have hc := r1.body hp
 obtain ⟨K, c1, c2⟩ := hc.kn
 obtain ⟨f1, f2⟩ := hu.freshB r4
 obtain ⟨s1, s2⟩ := el_snd _ _ _ _ _ K h2 c1 c2 hc.inv hc.one hc.sz hc.nx f1 f2
 obtain ⟨d1, d2⟩ := hc.inv' h2
 obtain ⟨u1, u2⟩ := body_ok r1 hp h2
 obtain ⟨l, nx3, nm3⟩ := e3
 have he3 := same_eok d1.inv.ok u1 h3
 simp only [] at he3
 obtain ⟨rfl, rfl⟩ : nx3 = e2.nx ∧ nm3 = e2.nm := ⟨he3.2.1, he3.2.2⟩
 obtain ⟨m1, m2⟩ := same_snd d1.inv.ok u1 h3
 have hol := he3.1.ord
 simp only [] at m1 m2 hol h4 h5
 have hG := r7 l e2.nm hol (s1.more.trans r1.inv.ok.ord d1.inv.ok.ord (m1)) s1.le (fun t ht => by cases ht)
 obtain ⟨q1, q2, q3⟩ := doneD_at (G := fun x => (e2.nm x).map (finS l)) h4
 obtain ⟨o1, o2⟩ := doneOk l (fun x => (e2.nm x).map (finS l)) _ _ h5
 obtain ⟨n1, n2⟩ := es0_nm hu
 refine ⟨fun x => (e2.nm x).map (finS l), fun d hd => ?_, fun d hd => ?_, q1.trans r5, q2.trans r6, q3 fun t ht => ?_, o2 (s2 l e2.nm hol m1 fun _ _ h => h), o1, (done_bare l _ _ h5).trans (el_bare _ _ _ _ h2), ?_⟩
 · simp only [s1.le _ _ (r3 _ _ (n1 d hd)), Option.map_some, fin_wh]
 · simp only [s1.le _ _ (r3 _ _ (n2 d hd)), Option.map_some, fin_ce]
 · obtain ⟨a1, a2⟩ := hG t ht
   exact ⟨a1, by simp only [a2, Option.map_some]⟩
 · rw [done_s h5, m2 l (More.refl hol), fin_wh]
def scD : (Bs → Option Sh) → List Td → Prop
 | _, [] => True
 | Γ, d :: l => d.t.sc Γ ∧ scD (updG Γ d.name d.t.s) l
def hsD : List Td → List Sh
 | [] => []
 | d :: l => d.t.hs ++ hsD l
def afterD : (Bs → Option Sh) → List Td → Bs → Option Sh
 | Γ, [] => Γ
 | Γ, d :: l => afterD (updG Γ d.name d.t.s) l
def AccG (θ : Int → Sh) (acc : List Td) : Prop := ∀ t ∈ acc, t.t.gs θ
theorem elD_cpl {p : Pg} (θ : Int → Sh) (hθ : ∀ n, (θ n).size ≤ 100) (hp : PgOk p) (hu : Uq p) : ∀ (j k : Nat) (e : Es) (acc ds : List Td) (Γ : Bs → Option Sh), k + j = p.defs.length → Tp p k e acc → DomOk p k e → ds.map (·.name) = (p.defs.drop k).map (·.name) → ds.map (·.t.bare) = (p.defs.drop k).map (·.t) → scD Γ ds → AtH θ e.nx (hsD ds) → Fits θ Γ e.nm → Sat θ e.sub → AccG θ acc →
   ∃ e' ts, elD e (p.defs.drop k) acc = some (e', ts) ∧ Fits θ (afterD Γ ds) e'.nm ∧ Sat θ e'.sub ∧ AccG θ ts ∧ e'.nx = e.nx + (hsD ds).length
 | 0, k, e, acc, ds, Γ, hk, htp, hd, hn, hb, hsc, hat, hf, hs, hg => by
   obtain rfl : k = p.defs.length := by omega
   rw [List.drop_length] at hn ⊢
   have : ds = [] := by cases ds with
     | nil => rfl
     | cons a l => simp at hn
   subst this
   exact ⟨e, acc, rfl, hf, hs, hg, rfl⟩
 | j + 1, k, e, acc, ds, Γ, hk, htp, hd, hn, hb, hsc, hat, hf, hs, hg => by
   have hkl : k < p.defs.length := by omega
   rw [List.drop_eq_getElem_cons hkl] at hn hb ⊢
   cases ds with
   | nil => cases hn
   | cons d ds =>
     simp only [List.map_cons, List.cons.injEq] at hn hb
     simp only [scD] at hsc
     simp only [hsD] at hat
     have hc := htp.call hp hkl
     obtain ⟨K, c1, c2⟩ := hc.kn
     obtain ⟨f1, f2⟩ := hu.fresh hkl hd
     obtain ⟨e1, tr, h1, h2, h3, h4, h5⟩ := el_cpl θ hθ _ d.t Γ e _ K hb.1 hsc.1 hat.left hf hs c1 c2 hc.inv hc.one hc.sz hc.nx f1 f2
     obtain ⟨s1, s2⟩ := el_snd _ _ _ _ _ K h1 c1 c2 hc.inv hc.one hc.sz hc.nx f1 f2
     have hnew := hu.name hkl hd s1
     rw [elD, h1]
     simp only []
     obtain ⟨e', ts, r1, r2, r3, r4, r5⟩ := elD_cpl θ hθ hp hu j (k + 1) (e1.put p.defs[k].name tr.s) (acc ++ [⟨p.defs[k].name, tr⟩]) ds (updG Γ d.name d.t.s) (by omega) (htp.step hp hkl h1) (hd.step hkl s1) hn.2 hb.2 hsc.2
       (by show AtH θ e1.nx _; rw [h5]; exact hat.right)
       (by rw [hn.1]; exact (hf.le s1.le).upd e1 rfl h3) h2
       (fun t ht => by
         rcases List.mem_append.1 ht with ht | ht
         · exact hg t ht
         · simp at ht; subst ht; exact h4)
     refine ⟨e', ts, r1, r2, r3, r4, ?_⟩
     rw [r5]; show e1.nx + _ = _
     rw [h5]; simp only [hsD, List.length_append]; omega
theorem doneD_cpl {θ : Int → Sh} {l : List Bd} (ho : Ord l) (hs : Sat θ l) : ∀ ts : List Td, AccG θ ts → ∃ ds, doneD l ts = some ds
 | [], _ => ⟨[], rfl⟩
 | t :: ts, h => by
   obtain ⟨t', h1⟩ := done_cpl ho hs t.t (h t (List.mem_cons_self ..))
   obtain ⟨ds, h2⟩ := doneD_cpl ho hs ts fun u hu => h u (List.mem_cons_of_mem _ hu)
   exact ⟨_, by simp only [doneD, h1, h2]; rfl⟩
theorem elabT_cpl {p : Pg} (hp : PgOk p) (hu : Uq p) {ds : List Td} {b : Tr} (hn : ds.map (·.name) = p.defs.map (·.name)) (hb : ds.map (·.t.bare) = p.defs.map (·.t)) (hsc : scD p.es0.nm ds) (hbb : b.bare = p.body) (hbs : b.sc (afterD p.es0.nm ds)) (hw : b.s = wh) (hsm : ∀ s ∈ hsD ds ++ b.hs, s.size ≤ 100) : ∃ ty, elabT p = some ty := by
 let θ : Int → Sh := fun n => (hsD ds ++ b.hs).getD n.toNat wh
 have hat : AtH θ 0 (hsD ds ++ b.hs) := fun i hi => by
   show (hsD ds ++ b.hs).getD _ wh = _
   rw [List.getD_eq_getElem?_getD]
   have : ((0 + i : Nat) : Int).toNat = i := by omega
   rw [this, List.getElem?_eq_getElem hi]; rfl
 have hθ : ∀ n, (θ n).size ≤ 100 := fun n => by
   show ((hsD ds ++ b.hs).getD _ wh).size ≤ 100
   rw [List.getD_eq_getElem?_getD]
   cases h : (hsD ds ++ b.hs)[n.toNat]? with
   | none => show Sh.size wh ≤ 100; decide
   | some s => exact hsm s (List.mem_of_getElem? h)
 have hw0 : ∀ x s, p.es0.nm x = some s → gr θ s = s := fun x s hx => by
   simp only [Pg.es0, nmI_mem] at hx
   split at hx
   · cases hx; exact gr_ce θ
   · split at hx
     · cases hx; exact gr_wh θ
     · cases hx
 obtain ⟨e1, ts, h1, h2, h3, h4, h5⟩ := elD_cpl θ hθ hp hu p.defs.length 0 p.es0 [] ds p.es0.nm (by omega) (Tp.start p) (es0_dom p) (by simpa using hn) (by simpa using hb) hsc hat.left (fun x s hx => ⟨s, hx, hw0 x s hx⟩) (fun n s h => by simp [Pg.es0, look] at h) (fun t ht => by cases ht)
 rw [List.drop_zero] at h1
 obtain ⟨r1, r2, r3, r4, r5, r6, r7⟩ := elD_snd hp hu p.defs.length 0 p.es0 [] (by omega) (Tp.start p) (es0_dom p) e1 ts (by simpa using h1) rfl rfl
 have hc := r1.body hp
 obtain ⟨K, c1, c2⟩ := hc.kn
 obtain ⟨f1, f2⟩ := hu.freshB r4
 have hat2 : AtH θ e1.nx b.hs := by
   rw [h5]; exact hat.right
 obtain ⟨e2, tr, g1, g2, g3, g4, g5⟩ := el_cpl θ hθ _ b _ e1 _ K hbb hbs hat2 h2 h3 c1 c2 hc.inv hc.one hc.sz hc.nx f1 f2
 obtain ⟨d1, d2⟩ := hc.inv' g1
 obtain ⟨u1, u2⟩ := body_ok r1 hp g1
 obtain ⟨e3, k1, k2, k3⟩ := same_cpl hθ d1.inv.ok u1 g2 (by rw [g3, hw, gr_wh])
 have ho := (same_eok d1.inv.ok u1 k1).1.ord
 obtain ⟨ds', v1⟩ := doneD_cpl ho k2 ts h4
 obtain ⟨b', v2⟩ := done_cpl ho k2 tr g4
 refine ⟨⟨ds', b'⟩, ?_⟩
 unfold elabT
 rw [h1]; simp only [Option.bind_some]
 rw [g1]; simp only [Option.bind_some]
 rw [k1]; simp only [Option.bind_some]
 rw [v1]; simp only [Option.bind_some]
 rw [v2]; rfl
theorem letter_num : ∀ n : Nat, n < 256 → letterB (UInt8.ofNat n) = true → ¬ (48 ≤ (UInt8.ofNat n).toNat ∧ (UInt8.ofNat n).toNat ≤ 57) := by decide +kernel
theorem nameB_num {s : Bs} (h : nameB s = true) : numB s = false := by
 unfold nameB at h
 simp only [Bool.and_eq_true, List.all_eq_true, List.mem_range, decide_eq_true_eq] at h
 obtain ⟨h1, h2, _⟩ := h
 cases s with
 | nil => simp at h2
 | cons c l =>
   have h0 := h1 0 (by simp)
   simp [okAt] at h0
   have hc : c = UInt8.ofNat c.toNat := by simp
   have := letter_num c.toNat c.toNat_lt (by rw [← hc]; exact h0)
   rw [← hc] at this
   simp only [numB, Bool.and_eq_false_iff, decide_eq_false_iff_not]
   omega
theorem wordB_num {s : Bs} (h : wordB s = true) : numB s = false := by
 unfold wordB at h
 simp only [Bool.and_eq_true] at h
 exact nameB_num h.1
theorem nums_num {n : Int} (hn : 0 ≤ n) {c : Nat} : ∀ x ∈ nums n c, numB x = true := fun x hx => by
 unfold nums at hx
 obtain ⟨i, _, rfl⟩ := List.mem_map.1 hx
 exact numB_itoa (by omega)
theorem nums_nodup {n : Int} (hn : 0 ≤ n) (c : Nat) : (nums n c).Nodup := by
 unfold nums
 rw [List.nodup_iff_pairwise_ne, List.pairwise_map]
 refine List.Pairwise.imp ?_ (List.pairwise_lt_range (n := c))
 intro i j hij h
 have := itoa_inj (by omega) (by omega) h
 omega
theorem right_known {p : Pg} (h : p.right = true) : ∀ x ∈ p.known p.defs.length, numB x = false := by
 unfold Pg.right Pg.print at h
 have hf : p.fits = true := by
   cases e : p.fits with
   | true => rfl
   | false => rw [e] at h; simp at h
 unfold Pg.fits at hf
 simp only [Bool.and_eq_true, Bool.not_eq_true', decide_eq_true_eq] at hf
 obtain ⟨hb, _, _⟩ := hf
 unfold Pg.bad at hb
 simp only [Bool.or_eq_false_iff] at hb
 obtain ⟨h1, _, h3, h4⟩ := hb
 intro x hx
 unfold Pg.known at hx
 rw [List.take_length] at hx
 have dc : ∀ d : Dc, d.wrong = false → numB d.name = false := fun d hd => by
   unfold Dc.wrong at hd
   simp only [Bool.or_eq_false_iff, Bool.not_eq_false'] at hd
   exact wordB_num hd.1
 rcases List.mem_append.1 hx with hx | hx
 · obtain ⟨d, hd, rfl⟩ := List.mem_map.1 hx
   rcases List.mem_append.1 hd with hd | hd
   · exact dc d (by simpa using List.any_eq_false.1 h1 d hd)
   · exact dc d (by simpa using List.any_eq_false.1 h3 d hd)
 · obtain ⟨d, hd, rfl⟩ := List.mem_map.1 hx
   have := List.any_eq_false.1 h4 d hd
   unfold Df.wrong at this
   simp only [Bool.or_eq_true, Bool.not_eq_true', not_or, Bool.not_eq_false] at this
   exact wordB_num this.1
theorem twice_nodup {l : List Bs} (h : ((List.range l.length).any fun k => decide (indexL l (l.getD k []) < (k : Int))) = false) : l.Nodup := by
 rw [List.nodup_iff_pairwise_ne, List.pairwise_iff_getElem]
 intro i j hi hj hij he
 rw [List.any_eq_false] at h
 have := h j (List.mem_range.2 hj)
 simp only [decide_eq_true_eq, Int.not_lt] at this
 rw [List.getD_eq_getElem?_getD, List.getElem?_eq_getElem hj, Option.getD_some] at this
 unfold indexL at this
 split at this
 · rename_i k hk
   have := (List.findIdx?_eq_some_iff_getElem.1 hk).2.2 i (by omega)
   simp [he] at this
 · omega
theorem go_bs {p : Pg} (hr : ∀ d ∈ p.defs, d.t.size ≤ 10000) (hl : p.defs.length ≤ 32) : ∀ {k : Nat} {ds : List Df} {n : Int}, p.go k = some (ds, n) → ∃ c : Nat, c ≤ 10000 * k ∧ n = 1 + (c : Int) ∧ bsD ds = nums 1 c
 | 0, ds, n, h => by
   simp only [Pg.go, Option.some.injEq, Prod.mk.injEq] at h
   obtain ⟨rfl, rfl⟩ := h
   exact ⟨0, by omega, rfl, rfl⟩
 | k + 1, ds, n, h => by
   simp only [Pg.go] at h
   split at h
   · rename_i ds0 n0 d hg hd
     split at h
     · cases h
     · cases h
       obtain ⟨c, hc, rfl, hb⟩ := go_bs hr hl hg
       obtain ⟨hk, rfl⟩ := List.getElem?_eq_some_iff.1 hd
       have hs := hr _ (List.getElem_mem hk)
       have hcs := count_le_size p.defs[k].t
       have hf : Fit (1 + (c : Int)) p.defs[k].t.count := by unfold Fit; omega
       refine ⟨c + p.defs[k].t.count, by omega, by rw [ren_num _ _ _ hf]; omega, ?_⟩
       unfold bsD at hb ⊢
       rw [List.flatMap_append, hb]
       simp only [List.flatMap_cons, List.flatMap_nil, List.append_nil]
       rw [bs_ren _ _ _ hf, nums_add]
   · cases h
theorem resolve_known {p : Pg} (h : p.resolve.2 = 0) : p.resolve.1.known p.resolve.1.defs.length = p.known p.defs.length ∧ p.resolve.1.inputs = p.inputs ∧ p.resolve.1.cells = p.cells ∧ p.resolve.1.defs.length = p.defs.length ∧ p.resolve.1.defs.map (·.name) = p.defs.map (·.name) := by
 obtain ⟨hr, ds, n, hg, hs, e⟩ := resolve_cases h
 obtain ⟨_, g2, g3⟩ := go_at hg
 have hn : ds.map (·.name) = p.defs.map (·.name) := by
   apply List.ext_getElem (by simp [g2])
   intro j h1 h2
   simp only [List.length_map] at h1 h2
   simp only [List.getElem_map]
   exact (g3 j (by omega) (by omega)).1
 rw [e]
 refine ⟨?_, rfl, rfl, g2, hn⟩
 unfold Pg.known
 simp only [List.take_length]
 rw [hn]
theorem resolve_uq {p : Pg} (h : p.resolve.2 = 0) : Uq p.resolve.1 := by
 obtain ⟨k1, _⟩ := resolve_known h
 obtain ⟨hr, ds, n, hg, hs, e⟩ := resolve_cases h
 obtain ⟨r1, r2, r3⟩ := right_parts hr
 obtain ⟨c, hc, rfl, hb⟩ := go_bs (fun d hd => (right_wrong (r1 d hd)).2) r3 hg
 have hcs := count_le_size p.body
 have hbs := (right_wrong r2).2
 have hf : Fit (1 + (c : Int)) p.body.count := by unfold Fit; omega
 have hall : bsD p.resolve.1.defs ++ p.resolve.1.body.bs = nums 1 (c + p.body.count) := by
   rw [e]; simp only []
   rw [hb, bs_ren _ _ _ hf, nums_add]
 refine ⟨?_, ?_, fun x hx hm => ?_⟩
 · rw [k1]
   refine twice_nodup ?_
   have ht : p.twice = false := by
     unfold Pg.resolve at h
     rw [hr] at h
     simp only [Bool.not_true, Bool.false_eq_true, if_false] at h
     split at h
     · simp at h
     · rename_i ht; simpa using ht
   exact ht
 · rw [hall]; exact nums_nodup (by omega) _
 · rw [hall] at hm
   rw [k1] at hx
   have a := right_known hr x hx
   have b := nums_num (by omega) x hm
   rw [a] at b; cases b
def uvw : List Bs := [[117], [118], [119]]
def lessB (l : List Bs) (s : Bs) : List Bs := l.filter fun x => decide (x ≠ s)
inductive WT : Bool → List Bs → List Bs → List Bs → Nat → Tm → Prop
 | num {I C F : List Bs} {d : Nat} (n : Nat) : n < 5 → WT true I C F d (.mk 1 [] (n : Int) [])
 | var {I C F : List Bs} {d : Nat} {x : Bs} : x ∈ I → WT true I C F d (.mk 2 x 0 [])
 | op {I C F : List Bs} {d : Nat} {s : Bs} {a b : Tm} : s ∈ opsL → WT true I C F d a → WT true I C F d b → WT true I C F (d + 1) (.mk 12 s 0 [a, b])
 | ite {I C F : List Bs} {d : Nat} {a b c : Tm} : WT true I C F d a → WT true I C F d b → WT true I C F d c → WT true I C F (d + 1) (.mk 6 [] 0 [a, b, c])
 | ltI {I C F : List Bs} {d : Nat} {x : Bs} {a b : Tm} : x ∈ uvw → WT true I C F d a → WT true (I ++ [x]) C (lessB F x) d b → WT true I C F (d + 1) (.mk 5 x 0 [a, b])
 | ltF {I C F : List Bs} {d : Nat} {x : Bs} {a b : Tm} : x ∈ uvw → WT false I C F d a → WT true (lessB I x) C (F ++ [x]) d b → WT true I C F (d + 1) (.mk 5 x 0 [a, b])
 | get {I C F : List Bs} {d : Nat} {c : Bs} : c ∈ C → WT true I C F (d + 1) (.mk 10 [] 0 [.mk 2 c 0 []])
 | set {I C F : List Bs} {d : Nat} {c : Bs} {a : Tm} : c ∈ C → WT true I C F d a → WT true I C F (d + 1) (.mk 11 [] 0 [.mk 2 c 0 [], a])
 | seq {I C F : List Bs} {d : Nat} {a b : Tm} : WT true I C F d a → WT true I C F d b → WT true I C F (d + 1) (.mk 13 [] 0 [a, b])
 | rse {I C F : List Bs} {d : Nat} {a : Tm} : WT true I C F d a → WT true I C F (d + 1) (.mk 8 [] 0 [a])
 | tr {I C F : List Bs} {d : Nat} {x : Bs} {a b : Tm} : x ∈ uvw → WT true I C F d a → WT true (I ++ [x]) C (lessB F x) d b → WT true I C F (d + 1) (.mk 9 x 0 [a, b])
 | appV {I C F : List Bs} {d : Nat} {g : Bs} {a : Tm} : g ∈ F → WT true I C F d a → WT true I C F (d + 1) (.mk 4 [] 0 [.mk 2 g 0 [], a])
 | whl {I C F : List Bs} {d : Nat} {a b : Tm} : WT true I C F d a → WT true I C F d b → WT true I C F (d + 1) (.mk 7 [] 0 [a, b])
 | appF {I C F : List Bs} {d : Nat} {f a : Tm} : WT false I C F d f → WT true I C F d a → WT true I C F (d + 1) (.mk 4 [] 0 [f, a])
 | fn {I C F : List Bs} {d : Nat} {x : Bs} {b : Tm} : x ∈ uvw → WT true (I ++ [x]) C (lessB F x) (d - 1) b → WT false I C F d (.mk 3 x 0 [b])
theorem mem_less {l : List Bs} {s x : Bs} (h : x ∈ lessB l s) : x ∈ l ∧ x ≠ s := by
 unfold lessB at h
 simpa using h
theorem uvw_word : ∀ x ∈ uvw, wordB x = true ∧ x.length ≤ 5 := by decide
def AllW (I C F : List Bs) : Prop := ∀ x, x ∈ I ∨ x ∈ C ∨ x ∈ F → wordB x = true ∧ x.length ≤ 5
theorem AllW.int {I C F : List Bs} {x : Bs} (h : AllW I C F) (hx : x ∈ uvw) : AllW (I ++ [x]) C (lessB F x) := fun y hy => by
 rcases hy with hy | hy | hy
 · rcases List.mem_append.1 hy with hy | hy
   · exact h y (.inl hy)
   · simp at hy; subst hy; exact uvw_word y hx
 · exact h y (.inr (.inl hy))
 · exact h y (.inr (.inr (mem_less hy).1))
theorem AllW.fun {I C F : List Bs} {x : Bs} (h : AllW I C F) (hx : x ∈ uvw) : AllW (lessB I x) C (F ++ [x]) := fun y hy => by
 rcases hy with hy | hy | hy
 · exact h y (.inl (mem_less hy).1)
 · exact h y (.inr (.inl hy))
 · rcases List.mem_append.1 hy with hy | hy
   · exact h y (.inr (.inr hy))
   · simp at hy; subst hy; exact uvw_word y hx
theorem node_word {k : Int} {x : Bs} {l : Nat} (h : (k = 2 ∧ l = 0) ∨ (k = 3 ∧ l = 1) ∨ (k = 5 ∧ l = 2) ∨ (k = 9 ∧ l = 2)) (hx : wordB x = true) : nodeB k x 0 l = true := by
 unfold wordB at hx
 rcases h with ⟨rfl, rfl⟩ | ⟨rfl, rfl⟩ | ⟨rfl, rfl⟩ | ⟨rfl, rfl⟩ <;> simp [nodeB, bnd, kidsL] <;> simpa using hx
theorem var_ok {x : Bs} (hx : wordB x = true) : (Tm.mk 2 x 0 []).wrong = false := by
 simp only [Tm.wrong, wrongL, Bool.or_false, Bool.not_eq_false', List.length_nil]
 exact node_word (by simp) hx
theorem wt_wrong {q : Bool} {I C F : List Bs} {d : Nat} {t : Tm} (h : WT q I C F d t) : AllW I C F → t.wrong = false := by
 induction h with
 | num n hn => intro hw; simp only [Tm.wrong, wrongL, Bool.or_false, Bool.not_eq_false', List.length_nil]; unfold nodeB; simp [kidsL, bnd]; omega
 | var hx => intro hw; exact var_ok (hw _ (.inl hx)).1
 | @op I C F d s a b hs ha hb iha ihb =>
   intro hw
   simp only [Tm.wrong, wrongL, iha hw, ihb hw, Bool.or_false, Bool.not_eq_false', List.length_cons, List.length_nil]
   exact (by decide : ∀ s ∈ opsL, nodeB 12 s 0 2 = true) s hs
 | ite ha hb hc iha ihb ihc => intro hw; simp only [Tm.wrong, wrongL, iha hw, ihb hw, ihc hw, Bool.or_false, Bool.not_eq_false', List.length_cons, List.length_nil]; decide
 | ltI hx ha hb iha ihb => intro hw; simp only [Tm.wrong, wrongL, iha hw, ihb (hw.int hx), Bool.or_false, Bool.not_eq_false', List.length_cons, List.length_nil]; exact node_word (by simp) (uvw_word _ hx).1
 | ltF hx ha hb iha ihb => intro hw; simp only [Tm.wrong, wrongL, iha hw, ihb (hw.fun hx), Bool.or_false, Bool.not_eq_false', List.length_cons, List.length_nil]; exact node_word (by simp) (uvw_word _ hx).1
 | get hc => intro hw; have := var_ok (hw _ (.inr (.inl hc))).1; rw [Tm.wrong, wrongL, this]; rfl
 | set hc ha iha => intro hw; have := var_ok (hw _ (.inr (.inl hc))).1; rw [Tm.wrong, wrongL, wrongL, this, iha hw]; rfl
 | seq ha hb iha ihb => intro hw; simp only [Tm.wrong, wrongL, iha hw, ihb hw, Bool.or_false, Bool.not_eq_false', List.length_cons, List.length_nil]; decide
 | rse ha iha => intro hw; simp only [Tm.wrong, wrongL, iha hw, Bool.or_false, Bool.not_eq_false', List.length_cons, List.length_nil]; decide
 | tr hx ha hb iha ihb => intro hw; simp only [Tm.wrong, wrongL, iha hw, ihb (hw.int hx), Bool.or_false, Bool.not_eq_false', List.length_cons, List.length_nil]; exact node_word (by simp) (uvw_word _ hx).1
 | appV hc ha iha => intro hw; have := var_ok (hw _ (.inr (.inr hc))).1; rw [Tm.wrong, wrongL, wrongL, this, iha hw]; rfl
 | whl ha hb iha ihb => intro hw; simp only [Tm.wrong, wrongL, iha hw, ihb hw, Bool.or_false, Bool.not_eq_false', List.length_cons, List.length_nil]; decide
 | appF ha hb iha ihb => intro hw; simp only [Tm.wrong, wrongL, iha hw, ihb hw, Bool.or_false, Bool.not_eq_false', List.length_cons, List.length_nil]; decide
 | fn hx hb ihb => intro hw; simp only [Tm.wrong, wrongL, ihb (hw.int hx), Bool.or_false, Bool.not_eq_false', List.length_cons, List.length_nil]; exact node_word (by simp) (uvw_word _ hx).1
def pw : Nat → Nat
 | 0 => 3
 | d + 1 => 3 * pw d
theorem pw3 : ∀ d, 3 ≤ pw d
 | 0 => Nat.le_refl _
 | d + 1 => by have := pw3 d; simp only [pw]; omega
theorem pw_mono {d : Nat} : ∀ {e : Nat}, d ≤ e → pw d ≤ pw e
 | 0, h => by rw [Nat.le_zero.1 h]; exact Nat.le_refl _
 | e + 1, h => by
   rcases Nat.lt_or_ge e d with h1 | h1
   · rw [show d = e + 1 by omega]; exact Nat.le_refl _
   · have := pw_mono h1; simp only [pw]; omega
theorem wt_size {q : Bool} {I C F : List Bs} {d : Nat} {t : Tm} (h : WT q I C F d t) : 3 ≤ pw d ∧ 2 * t.size + 1 ≤ pw d + (if q then 0 else 2) := by
 induction h with
 | @fn I C F d x b hx hb ihb =>
   have := pw3 d
   have := pw_mono (show d - 1 ≤ d by omega)
   simp only [Tm.size, sizeL] at *; simp at *; omega
 | @num I C F d n hn => have := pw3 d; simp only [Tm.size, sizeL]; simp; omega
 | @var I C F d x hx => have := pw3 d; simp only [Tm.size, sizeL]; simp; omega
 | @get I C F d c hc => have := pw3 d; simp only [Tm.size, sizeL, pw]; simp; omega
 | _ => simp only [Tm.size, sizeL, pw] at *; simp at *; omega
theorem wt_depth {q : Bool} {I C F : List Bs} {d : Nat} {t : Tm} (h : WT q I C F d t) : t.depth ≤ 2 * d + (if q then 1 else 2) := by
 induction h with
 | fn hx hb ihb => simp only [Tm.depth, depthL] at *; simp at *; omega
 | _ => simp only [Tm.depth, depthL] at *; simp at * <;> omega
def tw (l : List Tk) : Nat := (l.map fun k => k.text.length + 1).sum
theorem tw_app (a b : List Tk) : tw (a ++ b) = tw a + tw b := by unfold tw; rw [List.map_append, List.sum_append]
theorem tw_cons (k : Tk) (b : List Tk) : tw (k :: b) = k.text.length + 1 + tw b := by unfold tw; rw [List.map_cons, List.sum_cons]
theorem tw_nil : tw [] = 0 := rfl
theorem tw_w0 (t : Tm) (l : List Tm) : tw (withinN (t :: l) 0) ≤ tw t.toks + 4 := by
 simp only [withinN]
 split
 · omega
 · simp only [tw_cons, tw_app, tw_nil, List.length_cons, List.length_nil]; omega
theorem tw_w1 (t u : Tm) (l : List Tm) : tw (withinN (t :: u :: l) 1) ≤ tw u.toks + 4 := tw_w0 u l
theorem tw_w2 (t u v : Tm) (l : List Tm) : tw (withinN (t :: u :: v :: l) 2) ≤ tw v.toks + 4 := tw_w0 v l
theorem itoa5 : ∀ n : Nat, n < 5 → (Lib.itoa (n : Int)).length = 1 := fun n h => by
 have : n = 0 ∨ n = 1 ∨ n = 2 ∨ n = 3 ∨ n = 4 := by omega
 rcases this with rfl | rfl | rfl | rfl | rfl <;> (unfold Lib.itoa; rw [if_neg (by omega), Lib.decDigits, dif_pos (by simp)]; rfl)
theorem var_tw {x : Bs} (h : x.length ≤ 5) : tw (Tm.mk 2 x 0 []).toks + 4 ≤ 22 := by
 simp only [toks_mk, layT']; simp [tw]; omega
theorem wt_tw {q : Bool} {I C F : List Bs} {d : Nat} {t : Tm} (h : WT q I C F d t) : AllW I C F → tw t.toks + 4 ≤ 22 * t.size := by
 induction h with
 | num n hn => intro hw; simp only [toks_mk, layT', Tm.size, sizeL]; simp [tw, itoa5 n hn]
 | var hx => intro hw; have := var_tw (hw _ (.inl hx)).2; simp only [Tm.size, sizeL]; omega
 | @op I C F d s a b hs ha hb iha ihb =>
   intro hw
   have h1 := iha hw; have h2 := ihb hw; have h3 := tw_w0 a [b]; have h4 := tw_w1 a b []
   have hl : s.length = 1 := (by decide : ∀ s ∈ opsL, s.length = 1) s hs
   simp only [toks_mk, layT', Tm.size, sizeL]
   simp [tw_app, tw_cons, hl]; omega
 | @ite I C F d a b c ha hb hc iha ihb ihc =>
   intro hw
   have h1 := iha hw; have h2 := ihb hw; have h5 := ihc hw; have h3 := tw_w0 a [b, c]; have h4 := tw_w1 a b [c]; have h6 := tw_w2 a b c []
   simp only [toks_mk, layT', Tm.size, sizeL]
   simp [tw_app, tw_cons]; omega
 | @ltI I C F d x a b hx ha hb iha ihb =>
   intro hw
   have h1 := iha hw; have h2 := ihb (hw.int hx); have h3 := tw_w0 a [b]; have h4 := tw_w1 a b []; have h5 := (uvw_word _ hx).2
   simp only [toks_mk, layT', Tm.size, sizeL]
   simp [tw_app, tw_cons]; omega
 | @ltF I C F d x a b hx ha hb iha ihb =>
   intro hw
   have h1 := iha hw; have h2 := ihb (hw.fun hx); have h3 := tw_w0 a [b]; have h4 := tw_w1 a b []; have h5 := (uvw_word _ hx).2
   simp only [toks_mk, layT', Tm.size, sizeL]
   simp [tw_app, tw_cons]; omega
 | @get I C F d c hc =>
   intro hw
   have h1 := var_tw (hw _ (.inr (.inl hc))).2; have h3 := tw_w0 (.mk 2 c 0 []) []
   rw [toks_mk]; simp only [layT', Tm.size, sizeL]
   simp [tw_app, tw_cons]; omega
 | @set I C F d c a hc ha iha =>
   intro hw
   have h1 := var_tw (hw _ (.inr (.inl hc))).2; have h2 := iha hw; have h3 := tw_w0 (.mk 2 c 0 []) [a]; have h4 := tw_w1 (.mk 2 c 0 []) a []
   rw [toks_mk]; simp only [layT', Tm.size, sizeL]
   simp [tw_app, tw_cons]; omega
 | @seq I C F d a b ha hb iha ihb =>
   intro hw
   have h1 := iha hw; have h2 := ihb hw; have h3 := tw_w0 a [b]; have h4 := tw_w1 a b []
   simp only [toks_mk, layT', Tm.size, sizeL]
   simp [tw_app, tw_cons]; omega
 | @rse I C F d a ha iha =>
   intro hw
   have h1 := iha hw; have h3 := tw_w0 a []
   simp only [toks_mk, layT', Tm.size, sizeL]
   simp [tw_app, tw_cons]; omega
 | @tr I C F d x a b hx ha hb iha ihb =>
   intro hw
   have h1 := iha hw; have h2 := ihb (hw.int hx); have h3 := tw_w0 a [b]; have h4 := tw_w1 a b []; have h5 := (uvw_word _ hx).2
   simp only [toks_mk, layT', Tm.size, sizeL]
   simp [tw_app, tw_cons]; omega
 | @appV I C F d c a hc ha iha =>
   intro hw
   have h1 := var_tw (hw _ (.inr (.inr hc))).2; have h2 := iha hw; have h3 := tw_w0 (.mk 2 c 0 []) [a]; have h4 := tw_w1 (.mk 2 c 0 []) a []
   rw [toks_mk]; simp only [layT', Tm.size, sizeL]
   simp [tw_app, tw_cons]; omega
 | @whl I C F d a b ha hb iha ihb =>
   intro hw
   have h1 := iha hw; have h2 := ihb hw; have h3 := tw_w0 a [b]; have h4 := tw_w1 a b []
   simp only [toks_mk, layT', Tm.size, sizeL]
   simp [tw_app, tw_cons]; omega
 | @appF I C F d a b ha hb iha ihb =>
   intro hw
   have h1 := iha hw; have h2 := ihb hw; have h3 := tw_w0 a [b]; have h4 := tw_w1 a b []
   simp only [toks_mk, layT', Tm.size, sizeL]
   simp [tw_app, tw_cons]; omega
 | @fn I C F d x b hx hb ihb =>
   intro hw
   have h2 := ihb (hw.int hx); have h3 := tw_w0 b []; have h5 := (uvw_word _ hx).2
   simp only [toks_mk, layT', Tm.size, sizeL]
   simp [tw_app, tw_cons]; omega
theorem showL_le (l : List Tk) : (showL l).length ≤ tw l := by
 unfold showL
 cases l with
 | nil => simp [Lib.join]
 | cons k l =>
   rw [List.map_cons, Lib.join_cons, List.length_append, tw_cons]
   have : (Lib.joinTail [32] (l.map (·.text))).length = tw l := by
     induction l with
     | nil => rfl
     | cons k2 l ih =>
       rw [tw_cons, ← ih]
       unfold Lib.joinTail
       simp; omega
   omega
theorem wt_right {q : Bool} {I C F : List Bs} {d : Nat} {t : Tm} (h : WT q I C F d t) (hw : AllW I C F) (hd : d ≤ 6) : t.right = true ∧ t.show'.length ≤ 22 * t.size ∧ t.size ≤ 1094 := by
 have h1 := wt_size h; have h2 := wt_depth h; have h3 := wt_wrong h hw; have h4 := wt_tw h hw
 have hp : pw d ≤ pw 6 := pw_mono hd
 have h6 : pw 6 = 2187 := rfl
 have hs : t.size ≤ 1094 := by have := h1.2; split at this <;> omega
 have hr : t.right = true := by
   unfold Tm.right
   simp only [Bool.and_eq_true, decide_eq_true_eq, Bool.not_eq_true']
   refine ⟨?_, by omega, h3⟩
   split at h2 <;> omega
 refine ⟨hr, ?_, hs⟩
 unfold Tm.show'
 rw [if_pos hr]
 have := showL_le t.toks
 omega
theorem sz_wh : wh.size = 1 := rfl
theorem sz_fu : (fu wh wh).size = 3 := rfl
theorem sz_z : zS.size = 1 := rfl
def inN : List Bs := [[97], [98], [104]]
def ceN : List Bs := [[99], [100], [101]]
def fuN : List Bs := [[102], [103]]
abbrev Pg.iN (p : Pg) : List Bs := p.inputs.map (·.name)
abbrev Pg.cN (p : Pg) : List Bs := p.cells.map (·.name)
structure WP0 (ls : List Bs) (p : Pg) : Prop where
 i : ∃ i, 1 ≤ i ∧ i ≤ 3 ∧ p.iN = inN.take i
 c : ∃ j, j ≤ 3 ∧ p.cN = ceN.take j
 f : ∃ k, k ≤ 2 ∧ p.defs.map (·.name) = fuN.take k
 lab : ∀ d, d ∈ p.inputs ∨ d ∈ p.cells → d.label ∈ ls
 ni : ∀ d ∈ p.inputs, d.n = 0
 nc : ∀ d ∈ p.cells, 0 ≤ d.n ∧ d.n ≤ 3
 defs : ∀ m (h : m < p.defs.length), WT false p.iN p.cN ((p.defs.take m).map (·.name)) 4 p.defs[m].t
structure WP (ls : List Bs) (p : Pg) : Prop extends WP0 ls p where
 body : WT true p.iN p.cN (p.defs.map (·.name)) 6 p.body
theorem allN : ∀ x ∈ inN ++ (ceN ++ fuN), wordB x = true ∧ x.length = 1 := by decide
section
variable {ls : List Bs} {p : Pg}
theorem WP0.len (h : WP0 ls p) : p.inputs.length ≤ 3 ∧ p.cells.length ≤ 3 ∧ p.defs.length ≤ 2 := by
 obtain ⟨i, _, _, hi⟩ := h.i
 obtain ⟨j, _, hj⟩ := h.c
 obtain ⟨k, _, hk⟩ := h.f
 have h1 := congrArg List.length hi; have h2 := congrArg List.length hj; have h3 := congrArg List.length hk
 simp [inN, ceN, fuN] at h1 h2 h3
 omega
theorem WP0.words (h : WP0 ls p) : (∀ x ∈ p.iN, x ∈ inN) ∧ (∀ x ∈ p.cN, x ∈ ceN) ∧ ∀ x ∈ p.defs.map (·.name), x ∈ fuN := by
 obtain ⟨i, _, _, hi⟩ := h.i
 obtain ⟨j, _, hj⟩ := h.c
 obtain ⟨k, _, hk⟩ := h.f
 refine ⟨fun x hx => ?_, fun x hx => ?_, fun x hx => ?_⟩
 · rw [hi] at hx; exact List.mem_of_mem_take hx
 · rw [hj] at hx; exact List.mem_of_mem_take hx
 · rw [hk] at hx; exact List.mem_of_mem_take hx
theorem WP0.allW (h : WP0 ls p) {F : List Bs} (hF : ∀ x ∈ F, x ∈ p.defs.map (·.name)) : AllW p.iN p.cN F := fun x hx => by
 obtain ⟨w1, w2, w3⟩ := h.words
 have : x ∈ inN ++ (ceN ++ fuN) := by
   rcases hx with hx | hx | hx
   · exact List.mem_append_left _ (w1 x hx)
   · exact List.mem_append_right _ (List.mem_append_left _ (w2 x hx))
   · exact List.mem_append_right _ (List.mem_append_right _ (w3 x (hF x hx)))
 obtain ⟨a, b⟩ := allN x this
 exact ⟨a, by omega⟩
theorem takeF {m : Nat} : ∀ x ∈ (p.defs.take m).map (·.name), x ∈ p.defs.map (·.name) := fun x hx => by
 obtain ⟨d, hd, rfl⟩ := List.mem_map.1 hx
 exact List.mem_map_of_mem (List.mem_of_mem_take hd)
theorem WP0.def_ok (h : WP0 ls p) : ∀ d ∈ p.defs, wordB d.name = true ∧ d.name.length = 1 ∧ d.t.right = true ∧ d.t.kind = 3 ∧ d.t.show'.length ≤ 2684 := fun d hd => by
 obtain ⟨m, hm, rfl⟩ := List.getElem_of_mem hd
 have hw := h.defs m hm
 obtain ⟨r1, r2, r3⟩ := wt_right hw (h.allW takeF) (by omega)
 have hs := wt_size hw
 have h4 : pw 4 = 243 := rfl
 have hn := allN p.defs[m].name (List.mem_append_right _ (List.mem_append_right _ (h.words.2.2 _ (List.mem_map_of_mem hd))))
 refine ⟨hn.1, hn.2, r1, ?_, ?_⟩
 · generalize p.defs[m].t = u at hw; cases hw; rfl
 · simp at hs; omega
theorem word_len {x : Bs} (h : wordB x = true) : x.length ≤ 16 := by
 unfold wordB nameB at h
 simp only [Bool.and_eq_true, decide_eq_true_eq] at h
 omega
end
section
variable {ls : List Bs} {p : Pg}
end
theorem less_take {xs : List Bs} {s : Bs} {k : Nat} (hk : k < xs.length) (h : xs[k] ≠ s) : lessB (xs.take k) s ++ [xs[k]] = lessB (xs.take (k + 1)) s := by
 unfold lessB
 rw [List.take_succ_eq_append_getElem hk, List.filter_append]
 simp [h]
theorem less_skip {xs : List Bs} {s : Bs} {k : Nat} (hk : k < xs.length) (h : xs[k] = s) : lessB (xs.take k) s = lessB (xs.take (k + 1)) s := by
 unfold lessB
 rw [List.take_succ_eq_append_getElem hk, List.filter_append]
 simp [h]
theorem less_len (xs : List Bs) (s : Bs) : (lessB xs s).length ≤ xs.length := List.length_filter_le _ _
def OfP (xs : List Bs) (t : Tm) : Prop := (xs = [] ∧ ∃ n : Nat, n < 4 ∧ t = .mk 1 [] (n : Int) []) ∨ ∃ x ∈ xs, t = .mk 2 x 0 []
theorem of_int {I C F : List Bs} {d : Nat} {t : Tm} (h : OfP I t) : WT true I C F d t := by
 rcases h with ⟨_, n, hn, rfl⟩ | ⟨x, hx, rfl⟩
 · exact .num n (by omega)
 · exact .var hx
theorem of_get {I C F : List Bs} {d : Nat} {t : Tm} (h : OfP C t) (hc : 0 < C.length) : WT true I C F (d + 1) (.mk 10 [] 0 [t]) := by
 rcases h with ⟨rfl, _⟩ | ⟨x, hx, rfl⟩
 · simp at hc
 · exact .get hx
theorem of_set {I C F : List Bs} {d : Nat} {t a : Tm} (h : OfP C t) (hc : 0 < C.length) (ha : WT true I C F d a) : WT true I C F (d + 1) (.mk 11 [] 0 [t, a]) := by
 rcases h with ⟨rfl, _⟩ | ⟨x, hx, rfl⟩
 · simp at hc
 · exact .set hx ha
theorem of_app {I C F : List Bs} {d : Nat} {t a : Tm} (h : OfP F t) (hc : 0 < F.length) (ha : WT true I C F d a) : WT true I C F (d + 1) (.mk 4 [] 0 [t, a]) := by
 rcases h with ⟨rfl, _⟩ | ⟨x, hx, rfl⟩
 · simp at hc
 · exact .appV hx ha
theorem wt_up {q : Bool} {I C F : List Bs} {d : Nat} {t : Tm} (hd : 0 < d) (h : WT q I C F (d - 1 + 1) t) : WT q I C F d t := by rwa [Nat.sub_add_cancel hd] at h
open Classical in
noncomputable def wo (X : Nat → Prop) (H : GH) : GH := fun b => if X b then none else H b
theorem wo_le {X : Nat → Prop} {H : GH} : LE (wo X H) H := fun b o h => by
 unfold wo at h; split at h
 · cases h
 · exact h
theorem X.LE.wo {X : Nat → Prop} {H H' : GH} (h : LE H H') : LE (wo X H) (wo X H') := fun b o e => by
 unfold Go.Proofs.YthnhddjlgjecdaaGreatDoor.wo at e ⊢; split at e
 · cases e
 · rename_i hx; rw [if_neg hx]; exact h b o e
theorem wo_none {H : GH} : wo (fun _ => False) H = H := by funext b; simp [wo]
def Sub (X : Nat → Prop) (H : GH) : Prop := ∀ b, X b → H b ≠ none
theorem Sub.up {X : Nat → Prop} {H H' : GH} (h : Sub X H) (hl : LE H H') : Sub X H' := fun b hb e => by
 cases ho : H b with
 | none => exact h b hb ho
 | some o => rw [hl b o ho] at e; cases e
theorem Sub.no {H : GH} : Sub (fun _ => False) H := fun _ h => h.elim
abbrev VX (X : Nat → Prop) (H : GH) (v : Value) (t : Tm) : Prop := VT (wo X H) v t
abbrev KX (X : Nat → Prop) (H : GH) (A : Option Addr) (c : Nat) (ks : List Tm) : Prop := KS (wo X H) A c ks
theorem KX.up {X : Nat → Prop} {H H' : GH} {A : Option Addr} {c : Nat} {ks : List Tm} (h : KX X H A c ks) (hl : LE H H') : KX X H' A c ks := KS.up h hl.wo
section
variable {E w : World} {H : GH} {N : Nat} {D : List Deferred} {F : List (Nat × Value)} {L : List It} {a : Act}
theorem X.S.fslX {X : Nat → Prop} (hX : Sub X H) (k0 : Nat) {g : Nat} {cells : Array Value} {e : TypeId} {z : Nat × Nat} {ys : List Tm} {L' : List It} (h : S E H N D F L a w) (hr : RowR RT 4 (wo X H) cells.toList ys) (hk : L[k0]? = some (.obj g (.cells cells e z)) := by rfl) (hL : L.eraseIdx k0 = L' := by rfl) :
   ∃ H', LE H H' ∧ S E H' N D F L' a w ∧ KX X H' (some ⟨g, 0, none⟩) ys.length ys := by
 have h0 : H g = none := h.st.off _ (List.mem_of_getElem? hk) g (by simp [It.own])
 have hxg : ¬ X g := fun hx => hX g hx h0
 obtain ⟨H', hle, h', hg⟩ := h.frz k0 hk hL
 refine ⟨H', hle, h', some ⟨g, 0, none⟩, ys.length, rfl, Nat.le_refl _, fun j y hy => ?_⟩
 obtain ⟨css, l1, e1, p1⟩ := hr
 have hj : j < css.length := by have := (List.getElem?_eq_some_iff.1 hy).1; omega
 obtain ⟨h1, h2⟩ := p1 j css[j] y (List.getElem?_eq_getElem hj) hy
 refine ⟨g, 0, css[j], rfl, h1, RT.mono hle.wo y h2, fun i u hu => ⟨cells, e, z, by unfold wo; rw [if_neg hxg]; exact hg, ?_⟩⟩
 have hi : i < 4 := by have := (List.getElem?_eq_some_iff.1 hu).1; omega
 have hall : ∀ cs ∈ css, cs.length = 4 := fun cs hcs => by
   obtain ⟨q, hq, rfl⟩ := List.getElem_of_mem hcs
   exact (p1 q css[q] (ys[q]'(by omega)) (List.getElem?_eq_getElem hq) (List.getElem?_eq_getElem (by omega))).1
 have hf := flatten_at hall (List.getElem?_eq_getElem hj) hi
 rw [hu, ← e1] at hf
 rw [Nat.zero_add, ← Array.getElem?_toList]; exact hf
def ownX (v : Value) : Nat → Prop := fun b => v.ownBlock = some b
theorem X.S.lendX {α : Type} {R : GH → List Value → α → Prop} {sz : Nat} {xs : List Value} {ys : List α} (k0 : Nat) {v : Value} {e n : Nat} {L' : List It} (h : S E H N D F L a w) (hr : RowR R sz H xs ys) (hn : n = ys.length) (hR : ∀ H', LE H H' → ∀ cs y, y ∈ ys → R H cs y → R H' cs y)
   (hk : L[k0]? = some (.row v e sz n xs) := by rfl) (hL : L.eraseIdx k0 = L' := by rfl) :
   ∃ H', LE H H' ∧ S E H' N D F L' a w ∧ RS R sz H' v ys ∧ Sub (ownX v) H' ∧ ∀ (N : Nat) (D : List Deferred) (F : List (Nat × Value)) (L2 : List It) (a : Act) (w : World) (H3 : GH), LE H' H3 → S E H3 N D F L2 a w → ∃ H4, LE H H4 ∧ LE (wo (ownX v) H3) H4 ∧ S E H4 N D F (.row v e sz n xs :: L2) a w := by
 have hp := h.pull k0 hk hL
 have hown : w.ownsRow 0 e sz v n xs := hp.st.holds _ (List.mem_cons_self ..)
 rcases hown.2 with ⟨rfl, h0⟩ | ⟨g, cap, cur, rfl, h1, hg, h2, h3, h4, h5⟩
 · have hys : ys = [] := List.eq_nil_of_length_eq_zero (by omega)
   have hxs : xs = [] := List.eq_nil_of_length_eq_zero (by rw [hown.1, h0, Nat.zero_mul])
   subst hys; subst hxs; subst h0
   exact ⟨H, LE.rfl, hp.del 0, RS.nil R sz H, (fun b hb => by simp [ownX, Value.ownBlock] at hb), fun _ _ _ _ _ _ H3 hl hs => ⟨H3, hl, wo_le, hs.row⟩⟩
 · have hst : St E H (.obj g (.cells cur e (0, 0)) :: L') w :=
     hp.st.set (k := 0) (i := .row (.slice (some ⟨g, 0, none⟩) n cap) e sz n xs) (j := .obj g (.cells cur e (0, 0))) rfl hg (fun x hx => .inl (by simpa [It.own, Value.ownBlock] using hx)) rfl rfl rfl (fun _ _ _ => rfl)
   have h0 : H g = none := hst.off _ (List.mem_cons_self ..) g (by simp [It.own])
   have hs : S E H N D F (.obj g (.cells cur e (0, 0)) :: L') a w := ⟨h.ag, hst⟩
   obtain ⟨H', hle, h', hg'⟩ := hs.frz 0
   obtain ⟨css, l1, e1, p1⟩ := hr
   refine ⟨H', hle, h', ⟨some ⟨g, 0, none⟩, cap, by rw [hn], by omega, fun j y hy => ?_⟩, fun b hb => ?_, fun _ _ _ L2 _ w2 H3 hl hs2 => ?_⟩
   · have hj : j < css.length := by have := (List.getElem?_eq_some_iff.1 hy).1; omega
     obtain ⟨q1, q2⟩ := p1 j css[j] y (List.getElem?_eq_getElem hj) hy
     refine ⟨g, 0, css[j], rfl, q1, hR _ hle _ y (List.mem_of_getElem? hy) q2, fun i u hu => ⟨cur, e, (0, 0), hg', ?_⟩⟩
     have hi : i < sz := by have := (List.getElem?_eq_some_iff.1 hu).1; omega
     have hall : ∀ cs ∈ css, cs.length = sz := fun cs hcs => by
       obtain ⟨q, hq, rfl⟩ := List.getElem_of_mem hcs
       exact (p1 q css[q] (ys[q]'(by omega)) (List.getElem?_eq_getElem hq) (List.getElem?_eq_getElem (by omega))).1
     have hf := flatten_at hall (List.getElem?_eq_getElem hj) hi
     rw [hu, ← e1, ← h5, List.getElem?_take] at hf
     split at hf
     · simpa using hf
     · cases hf
   · simp [ownX, Value.ownBlock] at hb
     subst hb; rw [hg']; simp
   · have hxg : wo (ownX (.slice (some ⟨g, 0, none⟩) n cap)) H3 g = none := by unfold wo; rw [if_pos (by simp [ownX, Value.ownBlock])]
     have ht := hs2.st.thaw (hl g _ hg') hxg wo_le
     have hb : St E (wo (ownX (.slice (some ⟨g, 0, none⟩) n cap)) H3) (.row (.slice (some ⟨g, 0, none⟩) n cap) e sz n xs :: L2) w2 :=
       ht.set (k := 0) (i := .obj g (.cells cur e (0, 0))) (j := .row (.slice (some ⟨g, 0, none⟩) n cap) e sz n xs) rfl ⟨hown.1, .inr ⟨g, cap, cur, rfl, h1, ht.holds _ (List.mem_cons_self ..), h2, h3, h4, h5⟩⟩ (fun x hx => .inl (by simpa [It.own, Value.ownBlock] using hx)) rfl rfl rfl (fun _ _ _ => rfl)
     refine ⟨_, fun b o e => ?_, LE.rfl, ⟨hs2.ag, hb⟩⟩
     unfold wo
     rw [if_neg]
     · exact hl _ _ (hle _ _ e)
     · intro hx
       simp [ownX, Value.ownBlock] at hx
       subst hx; rw [h0] at e; cases e
end
def Wh9 (q : Bool) (lo : Int) (mx f : Nat) (l : List UInt8) (A : Option Addr) (c gm d : Nat) : Prop := ∀ (X : Nat → Prop) (depth : Int) (at_ : Nat) (li lc lf : List Bs) (Ai Ac Af : Option Addr) (ci cc cf : Nat) (E : World) (H : GH) (L : List It), Sub X H → lo ≤ depth → depth ≤ d → d ≤ 6 → US H A c l → SS H Ai ci li → SS H Ac cc lc → SS H Af cf lf → at_ ≤ l.length → li.length + 2 * d ≤ mx → lf.length + 2 * d ≤ mx → lc.length ≤ 98 →
   Ok Tryz.prog f #[.pointer (some ⟨gm, 0, none⟩), .int .i64 depth] E H (.obj gm (.cells #[.slice A l.length c, .int .i64 (at_ : Int), .slice Ai li.length ci, .slice Ac lc.length cc, .slice Af lf.length cf] 117 (0, 0)) :: L) fun r H' L' => ∃ (t : Tm) (at' : Nat), WT q li lc lf d t ∧ at_ ≤ at' ∧ at' ≤ l.length ∧ VX X H' r t ∧ L' = .obj gm (.cells #[.slice A l.length c, .int .i64 (at' : Int), .slice Ai li.length ci, .slice Ac lc.length cc, .slice Af lf.length cf] 117 (0, 0)) :: L
theorem byte9_ok (l : List UInt8) (A : Option Addr) (c gm at_ : Nat) (v2 v3 v4 : Value) (E : World) (H : GH) (L : List It) (hl : US H A c l) (hb : l.length < 1000000000000) (ha : at_ ≤ l.length) :
   Ok Tryz.prog 40 #[.pointer (some ⟨gm, 0, none⟩)] E H (.obj gm (.cells #[.slice A l.length c, .int .i64 (at_ : Int), v2, v3, v4] 117 (0, 0)) :: L) fun r H' L' => ∃ b at' : Nat, b < 256 ∧ at_ ≤ at' ∧ at' ≤ l.length ∧ r = .int .i64 (b : Int) ∧ H = H' ∧ L' = .obj gm (.cells #[.slice A l.length c, .int .i64 (at' : Int), v2, v3, v4] 117 (0, 0)) :: L := by
 refine enter (N := 32) [(0, _)] Tryz.func40 rfl rfl rfl rfl fun a w h => ?_
 refine au [1,2,0,6,0,3,0,4,0,4] h ?_; intro a w h
 refine rgd [0] [_] [] [3, 7] 0 mix (by kernel_rfl) h (fun a w h => ?_)
 refine au [0,0,7,2,0,7,4,2,0,0,7,2,0,7,4,2,6,0,6,7,0,3] h ?_; intro a w h
 refine cdB h (fun c12 => ?_) (fun c12 => ?_)
 ·have d12 : l.length ≤ at_ := cd_ c12
  refine au [1,2,0,6,0,3,1,3,1,4] h ?_; intro a w h
  refine fin1 2 0 h LE.rfl ?_
  exact ⟨0, at_, by omega, by omega, ha, rfl, rfl, rfl⟩
 ·have d12 : at_ < l.length := cd_ c12
  refine au [1,8,1,0,1,2,0,0,7,2,0,7,0,8] h ?_; intro a w h
  refine inc ?_ h fun a w h => ?_
  ·omega
  refine au [7,2,0,7,5,1,0,3,0,4] h ?_; intro a w h
  refine rgd [0] [_] [] [3, 7, 10] 1 mix (by kernel_rfl) h (fun a w h => ?_)
  refine au [0,0,7,2,0,7,4,2,0,0,7,2,0,7,4,2] h ?_; intro a w h
  refine sbr (m := ((at_ + 1 : Nat) : Int)) (n := 1) (at_ : Int) (by rw [w64 (by omega) (by omega)]; omega) h fun a w h => ?_
  have hj29 : at_ < l.length := by first | assumption | omega | (simp; done) | (simp; omega)
  obtain ⟨g29, o29, e29, hc29⟩ := US.get hl hj29
  refine iaE sli35 sz5 rfl hj29 e29 h fun a w h => ?_
  refine ldHD t1_5 (hc29) h fun a w h => ?_
  refine cv ((l[at_].toNat : Int)) (by have := UInt8.toNat_lt l[at_]; exact w64 (by omega) (by omega)) it5 it3 h fun a w h => ?_
  refine au [0,6,0,3,1,3] h ?_; intro a w h
  refine fin1 2 0 h LE.rfl ?_
  exact ⟨l[at_].toNat, at_ + 1, UInt8.toNat_lt _, by omega, by omega, rfl, rfl, rfl⟩
theorem less9_ok (xs : List Bs) (s : Bs) (A : Option Addr) (c : Nat) (E : World) (H : GH) (L : List It) (hx : SS H A c xs) (hb : xs.length < 1000000) : Ok Tryz.prog 83 #[.slice A xs.length c, str s] E H L fun r H' L' => (∃ A' c', r = .slice A' (lessB xs s).length c' ∧ SS H' A' c' (lessB xs s)) ∧ L = L' := by
 refine enter (N := 27) [(0, _), (1, _)] Tryz.func83 rfl rfl rfl rfl fun a w h => ?_
 refine au [1,2,0,6,0,2,0,6,0,3,0,4,1,2,0,6,0,3,1,5] h ?_; intro a w h
 have h := h.row (e := 9) (sz := 1)
 refine lp (β := Nat × GH × (Option Addr) × Nat × (List Value)) (fun x a w => match x with | (k, HL0, Brk, prk, xrk) => ((k ≤ xs.length) ∧ (LE H HL0) ∧ (RowR RStr 1 HL0 xrk (lessB (xs.take k) s))) ∧ S E HL0 27 [] [(0, .slice A xs.length c), (1, str s), (4, .slice none 0 0), (5, .slice Brk ((lessB (xs.take k) s).length) prk), (6, .int .i64 (k : Int))] (.row (.slice Brk ((lessB (xs.take k) s).length) prk) 9 1 ((lessB (xs.take k) s).length) xrk :: L) a w)
  (fun x => match x with | (k, HL0, Brk, prk, xrk) => xs.length - k) (0, H, none, 0, []) ⟨⟨Nat.zero_le _, LE.rfl, (RowR.nil : RowR RStr 1 H [] ([] : List Bs))⟩, h.to 0 _⟩ ?_
 rintro ⟨k, HL0, Brk, prk, xrk⟩ a w ⟨⟨hk, leHL0, hrrk⟩, h⟩
 refine au [0,4,1,2,0,0,0,0,6,0,6,4,0,3] h ?_; intro a w h
 refine cdB h (fun c10 => ?_) (fun c10 => ?_)
 ·have d10 : k < xs.length := cd_ c10
  refine au [1,8,1,0,0,4,1,5,1,2,0,0,0,0] h ?_; intro a w h
  have hj15 : k < xs.length := by first | assumption | omega | (simp; done) | (simp; omega)
  obtain ⟨g15, o15, e15, hc15⟩ := SS.get (SS.up hx leHL0) hj15
  refine iaE sli54 sz9 rfl hj15 e15 h fun a w h => ?_
  refine ldH t1_9 (hc15) h fun a w h => ?_
  refine au [0,0,7,0,0,3] h ?_; intro a w h
  refine cdB h (fun c18 => ?_) (fun c18 => ?_)
  ·have d18 : xs[k] ≠ s := cd_ c18
   refine au [0,5,0,0,0,0,0,0] h ?_; intro a w h
   have hj22 : k < xs.length := by first | assumption | omega | (simp; done) | (simp; omega)
   obtain ⟨g22, o22, e22, hc22⟩ := SS.get (SS.up hx leHL0) hj22
   refine iaE sli54 sz9 rfl hj22 e22 h fun a w h => ?_
   refine ldH t1_9 (hc22) h fun a w h => ?_
   refine bsl bs54 h fun g24 a w h => ?_
   refine apn (n := ((lessB (xs.take k) s).length)) (m := 1) 1 0 (L' := fun i => _ :: i :: _) [_] (((lessB (xs.take k) s) ++ [xs[k]]).length) (by first | (simp; done) | (simp; omega)) row54 h (by first | omega | (simp; done) | (simp; omega) | (have := less_len (xs.take k) s; simp only [List.length_append, List.length_take, List.length_cons, List.length_nil] at *; omega)) (by first | omega | (simp; done) | (simp; omega) | (have := less_len (xs.take k) s; simp only [List.length_append, List.length_take, List.length_cons, List.length_nil] at *; omega)) fun v25 a w hone25 h => ?_
   obtain ⟨B25, cp25, rfl⟩ := h.rowv 1
   have hr25 : RowR RStr 1 HL0 (xrk ++ [str xs[k]]) ((lessB (xs.take k) s) ++ [xs[k]]) := hrrk.snoc rfl rfl
   refine au [0,6,1,1,1,7,1,0,0,5,0,0] h ?_; intro a w h
   refine inc ?_ h fun a w h => ?_
   ·omega
   refine au [0,6,0,3] h ?_; intro a w h
   have h := h.del 0
   exact ⟨((k + 1), HL0, B25, cp25, _), ⟨⟨by omega, leHL0, (by have q := hr25; rwa [show ((lessB (xs.take k) s) ++ [xs[k]]) = (lessB (xs.take (k + 1)) s) from less_take hj15 d18] at q)⟩, (by show S _ _ _ _ _ _ _ _; rw [show ((lessB (xs.take (k + 1)) s).length) = ((lessB (xs.take k) s) ++ [xs[k]]).length from Eq.symm (by rw [← less_take hj15 d18])]; exact h.to 0 _)⟩, by show _ - (k + 1) < _ - k; omega⟩
  ·have d18 : xs[k] = s := cd_ c18
   refine au [1,8,1,7,1,0,0,5,0,0] h ?_; intro a w h
   refine inc ?_ h fun a w h => ?_
   ·omega
   refine au [0,6,0,3] h ?_; intro a w h
   exact ⟨((k + 1), HL0, Brk, prk, _), ⟨⟨by omega, leHL0, (by have q := hrrk; rwa [show (lessB (xs.take k) s) = (lessB (xs.take (k + 1)) s) from less_skip hj15 d18] at q)⟩, (by show S _ _ _ _ _ _ _ _; rw [show ((lessB (xs.take (k + 1)) s).length) = (lessB (xs.take k) s).length from Eq.symm (by rw [← less_skip hj15 d18])]; exact h.to 0 _)⟩, by show _ - (k + 1) < _ - k; omega⟩
 ·have d10 : xs.length ≤ k := cd_ c10
  refine au [2,5,2,2,2,2,2,3,1,0,1,2,0,0,0,6,0,3,1,3] h ?_; intro a w h
  have e9 : lessB (xs.take k) s = lessB xs s := by rw [List.take_of_length_le (by omega)]
  obtain ⟨Hrrk, leHrrk, h, hsHrrk⟩ := h.frw 0 hrrk rfl (fun _ l cs y _ hr => hr)
  have l_H_Hrrk : LE H Hrrk := leHL0.trans leHrrk
  refine fin1 4 0 h l_H_Hrrk ?_
  exact ⟨by rw [← e9]; exact ⟨_, _, rfl, hsHrrk⟩, rfl⟩
theorem of9_ok (l : List UInt8) (A : Option Addr) (c gm at_ : Nat) (xs : List Bs) (A1 : Option Addr) (c1 : Nat) (v2 v3 v4 : Value) (X : Nat → Prop) (E : World) (H : GH) (L : List It) (hl : US H A c l) (hb : l.length < 1000000000000) (ha : at_ ≤ l.length) (hx : SS H A1 c1 xs) (hxb : xs.length < 1000000) :
   Ok Tryz.prog 84 #[.pointer (some ⟨gm, 0, none⟩), .slice A1 xs.length c1] E H (.obj gm (.cells #[.slice A l.length c, .int .i64 (at_ : Int), v2, v3, v4] 117 (0, 0)) :: L) fun r H' L' => ∃ (t : Tm) (at' : Nat), OfP xs t ∧ at_ ≤ at' ∧ at' ≤ l.length ∧ VX X H' r t ∧ L' = .obj gm (.cells #[.slice A l.length c, .int .i64 (at' : Int), v2, v3, v4] 117 (0, 0)) :: L := by
 refine enter (N := 22) [(0, _), (1, _)] Tryz.func84 rfl rfl rfl rfl fun a w h => ?_
 refine au [1,2] h ?_
 refine al zr26 h fun g4 a w h => ?_
 refine au [0,2,0,0] h ?_; intro a w h
 have h := h.pull 1 rfl rfl
 refine cl bod40 (byte9_ok l A c gm at_ _ _ _ E H _ hl hb (by omega)) h (fun r7 H7 L7 a w le7 R h => ?_)
 obtain ⟨b7, at7, hb7, ha7, hz7, rfl, rfl, rfl⟩ := R
 refine au [0,6,0,3,0,4,1,2,0,0,6,0,6,2,0,3] h ?_; intro a w h
 refine cdB h (fun c10 => ?_) (fun c10 => ?_)
 ·have d10 : xs.length = 0 := cd_ c10
  refine au [1,2,0,0] h ?_; intro a w h
  refine rm b7 4 (by decide) h fun a w h => ?_
  refine au [7,5,5,6,0,3,1,3,1,4] h ?_; intro a w h
  have h := h.pull 1 rfl rfl
  exact fin (rs := [.cell 4 26]) (vs := [.agg #[_, _, _, _]]) h rfl (.agg (k0 := 0) tN26 rfl rfl rfl .nil) rfl LE.rfl ⟨LE.rfl, h.st.drop 1⟩ ⟨.mk 1 [] ((b7 % 4 : Nat) : Int) [], at7, .inl ⟨List.eq_nil_of_length_eq_zero (by omega), _, by omega, rfl⟩, by omega, by omega, ⟨_, _, rfl, RS.nil _ _ _⟩, rfl⟩
 ·have d10 : xs.length ≠ 0 := cd_ c10
  refine au [1,8,1,0,1,2,0,0,0,0,0,0,6,0] h ?_; intro a w h
  refine rm b7 xs.length (by omega) h fun a w h => ?_
  have hj19 : (b7 % xs.length) < xs.length := Nat.mod_lt _ (by omega)
  obtain ⟨g19, o19, e19, hc19⟩ := SS.get hx hj19
  refine iaE sli54 sz9 rfl hj19 e19 h fun a w h => ?_
  refine ldH t1_9 (hc19) h fun a w h => ?_
  refine au [7,5,5,6,0,3,1,3] h ?_; intro a w h
  have h := h.pull 1 rfl rfl
  exact fin (rs := [.cell 4 26]) (vs := [.agg #[_, _, _, _]]) h rfl (.agg (k0 := 0) tN26 rfl rfl rfl .nil) rfl LE.rfl ⟨LE.rfl, h.st.drop 1⟩ ⟨.mk 2 xs[b7 % xs.length] 0 [], at7, .inr ⟨_, List.getElem_mem hj19, rfl⟩, by omega, by omega, ⟨_, _, rfl, RS.nil _ _ _⟩, rfl⟩
theorem two9_ok (kd : Int) (nm : Bs) (p q : Tm) (v v2 : Value) (X : Nat → Prop) (E : World) (H : GH) (L : List It) (hX : Sub X H) (hp : VX X H v p) (hq : VX X H v2 q) : Ok Tryz.prog 28 #[.int .i64 kd, str nm, v, v2] E H L fun r H' L' => VX X H' r (.mk kd nm 0 [p, q]) ∧ L = L' := by
 obtain ⟨Ap0, cp0, rfl, hp0⟩ := hp
 obtain ⟨Aq0, cq0, rfl, hq0⟩ := hq
 refine enter (N := 15) [(0, _), (1, _), (2, _), (3, _)] Tryz.func28 rfl rfl rfl rfl fun a w h => ?_
 refine au [1,2] h ?_
 refine bxA h fun g6 a w h => ?_
 refine bxA h fun g7 a w h => ?_
 refine al zr26 h fun g8 a w h => ?_
 refine au [0,2,0,0,0,0,3,5,3,4] h ?_; intro a w h
 refine bsl bs24 h fun g13 a w h => ?_
 obtain ⟨Hq13, leHq13, h, hsHq13⟩ := h.fslX (ys := [p, q]) (hX.up le_) 0 (RowR.cons rfl (rt_of_vt (cs := [_, _, _, _]) ⟨_, _, rfl, hp0⟩) (RowR.one rfl (rt_of_vt (cs := [_, _, _, _]) ⟨_, _, rfl, hq0⟩)))
 refine au [7,5,5,5,0,3,1,3] h ?_; intro a w h
 exact fin (rs := [.cell 8 26]) (vs := [.agg #[_, _, _, _]]) h rfl (.agg (k0 := 0) tN26 rfl rfl rfl .nil) rfl leHq13 ⟨LE.rfl, h.st.drop 3⟩ ⟨⟨_, _, rfl, hsHq13⟩, rfl⟩
theorem fun9_ok (l : List UInt8) (A : Option Addr) (c gm d : Nat) (hb : l.length < 1000000000000) (hw : Wh9 true (-1) 98 42 l A c gm (d - 1)) : Wh9 false (0) 97 41 l A c gm d := by
 intro X depth at_ li lc lf Ai Ac Af ci cc cf E H L hX hlo hd hd6 hl hi hc hf ha hil hfl hcl
 refine enter (N := 53) [(0, _), (1, _)] Tryz.func41 rfl rfl rfl rfl fun a w h => ?_
 refine au [1,2] h ?_
 refine al zr26 h fun g4 a w h => ?_
 refine au [0,2] h ?_
 refine bsl bs54 h fun g9 a w h => ?_
 refine mv h fun a w h => ?_
 have h := h.pull 2 rfl rfl
 refine cl bod40 (byte9_ok l A c gm at_ _ _ _ E H _ hl hb (by omega)) h (fun r11 H11 L11 a w le11 R h => ?_)
 obtain ⟨b11, at11, hb11, ha11, hz11, rfl, rfl, rfl⟩ := R
 refine rm b11 3 (by decide) h fun a w h => ?_
 obtain ⟨Hq13, leHq13, h, hsHq13⟩ := h.fsl (R := RStr) (sz := 1) (ys := uvw) 1 (rstr_row uvw) (fun _ _ _ _ _ hr => hr)
 have hj13 : (b11 % 3) < uvw.length := by show _ < 3; omega
 obtain ⟨g13, o13, e13, hc13⟩ := SS.get hsHq13 hj13
 refine iaE sli54 sz9 rfl hj13 e13 h fun a w h => ?_
 refine ldH t1_9 (hc13) h fun a w h => ?_
 refine au [0,6,0,2,0,0,7,2,0,7,0,8,0,6,0,2,0,0,7,2,0,7,0,8,0,6,0,2,0,0,0,0] h ?_; intro a w h
 have h := h.row (e := 9) (sz := 1)
 refine apsn (n := 0) (L' := fun i => i :: _) 0 li.length (by first | (simp; done) | (simp; omega)) row54 (SS.up hi leHq13) rstr_one h (by first | omega | (simp; done) | (simp; omega)) (by first | omega | (simp; done) | (simp; omega)) fun v25 nw25 a w hone25 hnw25 h => ?_
 obtain ⟨B25, cp25, rfl⟩ := h.rowv 0
 have hr25 : RowR RStr 1 Hq13 ([] ++ nw25) li := (RowR.nil : RowR RStr 1 Hq13 [] ([] : List Bs)).app hnw25
 refine mv h fun a w h => ?_
 refine bsl bs54 h fun g27 a w h => ?_
 refine apn (n := li.length) (m := 1) 1 0 (L' := fun i => _ :: i :: _) [_] ((li ++ [uvw[(b11 % 3)]]).length) (by first | (simp; done) | (simp; omega)) row54 h (by first | omega | (simp; done) | (simp; omega)) (by first | omega | (simp; done) | (simp; omega)) fun v28 a w hone28 h => ?_
 obtain ⟨B28, cp28, rfl⟩ := h.rowv 1
 have hr28 : RowR RStr 1 Hq13 (([] ++ nw25) ++ [str (uvw[(b11 % 3)])]) (li ++ [uvw[(b11 % 3)]]) := hr25.snoc rfl rfl
 refine au [7,2,0,7,5,3,0,2,0,0,0,0,0,0] h ?_; intro a w h
 refine cl bod83 (less9_ok lf (uvw[(b11 % 3)]) _ _ E Hq13 _ (SS.up hf leHq13) (by omega)) h (fun r34 H34 L34 a w le34 R h => ?_)
 obtain ⟨⟨A34, c34, rfl, hk34⟩, rfl⟩ := R
 refine au [7,2,0,7,5,3,0,3,0,4] h ?_; intro a w h
 obtain ⟨Hrra25, leHrra25, h, hsHrra25⟩ := h.frw 1 (hr28.mono fun cs y _ hr => hr) rfl (fun _ l cs y _ hr => hr)
 refine au [0,5,0,0,0,0,0,0] h ?_; intro a w h
 refine sbr (depth - 1) (w64 (by omega) (by omega)) h fun a w h => ?_
 have h := h.pull 1 rfl rfl
 have l_H_Hrra25 : LE H Hrra25 := (leHq13.trans le34).trans leHrra25
 refine cl bod42 (hw X (depth - 1) at11 _ _ _ _ _ _ _ _ _ E Hrra25 _ (hX.up le_) (by omega) (by omega) (by omega) (hl.up l_H_Hrra25) hsHrra25 (SS.up hc l_H_Hrra25) (SS.up hk34 leHrra25) (by omega) (by first | omega | (simp only [List.length_append, List.length_cons, List.length_nil]; omega) | exact Nat.le_trans (Nat.add_le_add_right (less_len _ _) _) (by omega)) (by first | omega | (simp only [List.length_append, List.length_cons, List.length_nil]; omega) | exact Nat.le_trans (Nat.add_le_add_right (less_len _ _) _) (by omega)) hcl) h (fun r41 H41 L41 a w le41 R h => ?_)
 obtain ⟨t41, at41, hwt41, ha41, hz41, ⟨A41, c41, rfl, hk41⟩, rfl⟩ := R
 refine bsl bs24 h fun g42 a w h => ?_
 obtain ⟨Hq42, leHq42, h, hsHq42⟩ := h.fslX (ys := [t41]) (hX.up le_) 0 (RowR.one rfl (rt_of_vt (cs := [_, _, _, _]) ⟨_, _, rfl, hk41⟩))
 refine bdl lay26 zr26 h fun a w h => ?_
 refine al zr26 h fun g8 a w h => ?_
 refine au [5,5,0,2,0,0,0,0,7,2,0,7,5,2,0,2,0,0,0,0,7,2,0,7,5,2,0,2,3,3,5,8,0,3,1,3] h ?_; intro a w h
 have h := h.pull 1 rfl rfl
 have h := h.pull 3 rfl rfl
 have h := h.pull 3 rfl rfl
 have h := h.pull 3 rfl rfl
 have l_H_Hq42 : LE H Hq42 := (((leHq13.trans le34).trans leHrra25).trans le41).trans leHq42
 exact fin (rs := [.cell 4 26]) (vs := [.agg #[_, _, _, _]]) h rfl (.agg (k0 := 2) tN26 rfl rfl rfl .nil) rfl l_H_Hq42 ⟨LE.rfl, h.st.drop 3⟩ ⟨.mk 3 (uvw[b11 % 3]) 0 [t41], at41, .fn (List.getElem_mem hj13) hwt41, by omega, by omega, ⟨_, _, rfl, hsHq42⟩, rfl⟩
theorem try9_ok (l : List UInt8) (A : Option Addr) (c gm d : Nat) (hb : l.length < 1000000000000) (hw : Wh9 true (-1) 98 42 l A c gm d) : Wh9 true (1) 98 86 l A c gm (d + 1) := by
 intro X depth at_ li lc lf Ai Ac Af ci cc cf E H L hX hlo hd hd6 hl hi hc hf ha hil hfl hcl
 refine enter (N := 58) [(0, _), (1, _)] Tryz.func86 rfl rfl rfl rfl fun a w h => ?_
 refine au [1,2] h ?_
 refine al zr26 h fun g4 a w h => ?_
 refine au [0,2,0,0,0,0] h ?_; intro a w h
 refine sbr (depth - 1) (w64 (by omega) (by omega)) h fun a w h => ?_
 have h := h.pull 1 rfl rfl
 refine cl bod42 (hw X (depth - 1) at_ _ _ _ _ _ _ _ _ _ E H _ (hX.up le_) (by omega) (by omega) (by omega) hl hi hc hf (by omega) (by first | omega | (simp only [List.length_append, List.length_cons, List.length_nil]; omega) | exact Nat.le_trans (Nat.add_le_add_right (less_len _ _) _) (by omega)) (by first | omega | (simp only [List.length_append, List.length_cons, List.length_nil]; omega) | exact Nat.le_trans (Nat.add_le_add_right (less_len _ _) _) (by omega)) hcl) h (fun r13 H13 L13 a w le13 R h => ?_)
 obtain ⟨t13, at13, hwt13, ha13, hz13, ⟨A13, c13, rfl, hk13⟩, rfl⟩ := R
 refine al zr26 h fun g5 a w h => ?_
 refine au [5,5,0,2] h ?_; intro a w h
 refine bsl bs54 h fun g14 a w h => ?_
 refine mv h fun a w h => ?_
 have h := h.pull 2 rfl rfl
 refine cl bod40 (byte9_ok l A c gm at13 _ _ _ E H13 _ (hl.up le13) hb (by omega)) h (fun r16 H16 L16 a w le16 R h => ?_)
 obtain ⟨b16, at16, hb16, ha16, hz16, rfl, rfl, rfl⟩ := R
 refine rm b16 3 (by decide) h fun a w h => ?_
 obtain ⟨Hq18, leHq18, h, hsHq18⟩ := h.fsl (R := RStr) (sz := 1) (ys := uvw) 1 (rstr_row uvw) (fun _ _ _ _ _ hr => hr)
 have hj18 : (b16 % 3) < uvw.length := by show _ < 3; omega
 obtain ⟨g18, o18, e18, hc18⟩ := SS.get hsHq18 hj18
 refine iaE sli54 sz9 rfl hj18 e18 h fun a w h => ?_
 refine ldH t1_9 (hc18) h fun a w h => ?_
 refine au [0,6,0,2,0,0,7,2,0,7,0,8,0,6,0,2,0,0,7,2,0,7,0,8,0,6,0,2,0,0,0,0] h ?_; intro a w h
 have h := h.row (e := 9) (sz := 1)
 have l_H_Hq18 : LE H Hq18 := le13.trans leHq18
 refine apsn (n := 0) (L' := fun i => i :: _) 0 li.length (by first | (simp; done) | (simp; omega)) row54 (SS.up hi l_H_Hq18) rstr_one h (by first | omega | (simp; done) | (simp; omega)) (by first | omega | (simp; done) | (simp; omega)) fun v30 nw30 a w hone30 hnw30 h => ?_
 obtain ⟨B30, cp30, rfl⟩ := h.rowv 0
 have hr30 : RowR RStr 1 Hq18 ([] ++ nw30) li := (RowR.nil : RowR RStr 1 Hq18 [] ([] : List Bs)).app hnw30
 refine mv h fun a w h => ?_
 refine bsl bs54 h fun g32 a w h => ?_
 refine apn (n := li.length) (m := 1) 1 0 (L' := fun i => _ :: i :: _) [_] ((li ++ [uvw[(b16 % 3)]]).length) (by first | (simp; done) | (simp; omega)) row54 h (by first | omega | (simp; done) | (simp; omega)) (by first | omega | (simp; done) | (simp; omega)) fun v33 a w hone33 h => ?_
 obtain ⟨B33, cp33, rfl⟩ := h.rowv 1
 have hr33 : RowR RStr 1 Hq18 (([] ++ nw30) ++ [str (uvw[(b16 % 3)])]) (li ++ [uvw[(b16 % 3)]]) := hr30.snoc rfl rfl
 refine au [7,2,0,7,5,3,0,2,0,0,0,0,0,0] h ?_; intro a w h
 refine cl bod83 (less9_ok lf (uvw[(b16 % 3)]) _ _ E Hq18 _ (SS.up hf l_H_Hq18) (by omega)) h (fun r39 H39 L39 a w le39 R h => ?_)
 obtain ⟨⟨A39, c39, rfl, hk39⟩, rfl⟩ := R
 refine au [7,2,0,7,5,3,0,3,0,4] h ?_; intro a w h
 obtain ⟨Hrra30, leHrra30, h, hsHrra30⟩ := h.frw 1 (hr33.mono fun cs y _ hr => hr) rfl (fun _ l cs y _ hr => hr)
 refine rgx [2] [_] [1] 9 mix h (fun a w h => ?_)
 refine au [8,0,0,0,2,6,8,1,4,5,2,6,8,2,0,0,2,6,8,3,0,0,2,6,8,4] h ?_; intro a w h
 refine sbr (depth - 1) (w64 (by omega) (by omega)) h fun a w h => ?_
 refine tk0 ?_
 refine bg2 5 7 true true h ?_ ?_
 ·have h := h.pull 1 rfl rfl
  have l_H_Hrra30 : LE H Hrra30 := ((le13.trans leHq18).trans le39).trans leHrra30
  refine clG bod42 (hw X (depth - 1) at16 _ _ _ _ _ _ _ _ _ E Hrra30 _ (hX.up le_) (by omega) (by omega) (by omega) (hl.up l_H_Hrra30) hsHrra30 (SS.up hc l_H_Hrra30) (SS.up hk39 leHrra30) (by omega) (by first | omega | (simp only [List.length_append, List.length_cons, List.length_nil]; omega) | exact Nat.le_trans (Nat.add_le_add_right (less_len _ _) _) (by omega)) (by first | omega | (simp only [List.length_append, List.length_cons, List.length_nil]; omega) | exact Nat.le_trans (Nat.add_le_add_right (less_len _ _) _) (by omega)) hcl) h (fun r47 H47 L47 a w le47 R h => ?_)
  obtain ⟨t47, at47, hwt47, ha47, hz47, ⟨A47, c47, rfl, hk47⟩, rfl⟩ := R
  refine br0 ?_
  refine bg2 6 7 false true h ?_ ?_
  ·have l_H13_H47 : LE H13 H47 := ((leHq18.trans le39).trans leHrra30).trans le47
   refine clG bod28 (two9_ok 9 (uvw[(b16 % 3)]) t13 t47 _ _ X E H47 _ (hX.up le_) ⟨A13, c13, rfl, (KX.up hk13 l_H13_H47)⟩ ⟨A47, c47, rfl, hk47⟩) h (fun r48 H48 L48 a w le48 R h => ?_)
   obtain ⟨⟨A48_0, c48_0, rfl, hk48_0⟩, rfl⟩ := R
   refine br0 ?_
   have l_Hrra30_H48 : LE Hrra30 H48 := le47.trans le48
   refine bg1 7 true h ?_
   refine al zr26 h fun g9 a w h => ?_
   refine br0 ?_
   refine bf1 8 ?_
   refine au [5,5,2,7] h ?_; intro a w h
   refine en (by kernel_rfl) ?_
   refine au [1,0,1,2,0,0,0,0,7,2,0,7,5,2,0,2,0,0,0,0,7,2,0,7,5,2,0,2,3,3] h ?_; intro a w h
   refine sw4 tN26 h fun a w h => ?_
   refine au [0,3,1,3] h ?_
   have h := h.pull 1 rfl rfl
   have h := h.pull 4 rfl rfl
   have h := h.pull 4 rfl rfl
   have h := h.pull 4 rfl rfl
   have h := h.pull 4 rfl rfl
   have l_H_H48 : LE H H48 := ((((le13.trans leHq18).trans le39).trans leHrra30).trans le47).trans le48
   exact fin (rs := [.cell 4 26]) (vs := [.agg #[_, _, _, _]]) h rfl (.agg (k0 := 3) tN26 rfl rfl rfl .nil) rfl l_H_H48 ⟨LE.rfl, h.st.drop 4⟩ ⟨.mk 9 (uvw[b16 % 3]) 0 [t13, t47], at47, .tr (List.getElem_mem hj18) hwt13 hwt47, by omega, by omega, ⟨_, _, rfl, hk48_0⟩, rfl⟩
  ·refine al zr26 h fun g9 a w h => ?_
   refine br0 ?_
   refine bf1 6 ?_
   have l_H13_H47 : LE H13 H47 := ((leHq18.trans le39).trans leHrra30).trans le47
   refine clG bod28 (two9_ok 9 (uvw[(b16 % 3)]) t13 t47 _ _ X E H47 _ (hX.up le_) ⟨A13, c13, rfl, (KX.up hk13 l_H13_H47)⟩ ⟨A47, c47, rfl, hk47⟩) h (fun r48 H48 L48 a w le48 R h => ?_)
   obtain ⟨⟨A48_0, c48_0, rfl, hk48_0⟩, rfl⟩ := R
   refine br0 ?_
   have l_Hrra30_H48 : LE Hrra30 H48 := le47.trans le48
   refine bf1 8 ?_
   refine au [5,5,2,7] h ?_; intro a w h
   refine en (by kernel_rfl) ?_
   refine au [1,0,1,2,0,0,0,0,7,2,0,7,5,2,0,2,0,0,0,0,7,2,0,7,5,2,0,2,3,3] h ?_; intro a w h
   refine sw4 tN26 h fun a w h => ?_
   refine au [0,3,1,3] h ?_
   have h := h.pull 1 rfl rfl
   have h := h.pull 4 rfl rfl
   have h := h.pull 4 rfl rfl
   have h := h.pull 4 rfl rfl
   have h := h.pull 4 rfl rfl
   have l_H_H48 : LE H H48 := ((((le13.trans leHq18).trans le39).trans leHrra30).trans le47).trans le48
   exact fin (rs := [.cell 4 26]) (vs := [.agg #[_, _, _, _]]) h rfl (.agg (k0 := 3) tN26 rfl rfl rfl .nil) rfl l_H_H48 ⟨LE.rfl, h.st.drop 4⟩ ⟨.mk 9 (uvw[b16 % 3]) 0 [t13, t47], at47, .tr (List.getElem_mem hj18) hwt13 hwt47, by omega, by omega, ⟨_, _, rfl, hk48_0⟩, rfl⟩
 ·refine al zr26 h fun g9 a w h => ?_
  refine br0 ?_
  refine bg1 5 true h ?_
  have h := h.pull 2 rfl rfl
  have l_H_Hrra30 : LE H Hrra30 := ((le13.trans leHq18).trans le39).trans leHrra30
  refine clG bod42 (hw X (depth - 1) at16 _ _ _ _ _ _ _ _ _ E Hrra30 _ (hX.up le_) (by omega) (by omega) (by omega) (hl.up l_H_Hrra30) hsHrra30 (SS.up hc l_H_Hrra30) (SS.up hk39 leHrra30) (by omega) (by first | omega | (simp only [List.length_append, List.length_cons, List.length_nil]; omega) | exact Nat.le_trans (Nat.add_le_add_right (less_len _ _) _) (by omega)) (by first | omega | (simp only [List.length_append, List.length_cons, List.length_nil]; omega) | exact Nat.le_trans (Nat.add_le_add_right (less_len _ _) _) (by omega)) hcl) h (fun r47 H47 L47 a w le47 R h => ?_)
  obtain ⟨t47, at47, hwt47, ha47, hz47, ⟨A47, c47, rfl, hk47⟩, rfl⟩ := R
  refine br0 ?_
  refine bf1 6 ?_
  have l_H13_H47 : LE H13 H47 := ((leHq18.trans le39).trans leHrra30).trans le47
  refine clG bod28 (two9_ok 9 (uvw[(b16 % 3)]) t13 t47 _ _ X E H47 _ (hX.up le_) ⟨A13, c13, rfl, (KX.up hk13 l_H13_H47)⟩ ⟨A47, c47, rfl, hk47⟩) h (fun r48 H48 L48 a w le48 R h => ?_)
  obtain ⟨⟨A48_0, c48_0, rfl, hk48_0⟩, rfl⟩ := R
  refine br0 ?_
  have l_Hrra30_H48 : LE Hrra30 H48 := le47.trans le48
  refine bf1 8 ?_
  refine au [5,6,2,7] h ?_; intro a w h
  refine en (by kernel_rfl) ?_
  refine au [1,0,1,2,0,0,0,0,7,2,0,7,5,1,0,2,0,0,0,0,7,2,0,7,5,1,0,2,3,4] h ?_; intro a w h
  refine sw4 tN26 h fun a w h => ?_
  refine au [0,3,1,3] h ?_
  have h := h.pull 4 rfl rfl
  have h := h.pull 4 rfl rfl
  have h := h.pull 4 rfl rfl
  have h := h.pull 4 rfl rfl
  have l_H_H48 : LE H H48 := ((((le13.trans leHq18).trans le39).trans leHrra30).trans le47).trans le48
  exact fin (rs := [.cell 4 26]) (vs := [.agg #[_, _, _, _]]) h rfl (.agg (k0 := 3) tN26 rfl rfl rfl .nil) rfl l_H_H48 ⟨LE.rfl, h.st.drop 4⟩ ⟨.mk 9 (uvw[b16 % 3]) 0 [t13, t47], at47, .tr (List.getElem_mem hj18) hwt13 hwt47, by omega, by omega, ⟨_, _, rfl, hk48_0⟩, rfl⟩
theorem let9_ok (l : List UInt8) (A : Option Addr) (c gm d : Nat) (hb : l.length < 1000000000000) (hw : Wh9 true (-1) 98 42 l A c gm d) (hfn : Wh9 false (0) 97 41 l A c gm d) : Wh9 true (1) 98 85 l A c gm (d + 1) := by
 intro X depth at_ li lc lf Ai Ac Af ci cc cf E H L hX hlo hd hd6 hl hi hc hf ha hil hfl hcl
 refine enter (N := 81) [(0, _), (1, _)] Tryz.func85 rfl rfl rfl rfl fun a w h => ?_
 refine au [1,2] h ?_
 refine al zr26 h fun g4 a w h => ?_
 refine au [0,2] h ?_
 refine bsl bs54 h fun g10 a w h => ?_
 refine mv h fun a w h => ?_
 have h := h.pull 2 rfl rfl
 refine cl bod40 (byte9_ok l A c gm at_ _ _ _ E H _ hl hb (by omega)) h (fun r12 H12 L12 a w le12 R h => ?_)
 obtain ⟨b12, at12, hb12, ha12, hz12, rfl, rfl, rfl⟩ := R
 refine rm b12 3 (by decide) h fun a w h => ?_
 obtain ⟨Hq14, leHq14, h, hsHq14⟩ := h.fsl (R := RStr) (sz := 1) (ys := uvw) 1 (rstr_row uvw) (fun _ _ _ _ _ hr => hr)
 have hj14 : (b12 % 3) < uvw.length := by show _ < 3; omega
 obtain ⟨g14, o14, e14, hc14⟩ := SS.get hsHq14 hj14
 refine iaE sli54 sz9 rfl hj14 e14 h fun a w h => ?_
 refine ldH t1_9 (hc14) h fun a w h => ?_
 refine au [0,6,0,2,0,0,7,2,0,7,0,8,0,6,0,2,0,0,7,2,0,7,0,8,0,6,0,2,7,5] h ?_; intro a w h
 refine al zr26 h fun g8 a w h => ?_
 refine au [5,5,0,3,0,4,1,2,0,0] h ?_; intro a w h
 have h := h.pull 1 rfl rfl
 refine cl bod40 (byte9_ok l A c gm at12 _ _ _ E Hq14 _ (hl.up leHq14) hb (by omega)) h (fun r26 H26 L26 a w le26 R h => ?_)
 obtain ⟨b26, at26, hb26, ha26, hz26, rfl, rfl, rfl⟩ := R
 refine rm b26 2 (by decide) h fun a w h => ?_
 refine au [6,2,0,3] h ?_; intro a w h
 refine cdB h (fun c28 => ?_) (fun c28 => ?_)
 ·have d28 : (b26 % 2) = 0 := cd_ c28
  refine au [1,2,0,0,0,0] h ?_; intro a w h
  refine sbr (depth - 1) (w64 (by omega) (by omega)) h fun a w h => ?_
  refine cl bod42 (hw X (depth - 1) at26 _ _ _ _ _ _ _ _ _ E Hq14 _ (hX.up le_) (by omega) (by omega) (by omega) (hl.up leHq14) (SS.up hi leHq14) (SS.up hc leHq14) (SS.up hf leHq14) (by omega) (by first | omega | (simp only [List.length_append, List.length_cons, List.length_nil]; omega) | exact Nat.le_trans (Nat.add_le_add_right (less_len _ _) _) (by omega)) (by first | omega | (simp only [List.length_append, List.length_cons, List.length_nil]; omega) | exact Nat.le_trans (Nat.add_le_add_right (less_len _ _) _) (by omega)) hcl) h (fun r32 H32 L32 a w le32 R h => ?_)
  obtain ⟨t32, at32, hwt32, ha32, hz32, ⟨A32, c32, rfl, hk32⟩, rfl⟩ := R
  refine au [5,6,0,2,0,0,0,0] h ?_; intro a w h
  have h := h.row (e := 9) (sz := 1)
  have l_H_H32 : LE H H32 := leHq14.trans le32
  refine apsn (n := 0) (L' := fun i => i :: _) 0 li.length (by first | (simp; done) | (simp; omega)) row54 (SS.up hi l_H_H32) rstr_one h (by first | omega | (simp; done) | (simp; omega)) (by first | omega | (simp; done) | (simp; omega)) fun v35 nw35 a w hone35 hnw35 h => ?_
  obtain ⟨B35, cp35, rfl⟩ := h.rowv 0
  have hr35 : RowR RStr 1 H32 ([] ++ nw35) li := (RowR.nil : RowR RStr 1 H32 [] ([] : List Bs)).app hnw35
  refine mv h fun a w h => ?_
  refine bsl bs54 h fun g37 a w h => ?_
  refine apn (n := li.length) (m := 1) 1 0 (L' := fun i => _ :: i :: _) [_] ((li ++ [uvw[(b12 % 3)]]).length) (by first | (simp; done) | (simp; omega)) row54 h (by first | omega | (simp; done) | (simp; omega)) (by first | omega | (simp; done) | (simp; omega)) fun v38 a w hone38 h => ?_
  obtain ⟨B38, cp38, rfl⟩ := h.rowv 1
  have hr38 : RowR RStr 1 H32 (([] ++ nw35) ++ [str (uvw[(b12 % 3)])]) (li ++ [uvw[(b12 % 3)]]) := hr35.snoc rfl rfl
  refine au [7,2,0,7,5,3,0,3,0,5,0,0,0,0,0,0] h ?_; intro a w h
  refine cl bod83 (less9_ok lf (uvw[(b12 % 3)]) _ _ E H32 _ (SS.up hf l_H_H32) (by omega)) h (fun r44 H44 L44 a w le44 R h => ?_)
  obtain ⟨⟨A44, c44, rfl, hk44⟩, rfl⟩ := R
  refine au [7,2,0,7,5,3,0,3,0,4] h ?_; intro a w h
  obtain ⟨Hrra35, leHrra35, h, hsHrra35⟩ := h.frw 1 (hr38.mono fun cs y _ hr => hr) rfl (fun _ l cs y _ hr => hr)
  refine rgx [2] [_] [1] 9 mix h (fun a w h => ?_)
  refine au [8,0,0,0,2,6,8,1,4,5,2,6,8,2,0,0,2,6,8,3,0,0,2,6,8,4] h ?_; intro a w h
  refine sbr (depth - 1) (w64 (by omega) (by omega)) h fun a w h => ?_
  refine tk0 ?_
  refine bg2 5 7 true true h ?_ ?_
  ·have h := h.pull 1 rfl rfl
   have l_H_Hrra35 : LE H Hrra35 := ((leHq14.trans le32).trans le44).trans leHrra35
   refine clG bod42 (hw X (depth - 1) at32 _ _ _ _ _ _ _ _ _ E Hrra35 _ (hX.up le_) (by omega) (by omega) (by omega) (hl.up l_H_Hrra35) hsHrra35 (SS.up hc l_H_Hrra35) (SS.up hk44 leHrra35) (by omega) (by first | omega | (simp only [List.length_append, List.length_cons, List.length_nil]; omega) | exact Nat.le_trans (Nat.add_le_add_right (less_len _ _) _) (by omega)) (by first | omega | (simp only [List.length_append, List.length_cons, List.length_nil]; omega) | exact Nat.le_trans (Nat.add_le_add_right (less_len _ _) _) (by omega)) hcl) h (fun r70 H70 L70 a w le70 R h => ?_)
   obtain ⟨t70, at70, hwt70, ha70, hz70, ⟨A70, c70, rfl, hk70⟩, rfl⟩ := R
   refine br0 ?_
   refine bg2 6 7 false true h ?_ ?_
   ·have l_H32_H70 : LE H32 H70 := (le44.trans leHrra35).trans le70
    refine clG bod28 (two9_ok 5 (uvw[(b12 % 3)]) t32 t70 _ _ X E H70 _ (hX.up le_) ⟨A32, c32, rfl, (KX.up hk32 l_H32_H70)⟩ ⟨A70, c70, rfl, hk70⟩) h (fun r71 H71 L71 a w le71 R h => ?_)
    obtain ⟨⟨A71_0, c71_0, rfl, hk71_0⟩, rfl⟩ := R
    refine br0 ?_
    have l_Hrra35_H71 : LE Hrra35 H71 := le70.trans le71
    refine bg1 7 true h ?_
    refine al zr26 h fun g9 a w h => ?_
    refine br0 ?_
    refine bf1 8 ?_
    refine au [5,5,2,7] h ?_; intro a w h
    refine en (by kernel_rfl) ?_
    refine au [1,0,1,2,0,0,0,0,7,2,0,7,5,2,0,2,0,0,0,0,7,2,0,7,5,2,0,2,3,3] h ?_; intro a w h
    refine sw4 tN26 h fun a w h => ?_
    refine au [0,3,1,3] h ?_
    have h := h.pull 1 rfl rfl
    have h := h.pull 4 rfl rfl
    have h := h.pull 4 rfl rfl
    have h := h.pull 4 rfl rfl
    have h := h.pull 4 rfl rfl
    have l_H_H71 : LE H H71 := ((((leHq14.trans le32).trans le44).trans leHrra35).trans le70).trans le71
    exact fin (rs := [.cell 4 26]) (vs := [.agg #[_, _, _, _]]) h rfl (.agg (k0 := 3) tN26 rfl rfl rfl .nil) rfl l_H_H71 ⟨LE.rfl, h.st.drop 4⟩ ⟨.mk 5 (uvw[b12 % 3]) 0 [t32, t70], at70, .ltI (List.getElem_mem hj14) hwt32 hwt70, by omega, by omega, ⟨_, _, rfl, hk71_0⟩, rfl⟩
   ·refine al zr26 h fun g9 a w h => ?_
    refine br0 ?_
    refine bf1 6 ?_
    have l_H32_H70 : LE H32 H70 := (le44.trans leHrra35).trans le70
    refine clG bod28 (two9_ok 5 (uvw[(b12 % 3)]) t32 t70 _ _ X E H70 _ (hX.up le_) ⟨A32, c32, rfl, (KX.up hk32 l_H32_H70)⟩ ⟨A70, c70, rfl, hk70⟩) h (fun r71 H71 L71 a w le71 R h => ?_)
    obtain ⟨⟨A71_0, c71_0, rfl, hk71_0⟩, rfl⟩ := R
    refine br0 ?_
    have l_Hrra35_H71 : LE Hrra35 H71 := le70.trans le71
    refine bf1 8 ?_
    refine au [5,5,2,7] h ?_; intro a w h
    refine en (by kernel_rfl) ?_
    refine au [1,0,1,2,0,0,0,0,7,2,0,7,5,2,0,2,0,0,0,0,7,2,0,7,5,2,0,2,3,3] h ?_; intro a w h
    refine sw4 tN26 h fun a w h => ?_
    refine au [0,3,1,3] h ?_
    have h := h.pull 1 rfl rfl
    have h := h.pull 4 rfl rfl
    have h := h.pull 4 rfl rfl
    have h := h.pull 4 rfl rfl
    have h := h.pull 4 rfl rfl
    have l_H_H71 : LE H H71 := ((((leHq14.trans le32).trans le44).trans leHrra35).trans le70).trans le71
    exact fin (rs := [.cell 4 26]) (vs := [.agg #[_, _, _, _]]) h rfl (.agg (k0 := 3) tN26 rfl rfl rfl .nil) rfl l_H_H71 ⟨LE.rfl, h.st.drop 4⟩ ⟨.mk 5 (uvw[b12 % 3]) 0 [t32, t70], at70, .ltI (List.getElem_mem hj14) hwt32 hwt70, by omega, by omega, ⟨_, _, rfl, hk71_0⟩, rfl⟩
  ·refine al zr26 h fun g9 a w h => ?_
   refine br0 ?_
   refine bg1 5 true h ?_
   have h := h.pull 2 rfl rfl
   have l_H_Hrra35 : LE H Hrra35 := ((leHq14.trans le32).trans le44).trans leHrra35
   refine clG bod42 (hw X (depth - 1) at32 _ _ _ _ _ _ _ _ _ E Hrra35 _ (hX.up le_) (by omega) (by omega) (by omega) (hl.up l_H_Hrra35) hsHrra35 (SS.up hc l_H_Hrra35) (SS.up hk44 leHrra35) (by omega) (by first | omega | (simp only [List.length_append, List.length_cons, List.length_nil]; omega) | exact Nat.le_trans (Nat.add_le_add_right (less_len _ _) _) (by omega)) (by first | omega | (simp only [List.length_append, List.length_cons, List.length_nil]; omega) | exact Nat.le_trans (Nat.add_le_add_right (less_len _ _) _) (by omega)) hcl) h (fun r70 H70 L70 a w le70 R h => ?_)
   obtain ⟨t70, at70, hwt70, ha70, hz70, ⟨A70, c70, rfl, hk70⟩, rfl⟩ := R
   refine br0 ?_
   refine bf1 6 ?_
   have l_H32_H70 : LE H32 H70 := (le44.trans leHrra35).trans le70
   refine clG bod28 (two9_ok 5 (uvw[(b12 % 3)]) t32 t70 _ _ X E H70 _ (hX.up le_) ⟨A32, c32, rfl, (KX.up hk32 l_H32_H70)⟩ ⟨A70, c70, rfl, hk70⟩) h (fun r71 H71 L71 a w le71 R h => ?_)
   obtain ⟨⟨A71_0, c71_0, rfl, hk71_0⟩, rfl⟩ := R
   refine br0 ?_
   have l_Hrra35_H71 : LE Hrra35 H71 := le70.trans le71
   refine bf1 8 ?_
   refine au [5,6,2,7] h ?_; intro a w h
   refine en (by kernel_rfl) ?_
   refine au [1,0,1,2,0,0,0,0,7,2,0,7,5,1,0,2,0,0,0,0,7,2,0,7,5,1,0,2,3,4] h ?_; intro a w h
   refine sw4 tN26 h fun a w h => ?_
   refine au [0,3,1,3] h ?_
   have h := h.pull 4 rfl rfl
   have h := h.pull 4 rfl rfl
   have h := h.pull 4 rfl rfl
   have h := h.pull 4 rfl rfl
   have l_H_H71 : LE H H71 := ((((leHq14.trans le32).trans le44).trans leHrra35).trans le70).trans le71
   exact fin (rs := [.cell 4 26]) (vs := [.agg #[_, _, _, _]]) h rfl (.agg (k0 := 3) tN26 rfl rfl rfl .nil) rfl l_H_H71 ⟨LE.rfl, h.st.drop 4⟩ ⟨.mk 5 (uvw[b12 % 3]) 0 [t32, t70], at70, .ltI (List.getElem_mem hj14) hwt32 hwt70, by omega, by omega, ⟨_, _, rfl, hk71_0⟩, rfl⟩
 ·have d28 : (b26 % 2) ≠ 0 := cd_ c28
  refine au [1,2,0,0,0,0] h ?_; intro a w h
  refine sbr (depth - 1) (w64 (by omega) (by omega)) h fun a w h => ?_
  refine cl bod41 (hfn X (depth - 1) at26 _ _ _ _ _ _ _ _ _ E Hq14 _ (hX.up le_) (by omega) (by omega) (by omega) (hl.up leHq14) (SS.up hi leHq14) (SS.up hc leHq14) (SS.up hf leHq14) (by omega) (by first | omega | (simp only [List.length_append, List.length_cons, List.length_nil]; omega) | exact Nat.le_trans (Nat.add_le_add_right (less_len _ _) _) (by omega)) (by first | omega | (simp only [List.length_append, List.length_cons, List.length_nil]; omega) | exact Nat.le_trans (Nat.add_le_add_right (less_len _ _) _) (by omega)) hcl) h (fun r50 H50 L50 a w le50 R h => ?_)
  obtain ⟨t50, at50, hwt50, ha50, hz50, ⟨A50, c50, rfl, hk50⟩, rfl⟩ := R
  refine au [5,6,0,2,0,0,0,0] h ?_; intro a w h
  have h := h.row (e := 9) (sz := 1)
  have l_H_H50 : LE H H50 := leHq14.trans le50
  refine apsn (n := 0) (L' := fun i => i :: _) 0 lf.length (by first | (simp; done) | (simp; omega)) row54 (SS.up hf l_H_H50) rstr_one h (by first | omega | (simp; done) | (simp; omega)) (by first | omega | (simp; done) | (simp; omega)) fun v53 nw53 a w hone53 hnw53 h => ?_
  obtain ⟨B53, cp53, rfl⟩ := h.rowv 0
  have hr53 : RowR RStr 1 H50 ([] ++ nw53) lf := (RowR.nil : RowR RStr 1 H50 [] ([] : List Bs)).app hnw53
  refine mv h fun a w h => ?_
  refine bsl bs54 h fun g55 a w h => ?_
  refine apn (n := lf.length) (m := 1) 1 0 (L' := fun i => _ :: i :: _) [_] ((lf ++ [uvw[(b12 % 3)]]).length) (by first | (simp; done) | (simp; omega)) row54 h (by first | omega | (simp; done) | (simp; omega)) (by first | omega | (simp; done) | (simp; omega)) fun v56 a w hone56 h => ?_
  obtain ⟨B56, cp56, rfl⟩ := h.rowv 1
  have hr56 : RowR RStr 1 H50 (([] ++ nw53) ++ [str (uvw[(b12 % 3)])]) (lf ++ [uvw[(b12 % 3)]]) := hr53.snoc rfl rfl
  refine au [7,2,0,7,5,3,0,3,0,5,0,0,0,0,0,0] h ?_; intro a w h
  refine cl bod83 (less9_ok li (uvw[(b12 % 3)]) _ _ E H50 _ (SS.up hi l_H_H50) (by omega)) h (fun r62 H62 L62 a w le62 R h => ?_)
  obtain ⟨⟨A62, c62, rfl, hk62⟩, rfl⟩ := R
  refine au [7,2,0,7,5,3,0,3,0,4] h ?_; intro a w h
  obtain ⟨Hrra53, leHrra53, h, hsHrra53⟩ := h.frw 1 (hr56.mono fun cs y _ hr => hr) rfl (fun _ l cs y _ hr => hr)
  refine rgx [2] [_] [1] 9 mix h (fun a w h => ?_)
  refine au [8,0,0,0,2,6,8,1,4,5,2,6,8,2,0,0,2,6,8,3,0,0,2,6,8,4] h ?_; intro a w h
  refine sbr (depth - 1) (w64 (by omega) (by omega)) h fun a w h => ?_
  refine tk0 ?_
  refine bg2 5 7 true true h ?_ ?_
  ·have h := h.pull 1 rfl rfl
   have l_H_Hrra53 : LE H Hrra53 := ((leHq14.trans le50).trans le62).trans leHrra53
   refine clG bod42 (hw X (depth - 1) at50 _ _ _ _ _ _ _ _ _ E Hrra53 _ (hX.up le_) (by omega) (by omega) (by omega) (hl.up l_H_Hrra53) (SS.up hk62 leHrra53) (SS.up hc l_H_Hrra53) hsHrra53 (by omega) (by first | omega | (simp only [List.length_append, List.length_cons, List.length_nil]; omega) | exact Nat.le_trans (Nat.add_le_add_right (less_len _ _) _) (by omega)) (by first | omega | (simp only [List.length_append, List.length_cons, List.length_nil]; omega) | exact Nat.le_trans (Nat.add_le_add_right (less_len _ _) _) (by omega)) hcl) h (fun r70 H70 L70 a w le70 R h => ?_)
   obtain ⟨t70, at70, hwt70, ha70, hz70, ⟨A70, c70, rfl, hk70⟩, rfl⟩ := R
   refine br0 ?_
   refine bg2 6 7 false true h ?_ ?_
   ·have l_H50_H70 : LE H50 H70 := (le62.trans leHrra53).trans le70
    refine clG bod28 (two9_ok 5 (uvw[(b12 % 3)]) t50 t70 _ _ X E H70 _ (hX.up le_) ⟨A50, c50, rfl, (KX.up hk50 l_H50_H70)⟩ ⟨A70, c70, rfl, hk70⟩) h (fun r71 H71 L71 a w le71 R h => ?_)
    obtain ⟨⟨A71_0, c71_0, rfl, hk71_0⟩, rfl⟩ := R
    refine br0 ?_
    have l_Hrra53_H71 : LE Hrra53 H71 := le70.trans le71
    refine bg1 7 true h ?_
    refine al zr26 h fun g9 a w h => ?_
    refine br0 ?_
    refine bf1 8 ?_
    refine au [5,5,2,7] h ?_; intro a w h
    refine en (by kernel_rfl) ?_
    refine au [1,0,1,2,0,0,0,0,7,2,0,7,5,2,0,2,0,0,0,0,7,2,0,7,5,2,0,2,3,3] h ?_; intro a w h
    refine sw4 tN26 h fun a w h => ?_
    refine au [0,3,1,3] h ?_
    have h := h.pull 1 rfl rfl
    have h := h.pull 4 rfl rfl
    have h := h.pull 4 rfl rfl
    have h := h.pull 4 rfl rfl
    have h := h.pull 4 rfl rfl
    have l_H_H71 : LE H H71 := ((((leHq14.trans le50).trans le62).trans leHrra53).trans le70).trans le71
    exact fin (rs := [.cell 4 26]) (vs := [.agg #[_, _, _, _]]) h rfl (.agg (k0 := 3) tN26 rfl rfl rfl .nil) rfl l_H_H71 ⟨LE.rfl, h.st.drop 4⟩ ⟨.mk 5 (uvw[b12 % 3]) 0 [t50, t70], at70, .ltF (List.getElem_mem hj14) hwt50 hwt70, by omega, by omega, ⟨_, _, rfl, hk71_0⟩, rfl⟩
   ·refine al zr26 h fun g9 a w h => ?_
    refine br0 ?_
    refine bf1 6 ?_
    have l_H50_H70 : LE H50 H70 := (le62.trans leHrra53).trans le70
    refine clG bod28 (two9_ok 5 (uvw[(b12 % 3)]) t50 t70 _ _ X E H70 _ (hX.up le_) ⟨A50, c50, rfl, (KX.up hk50 l_H50_H70)⟩ ⟨A70, c70, rfl, hk70⟩) h (fun r71 H71 L71 a w le71 R h => ?_)
    obtain ⟨⟨A71_0, c71_0, rfl, hk71_0⟩, rfl⟩ := R
    refine br0 ?_
    have l_Hrra53_H71 : LE Hrra53 H71 := le70.trans le71
    refine bf1 8 ?_
    refine au [5,5,2,7] h ?_; intro a w h
    refine en (by kernel_rfl) ?_
    refine au [1,0,1,2,0,0,0,0,7,2,0,7,5,2,0,2,0,0,0,0,7,2,0,7,5,2,0,2,3,3] h ?_; intro a w h
    refine sw4 tN26 h fun a w h => ?_
    refine au [0,3,1,3] h ?_
    have h := h.pull 1 rfl rfl
    have h := h.pull 4 rfl rfl
    have h := h.pull 4 rfl rfl
    have h := h.pull 4 rfl rfl
    have h := h.pull 4 rfl rfl
    have l_H_H71 : LE H H71 := ((((leHq14.trans le50).trans le62).trans leHrra53).trans le70).trans le71
    exact fin (rs := [.cell 4 26]) (vs := [.agg #[_, _, _, _]]) h rfl (.agg (k0 := 3) tN26 rfl rfl rfl .nil) rfl l_H_H71 ⟨LE.rfl, h.st.drop 4⟩ ⟨.mk 5 (uvw[b12 % 3]) 0 [t50, t70], at70, .ltF (List.getElem_mem hj14) hwt50 hwt70, by omega, by omega, ⟨_, _, rfl, hk71_0⟩, rfl⟩
  ·refine al zr26 h fun g9 a w h => ?_
   refine br0 ?_
   refine bg1 5 true h ?_
   have h := h.pull 2 rfl rfl
   have l_H_Hrra53 : LE H Hrra53 := ((leHq14.trans le50).trans le62).trans leHrra53
   refine clG bod42 (hw X (depth - 1) at50 _ _ _ _ _ _ _ _ _ E Hrra53 _ (hX.up le_) (by omega) (by omega) (by omega) (hl.up l_H_Hrra53) (SS.up hk62 leHrra53) (SS.up hc l_H_Hrra53) hsHrra53 (by omega) (by first | omega | (simp only [List.length_append, List.length_cons, List.length_nil]; omega) | exact Nat.le_trans (Nat.add_le_add_right (less_len _ _) _) (by omega)) (by first | omega | (simp only [List.length_append, List.length_cons, List.length_nil]; omega) | exact Nat.le_trans (Nat.add_le_add_right (less_len _ _) _) (by omega)) hcl) h (fun r70 H70 L70 a w le70 R h => ?_)
   obtain ⟨t70, at70, hwt70, ha70, hz70, ⟨A70, c70, rfl, hk70⟩, rfl⟩ := R
   refine br0 ?_
   refine bf1 6 ?_
   have l_H50_H70 : LE H50 H70 := (le62.trans leHrra53).trans le70
   refine clG bod28 (two9_ok 5 (uvw[(b12 % 3)]) t50 t70 _ _ X E H70 _ (hX.up le_) ⟨A50, c50, rfl, (KX.up hk50 l_H50_H70)⟩ ⟨A70, c70, rfl, hk70⟩) h (fun r71 H71 L71 a w le71 R h => ?_)
   obtain ⟨⟨A71_0, c71_0, rfl, hk71_0⟩, rfl⟩ := R
   refine br0 ?_
   have l_Hrra53_H71 : LE Hrra53 H71 := le70.trans le71
   refine bf1 8 ?_
   refine au [5,6,2,7] h ?_; intro a w h
   refine en (by kernel_rfl) ?_
   refine au [1,0,1,2,0,0,0,0,7,2,0,7,5,1,0,2,0,0,0,0,7,2,0,7,5,1,0,2,3,4] h ?_; intro a w h
   refine sw4 tN26 h fun a w h => ?_
   refine au [0,3,1,3] h ?_
   have h := h.pull 4 rfl rfl
   have h := h.pull 4 rfl rfl
   have h := h.pull 4 rfl rfl
   have h := h.pull 4 rfl rfl
   have l_H_H71 : LE H H71 := ((((leHq14.trans le50).trans le62).trans leHrra53).trans le70).trans le71
   exact fin (rs := [.cell 4 26]) (vs := [.agg #[_, _, _, _]]) h rfl (.agg (k0 := 3) tN26 rfl rfl rfl .nil) rfl l_H_H71 ⟨LE.rfl, h.st.drop 4⟩ ⟨.mk 5 (uvw[b12 % 3]) 0 [t50, t70], at70, .ltF (List.getElem_mem hj14) hwt50 hwt70, by omega, by omega, ⟨_, _, rfl, hk71_0⟩, rfl⟩
theorem whole9_ok (l : List UInt8) (A : Option Addr) (c gm : Nat) (hb : l.length < 1000000000000) : ∀ d, Wh9 true (-1) 98 42 l A c gm d := by
 intro d
 induction d using Nat.strongRecOn with
 | _ d ih =>
 have hw : 0 < d → Wh9 true (-1) 98 42 l A c gm (d - 1) := fun h => ih (d - 1) (by omega)
 have hfn : 0 < d → Wh9 false (0) 97 41 l A c gm (d - 1) := fun h => fun9_ok l A c gm (d - 1) hb (ih (d - 1 - 1) (by omega))
 have hlt : 0 < d → Wh9 true (1) 98 85 l A c gm d := fun h => by have q := let9_ok l A c gm (d - 1) hb (hw h) (hfn h); rwa [Nat.sub_add_cancel h] at q
 have htr : 0 < d → Wh9 true (1) 98 86 l A c gm d := fun h => by have q := try9_ok l A c gm (d - 1) hb (hw h); rwa [Nat.sub_add_cancel h] at q
 clear ih
 intro X depth at_ li lc lf Ai Ac Af ci cc cf E H L hX hlo hd hd6 hl hi hc hf ha hil hfl hcl
 refine enter (N := 203) [(0, _), (1, _)] Tryz.func42 rfl rfl rfl rfl fun a w h => ?_
 refine au [1,2] h ?_
 refine al zr26 h fun g4 a w h => ?_
 refine au [0,2,0,0] h ?_; intro a w h
 have h := h.pull 1 rfl rfl
 refine cl bod40 (byte9_ok l A c gm at_ _ _ _ E H _ hl hb (by omega)) h (fun r7 H7 L7 a w le7 R h => ?_)
 obtain ⟨b7, at7, hb7, ha7, hz7, rfl, rfl, rfl⟩ := R
 refine rm b7 20 (by decide) h fun a w h => ?_
 refine au [0,6,0,3,0,4] h ?_; intro a w h
 refine sqc (fun a w => S E H 203 [] [(0, .pointer (some ⟨gm, 0, none⟩)), (1, .int .i64 depth), (4, .pointer (some ⟨g4, 0, none⟩)), (5, .int .i64 (((b7 % 20) : Nat) : Int)), (22, .bool ((decide (depth ≤ 0)) || (decide (((l.length : Int) : Int) ≤ (at7 : Int)))))] (.obj gm (.cells #[.slice A l.length c, .int .i64 (at7 : Int), .slice Ai li.length ci, .slice Ac lc.length cc, .slice Af lf.length cf] 117 (0, 0)) :: .obj g4 (.cells #[.int .i64 0, str [], .int .i64 0, .slice none 0 0] 26 (0, 0)) :: L) a w) ?_ ?_
 ·refine rgd [0] [_] [] [6, 10] 0 mix (by kernel_rfl) h (fun a w h => ?_)
  refine au [0,0,6,5] h ?_; intro a w h
  refine h.spl (fun c10 h => ?_) (fun c10 h => ?_)
  ·have d10 : depth ≤ 0 := cd_ c10
   refine au [0,0,0,1,0,1,0,1,0,1,0,1,0,1,0,1,0,1,0,1,0,1,4,8,0,3] h ?_; intro a w h
   exact (by show S _ _ _ _ _ _ _ _; rw [show (.bool ((decide (depth ≤ 0)) || (decide (((l.length : Int) : Int) ≤ (at7 : Int)))) : Value) = .bool true from Eq.symm (by first | ((try rw [c10]) <;> (try simp only [Bool.true_or, Bool.or_true, Bool.false_or, Bool.or_false, Bool.true_and, Bool.and_true, Bool.false_and, Bool.and_false, Bool.not_true, Bool.not_false, cond_true, cond_false]); done) | (exfalso; omega))]; exact h.to 0 _)
  ·have d10 : 0 < depth := cd_ c10
   refine au [0,0,0,0,7,2,0,7,4,2,0,0,7,2,0,7,4,2,6,0,6,7,5,0,0,3] h ?_; intro a w h
   exact (by show S _ _ _ _ _ _ _ _; rw [show (.bool ((decide (depth ≤ 0)) || (decide (((l.length : Int) : Int) ≤ (at7 : Int)))) : Value) = .bool (decide (((l.length : Int) : Int) ≤ (at7 : Int))) from Eq.symm (by first | ((try rw [c10]) <;> (try simp only [Bool.true_or, Bool.or_true, Bool.false_or, Bool.or_false, Bool.true_and, Bool.and_true, Bool.false_and, Bool.and_false, Bool.not_true, Bool.not_false, cond_true, cond_false]); done) | (exfalso; omega))]; exact h.to 0 _)
 ·rintro a w h
  refine thc (fun a w => ∃ (k : Nat), (k < 20 ∧ (depth ≤ 0 → k < 4)) ∧ S E H 203 [] [(0, .pointer (some ⟨gm, 0, none⟩)), (1, .int .i64 depth), (4, .pointer (some ⟨g4, 0, none⟩)), (5, .int .i64 (k : Int))] (.obj gm (.cells #[.slice A l.length c, .int .i64 (at7 : Int), .slice Ai li.length ci, .slice Ac lc.length cc, .slice Af lf.length cf] 117 (0, 0)) :: .obj g4 (.cells #[.int .i64 0, str [], .int .i64 0, .slice none 0 0] 26 (0, 0)) :: L) a w) ?_ ?_
  ·refine cdB h (fun c22 => ?_) (fun c22 => ?_)
   ·refine au [0,5,0,0] h ?_; intro a w h
    refine rm (b7 % 20) 4 (by decide) h fun a w h => ?_
    refine au [0,6,0,3] h ?_; intro a w h
    exact ⟨((b7 % 20) % 4), by (try simp at c22); omega, h.to 0 _⟩
   ·refine au [1,8,1,0] h ?_
    exact ⟨(b7 % 20), by (try simp at c22); omega, h.to 0 _⟩
  ·rintro a w ⟨k, hk, h⟩
   refine au [0,4,1,5,1,2,0,0,6,2,0,6,0,3] h ?_; intro a w h
   refine cdB h (fun c25 => ?_) (fun c25 => ?_)
   ·have d25 : k = 0 := cd_ c25
    refine au [1,2,0,0] h ?_; intro a w h
    refine cl bod40 (byte9_ok l A c gm at7 _ _ _ E H _ hl hb (by omega)) h (fun r29 H29 L29 a w le29 R h => ?_)
    obtain ⟨b29, at29, hb29, ha29, hz29, rfl, rfl, rfl⟩ := R
    refine rm b29 5 (by decide) h fun a w h => ?_
    refine au [7,5,5,6,0,3,1,3,1,6,1,4] h ?_; intro a w h
    have h := h.pull 1 rfl rfl
    exact fin (rs := [.cell 4 26]) (vs := [.agg #[_, _, _, _]]) h rfl (.agg (k0 := 0) tN26 rfl rfl rfl .nil) rfl LE.rfl ⟨LE.rfl, h.st.drop 1⟩ ⟨.mk 1 [] ((b29 % 5 : Nat) : Int) [], at29, .num _ (by omega), by omega, by omega, ⟨_, _, rfl, RS.nil _ _ _⟩, rfl⟩
   ·have d25 : k ≠ 0 := cd_ c25
    refine au [1,2,0,0,6,4,0,6,0,3] h ?_; intro a w h
    refine cdB h (fun c32 => ?_) (fun c32 => ?_)
    ·have d32 : k < 4 := cd_ c32
     refine au [1,2,0,0,0,0,7,2,0,7,0,8] h ?_; intro a w h
     refine cl bod84 (of9_ok l A c gm at7 _ _ _ _ _ _ X E H _ hl hb (by omega) hi (by omega)) h (fun r40 H40 L40 a w le40 R h => ?_)
     obtain ⟨t40, at40, hof40, ha40, hz40, ⟨A40, c40, rfl, hk40⟩, rfl⟩ := R
     refine au [5,6,0,3,1,3,1,6,1,4] h ?_; intro a w h
     have h := h.pull 1 rfl rfl
     exact fin (rs := [.cell 4 26]) (vs := [.agg #[_, _, _, _]]) h rfl (.agg (k0 := 0) tN26 rfl rfl rfl .nil) rfl le40 ⟨LE.rfl, h.st.drop 1⟩ ⟨t40, at40, of_int hof40, by omega, by omega, ⟨_, _, rfl, hk40⟩, rfl⟩
    ·have d32 : 4 ≤ k := cd_ c32
     have hz0 : 0 < d := by have := hk.2; omega
     have kw := fun (at2 : Nat) (H1 : GH) (L1 : List It) (q : LE H H1) (q2 : at2 ≤ l.length) => hw hz0 X (depth - 1) at2 li lc lf Ai Ac Af ci cc cf E H1 L1 (hX.up q) (by omega) (by omega) (by omega) (hl.up q) (hi.up q) (hc.up q) (hf.up q) q2 (by omega) (by omega) hcl
     have kf := fun (at2 : Nat) (H1 : GH) (L1 : List It) (q : LE H H1) (q2 : at2 ≤ l.length) => hfn hz0 X (depth - 1) at2 li lc lf Ai Ac Af ci cc cf E H1 L1 (hX.up q) (by omega) (by omega) (by omega) (hl.up q) (hi.up q) (hc.up q) (hf.up q) q2 (by omega) (by omega) hcl
     refine au [1,2,0,0,6,4,0,6,0,3] h ?_; intro a w h
     refine cdB h (fun c41 => ?_) (fun c41 => ?_)
     ·have d41 : k < 6 := cd_ c41
      refine sq ?_
      refine rgx [] [] [] 16 mix h (fun a w h => ?_)
      refine au [8,1,0,0,2,6,8,6,0,0,2,6,8,7,0,0,2,6,8,8] h ?_; intro a w h
      refine sbr (depth - 1) (w64 (by omega) (by omega)) h fun a w h => ?_
      refine au [2,6,8,10,0,0,2,6,8,11,0,0,2,6,8,12] h ?_; intro a w h
      refine sbr (depth - 1) (w64 (by omega) (by omega)) h fun a w h => ?_
      refine tk0 ?_
      refine bf2 0 2 ?_ ?_
      ·refine bsl bs54 h fun g44 a w h => ?_
       obtain ⟨Hl44, leHl44, h, hsHl44⟩ := h.fsl (R := RStr) (sz := 1) (ys := opsL) 0 (rstr_row opsL) (fun _ _ _ _ _ hr => hr)
       refine br0 ?_
       refine bf1 2 ?_
       refine clG bod40 (byte9_ok l A c gm at7 _ _ _ E Hl44 _ (hl.up leHl44) hb (by omega)) h (fun r46 H46 L46 a w le46 R h => ?_)
       obtain ⟨b46, at46, hb46, ha46, hz46, rfl, rfl, rfl⟩ := R
       refine au [2,7,8,3] h ?_
       refine rm b46 5 (by decide) h fun a w h => ?_
       refine au [2,6,8,4] h ?_
       have hj48 : (b46 % 5) < opsL.length := by show _ < 5; omega
       obtain ⟨g48, o48, e48, hc48⟩ := SS.get hsHl44 hj48
       refine iaE sli54 sz9 rfl hj48 e48 h fun a w h => ?_
       refine tk0 ?_
       refine bf2 5 9 ?_ ?_
       ·refine ldHB t1_9 (hc48) h fun a w h => ?_
        refine br0 ?_
        refine bf1 9 ?_
        refine clG bod42 (kw at46 _ _ le_ (by omega)) h (fun r53 H53 L53 a w le53 R h => ?_)
        obtain ⟨t53, at53, hwt53, ha53, hz53, ⟨A53, c53, rfl, hk53⟩, rfl⟩ := R
        refine br0 ?_
        refine bf1 13 ?_
        refine clG bod42 (kw at53 _ _ le_ (by omega)) h (fun r57 H57 L57 a w le57 R h => ?_)
        obtain ⟨t57, at57, hwt57, ha57, hz57, ⟨A57, c57, rfl, hk57⟩, rfl⟩ := R
        refine br0 ?_
        refine bf1 14 ?_
        refine clG bod28 (two9_ok 12 (opsL[(b46 % 5)]) t53 t57 _ _ X E H57 _ (hX.up le_) ⟨A53, c53, rfl, (KX.up hk53 le57)⟩ ⟨A57, c57, rfl, hk57⟩) h (fun r58 H58 L58 a w le58 R h => ?_)
        obtain ⟨⟨A58_0, c58_0, rfl, hk58_0⟩, rfl⟩ := R
        refine br0 ?_
        have l_H_H58 : LE H H58 := ((leHl44.trans le53).trans le57).trans le58
        refine bf1 15 ?_
        refine au [5,6,2,7] h ?_; intro a w h
        refine en (by kernel_rfl) ?_
        refine au [1,0,1,3,1,6,1,4] h ?_
        have h := h.pull 1 rfl rfl
        exact fin (rs := [.cell 4 26]) (vs := [.agg #[_, _, _, _]]) h rfl (.agg (k0 := 0) tN26 rfl rfl rfl .nil) rfl l_H_H58 ⟨LE.rfl, h.st.drop 1⟩ ⟨.mk 12 opsL[b46 % 5] 0 [t53, t57], at57, wt_up hz0 (.op (List.getElem_mem hj48) hwt53 hwt57), by omega, by omega, ⟨_, _, rfl, hk58_0⟩, rfl⟩
       ·refine clG bod42 (kw at46 _ _ le_ (by omega)) h (fun r53 H53 L53 a w le53 R h => ?_)
        obtain ⟨t53, at53, hwt53, ha53, hz53, ⟨A53, c53, rfl, hk53⟩, rfl⟩ := R
        refine br0 ?_
        refine bf2 5 13 ?_ ?_
        ·refine ldHB t1_9 ((hc48).mono le53) h fun a w h => ?_
         refine br0 ?_
         refine bf1 13 ?_
         refine clG bod42 (kw at53 _ _ le_ (by omega)) h (fun r57 H57 L57 a w le57 R h => ?_)
         obtain ⟨t57, at57, hwt57, ha57, hz57, ⟨A57, c57, rfl, hk57⟩, rfl⟩ := R
         refine br0 ?_
         refine bf1 14 ?_
         refine clG bod28 (two9_ok 12 (opsL[(b46 % 5)]) t53 t57 _ _ X E H57 _ (hX.up le_) ⟨A53, c53, rfl, (KX.up hk53 le57)⟩ ⟨A57, c57, rfl, hk57⟩) h (fun r58 H58 L58 a w le58 R h => ?_)
         obtain ⟨⟨A58_0, c58_0, rfl, hk58_0⟩, rfl⟩ := R
         refine br0 ?_
         have l_H_H58 : LE H H58 := ((leHl44.trans le53).trans le57).trans le58
         refine bf1 15 ?_
         refine au [5,6,2,7] h ?_; intro a w h
         refine en (by kernel_rfl) ?_
         refine au [1,0,1,3,1,6,1,4] h ?_
         have h := h.pull 1 rfl rfl
         exact fin (rs := [.cell 4 26]) (vs := [.agg #[_, _, _, _]]) h rfl (.agg (k0 := 0) tN26 rfl rfl rfl .nil) rfl l_H_H58 ⟨LE.rfl, h.st.drop 1⟩ ⟨.mk 12 opsL[b46 % 5] 0 [t53, t57], at57, wt_up hz0 (.op (List.getElem_mem hj48) hwt53 hwt57), by omega, by omega, ⟨_, _, rfl, hk58_0⟩, rfl⟩
        ·refine clG bod42 (kw at53 _ _ le_ (by omega)) h (fun r57 H57 L57 a w le57 R h => ?_)
         obtain ⟨t57, at57, hwt57, ha57, hz57, ⟨A57, c57, rfl, hk57⟩, rfl⟩ := R
         refine br0 ?_
         refine bf1 5 ?_
         have l_Hl44_H57 : LE Hl44 H57 := le53.trans le57
         refine ldHB t1_9 ((hc48).mono l_Hl44_H57) h fun a w h => ?_
         refine br0 ?_
         refine bf1 14 ?_
         refine clG bod28 (two9_ok 12 (opsL[(b46 % 5)]) t53 t57 _ _ X E H57 _ (hX.up le_) ⟨A53, c53, rfl, (KX.up hk53 le57)⟩ ⟨A57, c57, rfl, hk57⟩) h (fun r58 H58 L58 a w le58 R h => ?_)
         obtain ⟨⟨A58_0, c58_0, rfl, hk58_0⟩, rfl⟩ := R
         refine br0 ?_
         have l_H_H58 : LE H H58 := ((leHl44.trans le53).trans le57).trans le58
         refine bf1 15 ?_
         refine au [5,6,2,7] h ?_; intro a w h
         refine en (by kernel_rfl) ?_
         refine au [1,0,1,3,1,6,1,4] h ?_
         have h := h.pull 1 rfl rfl
         exact fin (rs := [.cell 4 26]) (vs := [.agg #[_, _, _, _]]) h rfl (.agg (k0 := 0) tN26 rfl rfl rfl .nil) rfl l_H_H58 ⟨LE.rfl, h.st.drop 1⟩ ⟨.mk 12 opsL[b46 % 5] 0 [t53, t57], at57, wt_up hz0 (.op (List.getElem_mem hj48) hwt53 hwt57), by omega, by omega, ⟨_, _, rfl, hk58_0⟩, rfl⟩
      ·refine clG bod40 (byte9_ok l A c gm at7 _ _ _ E H _ hl hb (by omega)) h (fun r46 H46 L46 a w le46 R h => ?_)
       obtain ⟨b46, at46, hb46, ha46, hz46, rfl, rfl, rfl⟩ := R
       refine au [2,7,8,3] h ?_
       refine rm b46 5 (by decide) h fun a w h => ?_
       refine tk0 ?_
       refine bf2 0 9 ?_ ?_
       ·refine bsl bs54 h fun g44 a w h => ?_
        obtain ⟨Hl44, leHl44, h, hsHl44⟩ := h.fsl (R := RStr) (sz := 1) (ys := opsL) 0 (rstr_row opsL) (fun _ _ _ _ _ hr => hr)
        refine au [2,7,8,4] h ?_
        have hj48 : (b46 % 5) < opsL.length := by show _ < 5; omega
        obtain ⟨g48, o48, e48, hc48⟩ := SS.get hsHl44 hj48
        refine iaE sli54 sz9 rfl hj48 e48 h fun a w h => ?_
        refine tk0 ?_
        refine bf2 5 9 ?_ ?_
        ·refine ldHB t1_9 (hc48) h fun a w h => ?_
         refine br0 ?_
         refine bf1 9 ?_
         refine clG bod42 (kw at46 _ _ le_ (by omega)) h (fun r53 H53 L53 a w le53 R h => ?_)
         obtain ⟨t53, at53, hwt53, ha53, hz53, ⟨A53, c53, rfl, hk53⟩, rfl⟩ := R
         refine br0 ?_
         refine bf1 13 ?_
         refine clG bod42 (kw at53 _ _ le_ (by omega)) h (fun r57 H57 L57 a w le57 R h => ?_)
         obtain ⟨t57, at57, hwt57, ha57, hz57, ⟨A57, c57, rfl, hk57⟩, rfl⟩ := R
         refine br0 ?_
         refine bf1 14 ?_
         refine clG bod28 (two9_ok 12 (opsL[(b46 % 5)]) t53 t57 _ _ X E H57 _ (hX.up le_) ⟨A53, c53, rfl, (KX.up hk53 le57)⟩ ⟨A57, c57, rfl, hk57⟩) h (fun r58 H58 L58 a w le58 R h => ?_)
         obtain ⟨⟨A58_0, c58_0, rfl, hk58_0⟩, rfl⟩ := R
         refine br0 ?_
         have l_H_H58 : LE H H58 := ((leHl44.trans le53).trans le57).trans le58
         refine bf1 15 ?_
         refine au [5,6,2,7] h ?_; intro a w h
         refine en (by kernel_rfl) ?_
         refine au [1,0,1,3,1,6,1,4] h ?_
         have h := h.pull 1 rfl rfl
         exact fin (rs := [.cell 4 26]) (vs := [.agg #[_, _, _, _]]) h rfl (.agg (k0 := 0) tN26 rfl rfl rfl .nil) rfl l_H_H58 ⟨LE.rfl, h.st.drop 1⟩ ⟨.mk 12 opsL[b46 % 5] 0 [t53, t57], at57, wt_up hz0 (.op (List.getElem_mem hj48) hwt53 hwt57), by omega, by omega, ⟨_, _, rfl, hk58_0⟩, rfl⟩
        ·refine clG bod42 (kw at46 _ _ le_ (by omega)) h (fun r53 H53 L53 a w le53 R h => ?_)
         obtain ⟨t53, at53, hwt53, ha53, hz53, ⟨A53, c53, rfl, hk53⟩, rfl⟩ := R
         refine br0 ?_
         refine bf2 5 13 ?_ ?_
         ·refine ldHB t1_9 ((hc48).mono le53) h fun a w h => ?_
          refine br0 ?_
          refine bf1 13 ?_
          refine clG bod42 (kw at53 _ _ le_ (by omega)) h (fun r57 H57 L57 a w le57 R h => ?_)
          obtain ⟨t57, at57, hwt57, ha57, hz57, ⟨A57, c57, rfl, hk57⟩, rfl⟩ := R
          refine br0 ?_
          refine bf1 14 ?_
          refine clG bod28 (two9_ok 12 (opsL[(b46 % 5)]) t53 t57 _ _ X E H57 _ (hX.up le_) ⟨A53, c53, rfl, (KX.up hk53 le57)⟩ ⟨A57, c57, rfl, hk57⟩) h (fun r58 H58 L58 a w le58 R h => ?_)
          obtain ⟨⟨A58_0, c58_0, rfl, hk58_0⟩, rfl⟩ := R
          refine br0 ?_
          have l_H_H58 : LE H H58 := ((leHl44.trans le53).trans le57).trans le58
          refine bf1 15 ?_
          refine au [5,6,2,7] h ?_; intro a w h
          refine en (by kernel_rfl) ?_
          refine au [1,0,1,3,1,6,1,4] h ?_
          have h := h.pull 1 rfl rfl
          exact fin (rs := [.cell 4 26]) (vs := [.agg #[_, _, _, _]]) h rfl (.agg (k0 := 0) tN26 rfl rfl rfl .nil) rfl l_H_H58 ⟨LE.rfl, h.st.drop 1⟩ ⟨.mk 12 opsL[b46 % 5] 0 [t53, t57], at57, wt_up hz0 (.op (List.getElem_mem hj48) hwt53 hwt57), by omega, by omega, ⟨_, _, rfl, hk58_0⟩, rfl⟩
         ·refine clG bod42 (kw at53 _ _ le_ (by omega)) h (fun r57 H57 L57 a w le57 R h => ?_)
          obtain ⟨t57, at57, hwt57, ha57, hz57, ⟨A57, c57, rfl, hk57⟩, rfl⟩ := R
          refine br0 ?_
          refine bf1 5 ?_
          have l_Hl44_H57 : LE Hl44 H57 := le53.trans le57
          refine ldHB t1_9 ((hc48).mono l_Hl44_H57) h fun a w h => ?_
          refine br0 ?_
          refine bf1 14 ?_
          refine clG bod28 (two9_ok 12 (opsL[(b46 % 5)]) t53 t57 _ _ X E H57 _ (hX.up le_) ⟨A53, c53, rfl, (KX.up hk53 le57)⟩ ⟨A57, c57, rfl, hk57⟩) h (fun r58 H58 L58 a w le58 R h => ?_)
          obtain ⟨⟨A58_0, c58_0, rfl, hk58_0⟩, rfl⟩ := R
          refine br0 ?_
          have l_H_H58 : LE H H58 := ((leHl44.trans le53).trans le57).trans le58
          refine bf1 15 ?_
          refine au [5,6,2,7] h ?_; intro a w h
          refine en (by kernel_rfl) ?_
          refine au [1,0,1,3,1,6,1,4] h ?_
          have h := h.pull 1 rfl rfl
          exact fin (rs := [.cell 4 26]) (vs := [.agg #[_, _, _, _]]) h rfl (.agg (k0 := 0) tN26 rfl rfl rfl .nil) rfl l_H_H58 ⟨LE.rfl, h.st.drop 1⟩ ⟨.mk 12 opsL[b46 % 5] 0 [t53, t57], at57, wt_up hz0 (.op (List.getElem_mem hj48) hwt53 hwt57), by omega, by omega, ⟨_, _, rfl, hk58_0⟩, rfl⟩
       ·refine clG bod42 (kw at46 _ _ le_ (by omega)) h (fun r53 H53 L53 a w le53 R h => ?_)
        obtain ⟨t53, at53, hwt53, ha53, hz53, ⟨A53, c53, rfl, hk53⟩, rfl⟩ := R
        refine br0 ?_
        refine bf2 0 13 ?_ ?_
        ·refine bsl bs54 h fun g44 a w h => ?_
         obtain ⟨Hl44, leHl44, h, hsHl44⟩ := h.fsl (R := RStr) (sz := 1) (ys := opsL) 0 (rstr_row opsL) (fun _ _ _ _ _ hr => hr)
         refine au [2,7,8,4] h ?_
         have hj48 : (b46 % 5) < opsL.length := by show _ < 5; omega
         obtain ⟨g48, o48, e48, hc48⟩ := SS.get hsHl44 hj48
         refine iaE sli54 sz9 rfl hj48 e48 h fun a w h => ?_
         refine tk0 ?_
         refine bf2 5 13 ?_ ?_
         ·refine ldHB t1_9 (hc48) h fun a w h => ?_
          refine br0 ?_
          refine bf1 13 ?_
          refine clG bod42 (kw at53 _ _ le_ (by omega)) h (fun r57 H57 L57 a w le57 R h => ?_)
          obtain ⟨t57, at57, hwt57, ha57, hz57, ⟨A57, c57, rfl, hk57⟩, rfl⟩ := R
          refine br0 ?_
          refine bf1 14 ?_
          have l_H53_H57 : LE H53 H57 := leHl44.trans le57
          refine clG bod28 (two9_ok 12 (opsL[(b46 % 5)]) t53 t57 _ _ X E H57 _ (hX.up le_) ⟨A53, c53, rfl, (KX.up hk53 l_H53_H57)⟩ ⟨A57, c57, rfl, hk57⟩) h (fun r58 H58 L58 a w le58 R h => ?_)
          obtain ⟨⟨A58_0, c58_0, rfl, hk58_0⟩, rfl⟩ := R
          refine br0 ?_
          have l_H_H58 : LE H H58 := ((le53.trans leHl44).trans le57).trans le58
          refine bf1 15 ?_
          refine au [5,6,2,7] h ?_; intro a w h
          refine en (by kernel_rfl) ?_
          refine au [1,0,1,3,1,6,1,4] h ?_
          have h := h.pull 1 rfl rfl
          exact fin (rs := [.cell 4 26]) (vs := [.agg #[_, _, _, _]]) h rfl (.agg (k0 := 0) tN26 rfl rfl rfl .nil) rfl l_H_H58 ⟨LE.rfl, h.st.drop 1⟩ ⟨.mk 12 opsL[b46 % 5] 0 [t53, t57], at57, wt_up hz0 (.op (List.getElem_mem hj48) hwt53 hwt57), by omega, by omega, ⟨_, _, rfl, hk58_0⟩, rfl⟩
         ·refine clG bod42 (kw at53 _ _ le_ (by omega)) h (fun r57 H57 L57 a w le57 R h => ?_)
          obtain ⟨t57, at57, hwt57, ha57, hz57, ⟨A57, c57, rfl, hk57⟩, rfl⟩ := R
          refine br0 ?_
          refine bf1 5 ?_
          refine ldHB t1_9 ((hc48).mono le57) h fun a w h => ?_
          refine br0 ?_
          refine bf1 14 ?_
          have l_H53_H57 : LE H53 H57 := leHl44.trans le57
          refine clG bod28 (two9_ok 12 (opsL[(b46 % 5)]) t53 t57 _ _ X E H57 _ (hX.up le_) ⟨A53, c53, rfl, (KX.up hk53 l_H53_H57)⟩ ⟨A57, c57, rfl, hk57⟩) h (fun r58 H58 L58 a w le58 R h => ?_)
          obtain ⟨⟨A58_0, c58_0, rfl, hk58_0⟩, rfl⟩ := R
          refine br0 ?_
          have l_H_H58 : LE H H58 := ((le53.trans leHl44).trans le57).trans le58
          refine bf1 15 ?_
          refine au [5,6,2,7] h ?_; intro a w h
          refine en (by kernel_rfl) ?_
          refine au [1,0,1,3,1,6,1,4] h ?_
          have h := h.pull 1 rfl rfl
          exact fin (rs := [.cell 4 26]) (vs := [.agg #[_, _, _, _]]) h rfl (.agg (k0 := 0) tN26 rfl rfl rfl .nil) rfl l_H_H58 ⟨LE.rfl, h.st.drop 1⟩ ⟨.mk 12 opsL[b46 % 5] 0 [t53, t57], at57, wt_up hz0 (.op (List.getElem_mem hj48) hwt53 hwt57), by omega, by omega, ⟨_, _, rfl, hk58_0⟩, rfl⟩
        ·refine clG bod42 (kw at53 _ _ le_ (by omega)) h (fun r57 H57 L57 a w le57 R h => ?_)
         obtain ⟨t57, at57, hwt57, ha57, hz57, ⟨A57, c57, rfl, hk57⟩, rfl⟩ := R
         refine br0 ?_
         have l_H_H57 : LE H H57 := le53.trans le57
         refine bf1 0 ?_
         refine bsl bs54 h fun g44 a w h => ?_
         obtain ⟨Hl44, leHl44, h, hsHl44⟩ := h.fsl (R := RStr) (sz := 1) (ys := opsL) 0 (rstr_row opsL) (fun _ _ _ _ _ hr => hr)
         refine au [2,7,8,4] h ?_
         have hj48 : (b46 % 5) < opsL.length := by show _ < 5; omega
         obtain ⟨g48, o48, e48, hc48⟩ := SS.get hsHl44 hj48
         refine iaE sli54 sz9 rfl hj48 e48 h fun a w h => ?_
         refine tk0 ?_
         refine bf1 5 ?_
         refine ldHB t1_9 (hc48) h fun a w h => ?_
         refine br0 ?_
         refine bf1 14 ?_
         have l_H53_Hl44 : LE H53 Hl44 := le57.trans leHl44
         refine clG bod28 (two9_ok 12 (opsL[(b46 % 5)]) t53 t57 _ _ X E Hl44 _ (hX.up le_) ⟨A53, c53, rfl, (KX.up hk53 l_H53_Hl44)⟩ ⟨A57, c57, rfl, (KX.up hk57 leHl44)⟩) h (fun r58 H58 L58 a w le58 R h => ?_)
         obtain ⟨⟨A58_0, c58_0, rfl, hk58_0⟩, rfl⟩ := R
         refine br0 ?_
         have l_H_H58 : LE H H58 := ((le53.trans le57).trans leHl44).trans le58
         refine bf1 15 ?_
         refine au [5,6,2,7] h ?_; intro a w h
         refine en (by kernel_rfl) ?_
         refine au [1,0,1,3,1,6,1,4] h ?_
         have h := h.pull 1 rfl rfl
         exact fin (rs := [.cell 4 26]) (vs := [.agg #[_, _, _, _]]) h rfl (.agg (k0 := 0) tN26 rfl rfl rfl .nil) rfl l_H_H58 ⟨LE.rfl, h.st.drop 1⟩ ⟨.mk 12 opsL[b46 % 5] 0 [t53, t57], at57, wt_up hz0 (.op (List.getElem_mem hj48) hwt53 hwt57), by omega, by omega, ⟨_, _, rfl, hk58_0⟩, rfl⟩
     ·have d41 : 6 ≤ k := cd_ c41
      refine sqc (fun a w => S E H 203 [] [(0, .pointer (some ⟨gm, 0, none⟩)), (1, .int .i64 depth), (4, .pointer (some ⟨g4, 0, none⟩)), (5, .int .i64 (k : Int)), (59, .bool ((((k : Int) : Int) == 6) || (((k : Int) : Int) == 7)))] (.obj gm (.cells #[.slice A l.length c, .int .i64 (at7 : Int), .slice Ai li.length ci, .slice Ac lc.length cc, .slice Af lf.length cf] 117 (0, 0)) :: .obj g4 (.cells #[.int .i64 0, str [], .int .i64 0, .slice none 0 0] 26 (0, 0)) :: L) a w) ?_ ?_
      ·refine au [0,5,0,0,6,2] h ?_; intro a w h
       refine h.spl (fun c61 h => ?_) (fun c61 h => ?_)
       ·have d61 : k = 6 := cd_ c61
        refine au [0,0,0,1,0,1,4,8,0,6,0,3] h ?_; intro a w h
        exact (by show S _ _ _ _ _ _ _ _; rw [show (.bool ((((k : Int) : Int) == 6) || (((k : Int) : Int) == 7)) : Value) = .bool true from Eq.symm (by first | ((try rw [c61]) <;> (try simp only [Bool.true_or, Bool.or_true, Bool.false_or, Bool.or_false, Bool.true_and, Bool.and_true, Bool.false_and, Bool.and_false, Bool.not_true, Bool.not_false, cond_true, cond_false]); done) | (exfalso; omega))]; exact h.to 0 _)
       ·have d61 : k ≠ 6 := cd_ c61
        refine au [0,0,0,0,6,2,5,0,0,6,0,3] h ?_; intro a w h
        exact (by show S _ _ _ _ _ _ _ _; rw [show (.bool ((((k : Int) : Int) == 6) || (((k : Int) : Int) == 7)) : Value) = .bool (((k : Int) : Int) == 7) from Eq.symm (by first | ((try rw [c61]) <;> (try simp only [Bool.true_or, Bool.or_true, Bool.false_or, Bool.or_false, Bool.true_and, Bool.and_true, Bool.false_and, Bool.and_false, Bool.not_true, Bool.not_false, cond_true, cond_false]); done) | (exfalso; omega))]; exact h.to 0 _)
      ·rintro a w h
       refine cdB h (fun c59 => ?_) (fun c59 => ?_)
       ·refine au [1,2,0,0,0,0] h ?_; intro a w h
        refine sbr (depth - 1) (w64 (by omega) (by omega)) h fun a w h => ?_
        refine cl bod42 (kw at7 _ _ le_ (by omega)) h (fun r69 H69 L69 a w le69 R h => ?_)
        obtain ⟨t69, at69, hwt69, ha69, hz69, ⟨A69, c69, rfl, hk69⟩, rfl⟩ := R
        refine au [0,0,0,0] h ?_; intro a w h
        refine sbr (depth - 1) (w64 (by omega) (by omega)) h fun a w h => ?_
        refine cl bod42 (kw at69 _ _ le_ (by omega)) h (fun r73 H73 L73 a w le73 R h => ?_)
        obtain ⟨t73, at73, hwt73, ha73, hz73, ⟨A73, c73, rfl, hk73⟩, rfl⟩ := R
        refine au [0,0,0,0] h ?_; intro a w h
        refine sbr (depth - 1) (w64 (by omega) (by omega)) h fun a w h => ?_
        refine cl bod42 (kw at73 _ _ le_ (by omega)) h (fun r77 H77 L77 a w le77 R h => ?_)
        obtain ⟨t77, at77, hwt77, ha77, hz77, ⟨A77, c77, rfl, hk77⟩, rfl⟩ := R
        refine bsl bs24 h fun g78 a w h => ?_
        have l_H69_H77 : LE H69 H77 := le73.trans le77
        obtain ⟨Hq78, leHq78, h, hsHq78⟩ := h.fslX (ys := [t69, t73, t77]) (hX.up le_) 0 (RowR.cons rfl (rt_of_vt (cs := [_, _, _, _]) ⟨_, _, rfl, (KX.up hk69 l_H69_H77)⟩) (RowR.cons rfl (rt_of_vt (cs := [_, _, _, _]) ⟨_, _, rfl, (KX.up hk73 le77)⟩) (RowR.one rfl (rt_of_vt (cs := [_, _, _, _]) ⟨_, _, rfl, hk77⟩))))
        refine au [7,5,5,6,0,3,1,3,1,6,1,4] h ?_; intro a w h
        have h := h.pull 1 rfl rfl
        have l_H_Hq78 : LE H Hq78 := ((le69.trans le73).trans le77).trans leHq78
        exact fin (rs := [.cell 4 26]) (vs := [.agg #[_, _, _, _]]) h rfl (.agg (k0 := 0) tN26 rfl rfl rfl .nil) rfl l_H_Hq78 ⟨LE.rfl, h.st.drop 1⟩ ⟨.mk 6 [] 0 [t69, t73, t77], at77, wt_up hz0 (.ite hwt69 hwt73 hwt77), by omega, by omega, ⟨_, _, rfl, hsHq78⟩, rfl⟩
       ·refine au [1,2,0,0,6,4,0,6,0,3] h ?_; intro a w h
        refine cdB h (fun c80 => ?_) (fun c80 => ?_)
        ·have d80 : k < 10 := cd_ c80
         refine au [1,2,0,0,0,0] h ?_; intro a w h
         refine cl bod85 (hlt hz0 X depth at7 _ _ _ _ _ _ _ _ _ E H _ (hX.up le_) (by omega) (by omega) (by omega) hl hi hc hf (by omega) (by first | omega | (simp only [List.length_append, List.length_cons, List.length_nil]; omega) | exact Nat.le_trans (Nat.add_le_add_right (less_len _ _) _) (by omega)) (by first | omega | (simp only [List.length_append, List.length_cons, List.length_nil]; omega) | exact Nat.le_trans (Nat.add_le_add_right (less_len _ _) _) (by omega)) hcl) h (fun r85 H85 L85 a w le85 R h => ?_)
         obtain ⟨t85, at85, hwt85, ha85, hz85, ⟨A85, c85, rfl, hk85⟩, rfl⟩ := R
         refine au [5,6,0,3,1,3,1,6,1,4] h ?_; intro a w h
         have h := h.pull 1 rfl rfl
         exact fin (rs := [.cell 4 26]) (vs := [.agg #[_, _, _, _]]) h rfl (.agg (k0 := 0) tN26 rfl rfl rfl .nil) rfl le85 ⟨LE.rfl, h.st.drop 1⟩ ⟨t85, at85, hwt85, by omega, by omega, ⟨_, _, rfl, hk85⟩, rfl⟩
        ·have d80 : 10 ≤ k := cd_ c80
         refine sqc (fun a w => S E H 203 [] [(0, .pointer (some ⟨gm, 0, none⟩)), (1, .int .i64 depth), (4, .pointer (some ⟨g4, 0, none⟩)), (5, .int .i64 (k : Int)), (86, .bool ((((k : Int) : Int) == 10) && (decide ((0 : Int) < (lc.length : Int)))))] (.obj gm (.cells #[.slice A l.length c, .int .i64 (at7 : Int), .slice Ai li.length ci, .slice Ac lc.length cc, .slice Af lf.length cf] 117 (0, 0)) :: .obj g4 (.cells #[.int .i64 0, str [], .int .i64 0, .slice none 0 0] 26 (0, 0)) :: L) a w) ?_ ?_
         ·refine au [0,5,0,0,6,2] h ?_; intro a w h
          refine h.spl (fun c88 h => ?_) (fun c88 h => ?_)
          ·have d88 : k = 10 := cd_ c88
           refine au [0,0,0,0,7,2,0,7,0,8,6,0,6,6,4,8,0,6,0,3] h ?_; intro a w h
           exact (by show S _ _ _ _ _ _ _ _; rw [show (.bool ((((k : Int) : Int) == 10) && (decide ((0 : Int) < (lc.length : Int)))) : Value) = .bool (decide ((0 : Int) < (lc.length : Int))) from Eq.symm (by first | ((try rw [c88]) <;> (try simp only [Bool.true_or, Bool.or_true, Bool.false_or, Bool.or_false, Bool.true_and, Bool.and_true, Bool.false_and, Bool.and_false, Bool.not_true, Bool.not_false, cond_true, cond_false]); done) | (exfalso; omega))]; exact h.to 0 _)
          ·have d88 : k ≠ 10 := cd_ c88
           refine au [0,0,0,1,0,1,0,1,0,1,0,1,0,1,5,0,0,6,0,3] h ?_; intro a w h
           exact (by show S _ _ _ _ _ _ _ _; rw [show (.bool ((((k : Int) : Int) == 10) && (decide ((0 : Int) < (lc.length : Int)))) : Value) = .bool false from Eq.symm (by first | ((try rw [c88]) <;> (try simp only [Bool.true_or, Bool.or_true, Bool.false_or, Bool.or_false, Bool.true_and, Bool.and_true, Bool.false_and, Bool.and_false, Bool.not_true, Bool.not_false, cond_true, cond_false]); done) | (exfalso; omega))]; exact h.to 0 _)
         ·rintro a w h
          refine cdB h (fun c86 => ?_) (fun c86 => ?_)
          ·refine au [1,2,0,0,0,0,7,2,0,7,0,8] h ?_; intro a w h
           refine cl bod84 (of9_ok l A c gm at7 _ _ _ _ _ _ X E H _ hl hb (by omega) hc (by omega)) h (fun r102 H102 L102 a w le102 R h => ?_)
           obtain ⟨t102, at102, hof102, ha102, hz102, ⟨A102, c102, rfl, hk102⟩, rfl⟩ := R
           refine bsl bs24 h fun g103 a w h => ?_
           obtain ⟨Hq103, leHq103, h, hsHq103⟩ := h.fslX (ys := [t102]) (hX.up le_) 0 (RowR.one rfl (rt_of_vt (cs := [_, _, _, _]) ⟨_, _, rfl, hk102⟩))
           refine au [7,5,5,6,0,3,1,3,1,6,1,4] h ?_; intro a w h
           have h := h.pull 1 rfl rfl
           have l_H_Hq103 : LE H Hq103 := le102.trans leHq103
           exact fin (rs := [.cell 4 26]) (vs := [.agg #[_, _, _, _]]) h rfl (.agg (k0 := 0) tN26 rfl rfl rfl .nil) rfl l_H_Hq103 ⟨LE.rfl, h.st.drop 1⟩ ⟨.mk 10 [] 0 [t102], at102, wt_up hz0 (of_get hof102 (by simp at c86; omega)), by omega, by omega, ⟨_, _, rfl, hsHq103⟩, rfl⟩
          ·refine sqc (fun a w => S E H 203 [] [(0, .pointer (some ⟨gm, 0, none⟩)), (1, .int .i64 depth), (4, .pointer (some ⟨g4, 0, none⟩)), (5, .int .i64 (k : Int)), (105, .bool ((decide (((k : Int) : Int) < 13)) && (decide ((0 : Int) < (lc.length : Int)))))] (.obj gm (.cells #[.slice A l.length c, .int .i64 (at7 : Int), .slice Ai li.length ci, .slice Ac lc.length cc, .slice Af lf.length cf] 117 (0, 0)) :: .obj g4 (.cells #[.int .i64 0, str [], .int .i64 0, .slice none 0 0] 26 (0, 0)) :: L) a w) ?_ ?_
           ·refine au [0,5,0,0,6,4] h ?_; intro a w h
            refine h.spl (fun c107 h => ?_) (fun c107 h => ?_)
            ·have d107 : k < 13 := cd_ c107
             refine au [0,0,0,0,7,2,0,7,0,8,6,0,6,6,4,8,0,6,0,3] h ?_; intro a w h
             exact (by show S _ _ _ _ _ _ _ _; rw [show (.bool ((decide (((k : Int) : Int) < 13)) && (decide ((0 : Int) < (lc.length : Int)))) : Value) = .bool (decide ((0 : Int) < (lc.length : Int))) from Eq.symm (by first | ((try rw [c107]) <;> (try simp only [Bool.true_or, Bool.or_true, Bool.false_or, Bool.or_false, Bool.true_and, Bool.and_true, Bool.false_and, Bool.and_false, Bool.not_true, Bool.not_false, cond_true, cond_false]); done) | (exfalso; omega))]; exact h.to 0 _)
            ·have d107 : 13 ≤ k := cd_ c107
             refine au [0,0,0,1,0,1,0,1,0,1,0,1,0,1,5,0,0,6,0,3] h ?_; intro a w h
             exact (by show S _ _ _ _ _ _ _ _; rw [show (.bool ((decide (((k : Int) : Int) < 13)) && (decide ((0 : Int) < (lc.length : Int)))) : Value) = .bool false from Eq.symm (by first | ((try rw [c107]) <;> (try simp only [Bool.true_or, Bool.or_true, Bool.false_or, Bool.or_false, Bool.true_and, Bool.and_true, Bool.false_and, Bool.and_false, Bool.not_true, Bool.not_false, cond_true, cond_false]); done) | (exfalso; omega))]; exact h.to 0 _)
           ·rintro a w h
            refine cdB h (fun c105 => ?_) (fun c105 => ?_)
            ·refine au [1,2,0,0,0,0,7,2,0,7,0,8] h ?_; intro a w h
             refine cl bod84 (of9_ok l A c gm at7 _ _ _ _ _ _ X E H _ hl hb (by omega) hc (by omega)) h (fun r121 H121 L121 a w le121 R h => ?_)
             obtain ⟨t121, at121, hof121, ha121, hz121, ⟨A121, c121, rfl, hk121⟩, rfl⟩ := R
             refine au [0,0,0,0] h ?_; intro a w h
             refine sbr (depth - 1) (w64 (by omega) (by omega)) h fun a w h => ?_
             refine cl bod42 (kw at121 _ _ le_ (by omega)) h (fun r125 H125 L125 a w le125 R h => ?_)
             obtain ⟨t125, at125, hwt125, ha125, hz125, ⟨A125, c125, rfl, hk125⟩, rfl⟩ := R
             refine cl bod28 (two9_ok 11 [] t121 t125 _ _ X E H125 _ (hX.up le_) ⟨A121, c121, rfl, (KX.up hk121 le125)⟩ ⟨A125, c125, rfl, hk125⟩) h (fun r126 H126 L126 a w le126 R h => ?_)
             obtain ⟨⟨A126_0, c126_0, rfl, hk126_0⟩, rfl⟩ := R
             refine au [5,6,0,3,1,3,1,6,1,4] h ?_; intro a w h
             have h := h.pull 1 rfl rfl
             have l_H_H126 : LE H H126 := (le121.trans le125).trans le126
             exact fin (rs := [.cell 4 26]) (vs := [.agg #[_, _, _, _]]) h rfl (.agg (k0 := 0) tN26 rfl rfl rfl .nil) rfl l_H_H126 ⟨LE.rfl, h.st.drop 1⟩ ⟨.mk 11 [] 0 [t121, t125], at125, wt_up hz0 (of_set hof121 (by simp at c105; omega) hwt125), by omega, by omega, ⟨_, _, rfl, hk126_0⟩, rfl⟩
            ·refine au [1,2,0,0,6,4,0,6,0,3] h ?_; intro a w h
             refine cdB h (fun c127 => ?_) (fun c127 => ?_)
             ·have d127 : k < 15 := cd_ c127
              refine au [1,2,0,0,0,0] h ?_; intro a w h
              refine sbr (depth - 1) (w64 (by omega) (by omega)) h fun a w h => ?_
              refine cl bod42 (kw at7 _ _ le_ (by omega)) h (fun r133 H133 L133 a w le133 R h => ?_)
              obtain ⟨t133, at133, hwt133, ha133, hz133, ⟨A133, c133, rfl, hk133⟩, rfl⟩ := R
              refine au [0,0,0,0] h ?_; intro a w h
              refine sbr (depth - 1) (w64 (by omega) (by omega)) h fun a w h => ?_
              refine cl bod42 (kw at133 _ _ le_ (by omega)) h (fun r137 H137 L137 a w le137 R h => ?_)
              obtain ⟨t137, at137, hwt137, ha137, hz137, ⟨A137, c137, rfl, hk137⟩, rfl⟩ := R
              refine cl bod28 (two9_ok 13 [] t133 t137 _ _ X E H137 _ (hX.up le_) ⟨A133, c133, rfl, (KX.up hk133 le137)⟩ ⟨A137, c137, rfl, hk137⟩) h (fun r138 H138 L138 a w le138 R h => ?_)
              obtain ⟨⟨A138_0, c138_0, rfl, hk138_0⟩, rfl⟩ := R
              refine au [5,6,0,3,1,3,1,6,1,4] h ?_; intro a w h
              have h := h.pull 1 rfl rfl
              have l_H_H138 : LE H H138 := (le133.trans le137).trans le138
              exact fin (rs := [.cell 4 26]) (vs := [.agg #[_, _, _, _]]) h rfl (.agg (k0 := 0) tN26 rfl rfl rfl .nil) rfl l_H_H138 ⟨LE.rfl, h.st.drop 1⟩ ⟨.mk 13 [] 0 [t133, t137], at137, wt_up hz0 (.seq hwt133 hwt137), by omega, by omega, ⟨_, _, rfl, hk138_0⟩, rfl⟩
             ·have d127 : 15 ≤ k := cd_ c127
              refine au [1,2,0,0,6,2,0,6,0,3] h ?_; intro a w h
              refine cdB h (fun c139 => ?_) (fun c139 => ?_)
              ·have d139 : k = 15 := cd_ c139
               refine au [1,2,0,0,0,0] h ?_; intro a w h
               refine sbr (depth - 1) (w64 (by omega) (by omega)) h fun a w h => ?_
               refine cl bod42 (kw at7 _ _ le_ (by omega)) h (fun r145 H145 L145 a w le145 R h => ?_)
               obtain ⟨t145, at145, hwt145, ha145, hz145, ⟨A145, c145, rfl, hk145⟩, rfl⟩ := R
               refine bsl bs24 h fun g146 a w h => ?_
               obtain ⟨Hq146, leHq146, h, hsHq146⟩ := h.fslX (ys := [t145]) (hX.up le_) 0 (RowR.one rfl (rt_of_vt (cs := [_, _, _, _]) ⟨_, _, rfl, hk145⟩))
               refine au [7,5,5,6,0,3,1,3,1,6,1,4] h ?_; intro a w h
               have h := h.pull 1 rfl rfl
               have l_H_Hq146 : LE H Hq146 := le145.trans leHq146
               exact fin (rs := [.cell 4 26]) (vs := [.agg #[_, _, _, _]]) h rfl (.agg (k0 := 0) tN26 rfl rfl rfl .nil) rfl l_H_Hq146 ⟨LE.rfl, h.st.drop 1⟩ ⟨.mk 8 [] 0 [t145], at145, wt_up hz0 (.rse hwt145), by omega, by omega, ⟨_, _, rfl, hsHq146⟩, rfl⟩
              ·have d139 : k ≠ 15 := cd_ c139
               refine au [1,2,0,0,6,2,0,6,0,3] h ?_; intro a w h
               refine cdB h (fun c148 => ?_) (fun c148 => ?_)
               ·have d148 : k = 16 := cd_ c148
                refine au [1,2,0,0,0,0] h ?_; intro a w h
                refine cl bod86 (htr hz0 X depth at7 _ _ _ _ _ _ _ _ _ E H _ (hX.up le_) (by omega) (by omega) (by omega) hl hi hc hf (by omega) (by first | omega | (simp only [List.length_append, List.length_cons, List.length_nil]; omega) | exact Nat.le_trans (Nat.add_le_add_right (less_len _ _) _) (by omega)) (by first | omega | (simp only [List.length_append, List.length_cons, List.length_nil]; omega) | exact Nat.le_trans (Nat.add_le_add_right (less_len _ _) _) (by omega)) hcl) h (fun r153 H153 L153 a w le153 R h => ?_)
                obtain ⟨t153, at153, hwt153, ha153, hz153, ⟨A153, c153, rfl, hk153⟩, rfl⟩ := R
                refine au [5,6,0,3,1,3,1,6,1,4] h ?_; intro a w h
                have h := h.pull 1 rfl rfl
                exact fin (rs := [.cell 4 26]) (vs := [.agg #[_, _, _, _]]) h rfl (.agg (k0 := 0) tN26 rfl rfl rfl .nil) rfl le153 ⟨LE.rfl, h.st.drop 1⟩ ⟨t153, at153, hwt153, by omega, by omega, ⟨_, _, rfl, hk153⟩, rfl⟩
               ·have d148 : k ≠ 16 := cd_ c148
                refine sqc (fun a w => S E H 203 [] [(0, .pointer (some ⟨gm, 0, none⟩)), (1, .int .i64 depth), (4, .pointer (some ⟨g4, 0, none⟩)), (5, .int .i64 (k : Int)), (154, .bool ((decide (((k : Int) : Int) < 19)) && (decide ((0 : Int) < (lf.length : Int)))))] (.obj gm (.cells #[.slice A l.length c, .int .i64 (at7 : Int), .slice Ai li.length ci, .slice Ac lc.length cc, .slice Af lf.length cf] 117 (0, 0)) :: .obj g4 (.cells #[.int .i64 0, str [], .int .i64 0, .slice none 0 0] 26 (0, 0)) :: L) a w) ?_ ?_
                ·refine au [0,5,0,0,6,4] h ?_; intro a w h
                 refine h.spl (fun c156 h => ?_) (fun c156 h => ?_)
                 ·have d156 : k < 19 := cd_ c156
                  refine au [0,0,0,0,7,2,0,7,0,8,6,0,6,6,4,8,0,6,0,3] h ?_; intro a w h
                  exact (by show S _ _ _ _ _ _ _ _; rw [show (.bool ((decide (((k : Int) : Int) < 19)) && (decide ((0 : Int) < (lf.length : Int)))) : Value) = .bool (decide ((0 : Int) < (lf.length : Int))) from Eq.symm (by first | ((try rw [c156]) <;> (try simp only [Bool.true_or, Bool.or_true, Bool.false_or, Bool.or_false, Bool.true_and, Bool.and_true, Bool.false_and, Bool.and_false, Bool.not_true, Bool.not_false, cond_true, cond_false]); done) | (exfalso; omega))]; exact h.to 0 _)
                 ·have d156 : 19 ≤ k := cd_ c156
                  refine au [0,0,0,1,0,1,0,1,0,1,0,1,0,1,5,0,0,6,0,3] h ?_; intro a w h
                  exact (by show S _ _ _ _ _ _ _ _; rw [show (.bool ((decide (((k : Int) : Int) < 19)) && (decide ((0 : Int) < (lf.length : Int)))) : Value) = .bool false from Eq.symm (by first | ((try rw [c156]) <;> (try simp only [Bool.true_or, Bool.or_true, Bool.false_or, Bool.or_false, Bool.true_and, Bool.and_true, Bool.false_and, Bool.and_false, Bool.not_true, Bool.not_false, cond_true, cond_false]); done) | (exfalso; omega))]; exact h.to 0 _)
                ·rintro a w h
                 refine cdB h (fun c154 => ?_) (fun c154 => ?_)
                 ·refine au [1,2,0,0,0,0,7,2,0,7,0,8] h ?_; intro a w h
                  refine cl bod84 (of9_ok l A c gm at7 _ _ _ _ _ _ X E H _ hl hb (by omega) hf (by omega)) h (fun r170 H170 L170 a w le170 R h => ?_)
                  obtain ⟨t170, at170, hof170, ha170, hz170, ⟨A170, c170, rfl, hk170⟩, rfl⟩ := R
                  refine au [0,0,0,0] h ?_; intro a w h
                  refine sbr (depth - 1) (w64 (by omega) (by omega)) h fun a w h => ?_
                  refine cl bod42 (kw at170 _ _ le_ (by omega)) h (fun r174 H174 L174 a w le174 R h => ?_)
                  obtain ⟨t174, at174, hwt174, ha174, hz174, ⟨A174, c174, rfl, hk174⟩, rfl⟩ := R
                  refine cl bod28 (two9_ok 4 [] t170 t174 _ _ X E H174 _ (hX.up le_) ⟨A170, c170, rfl, (KX.up hk170 le174)⟩ ⟨A174, c174, rfl, hk174⟩) h (fun r175 H175 L175 a w le175 R h => ?_)
                  obtain ⟨⟨A175_0, c175_0, rfl, hk175_0⟩, rfl⟩ := R
                  refine au [5,6,0,3,1,3,1,6,1,4] h ?_; intro a w h
                  have h := h.pull 1 rfl rfl
                  have l_H_H175 : LE H H175 := (le170.trans le174).trans le175
                  exact fin (rs := [.cell 4 26]) (vs := [.agg #[_, _, _, _]]) h rfl (.agg (k0 := 0) tN26 rfl rfl rfl .nil) rfl l_H_H175 ⟨LE.rfl, h.st.drop 1⟩ ⟨.mk 4 [] 0 [t170, t174], at174, wt_up hz0 (of_app hof170 (by simp at c154; omega) hwt174), by omega, by omega, ⟨_, _, rfl, hk175_0⟩, rfl⟩
                 ·refine sqc (fun a w => ∃ (at2 : Nat) (q2 : Bool), (at_ ≤ at2 ∧ at2 ≤ l.length) ∧ S E H 203 [] [(0, .pointer (some ⟨gm, 0, none⟩)), (1, .int .i64 depth), (4, .pointer (some ⟨g4, 0, none⟩)), (176, .bool q2)] (.obj gm (.cells #[.slice A l.length c, .int .i64 (at2 : Int), .slice Ai li.length ci, .slice Ac lc.length cc, .slice Af lf.length cf] 117 (0, 0)) :: .obj g4 (.cells #[.int .i64 0, str [], .int .i64 0, .slice none 0 0] 26 (0, 0)) :: L) a w) ?_ ?_
                  ·refine au [0,5,0,0,6,2] h ?_; intro a w h
                   refine h.spl (fun c178 h => ?_) (fun c178 h => ?_)
                   ·have d178 : k = 19 := cd_ c178
                    refine au [0,0,0,0] h ?_; intro a w h
                    refine cl bod40 (byte9_ok l A c gm at7 _ _ _ E H _ hl hb (by omega)) h (fun r181 H181 L181 a w le181 R h => ?_)
                    obtain ⟨b181, at181, hb181, ha181, hz181, rfl, rfl, rfl⟩ := R
                    refine rm b181 4 (by decide) h fun a w h => ?_
                    refine au [6,2,4,8,0,6,0,3] h ?_; intro a w h
                    exact ⟨at181, ((((b181 % 4) : Nat) : Int) : Int) == 0, by omega, h.to 0 _⟩
                   ·have d178 : k ≠ 19 := cd_ c178
                    refine au [0,0,0,1,0,1,0,1,0,1,5,0,0,6,0,3] h ?_; intro a w h
                    exact ⟨at7, false, by omega, h.to 0 _⟩
                  ·rintro a w ⟨at2, q2, hat2, h⟩
                   refine cdB h (fun c176 => ?_) (fun c176 => ?_)
                   ·refine au [1,2,0,0,0,0] h ?_; intro a w h
                    refine sbr (depth - 1) (w64 (by omega) (by omega)) h fun a w h => ?_
                    refine cl bod42 (kw at2 _ _ le_ (by omega)) h (fun r188 H188 L188 a w le188 R h => ?_)
                    obtain ⟨t188, at188, hwt188, ha188, hz188, ⟨A188, c188, rfl, hk188⟩, rfl⟩ := R
                    refine au [0,0,0,0] h ?_; intro a w h
                    refine sbr (depth - 1) (w64 (by omega) (by omega)) h fun a w h => ?_
                    refine cl bod42 (kw at188 _ _ le_ (by omega)) h (fun r192 H192 L192 a w le192 R h => ?_)
                    obtain ⟨t192, at192, hwt192, ha192, hz192, ⟨A192, c192, rfl, hk192⟩, rfl⟩ := R
                    refine cl bod28 (two9_ok 7 [] t188 t192 _ _ X E H192 _ (hX.up le_) ⟨A188, c188, rfl, (KX.up hk188 le192)⟩ ⟨A192, c192, rfl, hk192⟩) h (fun r193 H193 L193 a w le193 R h => ?_)
                    obtain ⟨⟨A193_0, c193_0, rfl, hk193_0⟩, rfl⟩ := R
                    refine au [5,6,0,3,1,3,1,6,1,4] h ?_; intro a w h
                    have h := h.pull 1 rfl rfl
                    have l_H_H193 : LE H H193 := (le188.trans le192).trans le193
                    exact fin (rs := [.cell 4 26]) (vs := [.agg #[_, _, _, _]]) h rfl (.agg (k0 := 0) tN26 rfl rfl rfl .nil) rfl l_H_H193 ⟨LE.rfl, h.st.drop 1⟩ ⟨.mk 7 [] 0 [t188, t192], at192, wt_up hz0 (.whl hwt188 hwt192), by omega, by omega, ⟨_, _, rfl, hk193_0⟩, rfl⟩
                   ·refine au [1,8,1,7,1,0,1,2,0,0,0,0] h ?_; intro a w h
                    refine sbr (depth - 1) (w64 (by omega) (by omega)) h fun a w h => ?_
                    refine cl bod41 (kf at2 _ _ le_ (by omega)) h (fun r197 H197 L197 a w le197 R h => ?_)
                    obtain ⟨t197, at197, hwt197, ha197, hz197, ⟨A197, c197, rfl, hk197⟩, rfl⟩ := R
                    refine au [0,0,0,0] h ?_; intro a w h
                    refine sbr (depth - 1) (w64 (by omega) (by omega)) h fun a w h => ?_
                    refine cl bod42 (kw at197 _ _ le_ (by omega)) h (fun r201 H201 L201 a w le201 R h => ?_)
                    obtain ⟨t201, at201, hwt201, ha201, hz201, ⟨A201, c201, rfl, hk201⟩, rfl⟩ := R
                    refine cl bod28 (two9_ok 4 [] t197 t201 _ _ X E H201 _ (hX.up le_) ⟨A197, c197, rfl, (KX.up hk197 le201)⟩ ⟨A201, c201, rfl, hk201⟩) h (fun r202 H202 L202 a w le202 R h => ?_)
                    obtain ⟨⟨A202_0, c202_0, rfl, hk202_0⟩, rfl⟩ := R
                    refine au [5,6,0,3,1,3] h ?_; intro a w h
                    have h := h.pull 1 rfl rfl
                    have l_H_H202 : LE H H202 := (le197.trans le201).trans le202
                    exact fin (rs := [.cell 4 26]) (vs := [.agg #[_, _, _, _]]) h rfl (.agg (k0 := 0) tN26 rfl rfl rfl .nil) rfl l_H_H202 ⟨LE.rfl, h.st.drop 1⟩ ⟨.mk 4 [] 0 [t197, t201], at201, wt_up hz0 (.appF hwt197 hwt201), by omega, by omega, ⟨_, _, rfl, hk202_0⟩, rfl⟩
theorem defs_snoc {I C : List Bs} {df : List Df} {d : Df} (h : ∀ m (hm : m < df.length), WT false I C ((df.take m).map (·.name)) 4 df[m].t) (hd : WT false I C (df.map (·.name)) 4 d.t) : ∀ m (hm : m < (df ++ [d]).length), WT false I C (((df ++ [d]).take m).map (·.name)) 4 (df ++ [d])[m].t := fun m hm => by
 by_cases hc : m < df.length
 · rw [List.getElem_append_left hc, List.take_append_of_le_length (by omega)]
   exact h m hc
 · have hm' : m = df.length := by simp at hm; omega
   subst hm'
   rw [List.getElem_append_right (Nat.le_refl _), List.take_append_of_le_length (Nat.le_refl _), List.take_length]
   simpa using hd
theorem wp_of {ls : List Bs} {di dc : List Dc} {df : List Df} {t : Tm} {k k2 k3 : Nat} (hk : 1 ≤ k ∧ k ≤ 3 ∧ k2 ≤ 3 ∧ k3 ≤ 2) (hi1 : di.map (·.name) = inN.take k) (hi2 : ∀ d ∈ di, d.label ∈ ls ∧ d.n = 0) (hj1 : dc.map (·.name) = ceN.take k2) (hj2 : ∀ d ∈ dc, d.label ∈ ls ∧ 0 ≤ d.n ∧ d.n ≤ 3) (hq1 : df.map (·.name) = fuN.take k3)
   (hq2 : ∀ m (hm : m < df.length), WT false (di.map (·.name)) (dc.map (·.name)) ((df.take m).map (·.name)) 4 df[m].t) (hb : WT true (inN.take k) (ceN.take k2) (fuN.take k3) 6 t) : WP ls ⟨di, dc, df, t⟩ :=
 ⟨⟨⟨k, hk.1, hk.2.1, hi1⟩, ⟨k2, hk.2.2.1, hj1⟩, ⟨k3, hk.2.2.2, hq1⟩, fun d hd => hd.elim (fun h => (hi2 d h).1) (fun h => (hj2 d h).1), fun d hd => (hi2 d hd).2, fun d hd => (hj2 d hd).2, hq2⟩, by
   show WT true (di.map (·.name)) (dc.map (·.name)) (df.map (·.name)) 6 t
   rw [hi1, hj1, hq1]; exact hb⟩
theorem ok_inv {t : Tr} {G : Bs → Option Sh} {kd : Int} {nm : Bs} {n : Int} {ks : List Tm} (h : t.ok G id) (hb : t.bare = .mk kd nm n ks) :
   ∃ s b ts, t = .mk kd nm n s b ts ∧ bareL ts = ks ∧ Rule kd s b (sAt ts 0) (sAt ts 1) (sAt ts 2) ∧ (kd = 2 → G nm = some s) ∧ (bnd kd = true → G nm = some b) ∧ okL G id ts := by
 obtain ⟨kd', nm', n', s, b, ts⟩ := t
 simp only [Tr.bare, Tm.mk.injEq] at hb
 obtain ⟨rfl, rfl, rfl, rfl⟩ := hb
 simp only [Tr.ok, id] at h
 exact ⟨s, b, ts, rfl, rfl, h.2.1, h.2.2.1, h.2.2.2.1, h.2.2.2.2.2⟩
theorem bareL1 {ts : List Tr} {a : Tm} (h : bareL ts = [a]) : ∃ t, ts = [t] ∧ t.bare = a := by
 match ts, h with
 | [t], h => simp [bareL] at h; exact ⟨t, rfl, h⟩
 | [], h => simp [bareL] at h
 | _ :: _ :: _, h => simp [bareL] at h
theorem bareL2 {ts : List Tr} {a b : Tm} (h : bareL ts = [a, b]) : ∃ t u, ts = [t, u] ∧ t.bare = a ∧ u.bare = b := by
 match ts, h with
 | [t, u], h => simp [bareL] at h; exact ⟨t, u, rfl, h.1, h.2⟩
 | [], h => simp [bareL] at h
 | [_], h => simp [bareL] at h
 | _ :: _ :: _ :: _, h => simp [bareL] at h
theorem wh_fu {a b : Sh} (h : wh = fu a b) : False := by cases h
theorem elab_no {p : Pg} (hz : p.resolve.2 = 0) (h : ∀ ty G, Shaped p.resolve.1 ty G → False) : p.elb.2 = 8 := by
 cases e : elabT p.resolve.1 with
 | none => rw [elab_none hz e]
 | some ty =>
   obtain ⟨G, hG⟩ := elabT_snd (resolve_pgok hz) (resolve_uq hz) e
   exact (h ty G hG).elim
theorem elab_yes {p : Pg} (h : p.elb.2 = 0) : p.resolve.2 = 0 ∧ ∃ G, Shaped p.resolve.1 p.elb.1 G := by
 by_cases hz : p.resolve.2 = 0
 · refine ⟨hz, ?_⟩
   cases e : elabT p.resolve.1 with
   | none => rw [elab_none hz e] at h; cases h
   | some ty =>
     rw [elab_some hz e]
     exact elabT_snd (resolve_pgok hz) (resolve_uq hz) e
 · rw [elab_err hz] at h; exact absurd h hz
def exOne : Tm := .mk 1 [] 1 []
def exVx : Tm := .mk 2 [120] 0 []
def exE1 : Pg := ⟨[], [], [], .mk 4 [] 0 [exOne, exOne]⟩
def exE2 : Pg := ⟨[], [], [], exVx⟩
def exF1 : Tm := .mk 3 [120] 0 [.mk 12 [43] 0 [exVx, exOne]]
def exE3 : Pg := ⟨[], [], [⟨[102], exF1⟩], .mk 4 [] 0 [.mk 2 [102] 0 [], exOne]⟩
def exE4 : Pg := ⟨[], [], [], .mk 13 [] 0 [.mk 3 [120] 0 [.mk 4 [] 0 [exVx, exVx]], exOne]⟩
theorem pg_right {p : Pg} (hf : p.fits = true) (hl : p.text.length ≤ 65536) : p.right = true := by
 have hpos : 0 < p.text.length := by unfold Pg.text; simp only [List.length_append, List.length_cons, List.length_nil]; omega
 have hle : ¬ (65536 < (p.text.length : Int)) := by omega
 unfold Pg.right Pg.print
 rw [if_pos hf, decide_eq_false hle]
 simp only [Bool.false_eq_true, if_false, Bool.not_eq_true', decide_eq_false_iff_not]
 intro e; rw [e] at hpos; simp at hpos
theorem itoa1 : Lib.itoa 1 = [49] := by simp [Lib.itoa, Lib.decDigits]
theorem show_tw {t : Tm} {n : Nat} (hr : t.right = true) (h : tw t.toks ≤ n) : t.show'.length ≤ n := by
 unfold Tm.show'
 rw [if_pos hr]
 have := showL_le t.toks
 omega
theorem tw_one : tw exOne.toks = 2 := by simp [exOne, toks_mk, layT', tw, itoa1]
theorem tw_vx : tw exVx.toks = 2 := by simp [exVx, toks_mk, layT', tw]
theorem tw_app2 (a b : Tm) (k : Int) (hk : k = 4 ∨ k = 13) : tw (Tm.mk k [] 0 [a, b]).toks ≤ tw a.toks + tw b.toks + 10 := by
 have h1 := tw_w0 a [b]; have h2 := tw_w1 a b []
 rw [toks_mk]
 rcases hk with rfl | rfl <;> simp [layT', tw_app, tw_cons] <;> omega
theorem tw_op2 (a b : Tm) : tw (Tm.mk 12 [43] 0 [a, b]).toks ≤ tw a.toks + tw b.toks + 10 := by
 have h1 := tw_w0 a [b]; have h2 := tw_w1 a b []
 rw [toks_mk]
 simp [layT', tw_app, tw_cons]; omega
theorem tw_fun1 (a : Tm) : tw (Tm.mk 3 [120] 0 [a]).toks ≤ tw a.toks + 20 := by
 have h1 := tw_w0 a []
 rw [toks_mk]
 simp [layT', tw_app, tw_cons]; omega
theorem exR_1 : exE1.right = true := pg_right (by decide) (by
 have := show_tw (t := exE1.body) (n := 100) (by decide) (Nat.le_trans (tw_app2 _ _ 4 (.inl rfl)) (by rw [tw_one]; omega))
 simp [Pg.text, exE1] at this ⊢; omega)
theorem exR_2 : exE2.right = true := pg_right (by decide) (by
 have := show_tw (t := exE2.body) (n := 100) (by decide) (by show tw exVx.toks ≤ _; rw [tw_vx]; omega)
 simp [Pg.text, exE2] at this ⊢; omega)
theorem exR_3 : exE3.right = true := pg_right (by decide) (by
 have h1 := show_tw (t := exE3.body) (n := 100) (by decide) (Nat.le_trans (tw_app2 _ _ 4 (.inl rfl)) (by rw [tw_one, show (Tm.mk 2 [102] 0 []).toks = [⟨1, [102], 0⟩] from rfl]; decide))
 have h2 := show_tw (t := exF1) (n := 100) (by decide) (Nat.le_trans (tw_fun1 _) (by have := tw_op2 exVx exOne; rw [tw_one, tw_vx] at this; omega))
 simp [Pg.text, exE3, Df.line] at h1 h2 ⊢; omega)
theorem exR_4 : exE4.right = true := pg_right (by decide) (by
 have := show_tw (t := exE4.body) (n := 100) (by decide) (Nat.le_trans (tw_app2 _ _ 13 (.inr rfl)) (by have h1 := tw_fun1 (.mk 4 [] 0 [exVx, exVx]); have h2 := tw_app2 exVx exVx 4 (.inl rfl); rw [tw_vx] at h2; rw [tw_one]; omega))
 simp [Pg.text, exE4] at this ⊢; omega)
theorem res_nodef {p : Pg} (hd : p.defs = []) (hr : p.right = true) (ht : p.twice = false) (hs : p.body.strange (p.known 0) = false) : p.resolve = (⟨p.inputs, p.cells, [], (p.body.ren (fun _ => none) 1).1⟩, 0) := by
 unfold Pg.resolve
 rw [hr, ht, hd]
 simp only [Bool.not_true, Bool.false_eq_true, if_false, List.length_nil, Pg.go]
 rw [if_neg (by rw [hs]; simp)]
theorem exE1_r : exE1.resolve = (exE1, 0) := by
 rw [res_nodef rfl exR_1 (by decide) (by decide)]
 simp [exE1, exOne, Tm.ren, renL, renN, bnd]
theorem exE1_e : exE1.elb.2 = 8 := by
 refine elab_no (by rw [exE1_r]) fun ty G h => ?_
 rw [exE1_r] at h
 obtain ⟨h1, _, h3, _⟩ := h.body
 obtain ⟨s, b, ts, _, e1, r1, _, _, o1⟩ := ok_inv h1 h3
 obtain ⟨t, u, rfl, b1, b2⟩ := bareL2 e1
 have r4 := r1.2.2.1 rfl
 obtain ⟨s0, _, _, rfl, _, r0, _, _, _⟩ := ok_inv o1.1 b1
 have r5 := r0.1 rfl
 simp [sAt, Tr.s] at r4
 rw [r5] at r4
 exact wh_fu r4
theorem exE2_e : exE2.elb.2 = 5 := by
 have hz : exE2.resolve.2 = 5 := by
   unfold Pg.resolve
   rw [exR_2, if_neg (by decide), if_neg (show ¬ (exE2.twice = true) by decide)]
   rfl
 rw [elab_err (by rw [hz]; decide), hz]
theorem exE4_r : exE4.resolve = (⟨[], [], [], .mk 13 [] 0 [.mk 3 [49] 0 [.mk 4 [] 0 [.mk 2 [49] 0 [], .mk 2 [49] 0 []]], exOne]⟩, 0) := by
 rw [res_nodef rfl exR_4 (by decide) (by decide)]
 simp [exE4, exOne, exVx, Tm.ren, renL, renN, bnd, updS, itoa1]
theorem exE4_e : exE4.elb.2 = 8 := by
 refine elab_no (by rw [exE4_r]) fun ty G h => ?_
 rw [exE4_r] at h
 obtain ⟨h1, _, h3, _⟩ := h.body
 obtain ⟨s, b, ts, _, e1, _, _, _, o1⟩ := ok_inv h1 h3
 obtain ⟨t, u, rfl, b1, b2⟩ := bareL2 e1
 obtain ⟨s2, bb2, ts2, rfl, e2, _, _, g2, o2⟩ := ok_inv o1.1 b1
 obtain ⟨t3, rfl, b3⟩ := bareL1 e2
 obtain ⟨s3, bb3, ts3, rfl, e3, r3, _, _, o3⟩ := ok_inv o2.1 b3
 obtain ⟨t4, t5, rfl, b4, b5⟩ := bareL2 e3
 obtain ⟨s4, _, _, rfl, _, _, g4, _, _⟩ := ok_inv o3.1 b4
 obtain ⟨s5, _, _, rfl, _, _, g5, _, _⟩ := ok_inv o3.2.1 b5
 have r4 := r3.2.2.1 rfl
 simp [sAt, Tr.s] at r4
 have e45 : some s4 = some s5 := (g4 rfl).symm.trans (g5 rfl)
 cases e45
 have := congrArg Sh.size r4
 simp [fu, Sh.size, sizeSL] at this
 omega
def exF2 : Tm := .mk 3 [49] 0 [.mk 12 [43] 0 [.mk 2 [49] 0 [], exOne]]
theorem exE3_r : exE3.resolve = (⟨[], [], [⟨[102], exF2⟩], exE3.body⟩, 0) := by
 have hg : exE3.go 1 = some ([⟨[102], exF2⟩], 2) := by
   simp [exE3, Pg.go, exF1, exF2, exVx, exOne, Tm.ren, renL, renN, bnd, itoa1, nx, updS, IntKind.wrap, IntKind.bits, IntKind.signed, Tm.strange, Tm.names, namesL, Tm.fr, frL, none0, inc1]
 unfold Pg.resolve
 rw [exR_3, if_neg (by decide), if_neg (show ¬ (exE3.twice = true) by decide), show exE3.go exE3.defs.length = _ from hg]
 refine (if_neg (show ¬ (Tm.strange (exE3.known exE3.defs.length) exE3.body = true) by decide)).trans ?_
 simp [exE3, exOne, Tm.ren, renL, renN, bnd]
def exT1 : Tr := .mk 3 [49] 0 (fu wh wh) wh [.mk 12 [43] 0 wh zS [.mk 2 [49] 0 wh zS [], .mk 1 [] 1 wh zS []]]
def exT2 : Tr := .mk 4 [] 0 wh zS [.mk 2 [102] 0 (fu wh wh) zS [], .mk 1 [] 1 wh zS []]
theorem exE3_e : exE3.elb.2 = 0 ∧ ∃ d b, exE3.elb.1 = ⟨[d], b⟩ ∧ d.t.s = fu wh wh ∧ d.t.b = wh ∧ d.t.name = [49] ∧ b.s = wh ∧ b.kids.length = 2 ∧ b.bare.kind = 4 ∧ b.size = 3 ∧ b.fine := by
 have hz : exE3.resolve.2 = 0 := by rw [exE3_r]
 obtain ⟨ty, ht⟩ := elabT_cpl (p := exE3.resolve.1) (resolve_pgok hz) (resolve_uq hz) (ds := [⟨[102], exT1⟩]) (b := exT2) (by rw [exE3_r]; rfl) (by rw [exE3_r]; rfl)
   (by simp [scD, exT1, Tr.sc, scL, Rule, arB, kidsL, sz_wh, sz_z, sz_fu, sAt, Tr.s, bnd, updG]) (by rw [exE3_r]; rfl)
   (by rw [exE3_r]; simp [afterD, exT1, exT2, Tr.sc, scL, Rule, arB, kidsL, sz_wh, sz_z, sz_fu, sAt, Tr.s, bnd, updG]) rfl
   (by intro s hs; simp [hsD, exT1, exT2, Tr.hs, hsL] at hs; rcases hs with rfl | rfl <;> decide)
 have he := elab_some hz ht
 obtain ⟨G, h⟩ := elabT_snd (resolve_pgok hz) (resolve_uq hz) ht
 rw [exE3_r] at h
 obtain ⟨ds, b⟩ := ty
 have hn := h.names; have hb := h.bares
 simp only [] at hn hb
 match ds, hn, hb with
 | [], hn, _ => simp at hn
 | _ :: _ :: _, hn, _ => simp at hn
 | [d], hn, hb =>
   simp at hb
   obtain ⟨o1, _, _⟩ := h.defs d (by simp)
   obtain ⟨s1, b1, ts1, e1, q1, r1, _, g1, k1⟩ := ok_inv o1 (hb.trans rfl : d.t.bare = .mk 3 [49] 0 [.mk 12 [43] 0 [.mk 2 [49] 0 [], exOne]])
   obtain ⟨t2, rfl, q2⟩ := bareL1 q1
   obtain ⟨s2, b2, ts2, rfl, q3, r2, _, _, k2⟩ := ok_inv k1.1 q2
   obtain ⟨t4, t5, rfl, q4, q5⟩ := bareL2 q3
   obtain ⟨s4, _, _, rfl, _, _, g4, _, _⟩ := ok_inv k2.1 q4
   obtain ⟨a1, a2, a3⟩ := r2.2.2.2.2.2.2.2.2.2.2.1 rfl
   have a4 := r1.2.1 rfl
   simp [sAt, Tr.s] at a1 a2 a3 a4
   have e14 : some b1 = some s4 := (g1 (by decide)).symm.trans (g4 rfl)
   cases e14
   subst a1; subst a3
   obtain ⟨o5, o6, o7, o8⟩ := h.body
   obtain ⟨s6, b6, ts6, e6, q6, _, _, _, _⟩ := ok_inv o5 (o7.trans rfl : b.bare = .mk 4 [] 0 [.mk 2 [102] 0 [], exOne])
   obtain ⟨t7, t8, rfl, q7, q8⟩ := bareL2 q6
   refine ⟨by rw [he], d, b, by rw [he], by rw [e1]; exact a4, by rw [e1]; rfl, by rw [e1]; rfl, o8, ?_, ?_, ?_, o6⟩
   · simp only [] at e6; rw [e6]; rfl
   · show b.bare.kind = 4; rw [show b.bare = exE3.body from o7]; rfl
   · rw [← bare_size]; show b.bare.size = 3; rw [show b.bare = exE3.body from o7]; rfl
mutual
theorem fine_big : ∀ t : Tr, t.fine → t.big ≤ 100
 | .mk _ _ _ s b ks, h => by
   simp only [Tr.fine] at h
   have := fineL_big ks h.2.2
   simp only [Tr.big]; omega
theorem fineL_big : ∀ l : List Tr, fineL l → bigL l ≤ 100
 | [], _ => by simp [bigL]
 | t :: l, h => by
   have h1 := fine_big t h.1
   have h2 := fineL_big l h.2
   simp only [bigL]; omega
end
theorem mildE1 : Mild exE1 := by constructor <;> simp [exE1, exOne, Tm.long, longL, Tm.size, sizeL]
theorem mildE2 : Mild exE2 := by constructor <;> simp [exE2, exVx, Tm.long, longL, Tm.size, sizeL]
theorem mildE3 : Mild exE3 := by constructor <;> simp [exE3, exF1, exVx, exOne, Tm.long, longL, Tm.size, sizeL]
theorem mildE4 : Mild exE4 := by constructor <;> simp [exE4, exVx, exOne, Tm.long, longL, Tm.size, sizeL]
structure Ex3 (ty : Ty) : Prop where
 one : ty.defs.length = 1
 s : ∀ h : 0 < ty.defs.length, ty.defs[0].t.s = fu wh wh
 b : ∀ h : 0 < ty.defs.length, ty.defs[0].t.b = wh
 nm : ∀ h : 0 < ty.defs.length, ty.defs[0].t.name = [49]
 bs : ty.body.s = wh
 two : ty.body.kids.length = 2
 bare : ty.body.bare.kind = 4
 size : ty.body.size = 3
 big : ty.body.big ≤ 100
theorem exE3_x : Ex3 exE3.elb.1 := by
 obtain ⟨_, d, b, e, h1, h2, h3, h4, h5, h6, h7, h8⟩ := exE3_e
 rw [e]
 exact ⟨rfl, fun _ => h1, fun _ => h2, fun _ => h3, h4, h5, h6, h7, fine_big b h8⟩
theorem tx3 : (fu wh wh).text = [40, 105, 110, 116, 32, 45, 62, 32, 105, 110, 116, 41] := by rfl
def RP (H : GH) (cs : List Value) (p : Pg) : Prop := ∃ A1 c1 A2 c2 A3 c3 A4 c4,
 cs = [.slice A1 p.inputs.length c1, .slice A2 p.cells.length c2, .slice A3 p.defs.length c3, .int .i64 p.body.kind, str p.body.name, .int .i64 p.body.n, .slice A4 p.body.kids.length c4] ∧
 CS H A1 c1 p.inputs ∧ CS H A2 c2 p.cells ∧ FS H A3 c3 p.defs ∧ KS H A4 c4 p.body.kids
theorem RP.mono {H H' : GH} (hl : LE H H') {cs : List Value} {p : Pg} (h : RP H cs p) : RP H' cs p :=
 let ⟨A1, c1, A2, c2, A3, c3, A4, c4, h0, h1, h2, h3, h4⟩ := h; ⟨A1, c1, A2, c2, A3, c3, A4, c4, h0, h1.up hl, h2.up hl, h3.up hl, h4.up hl⟩
theorem rp_of {H : GH} {cs : List Value} {p : Pg} (h : VP H (.agg cs.toArray) p) : RP H cs p := by
 obtain ⟨A1, c1, A2, c2, A3, c3, A4, c4, e, h1, h2, h3, h4⟩ := h
 refine ⟨A1, c1, A2, c2, A3, c3, A4, c4, ?_, h1, h2, h3, h4⟩
 have t3 := congrArg (fun v => match v with | .agg a => a.toList | _ => []) e
 simp at t3
 exact t3
abbrev PS (H : GH) (A : Option Addr) (c : Nat) (xs : List Pg) : Prop := RS RP 7 H (.slice A xs.length c) xs
theorem PS.up {H H' : GH} {A : Option Addr} {c : Nat} {xs : List Pg} (h : PS H A c xs) (hl : LE H H') : PS H' A c xs := RS.mono h hl fun _ x _ h => RP.mono hl h
theorem PS.get {H : GH} {A : Option Addr} {c : Nat} {xs : List Pg} (h : PS H A c xs) {j : Nat} (hj : j < xs.length) :
   ∃ g off A1 c1 A2 c2 A3 c3 A4 c4, A = some ⟨g, off, none⟩ ∧ VP H (.agg #[.slice A1 xs[j].inputs.length c1, .slice A2 xs[j].cells.length c2, .slice A3 xs[j].defs.length c3, .int .i64 xs[j].body.kind, str xs[j].body.name, .int .i64 xs[j].body.n, .slice A4 xs[j].body.kids.length c4]) xs[j] ∧
     ∀ i u, [.slice A1 xs[j].inputs.length c1, .slice A2 xs[j].cells.length c2, .slice A3 xs[j].defs.length c3, .int .i64 xs[j].body.kind, str xs[j].body.name, .int .i64 xs[j].body.n, .slice A4 xs[j].body.kids.length c4][i]? = some u → Hc H g (off + j * 7 + i) u := by
 obtain ⟨g, off, cs, hA, hl, hr, hc⟩ := RS.at_ h (List.getElem?_eq_getElem hj)
 obtain ⟨A1, c1, A2, c2, A3, c3, A4, c4, rfl, h1, h2, h3, h4⟩ := hr
 exact ⟨g, off, A1, c1, A2, c2, A3, c3, A4, c4, hA, ⟨A1, c1, A2, c2, A3, c3, A4, c4, rfl, h1, h2, h3, h4⟩, hc⟩
structure BareF (p : Pg) : Prop where
 res : p.resolve.2 = 0
 len : p.elb.1.defs.length = p.resolve.1.defs.length
 body : p.elb.1.body.bare = p.resolve.1.body
 size : p.elb.1.body.size ≤ 1000000
 defs : ∀ i (h1 : i < p.elb.1.defs.length) (h2 : i < p.resolve.1.defs.length), p.elb.1.defs[i].t.bare = p.resolve.1.defs[i].t ∧ p.elb.1.defs[i].name = p.resolve.1.defs[i].name ∧ p.elb.1.defs[i].t.size ≤ 1000000
theorem sizeD_mem {l : List Df} {d : Df} (h : d ∈ l) : d.t.size ≤ sizeD l := by
 induction l with
 | nil => cases h
 | cons e l ih =>
   simp only [sizeD]
   cases h with
   | head => omega
   | tail _ h => have := ih h; omega
theorem bare_f {p : Pg} (h : p.elb.2 = 0) : BareF p := by
 obtain ⟨hz, G, hs⟩ := elab_yes h
 have hp := (resolve_pgok hz).size
 have hl : p.elb.1.defs.length = p.resolve.1.defs.length := by simpa using congrArg List.length hs.names
 refine ⟨hz, hl, hs.body.2.2.1, ?_, fun i h1 h2 => ?_⟩
 · rw [← bare_size, hs.body.2.2.1]; omega
 · have e1 : (p.elb.1.defs.map (·.t.bare))[i]'(by simpa using h1) = (p.resolve.1.defs.map (·.t))[i]'(by simpa using h2) := by simp only [hs.bares]
   have e2 : (p.elb.1.defs.map (·.name))[i]'(by simpa using h1) = (p.resolve.1.defs.map (·.name))[i]'(by simpa using h2) := by simp only [hs.names]
   simp only [List.getElem_map] at e1 e2
   refine ⟨e1, e2, ?_⟩
   rw [← bare_size, e1]
   have := sizeD_mem (List.getElem_mem h2); omega
theorem wp_mild {ls : List Bs} {p : Pg} (h : WP ls p) (hl : ∀ l ∈ ls, wordB l = true) : Mild p := by
 obtain ⟨l1, l2, l3⟩ := h.toWP0.len
 have hn : ∀ x, x ∈ p.iN ∨ x ∈ p.cN ∨ x ∈ p.defs.map (·.name) → x.length = 1 := fun x hx => (allN x (by
   rcases hx with hx | hx | hx
   · exact List.mem_append_left _ (h.toWP0.words.1 _ hx)
   · exact List.mem_append_right _ (List.mem_append_left _ (h.toWP0.words.2.1 _ hx))
   · exact List.mem_append_right _ (List.mem_append_right _ (h.toWP0.words.2.2 _ hx)))).2
 have hlong : ∀ t : Tm, t.wrong = false → t.long ≤ 16 := by
   intro t
   induction t using Tm.ind with
   | h k s n ks ih =>
     intro hw
     obtain ⟨h1, h2⟩ := right_of hw
     have hs : s.length ≤ 16 := by
       unfold nodeB at h1
       simp only [Bool.and_eq_true] at h1
       have h3 := h1.2
       split at h3
       · simp only [Bool.and_eq_true, nameB, decide_eq_true_eq] at h3; omega
       · split at h3
         · have := (by decide : ∀ s ∈ opsL, s.length ≤ 16) s (by simpa using h3); exact this
         · simp at h3; subst h3; simp
     simp only [Tm.long]
     have : longL ks ≤ 16 := by
       clear h1 hw
       induction ks with
       | nil => simp [longL]
       | cons t ks ih2 =>
         have a := ih t (List.mem_cons_self ..) (h2 t (List.mem_cons_self ..))
         have b := ih2 (fun x hx => ih x (List.mem_cons_of_mem _ hx)) (fun x hx => h2 x (List.mem_cons_of_mem _ hx))
         simp only [longL]; omega
     omega
 obtain ⟨r1, r2, r3⟩ := wt_right h.body (h.toWP0.allW fun x hx => hx) (by omega)
 have hb := right_wrong r1
 refine ⟨by omega, by omega, by omega, fun d hd => ?_, fun d hd => ?_, fun d hd => ?_, ?_, by omega⟩
 · have a := hn d.name (.inl (List.mem_map_of_mem hd)); have b := word_len (hl _ (h.toWP0.lab d (.inl hd))); omega
 · have a := hn d.name (.inr (.inl (List.mem_map_of_mem hd))); have b := word_len (hl _ (h.toWP0.lab d (.inr hd))); omega
 · obtain ⟨q1, q2, q3, q4, q5⟩ := h.toWP0.def_ok d hd
   have := right_wrong q3; have := hlong _ this.1; omega
 · have := hlong _ hb.1; omega
def lohi : List Bs := [[76, 111], [72, 105]]
theorem lohi_word : ∀ l ∈ lohi, wordB l = true := by decide
theorem well9_ok (ls : List Bs) (l : List UInt8) (n : Nat) (Al A : Option Addr) (cn c : Nat) (E : World) (H : GH) (L : List It) (hls : SS H Al cn ls) (hl : US H A c l) (h0 : 0 < ls.length) (h1 : ls.length < 1000) (hb : l.length < 1000000000000) (hn : n < 256) :
   Ok Tryz.prog 18 #[.slice Al ls.length cn, .slice A l.length c, .int .u8 (n : Int)] E H L fun r H' L' => ∃ p, WP ls p ∧ VP H' r p ∧ L = L' := by
 have hin : inN.length = 3 := rfl
 have hce : ceN.length = 3 := rfl
 have hfu : fuN.length = 2 := rfl
 refine enter (N := 132) [(0, _), (1, _), (2, _)] Tryz.func18 rfl rfl rfl rfl fun a w h => ?_
 refine au [1,2] h ?_
 refine al zr28 h fun g6 a w h => ?_
 refine au [0,2,0,0,0,0,6,0] h ?_; intro a w h
 refine mn (m := (l.length : Int)) (n := 90) (((min l.length 90) : Nat) : Int) (by split <;> omega) h fun a w h => ?_
 have hb19 : (min l.length 90) ≤ l.length := by first | omega | (simp; omega)
 have hcp19 := RS.capl hl
 have hs19 : US H A c (l.take (min l.length 90)) := RS.front hl hb19
 refine slhN (c := c) (min l.length 90) (l.take (min l.length 90)).length (by rw [List.length_take]; omega) sli35 sz5 (by omega) h fun a w h => ?_
 obtain ⟨l9, hl9⟩ : ∃ x, x = (l.take (min l.length 90)) := ⟨_, rfl⟩
 rw [← hl9] at h hs19
 have hb9 : l9.length < 1000000000000 := by rw [hl9]; simp only [List.length_take]; omega
 refine bdl lay117 zr117 h fun a w h => ?_
 refine bxA h fun g21 a w h => ?_
 refine au [0,6,0,2] h ?_; intro a w h
 refine al zr28 h fun g8 a w h => ?_
 refine au [0,3,0,4,1,2,0,6,0,3,1,5] h ?_; intro a w h
 have h := h.row (e := 82) (sz := 3)
 have h := h.row (e := 9) (sz := 1)
 refine lp (β := Nat × GH × (Option Addr) × Nat × (List Value) × (Option Addr) × Nat × (List Value) × (List Dc) × Nat) (fun x a w => match x with | (k, HL0, Brn, prn, xrn, Bri, pri, xri, di, at1) => ((k ≤ (1 + n % 3)) ∧ (LE H HL0) ∧ (RowR RStr 1 HL0 xrn (inN.take k)) ∧ (RowR RDc 3 HL0 xri di) ∧ ((di.map (·.name) = inN.take k ∧ (∀ d ∈ di, d.label ∈ ls ∧ d.n = 0) ∧ at1 ≤ l9.length))) ∧ S E HL0 132 [] [(0, .slice Al ls.length cn), (2, .int .u8 (n : Int)), (6, .pointer (some ⟨g6, 0, none⟩)), (7, .pointer (some ⟨g21, 0, none⟩)), (8, .pointer (some ⟨g8, 0, none⟩)), (9, .int .i64 (k : Int))] (.row (.slice Brn ((inN.take k).length) prn) 9 1 ((inN.take k).length) xrn :: .row (.slice Bri di.length pri) 82 3 di.length xri :: .obj g8 (.cells #[.slice Bri di.length pri, .slice none 0 0, .slice none 0 0, .int .i64 0, str [], .int .i64 0, .slice none 0 0] 28 (0, 0)) :: .obj g21 (.cells #[.slice A l9.length c, .int .i64 (at1 : Int), .slice Brn ((inN.take k).length) prn, .slice none 0 0, .slice none 0 0] 117 (0, 0)) :: .obj g6 (.cells #[.slice none 0 0, .slice none 0 0, .slice none 0 0, .int .i64 0, str [], .int .i64 0, .slice none 0 0] 28 (0, 0)) :: L) a w)
  (fun x => match x with | (k, HL0, Brn, prn, xrn, Bri, pri, xri, di, at1) => (1 + n % 3) - k) (0, H, none, 0, [], none, 0, [], ([] : List Dc), 0) ⟨⟨Nat.zero_le _, LE.rfl, (RowR.nil : RowR RStr 1 H [] ([] : List Bs)), (RowR.nil : RowR RDc 3 H [] ([] : List Dc)), ⟨rfl, fun _ h => absurd h List.not_mem_nil, by omega⟩⟩, h.to 0 _⟩ ?_
 rintro ⟨k, HL0, Brn, prn, xrn, Bri, pri, xri, di, at1⟩ a w ⟨⟨hk, leHL0, hrrn, hrri, hi⟩, h⟩
 obtain ⟨hi1, hi2, hi3⟩ := hi
 have hdl : di.length = k := by have q := congrArg List.length hi1; simp [inN] at q; omega
 refine au [0,4,1,2,0,0,0,0] h ?_; intro a w h
 refine rm n 3 (by decide) h fun a w h => ?_
 refine cv ((((n % 3) : Nat) : Int)) (by first | rfl | exact w64 (by omega) (by omega) | (show IntKind.wrap _ _ = _; simp [IntKind.wrap, IntKind.bits, IntKind.signed]; omega)) it5 it3 h fun a w h => ?_
 refine adr (m := 1) (n := (((n % 3) : Nat) : Int)) (((1 + (n % 3)) : Nat) : Int) (by rw [w64 (by omega) (by omega)]; omega) h fun a w h => ?_
 refine au [6,4,0,3] h ?_; intro a w h
 refine cdB h (fun c27 => ?_) (fun c27 => ?_)
 ·have d27 : k < (1 + (n % 3)) := cd_ c27
  refine au [1,8,1,0,0,4,1,5,1,2] h ?_
  refine bsl bs54 h fun g30 a w h => ?_
  refine mv h fun a w h => ?_
  obtain ⟨Hq32, leHq32, h, hsHq32⟩ := h.fsl (R := RStr) (sz := 1) (ys := inN) 0 (rstr_row inN) (fun _ _ _ _ _ hr => hr)
  have hj32 : k < inN.length := by show _ < 3; omega
  obtain ⟨g32, o32, e32, hc32⟩ := SS.get hsHq32 hj32
  refine iaE sli54 sz9 rfl hj32 e32 h fun a w h => ?_
  refine ldH t1_9 (hc32) h fun a w h => ?_
  refine au [0,6,0,3,0,4] h ?_; intro a w h
  refine rgx [2] [_] [1, 10] 16 mix h (fun a w h => ?_)
  refine au [8,0,0,7,2,6,8,1,3,8,2,6,8,2,0,0,2,6,8,3,0,0,2,6,8,4,0,0,2,6,8,6,0,0,2,6,8,7,6,0,2,6] h ?_; intro a w h
  refine bg1 5 true h ?_
  have h := h.pull 3 rfl rfl
  have l_H_Hq32 : LE H Hq32 := leHL0.trans leHq32
  refine clG bod40 (byte9_ok l9 A c g21 at1 _ _ _ E Hq32 _ (hs19.up l_H_Hq32) hb9 (by omega)) h (fun r39 H39 L39 a w le39 R h => ?_)
  obtain ⟨b39, at39, hb39, ha39, hz39, rfl, rfl, rfl⟩ := R
  refine au [2,7,8,8] h ?_
  refine rm b39 ls.length (by omega) h fun a w h => ?_
  refine au [2,6,8,9] h ?_
  have hj43 : (b39 % ls.length) < ls.length := Nat.mod_lt _ (by omega)
  obtain ⟨g43, o43, e43, hc43⟩ := SS.get (SS.up hls l_H_Hq32) hj43
  refine iaE sli54 sz9 rfl hj43 e43 h fun a w h => ?_
  refine au [2,6,8,10] h ?_
  refine ldHT t1_9 (hc43) h fun a w h => ?_
  refine au [2,6,8,11,7,5,2,6] h ?_; intro a w h
  refine bg1 12 true h ?_
  refine bsl bs22 h fun g46 a w h => ?_
  refine br0 ?_
  refine bg1 13 true h ?_
  refine apn (n := di.length) (m := 1) 3 0 (L' := fun i => _ :: _ :: _ :: i :: _) [_, _, _] ((di ++ [(Dc.mk inN[k] (ls[(b39 % ls.length)]) 0 : Dc)]).length) (by first | (simp; done) | (simp; omega)) row22 h (by first | omega | (simp; done) | (simp; omega)) (by first | omega | (simp; done) | (simp; omega)) fun v47 a w hone47 h => ?_
  obtain ⟨B47, cp47, rfl⟩ := h.rowv 3
  have hr47 : RowR RDc 3 Hq32 (xri ++ [str inN[k], str (ls[(b39 % ls.length)]), .int .i64 0]) (di ++ [(Dc.mk inN[k] (ls[(b39 % ls.length)]) 0 : Dc)]) := (hrri.mono fun cs y _ hr => hr).snoc rfl rfl
  refine au [2,7,8,14,0,7,2,6] h ?_; intro a w h
  refine bf1 15 ?_
  refine st4 (l := [_, _, _, _, _, _, _]) t1_22 h fun a w h => ?_
  refine br0 ?_
  refine en (by kernel_rfl) ?_
  refine au [1,0,0,5,0,0,0,0,7,2,0,7,2,8,0,0] h ?_; intro a w h
  refine bsl bs54 h fun g55 a w h => ?_
  refine apn (n := ((inN.take k).length)) (m := 1) 3 0 (L' := fun i => _ :: _ :: _ :: i :: _) [_] (((inN.take k) ++ [inN[k]]).length) (by first | (simp; done) | (simp; omega)) row54 h (by first | omega | (simp; done) | (simp; omega) | (simp [inN]; omega)) (by first | omega | (simp; done) | (simp; omega) | (simp [inN]; omega)) fun v56 a w hone56 h => ?_
  obtain ⟨B56, cp56, rfl⟩ := h.rowv 3
  have hr56 : RowR RStr 1 Hq32 (xrn ++ [str inN[k]]) ((inN.take k) ++ [inN[k]]) := (hrrn.mono fun cs y _ hr => hr).snoc rfl rfl
  refine au [7,2,0,7,5,3,1,1,1,7,1,0,0,5,0,0] h ?_; intro a w h
  refine inc ?_ h fun a w h => ?_
  ·omega
  refine au [0,6,0,3] h ?_; intro a w h
  have h := h.del 0
  have h := h.del 0
  have h := h.pull 4 rfl rfl
  have h := h.pull 1 rfl rfl
  have h := h.pull 4 rfl rfl
  have h := h.pull 4 rfl rfl
  have h := h.pull 4 rfl rfl
  exact ⟨((k + 1), Hq32, B56, cp56, _, B47, cp47, _, (di ++ [(Dc.mk inN[k] (ls[(b39 % ls.length)]) 0 : Dc)]), at39), ⟨⟨by omega, l_H_Hq32, (by have q := hr56; rwa [show ((inN.take k) ++ [inN[k]]) = (inN.take (k + 1)) from by rw [List.take_succ_eq_append_getElem hj32]] at q), hr47, ⟨by rw [List.map_append, hi1, List.take_succ_eq_append_getElem hj32]; rfl, fun d hd => by rcases List.mem_append.1 hd with hd | hd; exact hi2 d hd; simp only [List.mem_singleton] at hd; subst hd; exact ⟨List.getElem_mem hj43, rfl⟩, by omega⟩⟩, (by show S _ _ _ _ _ _ _ _; rw [show ((inN.take (k + 1)).length) = ((inN.take k) ++ [inN[k]]).length from Eq.symm (by first | rfl | (simp; done) | (simp; omega) | (congr 1; simp; omega) | (congr 1; omega))]; exact h.to 0 _)⟩, by show _ - (k + 1) < _ - k; omega⟩
 ·have d27 : (1 + (n % 3)) ≤ k := cd_ c27
  refine au [2,5,2,2,2,2,2,3,1,0,0,4,1,2,0,6,0,3,1,5] h ?_; intro a w h
  have h := h.row (e := 82) (sz := 3)
  have h := h.row (e := 9) (sz := 1)
  obtain ⟨Hrrn, leHrrn, h, hsHrrn⟩ := h.frw 2 hrrn rfl (fun _ l cs y _ hr => hr)
  obtain ⟨Hrri, leHrri, h, hsHrri⟩ := h.frw 2 (hrri.mono fun cs y _ hr => hr) rfl (fun _ l cs y _ hr => hr)
  have l_HL0_Hrri : LE HL0 Hrri := leHrrn.trans leHrri
  refine lp (β := Nat × GH × (Option Addr) × Nat × (List Value) × (Option Addr) × Nat × (List Value) × (List Dc) × Nat) (fun x a w => match x with | (k2, HL2, Brm, prm, xrm, Brc, prc, xrc, dc, at2) => ((k2 ≤ (n / 3 % 4)) ∧ (LE Hrri HL2) ∧ (RowR RStr 1 HL2 xrm (ceN.take k2)) ∧ (RowR RDc 3 HL2 xrc dc) ∧ ((dc.map (·.name) = ceN.take k2 ∧ (∀ d ∈ dc, d.label ∈ ls ∧ 0 ≤ d.n ∧ d.n ≤ 3) ∧ at2 ≤ l9.length))) ∧ S E HL2 132 [] [(0, .slice Al ls.length cn), (2, .int .u8 (n : Int)), (6, .pointer (some ⟨g6, 0, none⟩)), (7, .pointer (some ⟨g21, 0, none⟩)), (8, .pointer (some ⟨g8, 0, none⟩)), (9, .int .i64 (k : Int)), (11, .int .i64 (k2 : Int)), (22, .int .i64 (k : Int)), (23, .int .u8 (n : Int)), (24, .int .u8 (((n % 3) : Nat) : Int)), (25, .int .i64 (((n % 3) : Nat) : Int)), (26, .int .i64 (((1 + (n % 3)) : Nat) : Int)), (27, .bool (decide (((k : Int) : Int) < (((1 + (n % 3)) : Nat) : Int))))] (.row (.slice Brm ((ceN.take k2).length) prm) 9 1 ((ceN.take k2).length) xrm :: .row (.slice Brc dc.length prc) 82 3 dc.length xrc :: .obj g8 (.cells #[.slice Bri di.length pri, .slice Brc dc.length prc, .slice none 0 0, .int .i64 0, str [], .int .i64 0, .slice none 0 0] 28 (0, 0)) :: .obj g21 (.cells #[.slice A l9.length c, .int .i64 (at2 : Int), .slice Brn (inN.take k).length prn, .slice Brm ((ceN.take k2).length) prm, .slice none 0 0] 117 (0, 0)) :: .obj g6 (.cells #[.slice none 0 0, .slice none 0 0, .slice none 0 0, .int .i64 0, str [], .int .i64 0, .slice none 0 0] 28 (0, 0)) :: L) a w)
   (fun x => match x with | (k2, HL2, Brm, prm, xrm, Brc, prc, xrc, dc, at2) => (n / 3 % 4) - k2) (0, Hrri, none, 0, [], none, 0, [], ([] : List Dc), at1) ⟨⟨Nat.zero_le _, LE.rfl, ((RowR.nil : RowR RStr 1 HL0 [] ([] : List Bs)).mono fun cs y _ hr => hr), ((RowR.nil : RowR RDc 3 HL0 [] ([] : List Dc)).mono fun cs y _ hr => hr), ⟨rfl, fun _ h => absurd h List.not_mem_nil, by omega⟩⟩, h.to 0 _⟩ ?_
  rintro ⟨k2, HL2, Brm, prm, xrm, Brc, prc, xrc, dc, at2⟩ a w ⟨⟨hk, leHL2, hrrm, hrrc, hi⟩, h⟩
  obtain ⟨hj1, hj2, hj3⟩ := hi
  have hdl : dc.length = k2 := by have q := congrArg List.length hj1; simp [ceN] at q; omega
  refine au [0,4,1,2,0,0,0,0] h ?_; intro a w h
  refine qu n 3 (by decide) (by show IntKind.u8.wrap _ = _; simp [IntKind.wrap, IntKind.bits, IntKind.signed]; omega) h fun a w h => ?_
  refine rm (n / 3) 4 (by decide) h fun a w h => ?_
  refine cv (((((n / 3) % 4) : Nat) : Int)) (by first | rfl | exact w64 (by omega) (by omega) | (show IntKind.wrap _ _ = _; simp [IntKind.wrap, IntKind.bits, IntKind.signed]; omega)) it5 it3 h fun a w h => ?_
  refine au [6,4,0,3] h ?_; intro a w h
  refine cdB h (fun c64 => ?_) (fun c64 => ?_)
  ·have d64 : k2 < ((n / 3) % 4) := cd_ c64
   refine au [1,8,1,0,0,4,1,5,1,2] h ?_
   refine bsl bs54 h fun g67 a w h => ?_
   refine mv h fun a w h => ?_
   obtain ⟨Hq69, leHq69, h, hsHq69⟩ := h.fsl (R := RStr) (sz := 1) (ys := ceN) 0 (rstr_row ceN) (fun _ _ _ _ _ hr => hr)
   have hj69 : k2 < ceN.length := by show _ < 3; omega
   obtain ⟨g69, o69, e69, hc69⟩ := SS.get hsHq69 hj69
   refine iaE sli54 sz9 rfl hj69 e69 h fun a w h => ?_
   refine ldH t1_9 (hc69) h fun a w h => ?_
   refine au [0,6,0,3,0,4] h ?_; intro a w h
   refine rgx [2] [_] [1, 10] 17 mix h (fun a w h => ?_)
   refine au [8,0,0,7,2,6,8,1,3,8,2,6,8,2,0,0,2,6,8,3,0,0,2,6,8,4,0,0,2,6,8,6,0,0,2,6,8,7,6,0,2,6,8,11,0,0,2,6] h ?_; intro a w h
   refine bg1 5 true h ?_
   have h := h.pull 3 rfl rfl
   have l_H_Hq69 : LE H Hq69 := (((leHL0.trans leHrrn).trans leHrri).trans leHL2).trans leHq69
   refine clG bod40 (byte9_ok l9 A c g21 at2 _ _ _ E Hq69 _ (hs19.up l_H_Hq69) hb9 (by omega)) h (fun r76 H76 L76 a w le76 R h => ?_)
   obtain ⟨b76, at76, hb76, ha76, hz76, rfl, rfl, rfl⟩ := R
   refine au [2,7,8,8] h ?_
   refine rm b76 ls.length (by omega) h fun a w h => ?_
   refine au [2,6,8,9] h ?_
   have hj80 : (b76 % ls.length) < ls.length := Nat.mod_lt _ (by omega)
   obtain ⟨g80, o80, e80, hc80⟩ := SS.get (SS.up hls l_H_Hq69) hj80
   refine iaE sli54 sz9 rfl hj80 e80 h fun a w h => ?_
   refine au [2,6,8,10] h ?_
   refine ldHT t1_9 (hc80) h fun a w h => ?_
   refine au [2,6,8,12,7,5,2,6] h ?_; intro a w h
   refine bg1 13 true h ?_
   refine bsl bs22 h fun g84 a w h => ?_
   refine br0 ?_
   refine bg1 14 true h ?_
   refine apn (n := dc.length) (m := 1) 3 0 (L' := fun i => _ :: _ :: _ :: i :: _) [_, _, _] ((dc ++ [(Dc.mk ceN[k2] (ls[(b76 % ls.length)]) (k2 : Int) : Dc)]).length) (by first | (simp; done) | (simp; omega)) row22 h (by first | omega | (simp; done) | (simp; omega)) (by first | omega | (simp; done) | (simp; omega)) fun v85 a w hone85 h => ?_
   obtain ⟨B85, cp85, rfl⟩ := h.rowv 3
   have hr85 : RowR RDc 3 Hq69 (xrc ++ [str ceN[k2], str (ls[(b76 % ls.length)]), .int .i64 (k2 : Int)]) (dc ++ [(Dc.mk ceN[k2] (ls[(b76 % ls.length)]) (k2 : Int) : Dc)]) := (hrrc.mono fun cs y _ hr => hr).snoc rfl rfl
   refine au [2,7,8,15,0,7,2,6] h ?_; intro a w h
   refine bf1 16 ?_
   refine st4 (l := [_, _, _, _, _, _, _]) t1_22 h fun a w h => ?_
   refine br0 ?_
   refine en (by kernel_rfl) ?_
   refine au [1,0,0,5,0,0,0,0,7,2,0,7,2,8,0,0] h ?_; intro a w h
   refine bsl bs54 h fun g93 a w h => ?_
   refine apn (n := ((ceN.take k2).length)) (m := 1) 3 0 (L' := fun i => _ :: _ :: _ :: i :: _) [_] (((ceN.take k2) ++ [ceN[k2]]).length) (by first | (simp; done) | (simp; omega)) row54 h (by first | omega | (simp; done) | (simp; omega) | (simp [ceN]; omega)) (by first | omega | (simp; done) | (simp; omega) | (simp [ceN]; omega)) fun v94 a w hone94 h => ?_
   obtain ⟨B94, cp94, rfl⟩ := h.rowv 3
   have hr94 : RowR RStr 1 Hq69 (xrm ++ [str ceN[k2]]) ((ceN.take k2) ++ [ceN[k2]]) := (hrrm.mono fun cs y _ hr => hr).snoc rfl rfl
   refine au [7,2,0,7,5,3,1,1,1,7,1,0,0,5,0,0] h ?_; intro a w h
   refine inc ?_ h fun a w h => ?_
   ·omega
   refine au [0,6,0,3] h ?_; intro a w h
   have h := h.del 0
   have h := h.del 0
   have h := h.pull 4 rfl rfl
   have h := h.pull 1 rfl rfl
   have h := h.pull 4 rfl rfl
   have h := h.pull 4 rfl rfl
   have h := h.pull 4 rfl rfl
   have l_Hrri_Hq69 : LE Hrri Hq69 := leHL2.trans leHq69
   exact ⟨((k2 + 1), Hq69, B94, cp94, _, B85, cp85, _, (dc ++ [(Dc.mk ceN[k2] (ls[(b76 % ls.length)]) (k2 : Int) : Dc)]), at76), ⟨⟨by omega, l_Hrri_Hq69, (by have q := hr94; rwa [show ((ceN.take k2) ++ [ceN[k2]]) = (ceN.take (k2 + 1)) from by rw [List.take_succ_eq_append_getElem hj69]] at q), hr85, ⟨by rw [List.map_append, hj1, List.take_succ_eq_append_getElem hj69]; rfl, fun d hd => by rcases List.mem_append.1 hd with hd | hd; exact hj2 d hd; simp only [List.mem_singleton] at hd; subst hd; exact ⟨List.getElem_mem hj80, by simp; omega⟩, by omega⟩⟩, (by show S _ _ _ _ _ _ _ _; rw [show ((ceN.take (k2 + 1)).length) = ((ceN.take k2) ++ [ceN[k2]]).length from Eq.symm (by first | rfl | (simp; done) | (simp; omega) | (congr 1; simp; omega) | (congr 1; omega))]; exact h.to 0 _)⟩, by show _ - (k2 + 1) < _ - k2; omega⟩
  ·have d64 : ((n / 3) % 4) ≤ k2 := cd_ c64
   refine au [2,5,2,2,2,2,2,3,1,0,0,4,1,2,0,6,0,3,1,5] h ?_; intro a w h
   have h := h.row (e := 93) (sz := 5)
   have h := h.row (e := 9) (sz := 1)
   obtain ⟨Hrrm, leHrrm, h, hsHrrm⟩ := h.frw 2 hrrm rfl (fun _ l cs y _ hr => hr)
   obtain ⟨Hrrc, leHrrc, h, hsHrrc⟩ := h.frw 2 (hrrc.mono fun cs y _ hr => hr) rfl (fun _ l cs y _ hr => hr)
   have l_HL2_Hrrc : LE HL2 Hrrc := leHrrm.trans leHrrc
   refine lp (β := Nat × GH × (Option Addr) × Nat × (List Value) × (Option Addr) × Nat × (List Value) × (List Df) × Nat) (fun x a w => match x with | (k3, HL4, Brf, prf, xrf, Brd, prd, xrd, df, at3) => ((k3 ≤ (n / 12 % 3)) ∧ (LE Hrrc HL4) ∧ (RowR RStr 1 HL4 xrf (fuN.take k3)) ∧ (RowR RDf 5 HL4 xrd df) ∧ ((df.map (·.name) = fuN.take k3 ∧ (∀ m (hm : m < df.length), WT false (di.map (·.name)) (dc.map (·.name)) ((df.take m).map (·.name)) 4 df[m].t) ∧ at3 ≤ l9.length))) ∧ S E HL4 132 [] [(0, .slice Al ls.length cn), (2, .int .u8 (n : Int)), (6, .pointer (some ⟨g6, 0, none⟩)), (7, .pointer (some ⟨g21, 0, none⟩)), (8, .pointer (some ⟨g8, 0, none⟩)), (9, .int .i64 (k : Int)), (11, .int .i64 (k2 : Int)), (13, .int .i64 (k3 : Int)), (22, .int .i64 (k : Int)), (23, .int .u8 (n : Int)), (24, .int .u8 (((n % 3) : Nat) : Int)), (25, .int .i64 (((n % 3) : Nat) : Int)), (26, .int .i64 (((1 + (n % 3)) : Nat) : Int)), (27, .bool (decide (((k : Int) : Int) < (((1 + (n % 3)) : Nat) : Int)))), (59, .int .i64 (k2 : Int)), (60, .int .u8 (n : Int)), (61, .int .u8 (((n / 3) : Nat) : Int)), (62, .int .u8 ((((n / 3) % 4) : Nat) : Int)), (63, .int .i64 ((((n / 3) % 4) : Nat) : Int)), (64, .bool (decide (((k2 : Int) : Int) < ((((n / 3) % 4) : Nat) : Int))))] (.row (.slice Brf ((fuN.take k3).length) prf) 9 1 ((fuN.take k3).length) xrf :: .row (.slice Brd df.length prd) 93 5 df.length xrd :: .obj g8 (.cells #[.slice Bri di.length pri, .slice Brc dc.length prc, .slice Brd df.length prd, .int .i64 0, str [], .int .i64 0, .slice none 0 0] 28 (0, 0)) :: .obj g21 (.cells #[.slice A l9.length c, .int .i64 (at3 : Int), .slice Brn (inN.take k).length prn, .slice Brm (ceN.take k2).length prm, .slice Brf ((fuN.take k3).length) prf] 117 (0, 0)) :: .obj g6 (.cells #[.slice none 0 0, .slice none 0 0, .slice none 0 0, .int .i64 0, str [], .int .i64 0, .slice none 0 0] 28 (0, 0)) :: L) a w)
    (fun x => match x with | (k3, HL4, Brf, prf, xrf, Brd, prd, xrd, df, at3) => (n / 12 % 3) - k3) (0, Hrrc, none, 0, [], none, 0, [], ([] : List Df), at2) ⟨⟨Nat.zero_le _, LE.rfl, ((RowR.nil : RowR RStr 1 HL2 [] ([] : List Bs)).mono fun cs y _ hr => hr), ((RowR.nil : RowR RDf 5 HL2 [] ([] : List Df)).mono fun cs y _ hr => RDf.mono l_HL2_Hrrc hr), ⟨rfl, fun _ h => absurd h (by simp), by omega⟩⟩, h.to 0 _⟩ ?_
   rintro ⟨k3, HL4, Brf, prf, xrf, Brd, prd, xrd, df, at3⟩ a w ⟨⟨hk, leHL4, hrrf, hrrd, hi⟩, h⟩
   obtain ⟨hq1, hq2, hq3⟩ := hi
   have hdl : df.length = k3 := by have q := congrArg List.length hq1; simp [fuN] at q; omega
   refine au [0,4,1,2,0,0,0,0] h ?_; intro a w h
   refine qu n 12 (by decide) (by show IntKind.u8.wrap _ = _; simp [IntKind.wrap, IntKind.bits, IntKind.signed]; omega) h fun a w h => ?_
   refine rm (n / 12) 3 (by decide) h fun a w h => ?_
   refine cv (((((n / 12) % 3) : Nat) : Int)) (by first | rfl | exact w64 (by omega) (by omega) | (show IntKind.wrap _ _ = _; simp [IntKind.wrap, IntKind.bits, IntKind.signed]; omega)) it5 it3 h fun a w h => ?_
   refine au [6,4,0,3] h ?_; intro a w h
   refine cdB h (fun c102 => ?_) (fun c102 => ?_)
   ·have d102 : k3 < ((n / 12) % 3) := cd_ c102
    refine au [1,8,1,0,0,4,1,5,1,2] h ?_
    refine bsl bs54 h fun g105 a w h => ?_
    refine mv h fun a w h => ?_
    obtain ⟨Hq107, leHq107, h, hsHq107⟩ := h.fsl (R := RStr) (sz := 1) (ys := fuN) 0 (rstr_row fuN) (fun _ _ _ _ _ hr => hr)
    have hj107 : k3 < fuN.length := by show _ < 2; omega
    obtain ⟨g107, o107, e107, hc107⟩ := SS.get hsHq107 hj107
    refine iaE sli54 sz9 rfl hj107 e107 h fun a w h => ?_
    refine ldH t1_9 (hc107) h fun a w h => ?_
    refine au [0,6,0,3,0,4] h ?_; intro a w h
    refine rgd [2] [_] [5, 3, 2, 0] [1] 3 mix (by kernel_rfl) h (fun a w h => ?_)
    refine au [0,7,4,2,0,0,0,0] h ?_; intro a w h
    obtain ⟨Hn, leHn, h, hsf, hX, hback⟩ := h.lendX 0 (hrrf.mono fun cs y _ hr => hr) rfl (fun _ _ _ _ _ hr => hr)
    have h := h.pull 2 rfl rfl
    have l_H_Hn : LE H Hn := (((((((leHL0.trans leHrrn).trans leHrri).trans leHL2).trans leHrrm).trans leHrrc).trans leHL4).trans leHq107).trans leHn
    have l_Hrrn_Hn : LE Hrrn Hn := (((((leHrri.trans leHL2).trans leHrrm).trans leHrrc).trans leHL4).trans leHq107).trans leHn
    have l_Hrrm_Hn : LE Hrrm Hn := ((leHrrc.trans leHL4).trans leHq107).trans leHn
    refine clG bod41 (fun9_ok l9 A c g21 4 hb9 (whole9_ok l9 A c g21 hb9 _) _ 4 at3 _ _ _ _ _ _ _ _ _ E Hn _ hX (by omega) (by omega) (by omega) (hs19.up l_H_Hn) (SS.up hsHrrn l_Hrrn_Hn) (SS.up hsHrrm l_Hrrm_Hn) hsf (by omega) (by simp only [List.length_take]; omega) (by simp only [List.length_take]; omega) (by simp only [List.length_take]; omega)) h (fun r113 H113 L113 a w le113 R h => ?_)
    obtain ⟨t113, at113, hwt113, ha113, hz113, ⟨A113, c113, rfl, hk113⟩, rfl⟩ := R
    obtain ⟨H4, leH4, leX, h⟩ := hback _ _ _ _ _ _ _ le113 h
    have hk4 := KS.up hk113 leX
    refine bdl lay93 zr93 h fun a w h => ?_
    refine bsl bs23 h fun g115 a w h => ?_
    refine apn (n := df.length) (m := 1) 3 0 (L' := fun i => _ :: _ :: _ :: i :: _) [_, _, _, _, _] ((df ++ [(Df.mk fuN[k3] (Tm.mk t113.kind t113.name t113.n t113.kids : Tm) : Df)]).length) (by first | (simp; done) | (simp; omega)) row23 h (by first | omega | (simp; done) | (simp; omega)) (by first | omega | (simp; done) | (simp; omega)) fun v116 a w hone116 h => ?_
    obtain ⟨B116, cp116, rfl⟩ := h.rowv 3
    have l_HL4_H4 : LE HL4 H4 := leHq107.trans leH4
    have hr116 : RowR RDf 5 H4 (xrd ++ [str fuN[k3], .int .i64 t113.kind, str t113.name, .int .i64 t113.n, .slice A113 t113.kids.length c113]) (df ++ [(Df.mk fuN[k3] (Tm.mk t113.kind t113.name t113.n t113.kids : Tm) : Df)]) := (hrrd.mono fun cs y _ hr => RDf.mono l_HL4_H4 hr).snoc rfl (⟨_, rfl, rt_of_vt (cs := [_, _, _, _]) ⟨_, _, rfl, hk4⟩⟩)
    refine fa fl28_2 (r := 2) h fun a w h => ?_
    refine st4 (l := [_, _, _, _, _, _, _]) t1_23 h fun a w h => ?_
    refine au [0,3,0,5,0,0,0,0,7,2,0,7,3,0,0,0] h ?_; intro a w h
    refine bsl bs54 h fun g124 a w h => ?_
    refine apn (n := ((fuN.take k3).length)) (m := 1) 2 0 (L' := fun i => _ :: _ :: i :: _) [_] (((fuN.take k3) ++ [fuN[k3]]).length) (by first | (simp; done) | (simp; omega)) row54 h (by first | omega | (simp; done) | (simp; omega) | (simp [fuN]; omega)) (by first | omega | (simp; done) | (simp; omega) | (simp [fuN]; omega)) fun v125 a w hone125 h => ?_
    obtain ⟨B125, cp125, rfl⟩ := h.rowv 2
    have hr125 : RowR RStr 1 H4 (xrf ++ [str fuN[k3]]) ((fuN.take k3) ++ [fuN[k3]]) := (hrrf.mono fun cs y _ hr => hr).snoc rfl rfl
    refine au [7,2,0,7,5,4,1,1,1,7,1,0,0,5,0,0] h ?_; intro a w h
    refine inc ?_ h fun a w h => ?_
    ·omega
    refine au [0,6,0,3] h ?_; intro a w h
    have h := h.del 0
    have h := h.del 0
    have h := h.pull 4 rfl rfl
    have h := h.pull 2 rfl rfl
    have h := h.pull 4 rfl rfl
    have h := h.pull 4 rfl rfl
    have h := h.pull 4 rfl rfl
    have l_Hrrc_H4 : LE Hrrc H4 := (leHL4.trans leHq107).trans leH4
    exact ⟨((k3 + 1), H4, B125, cp125, _, B116, cp116, _, (df ++ [(Df.mk fuN[k3] (Tm.mk t113.kind t113.name t113.n t113.kids : Tm) : Df)]), at113), ⟨⟨by omega, l_Hrrc_H4, (by have q := hr125; rwa [show ((fuN.take k3) ++ [fuN[k3]]) = (fuN.take (k3 + 1)) from by rw [List.take_succ_eq_append_getElem hj107]] at q), hr116, ⟨by rw [List.map_append, hq1, List.take_succ_eq_append_getElem hj107]; rfl, defs_snoc hq2 (by rw [hi1, hj1, hq1]; cases t113; exact hwt113), by omega⟩⟩, (by show S _ _ _ _ _ _ _ _; rw [show ((fuN.take (k3 + 1)).length) = ((fuN.take k3) ++ [fuN[k3]]).length from Eq.symm (by first | rfl | (simp; done) | (simp; omega) | (congr 1; simp; omega) | (congr 1; omega))]; exact h.to 0 _)⟩, by show _ - (k3 + 1) < _ - k3; omega⟩
   ·have d102 : ((n / 12) % 3) ≤ k3 := cd_ c102
    refine au [2,5,2,2,2,2,2,3,1,0,0,4] h ?_
    obtain ⟨Hrrf, leHrrf, h, hsHrrf⟩ := h.frw 0 hrrf rfl (fun _ l cs y _ hr => hr)
    obtain ⟨Hrrd, leHrrd, h, hsHrrd⟩ := h.frw 0 (hrrd.mono fun cs y _ hr => RDf.mono leHrrf hr) rfl (fun _ l cs y _ hr => RDf.mono l hr)
    refine au [0,5,0,0] h ?_; intro a w h
    have h := h.pull 1 rfl rfl
    have l_H_Hrrd : LE H Hrrd := (((((((leHL0.trans leHrrn).trans leHrri).trans leHL2).trans leHrrm).trans leHrrc).trans leHL4).trans leHrrf).trans leHrrd
    have l_Hrrn_Hrrd : LE Hrrn Hrrd := (((((leHrri.trans leHL2).trans leHrrm).trans leHrrc).trans leHL4).trans leHrrf).trans leHrrd
    have l_Hrrm_Hrrd : LE Hrrm Hrrd := ((leHrrc.trans leHL4).trans leHrrf).trans leHrrd
    refine cl bod42 (whole9_ok l9 A c g21 hb9 6 (fun _ => False) 6 at3 _ _ _ _ _ _ _ _ _ E Hrrd _ Sub.no (by omega) (by omega) (by omega) (hs19.up l_H_Hrrd) (SS.up hsHrrn l_Hrrn_Hrrd) (SS.up hsHrrm l_Hrrm_Hrrd) (SS.up hsHrrf leHrrd) (by omega) (by simp only [List.length_take]; omega) (by simp only [List.length_take]; omega) (by simp only [List.length_take]; omega)) h (fun r129 H129 L129 a w le129 R h => ?_)
    obtain ⟨t129, at129, hwt129, ha129, hz129, ⟨A129, c129, rfl, hk129⟩, rfl⟩ := R
    rw [wo_none] at hk129
    refine fa fl28_3 (r := 3) h fun a w h => ?_
    refine stp (l := [_, _, _, _, _, _, _]) 1 tN26 h fun a w h => ?_
    refine au [0,2,3,4,5,7,0,3,1,3] h ?_; intro a w h
    have l_Hrri_H129 : LE Hrri H129 := (((((leHL2.trans leHrrm).trans leHrrc).trans leHL4).trans leHrrf).trans leHrrd).trans le129
    have l_Hrrc_H129 : LE Hrrc H129 := ((leHL4.trans leHrrf).trans leHrrd).trans le129
    have l_H_H129 : LE H H129 := ((((((((leHL0.trans leHrrn).trans leHrri).trans leHL2).trans leHrrm).trans leHrrc).trans leHL4).trans leHrrf).trans leHrrd).trans le129
    exact fin (rs := [.cell 6 28]) (vs := [.agg #[_, _, _, _, _, _, _]]) h rfl (.agg (k0 := 2) tN28 rfl rfl rfl .nil) rfl l_H_H129 ⟨LE.rfl, h.st.drop 3⟩ ⟨⟨di, dc, df, t129⟩, wp_of (by omega) hi1 hi2 hj1 hj2 hq1 hq2 hwt129, ⟨_, _, _, _, _, _, _, _, rfl, (CS.up hsHrri l_Hrri_H129), (CS.up hsHrrc l_Hrrc_H129), (FS.up hsHrrd le129), hk129⟩, rfl⟩
theorem names9_ok (E : World) (H : GH) (L : List It) : Ok Tryz.prog 19 #[] E H L fun r H' L' => (∃ A c, r = .slice A lohi.length c ∧ SS H' A c lohi) ∧ L = L' := by
 refine enter (N := 2) [] Tryz.func19 rfl rfl rfl rfl fun a w h => ?_
 refine au [1,2,0,6,0,2] h ?_; intro a w h
 refine bsl bs54 h fun g1 a w h => ?_
 obtain ⟨Hn1, leHn1, h, hsn⟩ := h.fsl (R := RStr) (sz := 1) (ys := lohi) 0 (rstr_row lohi) (fun _ _ _ _ _ hr => hr)
 refine au [0,6,0,3,1,3] h ?_; intro a w h
 refine fin1 0 0 h leHn1 ?_
 exact ⟨⟨_, _, rfl, hsn⟩, rfl⟩
end Go.Proofs.YthnhddjlgjecdaaGreatDoor
