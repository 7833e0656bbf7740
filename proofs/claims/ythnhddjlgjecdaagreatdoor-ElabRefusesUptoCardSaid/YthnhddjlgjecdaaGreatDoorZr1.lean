/- ElabRefuses: for all arguments of bulk at most 1048576 the law answers true, and they read as before. -/
import Derived.Test.YthnhddjlgjecdaaGreatDoorZm6
import Derived.Test.YthnhddjlgjecdaaGreatDoorCards
import Derived.Test.YthnhddjlgjecdaaGreatDoorTie
import Derived.WalkKit
import Derived.ProofKit
set_option autoImplicit false
set_option linter.unnecessarySimpa false
set_option linter.unusedSectionVars false
set_option linter.unusedSimpArgs false
set_option linter.unusedVariables false
set_option maxHeartbeats 8000000
set_option maxRecDepth 100000
set_option relaxedAutoImplicit false
namespace Go.Proofs.YthnhddjlgjecdaaGreatDoor
open Go X
section
variable {P : Program} {Q : Exit → Act → World → Prop} {S0 : World → Prop} {rd : List Nat} {n : Nat} {listed : Array Bool} {l : List Oper}
theorem X.brl4 (i j k m : Nat) {o o' o2 o3 : Oper} (nd nd' nd2 nd3 : Bool) {a : Act} {w : World} (hr : Region.ready .any l.toArray listed = [i, j, k, m]) (hnd : needs l.toArray rd i = nd) (hnd' : needs l.toArray rd j = nd') (hnd2 : needs l.toArray rd k = nd2) (hnd3 : needs l.toArray rd m = nd3) (hS : (nd || (nd' || (nd2 || nd3))) = true → S0 w)
   (h : (gb P l.toArray Q S0 nd (Nx P l.toArray Q S0 rd n listed i)).G [o] a w) (h' : (gb P l.toArray Q S0 nd' (Nx P l.toArray Q S0 rd n listed j)).G [o'] a w) (h2 : (gb P l.toArray Q S0 nd2 (Nx P l.toArray Q S0 rd n listed k)).G [o2] a w) (h3 : (gb P l.toArray Q S0 nd3 (Nx P l.toArray Q S0 rd n listed m)).G [o3] a w)
   (hi : l[i]? = some o := by rfl) (hj : l[j]? = some o' := by rfl) (hk : l[k]? = some o2 := by rfl) (hm : l[m]? = some o3 := by rfl) : wpR P l.toArray Q S0 rd (n + 1) listed a w := by
 refine ⟨(fun e => by rw [e] at hr; cases hr), fun q hq => ?_⟩
 rw [hr] at hq
 simp at hq
 rcases hq with rfl | rfl | rfl | rfl
 · exact wpOp_b (by simpa using hi) hnd h (fun e => hS (by rw [e]; rfl))
 · exact wpOp_b (by simpa using hj) hnd' h' (fun e => hS (by rw [e]; simp))
 · exact wpOp_b (by simpa using hk) hnd2 h2 (fun e => hS (by rw [e]; simp))
 · exact wpOp_b (by simpa using hm) hnd3 h3 (fun e => hS (by rw [e]; simp))
end
end Go.Proofs.YthnhddjlgjecdaaGreatDoor
namespace Go.Proofs.YthnhddjlgjecdaaGreatDoor
open Go X
theorem wt_free {q : Bool} {I C F : List Bs} {d : Nat} {t : Tm} (h : WT q I C F d t) : ∀ (b : Bs → Nat) (x : Bs), t.fr b x = true → (x ∈ I ∨ x ∈ C ∨ x ∈ F) ∧ b x = 0 := by
 have hI : ∀ {I C F : List Bs} {b : Bs → Nat} {y x : Bs}, (x ∈ I ++ [y] ∨ x ∈ C ∨ x ∈ lessB F y) ∧ inc1 b y x = 0 → (x ∈ I ∨ x ∈ C ∨ x ∈ F) ∧ b x = 0 := fun {I C F b y x} ⟨h1, h2⟩ => by
   unfold inc1 at h2
   by_cases hc : x = y
   · rw [if_pos hc] at h2; omega
   · rw [if_neg hc] at h2
     refine ⟨?_, h2⟩
     rcases h1 with h | h | h
     · rcases List.mem_append.1 h with h | h
       · exact .inl h
       · simp at h; exact absurd h hc
     · exact .inr (.inl h)
     · exact .inr (.inr (mem_less h).1)
 have hF : ∀ {I C F : List Bs} {b : Bs → Nat} {y x : Bs}, (x ∈ lessB I y ∨ x ∈ C ∨ x ∈ F ++ [y]) ∧ inc1 b y x = 0 → (x ∈ I ∨ x ∈ C ∨ x ∈ F) ∧ b x = 0 := fun {I C F b y x} ⟨h1, h2⟩ => by
   unfold inc1 at h2
   by_cases hc : x = y
   · rw [if_pos hc] at h2; omega
   · rw [if_neg hc] at h2
     refine ⟨?_, h2⟩
     rcases h1 with h | h | h
     · exact .inl (mem_less h).1
     · exact .inr (.inl h)
     · rcases List.mem_append.1 h with h | h
       · exact .inr (.inr h)
       · simp at h; exact absurd h hc
 have hV : ∀ {y : Bs} {b : Bs → Nat} {x : Bs}, (Tm.mk 2 y 0 []).fr b x = true → x = y ∧ b x = 0 := fun {y b x} h => by
   simp [Tm.fr, frL] at h
   grind
 induction h with
 | num n hn => intro b x h; simp [Tm.fr, frL] at h
 | var hx => intro b x h; obtain ⟨rfl, h2⟩ := hV h; exact ⟨.inl hx, h2⟩
 | op hs ha hb iha ihb => intro b x h; simp [Tm.fr, frL, bnd] at h; rcases h with h | h; exact iha b x h; exact ihb b x h
 | ite ha hb hcc iha ihb ihc => intro b x h; simp [Tm.fr, frL, bnd] at h; rcases h with h | h | h; exact iha b x h; exact ihb b x h; exact ihc b x h
 | ltI hx ha hb iha ihb => intro b x h; simp [Tm.fr, frL, bnd] at h; rcases h with h | h; exact iha b x h; exact hI (ihb _ x h)
 | ltF hx ha hb iha ihb => intro b x h; simp [Tm.fr, frL, bnd] at h; rcases h with h | h; exact iha b x h; exact hF (ihb _ x h)
 | get hc => intro b x h; rw [Tm.fr, frL, frL] at h; simp [bnd] at h; obtain ⟨rfl, h2⟩ := hV h; exact ⟨.inr (.inl hc), h2⟩
 | set hc ha iha => intro b x h; rw [Tm.fr, frL, frL, frL] at h; simp [bnd] at h; rcases h with h | h; obtain ⟨rfl, h2⟩ := hV h; exact ⟨.inr (.inl hc), h2⟩; exact iha b x h
 | seq ha hb iha ihb => intro b x h; simp [Tm.fr, frL, bnd] at h; rcases h with h | h; exact iha b x h; exact ihb b x h
 | rse ha iha => intro b x h; simp [Tm.fr, frL, bnd] at h; exact iha b x h
 | tr hx ha hb iha ihb => intro b x h; simp [Tm.fr, frL, bnd] at h; rcases h with h | h; exact iha b x h; exact hI (ihb _ x h)
 | appV hc ha iha => intro b x h; rw [Tm.fr, frL, frL, frL] at h; simp [bnd] at h; rcases h with h | h; obtain ⟨rfl, h2⟩ := hV h; exact ⟨.inr (.inr hc), h2⟩; exact iha b x h
 | whl ha hb iha ihb => intro b x h; simp [Tm.fr, frL, bnd] at h; rcases h with h | h; exact iha b x h; exact ihb b x h
 | appF ha hb iha ihb => intro b x h; simp [Tm.fr, frL, bnd] at h; rcases h with h | h; exact iha b x h; exact ihb b x h
 | fn hx hb ihb => intro b x h; simp [Tm.fr, frL, bnd] at h; exact hI (ihb _ x h)
section
variable {ls : List Bs} {p : Pg}
theorem flat_len2 {α : Type} {f : α → Bs} {B : Nat} : ∀ {l : List α}, (∀ x ∈ l, (f x).length ≤ B) → (l.flatMap f).length ≤ l.length * B
 | [], _ => by simp
 | x :: l, h => by
   have h1 := h x (List.mem_cons_self ..)
   have h2 := flat_len2 (l := l) fun y hy => h y (List.mem_cons_of_mem _ hy)
   simp only [List.flatMap_cons, List.length_append, List.length_cons, Nat.succ_mul]; omega
theorem WP0.right (h : WP0 ls p) (hl : ∀ l ∈ ls, wordB l = true) (hb : p.body.right = true) (hs : p.body.show'.length ≤ 50000) : p.right = true := by
 obtain ⟨l1, l2, l3⟩ := h.len
 have dc : ∀ d, d ∈ p.inputs ∨ d ∈ p.cells → d.wrong = false ∧ d.name.length = 1 ∧ d.label.length ≤ 16 := fun d hd => by
   have hn : d.name ∈ inN ++ (ceN ++ fuN) := by
     rcases hd with hd | hd
     · exact List.mem_append_left _ (h.words.1 _ (List.mem_map_of_mem hd))
     · exact List.mem_append_right _ (List.mem_append_left _ (h.words.2.1 _ (List.mem_map_of_mem hd)))
   obtain ⟨w1, w2⟩ := allN _ hn
   have w3 := hl _ (h.lab d hd)
   refine ⟨?_, w2, word_len w3⟩
   have : 0 ≤ d.n ∧ d.n ≤ 3 := by
     rcases hd with hd | hd
     · rw [h.ni d hd]; omega
     · exact h.nc d hd
   unfold Dc.wrong
   rw [w1, w3]
   simp; omega
 have hfit : p.fits = true := by
   unfold Pg.fits Pg.bad
   simp only [Bool.and_eq_true, Bool.not_eq_true', Bool.or_eq_false_iff, List.any_eq_false, decide_eq_true_eq]
   refine ⟨⟨fun d hd => by simp [(dc d (.inl hd)).1], fun d hd => by simp [h.ni d hd], fun d hd => by simp [(dc d (.inr hd)).1], fun d hd => ?_⟩, ?_, hb⟩
   · obtain ⟨q1, _, q3, q4, _⟩ := h.def_ok d hd
     simp [Df.wrong, q1, q3, q4]
   · unfold mx3; split <;> split <;> omega
 have e1 := flat_len2 (f := Dc.inL) (B := 40) (l := p.inputs) fun d hd => by
   obtain ⟨_, q2, q3⟩ := dc d (.inl hd)
   simp only [Dc.inL, List.length_append, List.length_cons, List.length_nil]; omega
 have e2 := flat_len2 (f := Dc.cellL) (B := 40) (l := p.cells) fun d hd => by
   obtain ⟨_, q2, q3⟩ := dc d (.inr hd)
   obtain ⟨n1, n2⟩ := h.nc d hd
   have : (Lib.itoa d.n).length = 1 := by
     have := itoa5 d.n.toNat (by omega)
     rwa [show ((d.n.toNat : Nat) : Int) = d.n by omega] at this
   simp only [Dc.cellL, List.length_append, List.length_cons, List.length_nil]; omega
 have e3 := flat_len2 (f := Df.line) (B := 2700) (l := p.defs) fun d hd => by
   obtain ⟨_, q2, _, _, q5⟩ := h.def_ok d hd
   simp only [Df.line, List.length_append, List.length_cons, List.length_nil]; omega
 have hpos : 0 < p.text.length := by unfold Pg.text; simp only [List.length_append, List.length_cons, List.length_nil]; omega
 have hle : ¬ 65536 < (p.text.length : Int) := by
   unfold Pg.text
   simp only [List.length_append, List.length_cons, List.length_nil]
   have : p.inputs.length * 40 ≤ 120 := by omega
   have : p.cells.length * 40 ≤ 120 := by omega
   have : p.defs.length * 2700 ≤ 5400 := by omega
   omega
 unfold Pg.right Pg.print
 rw [if_pos hfit, decide_eq_false hle]
 simp only [Bool.false_eq_true, if_false, Bool.not_eq_true', decide_eq_false_iff_not]
 intro e; rw [e] at hpos; simp at hpos
theorem names_once : ∀ i < 4, ∀ j < 4, ∀ k < 3, ((List.range (inN.take i ++ ceN.take j ++ fuN.take k).length).any fun m => decide (indexL (inN.take i ++ ceN.take j ++ fuN.take k) ((inN.take i ++ ceN.take j ++ fuN.take k).getD m []) < (m : Int))) = false := by decide +kernel
theorem WP0.once (h : WP0 ls p) : p.twice = false := by
 obtain ⟨i, _, hi1, hi⟩ := h.i
 obtain ⟨j, hj1, hj⟩ := h.c
 obtain ⟨k, hk1, hk⟩ := h.f
 have e : p.known p.defs.length = inN.take i ++ ceN.take j ++ fuN.take k := by
   unfold Pg.known
   rw [List.take_length, List.map_append, hk]
   show p.iN ++ p.cN ++ _ = _
   rw [hi, hj]
 unfold Pg.twice
 rw [e]
 exact names_once i (by omega) j (by omega) k (by omega)
theorem strange_of_fr {t : Tm} {known : List Bs} (h : ∀ x, t.fr none0 x = true → x ∈ known) : t.strange known = false := by
 unfold Tm.strange
 rw [List.any_eq_false]
 intro x _ hc
 simp only [Bool.and_eq_true, Bool.not_eq_true'] at hc
 have := h x hc.1
 rw [List.contains_iff_mem.2 this] at hc
 cases hc.2
theorem wt_strange {q : Bool} {F : List Bs} {d k : Nat} {t : Tm} (h : WT q p.iN p.cN F d t) (hF : ∀ x ∈ F, x ∈ (p.defs.take k).map (·.name)) : t.strange (p.known k) = false := by
 refine strange_of_fr fun x hx => ?_
 unfold Pg.known
 rw [List.map_append]
 rcases (wt_free h _ _ hx).1 with h1 | h1 | h1
 · exact List.mem_append_left _ (List.mem_append_left _ h1)
 · exact List.mem_append_left _ (List.mem_append_right _ h1)
 · exact List.mem_append_right _ (hF x h1)
theorem WP0.go (h : WP0 ls p) : ∀ k, k ≤ p.defs.length → ∃ ds n, p.go k = some (ds, n)
 | 0, _ => ⟨_, _, rfl⟩
 | k + 1, hk => by
   obtain ⟨ds, n, e⟩ := h.go k (by omega)
   have hs := wt_strange (h.defs k (by omega)) (k := k) fun x hx => hx
   exact ⟨_, _, by simp only [Pg.go]; rw [e, List.getElem?_eq_getElem (show k < p.defs.length by omega)]; simp only []; rw [hs]; rfl⟩
theorem WP0.resolve (h : WP0 ls p) (hl : ∀ l ∈ ls, wordB l = true) (hb : p.body.right = true) (hs : p.body.show'.length ≤ 50000) (hf : p.body.strange (p.known p.defs.length) = false) : p.resolve.2 = 0 := by
 obtain ⟨ds, n, e⟩ := h.go p.defs.length (Nat.le_refl _)
 unfold Pg.resolve
 rw [h.right hl hb hs, h.once, e]
 simp only [Bool.not_true, Bool.false_eq_true, if_false]
 rw [hf]; rfl
end
section
variable {ls : List Bs} {p : Pg}
end
end Go.Proofs.YthnhddjlgjecdaaGreatDoor
namespace Go.Proofs.YthnhddjlgjecdaaGreatDoor.X
open Go
def bm (n m : Nat) : Array Bool := ((List.range n).map fun i => m.testBit i).toArray
section
variable {P : Program} {ops : Array Oper} {Q : Exit → Act → World → Prop} {S0 : World → Prop} {rd : List Nat} {n : Nat} {ls ls' : Array Bool} {a : Act} {w : World}
theorem cap (k : ∀ W : Nat → Array Bool → Act → World → Prop, W = wpR P ops Q S0 rd → W n ls a w) : wpR P ops Q S0 rd n ls a w := k _ rfl
theorem mR (h : wpR P ops Q S0 rd n ls' a w) (hl : ls = ls' := by kernel_rfl) : wpR P ops Q S0 rd n ls a w := hl ▸ h
variable {Q : Exit → Act → World → Prop} {rest : List Oper} {o : Oper} {E : World} {H H1 : GH} {N : Nat} {D : List Deferred} {F : List (Nat × Value)} {L L1 : List It} {t d g off n : Nat} {x : Operand} {l : List Value} {K : Act → World → Prop} {nd : Bool}
theorem ldHNB (ht : tyN P t n = true) (hl : l.length = n) (hc : ∀ i u, l[i]? = some u → Hc H g (off + i) u) (h : S E H N D F L a w) (k : ∀ a w, S E H N D ((d, .agg l.toArray) :: F) L a w → (gb P ops Q (Sees H1 L1) nd K).G rest a w)
   (ho : o.op = .load t x := by rfl) (hx : ev F x = some (.pointer (some ⟨g, off, none⟩)) := by rfl)
   (hw : wn ops F o = some true := by rfl) (hd : o.dst = some d := by rfl) (hN : Nat.blt d N = true := by rfl) (hSub : ∀ i ∈ L1, i ∈ L := by simp) (hLe : LE H1 H := by exact le_) : (gb P ops Q (Sees H1 L1) nd K).G (o :: rest) a w :=
 ldHNX (H1 := H) (L1 := L) ht hl hc h rfl (h.st.sees' hLe hSub) (fun w' e => e ▸ h.st.sees) k ho hx hw hd hN
end
section
variable {P : Program} {Q : Exit → Act → World → Prop} {rd : List Nat} {n : Nat} {listed : Array Bool} {l : List Oper} {a : Act} {w : World} {o o' o2 : Oper} {E : World} {H H1 : GH} {N : Nat} {D : List Deferred} {F : List (Nat × Value)} {L L1 : List It}
theorem S.asL {L0 L2 : List It} (h : S E H N D F L a w) (e : L0 = L2) (hd : L = L2 := by rfl) : S E H N D F L2 a w := hd ▸ h
theorem bg3 (i j k : Nat) (hs : S E H N D F L a w) (h : (gb P l.toArray Q (Sees H1 L1) true (Nx P l.toArray Q (Sees H1 L1) rd n listed i)).G [o] a w) (h' : (gb P l.toArray Q (Sees H1 L1) true (Nx P l.toArray Q (Sees H1 L1) rd n listed j)).G [o'] a w) (h2 : (gb P l.toArray Q (Sees H1 L1) true (Nx P l.toArray Q (Sees H1 L1) rd n listed k)).G [o2] a w)
   (hr : Region.ready .any l.toArray listed = [i, j, k] := by kernel_rfl) (hnd : needs l.toArray rd i = true := by kernel_rfl) (hnd' : needs l.toArray rd j = true := by kernel_rfl) (hnd2 : needs l.toArray rd k = true := by kernel_rfl)
   (hi : l[i]? = some o := by rfl) (hj : l[j]? = some o' := by rfl) (hk : l[k]? = some o2 := by rfl) (hSub : ∀ i ∈ L1, i ∈ L := by simp) (hLe : LE H1 H := by exact le_) : wpR P l.toArray Q (Sees H1 L1) rd (n + 1) listed a w :=
 brl3 i j k true true true hr hnd hnd' hnd2 (fun _ => hs.st.sees' hLe hSub) h h' h2 hi hj hk
end
end Go.Proofs.YthnhddjlgjecdaaGreatDoor.X
namespace Go.Proofs.YthnhddjlgjecdaaGreatDoor
open Go X
theorem two0_ok (kd : Int) (nm : Bs) (p q : Tm) (v v2 : Value) (E : World) (H : GH) (L : List It) (hp : VT H v p) (hq : VT H v2 q) : Ok Tryz.prog 28 #[.int .i64 kd, str nm, v, v2] E H L fun r H' L' => VT H' r (.mk kd nm 0 [p, q]) ∧ L = L' := by
 have := two9_ok kd nm p q v v2 (fun _ => False) E H L Sub.no (by rw [VX, wo_none]; exact hp) (by rw [VX, wo_none]; exact hq)
 simpa only [VX, wo_none] using this
theorem examples9_ok (E : World) (H : GH) (L : List It) (hL : Laid H) : Ok Tryz.prog 10 #[] E H L fun r H' L' => r = .bool true ∧ L = L' := by
 have hx1 := exE3_x.one
 have hx2 := exE3_x.two
 have hx3 := exE3_x.size
 have hx4 := exE3_x.big
 refine enter (N := 133) [] Tryz.func10 rfl rfl rfl rfl fun a w h => ?_
 refine au [1,2,0,6,0,2,7,5] h ?_; intro a w h
 refine al zr26 h fun g1 a w h => ?_
 refine au [5,5,0,2,7,5] h ?_; intro a w h
 refine al zr26 h fun g2 a w h => ?_
 refine au [5,5,0,2,3,4,3,4] h ?_; intro a w h
 refine cl bod28 (two0_ok 4 [] (Tm.mk 1 [] 1 [] : Tm) (Tm.mk 1 [] 1 [] : Tm) _ _ E H _ ⟨none, 0, rfl, RS.nil _ _ _⟩ ⟨none, 0, rfl, RS.nil _ _ _⟩) h (fun r18 H18 L18 a w le18 R h => ?_)
 obtain ⟨⟨A18, c18, rfl, hk18⟩, rfl⟩ := R
 refine bdl lay28 zr28 h fun a w h => ?_
 refine cl bod20 (Elab_ok exE1 _ E H18 _ ⟨none, 0, none, 0, none, 0, A18, c18, rfl, RS.nil _ _ _, RS.nil _ _ _, RS.nil _ _ _, hk18⟩ (hL.up le_) mildE1) h (fun r20 H20 L20 a w le20 R h => ?_)
 obtain ⟨_, rfl, ⟨A20, c20, A20_1, c20_1, A20_2, c20_2, A20_3, c20_3, rfl, hk20, hk20_1, hk20_2, hk20_3⟩, rfl⟩ := R
 rw [exE1_e] at h
 refine au [0,0,4,7,4,7] h ?_; intro a w h
 refine al zr59 h fun g3 a w h => ?_
 refine au [5,5,0,6,0,2,3,4,7,5] h ?_; intro a w h
 refine cl bod20 (Elab_ok exE2 _ E H20 _ ⟨none, 0, none, 0, none, 0, none, 0, rfl, RS.nil _ _ _, RS.nil _ _ _, RS.nil _ _ _, RS.nil _ _ _⟩ (hL.up le_) mildE2) h (fun r26 H26 L26 a w le26 R h => ?_)
 obtain ⟨_, rfl, ⟨A26, c26, A26_1, c26_1, A26_2, c26_2, A26_3, c26_3, rfl, hk26, hk26_1, hk26_2, hk26_3⟩, rfl⟩ := R
 rw [exE2_e] at h
 refine au [0,0,4,7,4,7] h ?_; intro a w h
 refine al zr59 h fun g5 a w h => ?_
 refine au [5,5,0,6,0,2,3,5,3,6] h ?_; intro a w h
 refine cl bod28 (two0_ok 12 [43] (Tm.mk 2 [120] 0 [] : Tm) (Tm.mk 1 [] 1 [] : Tm) _ _ E H26 _ ⟨none, 0, rfl, RS.nil _ _ _⟩ ⟨none, 0, rfl, RS.nil _ _ _⟩) h (fun r31 H31 L31 a w le31 R h => ?_)
 obtain ⟨⟨A31, c31, rfl, hk31⟩, rfl⟩ := R
 refine bsl bs24 h fun g32 a w h => ?_
 obtain ⟨Hq32, e32, h, hsHq32⟩ := h.fsl (R := RT) (sz := 4) (ys := [(Tm.mk 12 [43] 0 [(Tm.mk 2 [120] 0 [] : Tm), (Tm.mk 1 [] 1 [] : Tm)])]) 0 (RowR.one rfl (rt_of_vt (cs := [_, _, _, _]) ⟨_, _, rfl, hk31⟩)) (fun _ l cs y _ hr => RT.mono l y hr)
 refine bdl lay26 zr26 h fun a w h => ?_
 refine al zr26 h fun g7 a w h => ?_
 refine au [5,5,0,3,0,4] h ?_; intro a w h
 obtain ⟨L0, hL0⟩ : ∃ F : List It, F = .obj g7 (.cells #[.int .i64 3, str [120], .int .i64 0, .slice (some ⟨g32, 0, none⟩) ([(Tm.mk 12 [43] 0 [(Tm.mk 2 [120] 0 [] : Tm), (Tm.mk 1 [] 1 [] : Tm)])]).length 1] 26 (0, 0)) :: .obj g5 (.cells #[.slice A26 exE2.elb.1.defs.length c26, .int .i64 exE2.elb.1.body.kind, str exE2.elb.1.body.name, .int .i64 exE2.elb.1.body.n, .int .i64 exE2.elb.1.body.s.kind, .int .i64 exE2.elb.1.body.s.n, .slice A26_1 exE2.elb.1.body.s.kids.length c26_1, .int .i64 exE2.elb.1.body.b.kind, .int .i64 exE2.elb.1.body.b.n, .slice A26_2 exE2.elb.1.body.b.kids.length c26_2, .slice A26_3 exE2.elb.1.body.kids.length c26_3] 59 (0, 0)) :: .obj g3 (.cells #[.slice A20 exE1.elb.1.defs.length c20, .int .i64 exE1.elb.1.body.kind, str exE1.elb.1.body.name, .int .i64 exE1.elb.1.body.n, .int .i64 exE1.elb.1.body.s.kind, .int .i64 exE1.elb.1.body.s.n, .slice A20_1 exE1.elb.1.body.s.kids.length c20_1, .int .i64 exE1.elb.1.body.b.kind, .int .i64 exE1.elb.1.body.b.n, .slice A20_2 exE1.elb.1.body.b.kids.length c20_2, .slice A20_3 exE1.elb.1.body.kids.length c20_3] 59 (0, 0)) :: .obj g2 (.cells #[.int .i64 2, str [120], .int .i64 0, .slice none 0 0] 26 (0, 0)) :: .obj g1 (.cells #[.int .i64 1, str [], .int .i64 1, .slice none 0 0] 26 (0, 0)) :: L := ⟨_, rfl⟩
 have h := h.asL hL0
 refine rgx [0, 4] [_, _] [0, 4] 14 mix h (fun a w h => ?_)
 refine au [8,0,4,5,2,6,8,1,7,5,2,6,8,3,7,5,2,6,8,4,4,6,2,6] h ?_; intro a w h
 refine cap fun W hW => ?_
 obtain ⟨F0, hF0⟩ : ∃ F : List (Nat × Value), F = [(0, .bool false), (1, .pointer (some ⟨g1, 0, none⟩)), (2, .pointer (some ⟨g2, 0, none⟩)), (4, .int .i64 8), (6, .int .i64 5), (36, .agg #[str [102], .int .i64 3, str [120], .int .i64 0, .slice (some ⟨g32, 0, none⟩) ([(Tm.mk 12 [43] 0 [(Tm.mk 2 [120] 0 [] : Tm), (Tm.mk 1 [] 1 [] : Tm)])]).length 1]), (38, .agg #[.int .i64 2, str [102], .int .i64 0, .slice none 0 0]), (39, .agg #[.int .i64 1, str [], .int .i64 1, .slice none 0 0])] := ⟨_, rfl⟩
 have st1 {G} (e : LE Hq32 G) {g8 v43} (k43 : VTy G v43 exE3.elb.1) {a w} (h : S E G 133 [] ((8, .pointer (some ⟨g8, 0, none⟩)) :: (43, v43) :: (44, .int .i64 0) :: F0) (.obj g8 (.cells #[.slice none 0 0, .int .i64 0, str [], .int .i64 0, .int .i64 0, .int .i64 0, .slice none 0 0, .int .i64 0, .int .i64 0, .slice none 0 0, .slice none 0 0] 59 (0, 0)) :: L0) a w) : W 2 (bm 14 4095) a w := by
  subst hW hF0 hL0
  refine bf1 12 ?_
  obtain ⟨A43, c43, A43_1, c43_1, A43_2, c43_2, A43_3, c43_3, rfl, hk43, hk43_1, hk43_2, hk43_3⟩ := k43
  refine au [5,5,2,7,8,13,0,6,2,6] h ?_; intro a w h
  refine en (by kernel_rfl) ?_
  refine au [1,0,1,2,3,7,3,7] h ?_; intro a w h
  refine cl bod28 (two0_ok 4 [] (Tm.mk 2 [120] 0 [] : Tm) (Tm.mk 2 [120] 0 [] : Tm) _ _ E G _ ⟨none, 0, rfl, RS.nil _ _ _⟩ ⟨none, 0, rfl, RS.nil _ _ _⟩) h (fun r47 H47 L47 a w le47 R h => ?_)
  obtain ⟨⟨A47, c47, rfl, hk47⟩, rfl⟩ := R
  refine bsl bs24 h fun g48 a w h => ?_
  obtain ⟨Hq48, e48, h, hsHq48⟩ := h.fsl (R := RT) (sz := 4) (ys := [(Tm.mk 4 [] 0 [(Tm.mk 2 [120] 0 [] : Tm), (Tm.mk 2 [120] 0 [] : Tm)])]) 0 (RowR.one rfl (rt_of_vt (cs := [_, _, _, _]) ⟨_, _, rfl, hk47⟩)) (fun _ l cs y _ hr => RT.mono l y hr)
  refine bdl lay26 zr26 h fun a w h => ?_
  refine al zr26 h fun g10 a w h => ?_
  refine au [5,5,0,2,3,3] h ?_; intro a w h
  refine ldW 6 tN26 h fun a w h => ?_
  refine cl bod28 (two0_ok 13 [] (Tm.mk 3 [120] 0 ([(Tm.mk 4 [] 0 [(Tm.mk 2 [120] 0 [] : Tm), (Tm.mk 2 [120] 0 [] : Tm)])]) : Tm) (Tm.mk 1 [] 1 [] : Tm) _ _ E Hq48 _ ⟨_, _, rfl, hsHq48⟩ ⟨none, 0, rfl, RS.nil _ _ _⟩) h (fun r53 H53 L53 a w le53 R h => ?_)
  obtain ⟨⟨A53, c53, rfl, hk53⟩, rfl⟩ := R
  refine bdl lay28 zr28 h fun a w h => ?_
  refine cl bod20 (Elab_ok exE4 _ E H53 _ ⟨none, 0, none, 0, none, 0, A53, c53, rfl, RS.nil _ _ _, RS.nil _ _ _, RS.nil _ _ _, hk53⟩ (hL.up le_) mildE4) h (fun r55 H55 L55 a w le55 R h => ?_)
  obtain ⟨_, rfl, ⟨A55, c55, A55_1, c55_1, A55_2, c55_2, A55_3, c55_3, rfl, hk55, hk55_1, hk55_2, hk55_3⟩, rfl⟩ := R
  rw [exE4_e] at h
  refine au [0,0,4,7,4,7] h ?_; intro a w h
  refine al zr59 h fun g11 a w h => ?_
  refine au [5,5,0,6,0,3,0,4,1,2,0,7,3,0,6,0,6,3] h ?_; intro a w h
  refine h.spl (fun c61 h => ?_) (fun c61 h => ?_)
  ·have d61 : exE3.elb.1.defs.length ≠ 1 := cd_ c61
   rw [hx1] at c61; simp at c61
  ·have d61 : exE3.elb.1.defs.length = 1 := cd_ c61
   refine au [0,0,0,7,0,7,3,0,6,0,6,3,5,0,0,3] h ?_; intro a w h
   refine cdB h (fun c68 => ?_) (fun c68 => ?_)
   ·have d68 : exE3.elb.1.body.kids.length ≠ 2 := cd_ c68
    rw [hx2] at c68; simp at c68
   ·have d68 : exE3.elb.1.body.kids.length = 2 := cd_ c68
    refine au [1,8,1,0,1,2,0,0,6,2] h ?_; intro a w h
    refine h.spl (fun c70 h => ?_) (fun c70 h => ?_)
    ·refine au [0,0,0,0,6,2] h ?_; intro a w h
     refine h.spl (fun c73 h => ?_) (fun c73 h => ?_)
     ·refine au [4,8,0,0,0,0,6,2] h ?_; intro a w h
      refine h.spl (fun c77 h => ?_) (fun c77 h => ?_)
      ·refine au [4,8,0,0,0,0,6,2] h ?_; intro a w h
       refine h.spl (fun c81 h => ?_) (fun c81 h => ?_)
       ·refine au [4,8,0,0,0,7,3,0] h ?_; intro a w h
        have l_Hm_H55 : LE G H55 := ((le47.trans e48).trans le53).trans le55
        have hj86 : 0 < exE3.elb.1.defs.length := by first | assumption | omega | (simp; done) | (simp; omega)
        obtain ⟨g86, o86, A86, c86, A86_1, c86_1, A86_2, c86_2, e86, hv86, hc86⟩ := TdS.get (TdS.up hk43 l_Hm_H55) hj86
        obtain ⟨_, _, _, _, _, _, q86, hk86, hk86_1, hk86_2⟩ := hv86; cases q86
        refine iaE sli57 sz74 rfl hj86 e86 h fun a w h => ?_
        refine fa fl74_1 (r := o86 + 0 * 11 + 1) h fun a w h => ?_
        refine fa fl34_3 (r := o86 + 0 * 11 + 4) h fun a w h => ?_
        refine ldHN (l := [_, _, _]) tN31 rfl (sbL 4 3 hc86) h fun a w h => ?_
        refine cl bod26 (Text_ok exE3.elb.1.defs[0].t.s _ E H55 _ (hL.up le_) ⟨A86, c86, rfl, hk86⟩ (by rw [exE3_x.s]; decide) (fun _ x hx => by rw [exE3_x.s] at hx; simp [fu, wh, Sh.hl, hlL] at hx)) h (fun r90 H90 L90 a w le90 R h => ?_)
        obtain ⟨rfl, rfl, rfl⟩ := R
        refine eqb h fun a w h => ?_
        refine h.spl (fun c91 h => ?_) (fun c91 h => ?_)
        ·have d91 : (exE3.elb.1.defs[0].t.s.text) = [40, 105, 110, 116, 32, 45, 62, 32, 105, 110, 116, 41] := cd_ c91
         refine au [4,8,0,0,0,7,3,0] h ?_; intro a w h
         have hj96 : 0 < exE3.elb.1.defs.length := by first | assumption | omega | (simp; done) | (simp; omega)
         obtain ⟨g96, o96, A96, c96, A96_1, c96_1, A96_2, c96_2, e96, hv96, hc96⟩ := TdS.get (TdS.up hk43 l_Hm_H55) hj96
         obtain ⟨_, _, _, _, _, _, q96, hk96, hk96_1, hk96_2⟩ := hv96; cases q96
         refine iaE sli57 sz74 rfl hj96 e96 h fun a w h => ?_
         refine fa fl74_1 (r := o96 + 0 * 11 + 1) h fun a w h => ?_
         refine fa fl34_4 (r := o96 + 0 * 11 + 7) h fun a w h => ?_
         refine fa fl31_0 (r := o96 + 0 * 11 + 7) h fun a w h => ?_
         refine ldH t1_3 (hc96 7 _ rfl) h fun a w h => ?_
         refine eqi h fun a w h => ?_
         refine h.spl (fun c101 h => ?_) (fun c101 h => ?_)
         ·have d101 : exE3.elb.1.defs[0].t.b.kind = 1 := cd_ c101
          refine au [4,8,0,0,0,7,0,7,0,7,3,0,6,2] h ?_; intro a w h
          refine h.spl (fun c108 h => ?_) (fun c108 h => ?_)
          ·have d108 : exE3.elb.1.body.s.kind = 1 := cd_ c108
           refine au [4,8,0,0,0,7,3,0] h ?_; intro a w h
           have hj113 : 0 < exE3.elb.1.defs.length := by first | assumption | omega | (simp; done) | (simp; omega)
           obtain ⟨g113, o113, A113, c113, A113_1, c113_1, A113_2, c113_2, e113, hv113, hc113⟩ := TdS.get (TdS.up hk43 l_Hm_H55) hj113
           obtain ⟨_, _, _, _, _, _, q113, hk113, hk113_1, hk113_2⟩ := hv113; cases q113
           refine iaE sli57 sz74 rfl hj113 e113 h fun a w h => ?_
           refine fa fl74_1 (r := o113 + 0 * 11 + 1) h fun a w h => ?_
           refine fa fl34_1 (r := o113 + 0 * 11 + 2) h fun a w h => ?_
           refine ldH t1_9 (hc113 2 _ rfl) h fun a w h => ?_
           refine eqb h fun a w h => ?_
           refine h.spl (fun c117 h => ?_) (fun c117 h => ?_)
           ·have d117 : exE3.elb.1.defs[0].t.name = [49] := cd_ c117
            refine au [4,8,0,0,0,7] h ?_; intro a w h
            refine ldN (l := [_, _, _, _, _, _, _, _, _, _]) 2 tN34 h fun a w h => ?_
            refine cl bod16 (Bare_ok exE3.elb.1.body _ E H55 _ ⟨A43_1, c43_1, A43_2, c43_2, A43_3, c43_3, rfl, (HS.up hk43_1 l_Hm_H55), (HS.up hk43_2 l_Hm_H55), (TrS.up hk43_3 l_Hm_H55)⟩ (by omega)) h (fun r122 H122 L122 a w le122 R h => ?_)
            obtain ⟨⟨A122, c122, rfl, hk122⟩, rfl⟩ := R
            refine fld1 (r := 0) (by kernel_rfl) h fun a w h => ?_
            refine eqi h fun a w h => ?_
            refine h.spl (fun c124 h => ?_) (fun c124 h => ?_)
            ·have d124 : (exE3.elb.1.body.bare).kind = 4 := cd_ c124
             refine au [4,8,0,0,0,7] h ?_; intro a w h
             refine ldN (l := [_, _, _, _, _, _, _, _, _, _]) 2 tN34 h fun a w h => ?_
             refine fa fl59_1 (r := 1) h fun a w h => ?_
             refine ldN (l := [_, _, _, _, _, _, _, _, _, _]) 2 tN34 h fun a w h => ?_
             have l_Hm_H122 : LE G H122 := (((le47.trans e48).trans le53).trans le55).trans le122
             refine cl bod11 (SameTr_ok exE3.elb.1.body exE3.elb.1.body _ _ E H122 _ ⟨A43_1, c43_1, A43_2, c43_2, A43_3, c43_3, rfl, (HS.up hk43_1 l_Hm_H122), (HS.up hk43_2 l_Hm_H122), (TrS.up hk43_3 l_Hm_H122)⟩ ⟨A43_1, c43_1, A43_2, c43_2, A43_3, c43_3, rfl, (HS.up hk43_1 l_Hm_H122), (HS.up hk43_2 l_Hm_H122), (TrS.up hk43_3 l_Hm_H122)⟩ (by omega) (by omega)) h (fun r131 H131 L131 a w le131 R h => ?_)
             obtain ⟨rfl, rfl, rfl⟩ := R
             refine au [4,8,0,6,0,3,1,3] h ?_; intro a w h
             have l_H_H122 : LE H H122 := (((((((((le18.trans le20).trans le26).trans le31).trans e32).trans e).trans le47).trans e48).trans le53).trans le55).trans le122
             refine fin1 0 8 h l_H_H122 ?_
             exact ⟨by rw [(tr_same_iff _ _).2 rfl], rfl⟩
            ·have d124 : (exE3.elb.1.body.bare).kind ≠ 4 := cd_ c124
             rw [exE3_x.bare] at c124; simp at c124
           ·have d117 : exE3.elb.1.defs[0].t.name ≠ [49] := cd_ c117
            rw [exE3_x.nm] at c117; simp at c117
          ·have d108 : exE3.elb.1.body.s.kind ≠ 1 := cd_ c108
           rw [exE3_x.bs] at c108; simp [wh, Sh.kind] at c108
         ·have d101 : exE3.elb.1.defs[0].t.b.kind ≠ 1 := cd_ c101
          rw [exE3_x.b] at c101; simp [wh, Sh.kind] at c101
        ·have d91 : (exE3.elb.1.defs[0].t.s.text) ≠ [40, 105, 110, 116, 32, 45, 62, 32, 105, 110, 116, 41] := cd_ c91
         rw [exE3_x.s, tx3] at c91; simp at c91
       ·have d81 : 8 ≠ 8 := cd_ c81
        simp at c81
      ·have d77 : 0 ≠ 0 := cd_ c77
       simp at c77
     ·have d73 : 5 ≠ 5 := cd_ c73
      simp at c73
    ·have d70 : 8 ≠ 8 := cd_ c70
     simp at c70
 have st2 {G} (e : LE Hq32 G) {g8 v41} (k41 : VP G v41 exE3) {a w} (h : S E G 133 [] ((8, .pointer (some ⟨g8, 0, none⟩)) :: (41, v41) :: F0) (.obj g8 (.cells #[.slice none 0 0, .int .i64 0, str [], .int .i64 0, .int .i64 0, .int .i64 0, .slice none 0 0, .int .i64 0, .int .i64 0, .slice none 0 0, .slice none 0 0] 59 (0, 0)) :: L0) a w) : W 6 (bm 14 2175) a w := by
  subst hW hF0 hL0
  refine bg1 7 true h ?_
  refine clG bod20 (Elab_ok exE3 _ E G _ k41 (hL.up le_) mildE3) h (fun r42 H42 L42 a w le42 R h => ?_)
  obtain ⟨_, rfl, ⟨A42, c42, A42_1, c42_1, A42_2, c42_2, A42_3, c42_3, rfl, hk42, hk42_1, hk42_2, hk42_3⟩, rfl⟩ := R
  rw [exE3_e.1] at h
  refine au [2,7,8,8,0,0,2,6,8,9,4,7,2,6,8,10,4,7,2,6] h ?_; intro a w h
  exact mR (st1 (e.trans le42) ⟨A42, c42, A42_1, c42_1, A42_2, c42_2, A42_3, c42_3, rfl, hk42, hk42_1, hk42_2, hk42_3⟩ (h.to 0 _))
 have st0 {G} (e : LE Hq32 G) {v41} (k41 : VP G v41 exE3) {a w} (h : S E G 133 [] ((41, v41) :: F0) L0 a w) : W 7 (bm 14 127) a w := by
  subst hW hF0 hL0
  refine bg2 7 11 true true h ?_ ?_
  ·refine clG bod20 (Elab_ok exE3 _ E G _ k41 (hL.up le_) mildE3) h (fun r42 H42 L42 a w le42 R h => ?_)
   obtain ⟨_, rfl, ⟨A42, c42, A42_1, c42_1, A42_2, c42_2, A42_3, c42_3, rfl, hk42, hk42_1, hk42_2, hk42_3⟩, rfl⟩ := R
   rw [exE3_e.1] at h
   refine au [2,7,8,8,0,0,2,6,8,9,4,7,2,6,8,10,4,7,2,6] h ?_; intro a w h
   have l_Hq32_H42 : LE Hq32 H42 := e.trans le42
   refine bg1 11 true h ?_
   refine al zr59 h fun g8 a w h => ?_
   exact br0 (mR (st1 (e.trans le42) ⟨A42, c42, A42_1, c42_1, A42_2, c42_2, A42_3, c42_3, rfl, hk42, hk42_1, hk42_2, hk42_3⟩ (h.to 0 _)))
  ·refine al zr59 h fun g8 a w h => ?_
   exact br0 (mR (st2 e k41 (h.to 0 _)))
 have st3 {G} (e : LE Hq32 G) {g37 g8} (hsHq37 : FS G (some ⟨g37, 0, none⟩) 1 ([(Df.mk [102] (Tm.mk 3 [120] 0 ([(Tm.mk 12 [43] 0 [(Tm.mk 2 [120] 0 [] : Tm), (Tm.mk 1 [] 1 [] : Tm)])]) : Tm) : Df)])) {a w} (h : S E G 133 [] ((8, .pointer (some ⟨g8, 0, none⟩)) :: (37, .slice (some ⟨g37, 0, none⟩) ([(Df.mk [102] (Tm.mk 3 [120] 0 ([(Tm.mk 12 [43] 0 [(Tm.mk 2 [120] 0 [] : Tm), (Tm.mk 1 [] 1 [] : Tm)])]) : Tm) : Df)]).length 1) :: F0) (.obj g8 (.cells #[.slice none 0 0, .int .i64 0, str [], .int .i64 0, .int .i64 0, .int .i64 0, .slice none 0 0, .int .i64 0, .int .i64 0, .slice none 0 0, .slice none 0 0] 59 (0, 0)) :: L0) a w) : W 8 (bm 14 2079) a w := by
  subst hW hF0 hL0
  refine bg1 5 true h ?_
  refine clG bod28 (two0_ok 4 [] (Tm.mk 2 [102] 0 [] : Tm) (Tm.mk 1 [] 1 [] : Tm) _ _ E G _ ⟨none, 0, rfl, RS.nil _ _ _⟩ ⟨none, 0, rfl, RS.nil _ _ _⟩) h (fun r40 H40 L40 a w le40 R h => ?_)
  obtain ⟨⟨A40, c40, rfl, hk40⟩, rfl⟩ := R
  refine au [2,7,8,6,7,5,2,6] h ?_; intro a w h
  exact mR (st2 (e.trans le40) ⟨none, 0, none, 0, (some ⟨g37, 0, none⟩), 1, A40, c40, rfl, RS.nil _ _ _, RS.nil _ _ _, (FS.up hsHq37 le40), hk40⟩ (h.to 0 _))
 have st4 {G} (e : LE Hq32 G) {g8 v40} (k40 : VT G v40 (Tm.mk 4 [] 0 [(Tm.mk 2 [102] 0 [] : Tm), (Tm.mk 1 [] 1 [] : Tm)])) {a w} (h : S E G 133 [] ((8, .pointer (some ⟨g8, 0, none⟩)) :: (40, v40) :: F0) (.obj g8 (.cells #[.slice none 0 0, .int .i64 0, str [], .int .i64 0, .int .i64 0, .int .i64 0, .slice none 0 0, .int .i64 0, .int .i64 0, .slice none 0 0, .slice none 0 0] 59 (0, 0)) :: L0) a w) : W 8 (bm 14 2107) a w := by
  subst hW hF0 hL0
  refine bg1 2 true h ?_
  refine bsl bs23 h fun g37 a w h => ?_
  obtain ⟨Hq37, e37, h, hsHq37⟩ := h.fsl (R := RDf) (sz := 5) (ys := [(Df.mk [102] (Tm.mk 3 [120] 0 ([(Tm.mk 12 [43] 0 [(Tm.mk 2 [120] 0 [] : Tm), (Tm.mk 1 [] 1 [] : Tm)])]) : Tm) : Df)]) 0 (RowR.one rfl (⟨_, rfl, rt_of_vt (cs := [_, _, _, _]) ⟨_, _, rfl, (KS.up hsHq32 e)⟩⟩)) (fun _ l cs y _ hr => RDf.mono l hr)
  refine au [2,7,8,6] h ?_
  obtain ⟨A40, c40, rfl, hk40⟩ := k40
  refine au [7,5,2,6] h ?_; intro a w h
  exact mR (st2 (e.trans e37) ⟨none, 0, none, 0, (some ⟨g37, 0, none⟩), 1, A40, c40, rfl, RS.nil _ _ _, RS.nil _ _ _, hsHq37, (KS.up hk40 e37)⟩ (h.to 0 _))
 subst hW hF0 hL0
 refine bg3 2 5 11 h ?_ ?_ ?_
 ·refine bsl bs23 h fun g37 a w h => ?_
  obtain ⟨Hq37, e37, h, hsHq37⟩ := h.fsl (R := RDf) (sz := 5) (ys := [(Df.mk [102] (Tm.mk 3 [120] 0 ([(Tm.mk 12 [43] 0 [(Tm.mk 2 [120] 0 [] : Tm), (Tm.mk 1 [] 1 [] : Tm)])]) : Tm) : Df)]) 0 (RowR.one rfl (⟨_, rfl, rt_of_vt (cs := [_, _, _, _]) ⟨_, _, rfl, hsHq32⟩⟩)) (fun _ l cs y _ hr => RDf.mono l hr)
  refine br0 ?_
  refine bg2 5 11 true true h ?_ ?_
  ·refine clG bod28 (two0_ok 4 [] (Tm.mk 2 [102] 0 [] : Tm) (Tm.mk 1 [] 1 [] : Tm) _ _ E Hq37 _ ⟨none, 0, rfl, RS.nil _ _ _⟩ ⟨none, 0, rfl, RS.nil _ _ _⟩) h (fun r40 H40 L40 a w le40 R h => ?_)
   obtain ⟨⟨A40, c40, rfl, hk40⟩, rfl⟩ := R
   refine au [2,7,8,6,7,5,2,6] h ?_; intro a w h
   exact mR (st0 (e37.trans le40) ⟨none, 0, none, 0, (some ⟨g37, 0, none⟩), 1, A40, c40, rfl, RS.nil _ _ _, RS.nil _ _ _, (FS.up hsHq37 le40), hk40⟩ (h.to 0 _))
  ·refine al zr59 h fun g8 a w h => ?_
   exact br0 (mR (st3 e37 hsHq37 (h.to 0 _)))
 ·refine clG bod28 (two0_ok 4 [] (Tm.mk 2 [102] 0 [] : Tm) (Tm.mk 1 [] 1 [] : Tm) _ _ E Hq32 _ ⟨none, 0, rfl, RS.nil _ _ _⟩ ⟨none, 0, rfl, RS.nil _ _ _⟩) h (fun r40 H40 L40 a w le40 R h => ?_)
  obtain ⟨⟨A40, c40, rfl, hk40⟩, rfl⟩ := R
  refine br0 ?_
  refine bg2 2 11 true true h ?_ ?_
  ·refine bsl bs23 h fun g37 a w h => ?_
   obtain ⟨Hq37, e37, h, hsHq37⟩ := h.fsl (R := RDf) (sz := 5) (ys := [(Df.mk [102] (Tm.mk 3 [120] 0 ([(Tm.mk 12 [43] 0 [(Tm.mk 2 [120] 0 [] : Tm), (Tm.mk 1 [] 1 [] : Tm)])]) : Tm) : Df)]) 0 (RowR.one rfl (⟨_, rfl, rt_of_vt (cs := [_, _, _, _]) ⟨_, _, rfl, (KS.up hsHq32 le40)⟩⟩)) (fun _ l cs y _ hr => RDf.mono l hr)
   refine au [2,7,8,6,7,5,2,6] h ?_; intro a w h
   exact mR (st0 (le40.trans e37) ⟨none, 0, none, 0, (some ⟨g37, 0, none⟩), 1, A40, c40, rfl, RS.nil _ _ _, RS.nil _ _ _, hsHq37, (KS.up hk40 e37)⟩ (h.to 0 _))
  ·refine al zr59 h fun g8 a w h => ?_
   exact br0 (mR (st4 le40 ⟨A40, c40, rfl, hk40⟩ (h.to 0 _)))
 ·refine al zr59 h fun g8 a w h => ?_
  refine br0 ?_
  refine bg2 2 5 true true h ?_ ?_
  ·refine bsl bs23 h fun g37 a w h => ?_
   obtain ⟨Hq37, e37, h, hsHq37⟩ := h.fsl (R := RDf) (sz := 5) (ys := [(Df.mk [102] (Tm.mk 3 [120] 0 ([(Tm.mk 12 [43] 0 [(Tm.mk 2 [120] 0 [] : Tm), (Tm.mk 1 [] 1 [] : Tm)])]) : Tm) : Df)]) 0 (RowR.one rfl (⟨_, rfl, rt_of_vt (cs := [_, _, _, _]) ⟨_, _, rfl, hsHq32⟩⟩)) (fun _ l cs y _ hr => RDf.mono l hr)
   exact br0 (mR (st3 e37 hsHq37 (h.to 0 _)))
  ·refine clG bod28 (two0_ok 4 [] (Tm.mk 2 [102] 0 [] : Tm) (Tm.mk 1 [] 1 [] : Tm) _ _ E Hq32 _ ⟨none, 0, rfl, RS.nil _ _ _⟩ ⟨none, 0, rfl, RS.nil _ _ _⟩) h (fun r40 H40 L40 a w le40 R h => ?_)
   obtain ⟨⟨A40, c40, rfl, hk40⟩, rfl⟩ := R
   exact br0 (mR (st4 le40 ⟨A40, c40, rfl, hk40⟩ (h.to 0 _)))
theorem X.S.fsT {E w : World} {H : GH} {N : Nat} {D : List Deferred} {F : List (Nat × Value)} {L L' : List It} {a : Act} (k0 : Nat) {g : Nat} {cells : Array Value} {e : TypeId} {z : Nat × Nat} {ys : List Tm} (h : S E H N D F L a w) (hr : RowR RT 4 H cells.toList ys) (hk : L[k0]? = some (.obj g (.cells cells e z)) := by rfl) (hL : L.eraseIdx k0 = L' := by rfl) :
   ∃ H', LE H H' ∧ S E H' N D F L' a w ∧ RS RT 4 H' (.slice (some ⟨g, 0, none⟩) ys.length ys.length) ys := h.fsl (R := RT) (sz := 4) k0 hr (fun _ l cs y _ hr => RT.mono l y hr) hk hL
theorem rT1 {H : GH} {a b c d : Value} {t : Tm} (h : VT H (.agg #[a, b, c, d]) t) : RowR RT 4 H [a, b, c, d] [t] := RowR.one rfl (rt_of_vt (cs := [a, b, c, d]) h)
theorem rTc {H : GH} {a b c d : Value} {t : Tm} {cs : List Value} {ys : List Tm} (h : VT H (.agg #[a, b, c, d]) t) (k : RowR RT 4 H cs ys) : RowR RT 4 H (a :: b :: c :: d :: cs) (t :: ys) := RowR.cons (cs := [a, b, c, d]) rfl (rt_of_vt (cs := [a, b, c, d]) h) k
def funU : Tm := .mk 3 [117] 0 [exOne]
def oddL (t : Tm) : List Tm := [.mk 4 [] 0 [exOne, t], .mk 10 [] 0 [exOne], .mk 12 [43] 0 [funU, t], .mk 11 [] 0 [.mk 12 [43] 0 [t, exOne], exOne], .mk 8 [] 0 [funU], .mk 6 [] 0 [t, funU, exOne]]
def oddP (p : Pg) (o : Tm) : Pg := ⟨p.inputs, p.cells, p.defs, .mk 13 [] 0 [o, p.body]⟩
theorem okKd {G : Bs → Option Sh} {f : Sh → Sh} {ts : List Tr} (h : okL G f ts) {i : Nat} {b : Tm} (hb : (bareL ts)[i]? = some b) : ∃ t : Tr, t.ok G f ∧ t.bare = b ∧ sAt ts i = t.s := by
 induction ts generalizing i with
 | nil => simp [bareL] at hb
 | cons t ts ih =>
   cases i with
   | zero => simp [bareL] at hb; exact ⟨t, h.1, hb, rfl⟩
   | succ i =>
     simp only [bareL, List.getElem?_cons_succ] at hb
     obtain ⟨u, h1, h2, h3⟩ := ih h.2 hb
     exact ⟨u, h1, h2, by rw [← h3]; simp [sAt]⟩
theorem one_s {t : Tr} {G : Bs → Option Sh} {nm : Bs} {n : Int} {ks : List Tm} (h : t.ok G id) (hb : t.bare = .mk 1 nm n ks) : t.s = wh := by
 obtain ⟨s, b, ts, rfl, _, r, _, _, _⟩ := ok_inv h hb
 exact r.1 rfl
theorem op_s {t : Tr} {G : Bs → Option Sh} {nm : Bs} {n : Int} {ks : List Tm} (h : t.ok G id) (hb : t.bare = .mk 12 nm n ks) : t.s = wh := by
 obtain ⟨s, b, ts, rfl, _, r, _, _, _⟩ := ok_inv h hb
 exact (r.2.2.2.2.2.2.2.2.2.2.1 rfl).2.2
theorem fun_s {t : Tr} {G : Bs → Option Sh} {nm : Bs} {n : Int} {ks : List Tm} (h : t.ok G id) (hb : t.bare = .mk 3 nm n ks) (hw : t.s = wh) : False := by
 obtain ⟨s, b, ts, rfl, _, r, _, _, _⟩ := ok_inv h hb
 exact wh_fu (hw.symm.trans (r.2.1 rfl))
theorem odd_bad {t o : Tm} (ho : o ∈ oddL t) {σ : Bs → Option Bs} {n : Int} {r : Tr} {G : Bs → Option Sh} (h : r.ok G id) (hb : r.bare = (o.ren σ n).1) : False := by
 simp only [oddL, List.mem_cons, List.not_mem_nil, or_false] at ho
 rcases ho with rfl | rfl | rfl | rfl | rfl | rfl
 · simp only [Tm.ren, renL, renN, bnd, exOne] at hb
   obtain ⟨s, b, ts, _, e, q, _, _, k⟩ := ok_inv h hb
   obtain ⟨u, u1, u2, u3⟩ := okKd (i := 0) k (by rw [e]; rfl)
   have := q.2.2.1 rfl
   simp only [id, u3, one_s u1 u2] at this
   exact wh_fu this
 · simp only [Tm.ren, renL, renN, bnd, exOne] at hb
   obtain ⟨s, b, ts, _, e, q, _, _, k⟩ := ok_inv h hb
   obtain ⟨u, u1, u2, u3⟩ := okKd (i := 0) k (by rw [e]; rfl)
   have := (q.2.2.2.2.2.2.2.2.1 rfl).1
   simp only [id, u3, one_s u1 u2] at this
   cases this
 · simp only [Tm.ren, renL, renN, bnd, exOne, funU] at hb
   obtain ⟨s, b, ts, _, e, q, _, _, k⟩ := ok_inv h hb
   obtain ⟨u, u1, u2, u3⟩ := okKd (i := 0) k (by rw [e]; rfl)
   have := (q.2.2.2.2.2.2.2.2.2.2.1 rfl).1
   simp only [id, u3] at this
   exact fun_s u1 u2 this
 · simp only [Tm.ren, renL, renN, bnd, exOne] at hb
   obtain ⟨s, b, ts, _, e, q, _, _, k⟩ := ok_inv h hb
   obtain ⟨u, u1, u2, u3⟩ := okKd (i := 0) k (by rw [e]; rfl)
   have := (q.2.2.2.2.2.2.2.2.2.1 rfl).1
   simp only [id, u3, op_s u1 u2] at this
   cases this
 · simp only [Tm.ren, renL, renN, bnd, exOne, funU] at hb
   obtain ⟨s, b, ts, _, e, q, _, _, k⟩ := ok_inv h hb
   obtain ⟨u, u1, u2, u3⟩ := okKd (i := 0) k (by rw [e]; rfl)
   have := q.2.2.2.2.2.2.1 rfl
   simp only [id, u3] at this
   exact fun_s u1 u2 this
 · simp only [Tm.ren, renL, renN, bnd, exOne, funU] at hb
   obtain ⟨s, b, ts, _, e, q, _, _, k⟩ := ok_inv h hb
   obtain ⟨u, u1, u2, u3⟩ := okKd (i := 1) k (by rw [e]; rfl)
   obtain ⟨v, v1, v2, v3⟩ := okKd (i := 2) k (by rw [e]; rfl)
   obtain ⟨_, w1, w2⟩ := q.2.2.2.2.1 rfl
   simp only [id, u3] at w1; simp only [id, v3, one_s v1 v2] at w2
   exact fun_s u1 u2 (w1.trans w2.symm)
theorem tw_k1 (k : Int) (a : Tm) (hk : k = 8 ∨ k = 10) : tw (Tm.mk k [] 0 [a]).toks ≤ tw a.toks + 10 := by
 have h1 := tw_w0 a []
 rw [toks_mk]
 rcases hk with rfl | rfl <;> simp [layT', tw_app, tw_cons] <;> omega
theorem tw_set (a b : Tm) : tw (Tm.mk 11 [] 0 [a, b]).toks ≤ tw a.toks + tw b.toks + 13 := by
 have h1 := tw_w0 a [b]; have h2 := tw_w1 a b []
 rw [toks_mk]
 simp [layT', tw_app, tw_cons]; omega
theorem tw_if (a b c : Tm) : tw (Tm.mk 6 [] 0 [a, b, c]).toks ≤ tw a.toks + tw b.toks + tw c.toks + 40 := by
 have h1 := tw_w0 a [b, c]; have h2 := tw_w1 a b [c]; have h3 := tw_w2 a b c []
 rw [toks_mk]
 simp [layT', tw_app, tw_cons]; omega
theorem tw_funU : tw funU.toks ≤ 22 := by
 have h1 := tw_w0 exOne []
 rw [tw_one] at h1
 rw [funU, toks_mk]
 simp [layT', tw_app, tw_cons]; omega
theorem odd_tw {t o : Tm} (ho : o ∈ oddL t) : tw o.toks ≤ tw t.toks + 80 := by
 have h1 := tw_one; have h2 := tw_funU
 simp only [oddL, List.mem_cons, List.not_mem_nil, or_false] at ho
 rcases ho with rfl | rfl | rfl | rfl | rfl | rfl
 · have := tw_app2 exOne t 4 (.inl rfl); omega
 · have := tw_k1 10 exOne (.inr rfl); omega
 · have := tw_op2 funU t; omega
 · have := tw_op2 t exOne; have := tw_set (.mk 12 [43] 0 [t, exOne]) exOne; omega
 · have := tw_k1 8 funU (.inl rfl); omega
 · have := tw_if t funU exOne; omega
theorem odd_fits {t o : Tm} (ho : o ∈ oddL t) (hw : t.wrong = false) : o.wrong = false ∧ o.depth ≤ t.depth + 4 ∧ o.size ≤ t.size + 6 ∧ o.long ≤ max t.long 1 ∧ ∀ x, o.fr none0 x = true → t.fr none0 x = true := by
 have e1 : exOne.wrong = false := by decide
 have e2 : funU.wrong = false := by decide
 simp only [oddL, List.mem_cons, List.not_mem_nil, or_false] at ho
 rcases ho with rfl | rfl | rfl | rfl | rfl | rfl
 all_goals refine ⟨?_, ?_, ?_, ?_, fun x => ?_⟩
 all_goals first
   | (simp only [Tm.wrong, wrongL, hw, e1, e2, Bool.or_false, Bool.not_eq_false', List.length_cons, List.length_nil]; decide)
   | (simp [Tm.depth, depthL, exOne, funU]; omega)
   | (simp [Tm.depth, depthL, exOne, funU]; done)
   | (simp [Tm.size, sizeL, exOne, funU]; omega)
   | (simp [Tm.size, sizeL, exOne, funU]; done)
   | (simp [Tm.long, longL, exOne, funU]; omega)
   | (simp [Tm.long, longL, exOne, funU]; done)
   | (simp [Tm.fr, frL, exOne, funU, bnd]; done)
section
variable {ls : List Bs} {p : Pg}
theorem odd_right {t o : Tm} {d : Nat} {I C F : List Bs} (ho : o ∈ oddL t) (h : WT true I C F d t) (hw : AllW I C F) (hd : d ≤ 6) : (Tm.mk 13 [] 0 [o, t]).right = true ∧ (Tm.mk 13 [] 0 [o, t]).show'.length ≤ 50000 ∧ (Tm.mk 13 [] 0 [o, t]).size ≤ 3000 ∧ (Tm.mk 13 [] 0 [o, t]).long ≤ max t.long 1 := by
 obtain ⟨r1, r2, r3⟩ := wt_right h hw hd
 have w1 := wt_wrong h hw; have w2 := wt_tw h hw; have w3 := wt_depth h
 obtain ⟨o1, o2, o3, o4, _⟩ := odd_fits ho w1
 have o6 := odd_tw ho
 have hs : (Tm.mk 13 [] 0 [o, t]).size ≤ 3000 := by simp [Tm.size, sizeL]; omega
 have hr : (Tm.mk 13 [] 0 [o, t]).right = true := by
   unfold Tm.right
   simp only [Bool.and_eq_true, decide_eq_true_eq, Bool.not_eq_true']
   refine ⟨?_, by omega, ?_⟩
   · simp [Tm.depth, depthL]; simp at w3; omega
   · simp only [Tm.wrong, wrongL, o1, w1, Bool.or_false, Bool.not_eq_false', List.length_cons, List.length_nil]; decide
 refine ⟨hr, show_tw hr ?_, hs, ?_⟩
 · have := tw_app2 o t 13 (.inr rfl); omega
 · simp [Tm.long, longL]; omega
theorem odd_resolve (h : WP ls p) (hl : ∀ l ∈ ls, wordB l = true) {o : Tm} (ho : o ∈ oddL p.body) : (oddP p o).resolve.2 = 0 := by
 have h0 : WP0 ls (oddP p o) := ⟨h.i, h.c, h.f, h.lab, h.ni, h.nc, h.defs⟩
 have hA := h.toWP0.allW (F := p.defs.map (·.name)) fun x hx => hx
 obtain ⟨r1, r2, _, _⟩ := odd_right ho h.body hA (by omega)
 refine h0.resolve hl r1 r2 (strange_of_fr fun x hx => ?_)
 have w1 := wt_wrong h.body hA
 have hx2 : p.body.fr none0 x = true := by
   simp only [oddP, Tm.fr, frL, bnd] at hx
   simp at hx
   rcases hx with hx | hx
   · exact (odd_fits ho w1).2.2.2.2 x hx
   · exact hx
 show x ∈ p.known p.defs.length
 unfold Pg.known
 rw [List.map_append, List.take_length]
 rcases (wt_free h.body _ _ hx2).1 with h1 | h1 | h1
 · exact List.mem_append_left _ (List.mem_append_left _ h1)
 · exact List.mem_append_left _ (List.mem_append_right _ h1)
 · exact List.mem_append_right _ h1
theorem resolve_body (h : p.resolve.2 = 0) : ∃ n, p.resolve.1.body = (p.body.ren (fun _ => none) n).1 := by
 unfold Pg.resolve at h ⊢
 split at h
 · cases h
 · split at h
   · cases h
   · cases e : p.go p.defs.length with
     | none => rw [e] at h; cases h
     | some r =>
       rw [e] at h
       dsimp only at h
       split at h
       · cases h
       · rename_i h1 h2 h3
         rw [if_neg h1, if_neg h2]
         dsimp only
         rw [if_neg h3]
         exact ⟨_, rfl⟩
theorem odd_elab (h : WP ls p) (hl : ∀ l ∈ ls, wordB l = true) {o : Tm} (ho : o ∈ oddL p.body) : (oddP p o).elb.2 = 8 := by
 have hz := odd_resolve h hl ho
 refine elab_no hz fun ty G hG => ?_
 obtain ⟨n, hn⟩ := resolve_body hz
 obtain ⟨h1, _, h3, _⟩ := hG.body
 rw [hn] at h3
 simp only [oddP, Tm.ren, renL, renN, bnd] at h3
 obtain ⟨s, b, ts, _, e, _, _, _, k⟩ := ok_inv h1 h3
 obtain ⟨u, u1, u2, _⟩ := okKd (i := 0) k (by rw [e]; rfl)
 exact odd_bad ho u1 u2
theorem odd_mild (h : WP ls p) (hl : ∀ l ∈ ls, wordB l = true) {o : Tm} (ho : o ∈ oddL p.body) : Mild (oddP p o) := by
 have hm := wp_mild h hl
 obtain ⟨_, _, r3, r4⟩ := odd_right ho h.body (h.toWP0.allW fun x hx => hx) (by omega)
 obtain ⟨m1, m2, m3, m4, m5, m6, m7, m8⟩ := hm
 exact ⟨m1, m2, m3, m4, m5, m6, by show (Tm.mk 13 [] 0 [o, p.body]).long < _; omega, by show (Tm.mk 13 [] 0 [o, p.body]).size < _; omega⟩
end
abbrev vB (p : Pg) (A : Option Addr) (c : Nat) : Value := .agg #[.int .i64 p.body.kind, str p.body.name, .int .i64 p.body.n, .slice A p.body.kids.length c]
abbrev vO : Value := .agg #[.int .i64 1, str [], .int .i64 1, .slice none 0 0]
abbrev vF (g : Nat) : Value := .agg #[.int .i64 3, str [117], .int .i64 0, .slice (some ⟨g, 0, none⟩) 1 1]
abbrev p0 (g : Nat) : Value := .pointer (some ⟨g, 0, none⟩)
abbrev i12 (g : Nat) : It := .obj g (.cells #[.int .i64 0, str [], .int .i64 0, .slice none 0 0] 26 (0, 0))
abbrev K32 (p : Pg) (H : GH) (v : Value) := VT H v (Tm.mk 4 [] 0 [exOne, p.body])
abbrev K37 (p : Pg) (H : GH) (v : Value) := VT H v (Tm.mk 12 [43] 0 [funU, p.body])
abbrev K41 (p : Pg) (H : GH) (v : Value) := VT H v (Tm.mk 12 [43] 0 [p.body, exOne])
abbrev K43 (p : Pg) (H : GH) (v : Value) := VT H v (Tm.mk 11 [] 0 [Tm.mk 12 [43] 0 [p.body, exOne], exOne])
abbrev K46 (p : Pg) (H : GH) (v : Value) := VT H v (Tm.mk 8 [] 0 [funU])
abbrev K52 (p : Pg) (H : GH) (v : Value) := VT H v (Tm.mk 6 [] 0 [p.body, funU, exOne])
theorem refuses_law (l : List UInt8) (n j : Nat) (A : Option Addr) (c : Nat) (E : World) (H : GH) (L : List It) (hl : US H A c l) (hb : l.length < 1000000000000) (hn : n < 256) (hj : j < 256) (hL : Laid H) :
   Ok Tryz.prog 7 #[.slice A l.length c, .int .u8 (n : Int), .int .u8 (j : Int)] E H L fun r H' L' => r = .bool true ∧ L = L' := by
 refine enter (N := 73) [(0, _), (1, _), (2, _)] Tryz.func7 rfl rfl rfl rfl fun a w h => ?_
 refine au [1,2,0,6,0,2] h ?_; intro a w h
 refine cl bod10 (examples9_ok E H _ (hL.up le_)) h (fun r15 H15 L15 a w le15 R h => ?_)
 obtain ⟨rfl, rfl⟩ := R
 refine au [0,6,0,3,0,4,1,2,0,0,7,1,0,3,2,1,1,8,1,0,1,2] h ?_; intro a w h
 refine cl bod19 (names9_ok E H15 _) h (fun r18 H18 L18 a w le18 R h => ?_)
 obtain ⟨⟨A18, c18, rfl, hk18⟩, rfl⟩ := R
 refine au [0,0,0,0] h ?_; intro a w h
 have l_H_H18 : LE H H18 := le15.trans le18
 refine cl bod18 (well9_ok lohi l n _ _ _ _ E H18 _ hk18 (US.up hl l_H_H18) (by decide) (by decide) hb hn) h (fun r21 H21 L21 a w le21 R h => ?_)
 obtain ⟨p, hw21, ⟨A21, c21, A21_1, c21_1, A21_2, c21_2, A21_3, c21_3, rfl, hk21, hk21_1, hk21_2, hk21_3⟩, rfl⟩ := R
 have hm21 := wp_mild hw21 lohi_word
 refine al zr28 h fun g8 a w h => ?_
 refine au [5,5,0,2,7,5] h ?_; intro a w h
 refine al zr26 h fun g9 a w h => ?_
 refine au [5,5,0,2,3,3] h ?_; intro a w h
 refine bsl bs24 h fun g24 a w h => ?_
 obtain ⟨Hq24, e24, h, hsHq24⟩ := h.fsl (R := RT) (sz := 4) (ys := [exOne]) 0 (RowR.one rfl (rt_of_vt (cs := [_, _, _, _]) ⟨_, _, rfl, (RS.nil _ _ _)⟩)) (fun _ l cs y _ hr => RT.mono l y hr)
 refine bdl lay26 zr26 h fun a w h => ?_
 refine al zr26 h fun g10 a w h => ?_
 refine au [5,5,0,2,3,4] h ?_; intro a w h
 refine bsl bs24 h fun g27 a w h => ?_
 obtain ⟨Hq, e27, h, hsHq27⟩ := h.fsl (R := RT) (sz := 4) (ys := [exOne]) 0 (RowR.one rfl (rt_of_vt (cs := [_, _, _, _]) ⟨_, _, rfl, (RS.nil _ _ _)⟩)) (fun _ l cs y _ hr => RT.mono l y hr)
 refine bdl lay26 zr26 h fun a w h => ?_
 refine al zr26 h fun g11 a w h => ?_
 refine au [5,5,0,3,0,4] h ?_; intro a w h
 obtain ⟨L0, hL0⟩ : ∃ F : List It, F = .obj g11 (.cells #[.int .i64 10, str [], .int .i64 0, .slice (some ⟨g27, 0, none⟩) [exOne].length 1] 26 (0, 0)) :: .obj g10 (.cells #[.int .i64 3, str [117], .int .i64 0, .slice (some ⟨g24, 0, none⟩) [exOne].length 1] 26 (0, 0)) :: .obj g9 (.cells #[.int .i64 1, str [], .int .i64 1, .slice none 0 0] 26 (0, 0)) :: .obj g8 (.cells #[.slice A21 p.inputs.length c21, .slice A21_1 p.cells.length c21_1, .slice A21_2 p.defs.length c21_2, .int .i64 p.body.kind, str p.body.name, .int .i64 p.body.n, .slice A21_3 p.body.kids.length c21_3] 28 (0, 0)) :: L := ⟨_, rfl⟩
 have h := h.asL hL0
 refine rgx [2, 3, 0, 1] [_, _, _, _] [0, 2, 4, 5, 7, 10, 11, 13, 15, 19, 20, 21] 31 mix h (fun a w h => ?_)
 refine au [8,0,4,5,2,6,8,1,0,7,2,6,8,2] h ?_; intro a w h
 refine ldNT (l := [_, _, _, _]) 1 tN26 h fun a w h => ?_
 refine au [2,6,8,4] h ?_
 refine ldWT 2 tN26 h fun a w h => ?_
 refine au [2,6,8,5] h ?_
 refine ldWT 3 tN26 h fun a w h => ?_
 refine au [2,6,8,6,0,7,2,6,8,7] h ?_; intro a w h
 refine ldNT (l := [_, _, _, _]) 1 tN26 h fun a w h => ?_
 refine au [2,6,8,9,0,7,2,6,8,10] h ?_; intro a w h
 refine ldNT (l := [_, _, _, _]) 1 tN26 h fun a w h => ?_
 refine au [2,6,8,11,4,5,2,6,8,13,4,5,2,6,8,15] h ?_; intro a w h
 refine ldWT 3 tN26 h fun a w h => ?_
 refine au [2,6,8,18,0,7,2,6,8,19] h ?_; intro a w h
 refine ldNT (l := [_, _, _, _]) 1 tN26 h fun a w h => ?_
 refine au [2,6,8,20] h ?_
 refine ldWT 3 tN26 h fun a w h => ?_
 refine au [2,6,8,21,4,5,2,6,8,25,0,0,2,6,8,26] h ?_; intro a w h
 refine rm j 6 (by decide) h fun a w h => ?_
 refine tk0 ?_
 refine cap fun W hW => ?_
 obtain ⟨F0, hF0⟩ : ∃ F : List (Nat × Value), F = [(6, .bool false), (7, .bool true), (8, p0 g8), (29, vO), (31, vB p A21_3 c21_3), (33, .agg #[.int .i64 10, str [], .int .i64 0, .slice (some ⟨g27, 0, none⟩) [exOne].length 1]), (34, vF g24), (36, vB p A21_3 c21_3), (39, vB p A21_3 c21_3), (40, vO), (42, vO), (44, vF g24), (48, vB p A21_3 c21_3), (49, vF g24), (50, vO), (55, .int .u8 ((j % 6 : Nat) : Int))] := ⟨_, rfl⟩
 have k1 : VT Hq (vO) exOne := ⟨_, _, rfl, RS.nil _ _ _⟩
 have kf : VT Hq (vF g24) funU := ⟨_, _, rfl, KS.up hsHq24 e27⟩
 have kg : VT Hq (.agg #[.int .i64 10, str [], .int .i64 0, .slice (some ⟨g27, 0, none⟩) 1 1]) (.mk 10 [] 0 [exOne]) := ⟨_, _, rfl, hsHq27⟩
 have kb : VT Hq (vB p A21_3 c21_3) p.body := ⟨_, _, rfl, KS.up hk21_3 (e24.trans e27)⟩
 have o32 := fun H L (l : LE Hq H) => two0_ok 4 [] _ _ _ _ E H L (k1.mono l) (kb.mono l)
 have o37 := fun H L (l : LE Hq H) => two0_ok 12 [43] _ _ _ _ E H L (kf.mono l) (kb.mono l)
 have o41 := fun H L (l : LE Hq H) => two0_ok 12 [43] _ _ _ _ E H L (kb.mono l) (k1.mono l)
 have o43 := fun H L (l : LE Hq H) v (k : VT H v (Tm.mk 12 [43] 0 [p.body, exOne])) => two0_ok 11 [] _ _ _ _ E H L k (k1.mono l)
 have st2 {G} (e : LE Hq G) {g12 od v57} (k57 : VT G v57 od) (hod : od ∈ oddL p.body) {a w} (h : S E G 73 [] ((12, p0 g12) :: (57, v57) :: F0) (i12 g12 :: L0) a w) : W 1 (bm 31 1073741823) a w := by
  subst hW hF0 hL0
  refine bf1 30 ?_
  obtain ⟨A57, c57, rfl, hk57⟩ := k57
  refine au [5,5,2,7] h ?_; intro a w h
  refine en (by kernel_rfl) ?_
  refine au [1,0,1,2,3,3,0,7] h ?_; intro a w h
  refine ldN (l := [_, _, _, _]) 4 tN26 h fun a w h => ?_
  have l_H21_Hm : LE H21 G := (e24.trans e27).trans e
  refine cl bod28 (two0_ok 13 [] od p.body _ _ E G _ ⟨_, _, rfl, hk57⟩ ⟨A21_3, c21_3, rfl, (KS.up hk21_3 l_H21_Hm)⟩) h (fun r61 H61 L61 a w le61 R h => ?_)
  obtain ⟨⟨A61, c61, rfl, hk61⟩, rfl⟩ := R
  refine fa fl28_3 (r := 3) h fun a w h => ?_
  refine stp (l := [_, _, _, _, _, _, _]) 4 tN26 h fun a w h => ?_
  refine au [0,2,3,7] h ?_; intro a w h
  have hmo := odd_mild hw21 lohi_word hod
  have heo := odd_elab hw21 lohi_word hod
  have l_H21_H61 : LE H21 H61 := ((e24.trans e27).trans e).trans le61
  refine cl bod20 (Elab_ok (oddP p od) _ E H61 _ ⟨A21, c21, A21_1, c21_1, A21_2, c21_2, A61, c61, rfl, (CS.up hk21 l_H21_H61), (CS.up hk21_1 l_H21_H61), (FS.up hk21_2 l_H21_H61), hk61⟩ (hL.up le_) hmo) h (fun r65 H65 L65 a w le65 R h => ?_)
  obtain ⟨_, rfl, ⟨A65, c65, A65_1, c65_1, A65_2, c65_2, A65_3, c65_3, rfl, hk65, hk65_1, hk65_2, hk65_3⟩, rfl⟩ := R
  refine au [0,0,4,7,4,7] h ?_; intro a w h
  refine al zr59 h fun g13 a w h => ?_
  refine au [5,5,0,6,0,2,0,0,0,0,0,0,6,2,4,8,0,6,0,3,1,3] h ?_; intro a w h
  have l_H_H65 : LE H H65 := ((((((le15.trans le18).trans le21).trans e24).trans e27).trans e).trans le61).trans le65
  refine fin1 6 6 h l_H_H65 ?_
  exact ⟨by simp [heo], rfl⟩
 have st3 {G} (e : LE Hq G) {g12 v32 v37 v43 v46 v52} (k32 : K32 p G v32) (k37 : K37 p G v37) (k43 : K43 p G v43) (k46 : K46 p G v46) (k52 : K52 p G v52) {a w} (h : S E G 73 [] ((12, p0 g12) :: (32, v32) :: (37, v37) :: (43, v43) :: (46, v46) :: (52, v52) :: F0) (i12 g12 :: L0) a w) : W 4 (bm 31 654311423) a w := by
  subst hW hF0 hL0
  refine bg1 24 true h ?_
  obtain ⟨A32, c32, rfl, hk32⟩ := k32
  obtain ⟨A37, c37, rfl, hk37⟩ := k37
  obtain ⟨A43, c43, rfl, hk43⟩ := k43
  obtain ⟨A46, c46, rfl, hk46⟩ := k46
  obtain ⟨A52, c52, rfl, hk52⟩ := k52
  refine bsl (out := [.int .i64 4, str [], .int .i64 0, .slice A32 2 c32, .int .i64 10, str [], .int .i64 0, .slice (some ⟨g27, 0, none⟩) 1 1, .int .i64 12, str [43], .int .i64 0, .slice A37 2 c37, .int .i64 11, str [], .int .i64 0, .slice A43 2 c43, .int .i64 8, str [], .int .i64 0, .slice A46 1 c46, .int .i64 6, str [], .int .i64 0, .slice A52 3 c52]) bs24 (hf := by kernel_rfl) h fun g53 a w h => ?_
  obtain ⟨Hq53, e53, h, hs53⟩ := h.fsT 0 (rTc ⟨A32, c32, rfl, hk32⟩ (rTc (kg.mono e) (rTc ⟨A37, c37, rfl, hk37⟩ (rTc ⟨A43, c43, rfl, hk43⟩ (rTc ⟨A46, c46, rfl, hk46⟩ (rT1 ⟨A52, c52, rfl, hk52⟩)))))) (ys := (oddL p.body))
  refine au [2,7,8,27] h ?_
  have hj56 : (j % 6) < (oddL p.body).length := by show _ < 6; omega
  obtain ⟨g56, o56, A56, c56, e56, hv56, hc56⟩ := KS.get hs53 hj56
  obtain ⟨_, _, q56, hk56⟩ := hv56; cases q56
  refine iaE sli24 sz26 rfl hj56 e56 h fun a w h => ?_
  obtain ⟨od, hxod⟩ : ∃ z, z = (oddL p.body)[j % 6] := ⟨_, rfl⟩
  rw [← hxod] at hk56 hc56
  have hod : od ∈ oddL p.body := by rw [hxod]; exact List.getElem_mem _
  refine tk0 ?_
  refine bg1 28 true h ?_
  refine ldHNB tN26 rfl hc56 h fun a w h => ?_
  exact br0 (mR (st2 (e.trans e53) ⟨_, _, rfl, hk56⟩ hod (h.to 0 _)))
 have st1 {G} (e : LE Hq G) {v32 v37 v43 v46 v52} (k32 : K32 p G v32) (k37 : K37 p G v37) (k43 : K43 p G v43) (k46 : K46 p G v46) (k52 : K52 p G v52) {a w} (h : S E G 73 [] ((32, v32) :: (37, v37) :: (43, v43) :: (46, v46) :: (52, v52) :: F0) L0 a w) : W 5 (bm 31 117440511) a w := by
  subst hW hF0 hL0
  refine bg2 24 29 true true h ?_ ?_
  ·obtain ⟨A32, c32, rfl, hk32⟩ := k32
   obtain ⟨A37, c37, rfl, hk37⟩ := k37
   obtain ⟨A43, c43, rfl, hk43⟩ := k43
   obtain ⟨A46, c46, rfl, hk46⟩ := k46
   obtain ⟨A52, c52, rfl, hk52⟩ := k52
   refine bsl (out := [.int .i64 4, str [], .int .i64 0, .slice A32 2 c32, .int .i64 10, str [], .int .i64 0, .slice (some ⟨g27, 0, none⟩) 1 1, .int .i64 12, str [43], .int .i64 0, .slice A37 2 c37, .int .i64 11, str [], .int .i64 0, .slice A43 2 c43, .int .i64 8, str [], .int .i64 0, .slice A46 1 c46, .int .i64 6, str [], .int .i64 0, .slice A52 3 c52]) bs24 (hf := by kernel_rfl) h fun g53 a w h => ?_
   obtain ⟨Hq53, e53, h, hs53⟩ := h.fsT 0 (rTc ⟨A32, c32, rfl, hk32⟩ (rTc (kg.mono e) (rTc ⟨A37, c37, rfl, hk37⟩ (rTc ⟨A43, c43, rfl, hk43⟩ (rTc ⟨A46, c46, rfl, hk46⟩ (rT1 ⟨A52, c52, rfl, hk52⟩)))))) (ys := (oddL p.body))
   refine au [2,7,8,27] h ?_
   have hj56 : (j % 6) < (oddL p.body).length := by show _ < 6; omega
   obtain ⟨g56, o56, A56, c56, e56, hv56, hc56⟩ := KS.get hs53 hj56
   obtain ⟨_, _, q56, hk56⟩ := hv56; cases q56
   refine iaE sli24 sz26 rfl hj56 e56 h fun a w h => ?_
   obtain ⟨od, hxod⟩ : ∃ z, z = (oddL p.body)[j % 6] := ⟨_, rfl⟩
   rw [← hxod] at hk56 hc56
   have hod : od ∈ oddL p.body := by rw [hxod]; exact List.getElem_mem _
   refine tk0 ?_
   have l_Hq27_Hq53 : LE Hq Hq53 := e.trans e53
   refine bg2 28 29 true true h ?_ ?_
   ·refine ldHNB tN26 rfl hc56 h fun a w h => ?_
    refine br0 ?_
    refine bg1 29 true h ?_
    refine al zr26 h fun g12 a w h => ?_
    exact br0 (mR (st2 (e.trans e53) ⟨_, _, rfl, hk56⟩ hod (h.to 0 _)))
   ·refine al zr26 h fun g12 a w h => ?_
    refine br0 ?_
    refine bg1 28 true h ?_
    refine ldHNB tN26 rfl hc56 h fun a w h => ?_
    exact br0 (mR (st2 (e.trans e53) ⟨_, _, rfl, hk56⟩ hod (h.to 0 _)))
  ·refine al zr26 h fun g12 a w h => ?_
   exact br0 (mR (st3 e k32 k37 k43 k46 k52 (h.to 0 _)))
 have st4 {G} (e : LE Hq G) {g12 v32 v37 v43 v46} (k32 : K32 p G v32) (k37 : K37 p G v37) (k43 : K43 p G v43) (k46 : K46 p G v46) {a w} (h : S E G 73 [] ((12, p0 g12) :: (32, v32) :: (37, v37) :: (43, v43) :: (46, v46) :: F0) (i12 g12 :: L0) a w) : W 6 (bm 31 641728511) a w := by
  subst hW hF0 hL0
  refine bg1 22 true h ?_
  refine bsl bs24 h fun g51 a w h => ?_
  obtain ⟨Hq51, e51, h, hs51⟩ := h.fsT 0 (rTc (kb.mono e) (rTc (kf.mono e) (rT1 (k1.mono e))))
  refine au [2,7,8,23,7,5,2,6] h ?_; intro a w h
  exact mR (st3 (e.trans e51) (k32.mono e51) (k37.mono e51) (k43.mono e51) (k46.mono e51) ⟨_, _, rfl, hs51⟩ (h.to 0 _))
 have st0 {G} (e : LE Hq G) {v32 v37 v43 v46} (k32 : K32 p G v32) (k37 : K37 p G v37) (k43 : K43 p G v43) (k46 : K46 p G v46) {a w} (h : S E G 73 [] ((32, v32) :: (37, v37) :: (43, v43) :: (46, v46) :: F0) L0 a w) : W 7 (bm 31 104857599) a w := by
  subst hW hF0 hL0
  refine bg2 22 29 true true h ?_ ?_
  ·refine bsl bs24 h fun g51 a w h => ?_
   obtain ⟨Hq51, e51, h, hs51⟩ := h.fsT 0 (rTc (kb.mono e) (rTc (kf.mono e) (rT1 (k1.mono e))))
   refine au [2,7,8,23,7,5,2,6] h ?_; intro a w h
   exact mR (st1 (e.trans e51) (k32.mono e51) (k37.mono e51) (k43.mono e51) (k46.mono e51) ⟨_, _, rfl, hs51⟩ (h.to 0 _))
  ·refine al zr26 h fun g12 a w h => ?_
   exact br0 (mR (st4 e k32 k37 k43 k46 (h.to 0 _)))
 have st6 {G} (e : LE Hq G) {g12 v32 v37 v43 v52} (k32 : K32 p G v32) (k37 : K37 p G v37) (k43 : K43 p G v43) (k52 : K52 p G v52) {a w} (h : S E G 73 [] ((12, p0 g12) :: (32, v32) :: (37, v37) :: (43, v43) :: (52, v52) :: F0) (i12 g12 :: L0) a w) : W 6 (bm 31 654114815) a w := by
  subst hW hF0 hL0
  refine bg1 16 true h ?_
  refine bsl bs24 h fun g45 a w h => ?_
  obtain ⟨Hq45, e45, h, hs45⟩ := h.fsT 0 (rT1 (kf.mono e))
  refine au [2,7,8,17,7,5,2,6] h ?_; intro a w h
  exact mR (st3 (e.trans e45) (k32.mono e45) (k37.mono e45) (k43.mono e45) ⟨_, _, rfl, hs45⟩ (k52.mono e45) (h.to 0 _))
 have st5 {G} (e : LE Hq G) {v32 v37 v43 v52} (k32 : K32 p G v32) (k37 : K37 p G v37) (k43 : K43 p G v43) (k52 : K52 p G v52) {a w} (h : S E G 73 [] ((32, v32) :: (37, v37) :: (43, v43) :: (52, v52) :: F0) L0 a w) : W 7 (bm 31 117243903) a w := by
  subst hW hF0 hL0
  refine bg2 16 29 true true h ?_ ?_
  ·refine bsl bs24 h fun g45 a w h => ?_
   obtain ⟨Hq45, e45, h, hs45⟩ := h.fsT 0 (rT1 (kf.mono e))
   refine au [2,7,8,17,7,5,2,6] h ?_; intro a w h
   exact mR (st1 (e.trans e45) (k32.mono e45) (k37.mono e45) (k43.mono e45) ⟨_, _, rfl, hs45⟩ (k52.mono e45) (h.to 0 _))
  ·refine al zr26 h fun g12 a w h => ?_
   exact br0 (mR (st6 e k32 k37 k43 k52 (h.to 0 _)))
 have st7 {G} (e : LE Hq G) {g12 v32 v37 v43} (k32 : K32 p G v32) (k37 : K37 p G v37) (k43 : K43 p G v43) {a w} (h : S E G 73 [] ((12, p0 g12) :: (32, v32) :: (37, v37) :: (43, v43) :: F0) (i12 g12 :: L0) a w) : W 8 (bm 31 641531903) a w := by
  subst hW hF0 hL0
  refine bg2 16 22 true true h ?_ ?_
  ·refine bsl bs24 h fun g45 a w h => ?_
   obtain ⟨Hq45, e45, h, hs45⟩ := h.fsT 0 (rT1 (kf.mono e))
   refine au [2,7,8,17,7,5,2,6] h ?_; intro a w h
   exact mR (st4 (e.trans e45) (k32.mono e45) (k37.mono e45) (k43.mono e45) ⟨_, _, rfl, hs45⟩ (h.to 0 _))
  ·refine bsl bs24 h fun g51 a w h => ?_
   obtain ⟨Hq51, e51, h, hs51⟩ := h.fsT 0 (rTc (kb.mono e) (rTc (kf.mono e) (rT1 (k1.mono e))))
   refine au [2,7,8,23,7,5,2,6] h ?_; intro a w h
   exact mR (st6 (e.trans e51) (k32.mono e51) (k37.mono e51) (k43.mono e51) ⟨_, _, rfl, hs51⟩ (h.to 0 _))
 have st10 {G} (e : LE Hq G) {g12 v32 v37 v41 v46 v52} (k32 : K32 p G v32) (k37 : K37 p G v37) (k41 : K41 p G v41) (k46 : K46 p G v46) (k52 : K52 p G v52) {a w} (h : S E G 73 [] ((12, p0 g12) :: (32, v32) :: (37, v37) :: (41, v41) :: (46, v46) :: (52, v52) :: F0) (i12 g12 :: L0) a w) : W 5 (bm 31 654295039) a w := by
  subst hW hF0 hL0
  refine bg1 14 true h ?_
  refine clG bod28 (o43 _ _ e _ k41) h (fun r43 H43 L43 a w le43 R h => ?_)
  obtain ⟨k43, rfl⟩ := R
  exact br0 (mR (st3 (e.trans le43) (k32.mono le43) (k37.mono le43) k43 (k46.mono le43) (k52.mono le43) (h.to 0 _)))
 have st9 {G} (e : LE Hq G) {v32 v37 v41 v46 v52} (k32 : K32 p G v32) (k37 : K37 p G v37) (k41 : K41 p G v41) (k46 : K46 p G v46) (k52 : K52 p G v52) {a w} (h : S E G 73 [] ((32, v32) :: (37, v37) :: (41, v41) :: (46, v46) :: (52, v52) :: F0) L0 a w) : W 6 (bm 31 117424127) a w := by
  subst hW hF0 hL0
  refine bg2 14 29 true true h ?_ ?_
  ·refine clG bod28 (o43 _ _ e _ k41) h (fun r43 H43 L43 a w le43 R h => ?_)
   obtain ⟨k43, rfl⟩ := R
   exact br0 (mR (st1 (e.trans le43) (k32.mono le43) (k37.mono le43) k43 (k46.mono le43) (k52.mono le43) (h.to 0 _)))
  ·refine al zr26 h fun g12 a w h => ?_
   exact br0 (mR (st10 e k32 k37 k41 k46 k52 (h.to 0 _)))
 have st11 {G} (e : LE Hq G) {g12 v32 v37 v41 v46} (k32 : K32 p G v32) (k37 : K37 p G v37) (k41 : K41 p G v41) (k46 : K46 p G v46) {a w} (h : S E G 73 [] ((12, p0 g12) :: (32, v32) :: (37, v37) :: (41, v41) :: (46, v46) :: F0) (i12 g12 :: L0) a w) : W 7 (bm 31 641712127) a w := by
  subst hW hF0 hL0
  refine bg2 14 22 true true h ?_ ?_
  ·refine clG bod28 (o43 _ _ e _ k41) h (fun r43 H43 L43 a w le43 R h => ?_)
   obtain ⟨k43, rfl⟩ := R
   exact br0 (mR (st4 (e.trans le43) (k32.mono le43) (k37.mono le43) k43 (k46.mono le43) (h.to 0 _)))
  ·refine bsl bs24 h fun g51 a w h => ?_
   obtain ⟨Hq51, e51, h, hs51⟩ := h.fsT 0 (rTc (kb.mono e) (rTc (kf.mono e) (rT1 (k1.mono e))))
   refine au [2,7,8,23,7,5,2,6] h ?_; intro a w h
   exact mR (st10 (e.trans e51) (k32.mono e51) (k37.mono e51) (k41.mono e51) (k46.mono e51) ⟨_, _, rfl, hs51⟩ (h.to 0 _))
 have st8 {G} (e : LE Hq G) {v32 v37 v41 v46} (k32 : K32 p G v32) (k37 : K37 p G v37) (k41 : K41 p G v41) (k46 : K46 p G v46) {a w} (h : S E G 73 [] ((32, v32) :: (37, v37) :: (41, v41) :: (46, v46) :: F0) L0 a w) : W 8 (bm 31 104841215) a w := by
  subst hW hF0 hL0
  refine bg3 14 22 29 h ?_ ?_ ?_
  ·refine clG bod28 (o43 _ _ e _ k41) h (fun r43 H43 L43 a w le43 R h => ?_)
   obtain ⟨k43, rfl⟩ := R
   exact br0 (mR (st0 (e.trans le43) (k32.mono le43) (k37.mono le43) k43 (k46.mono le43) (h.to 0 _)))
  ·refine bsl bs24 h fun g51 a w h => ?_
   obtain ⟨Hq51, e51, h, hs51⟩ := h.fsT 0 (rTc (kb.mono e) (rTc (kf.mono e) (rT1 (k1.mono e))))
   refine au [2,7,8,23,7,5,2,6] h ?_; intro a w h
   exact mR (st9 (e.trans e51) (k32.mono e51) (k37.mono e51) (k41.mono e51) (k46.mono e51) ⟨_, _, rfl, hs51⟩ (h.to 0 _))
  ·refine al zr26 h fun g12 a w h => ?_
   exact br0 (mR (st11 e k32 k37 k41 k46 (h.to 0 _)))
 have st13 {G} (e : LE Hq G) {g12 v32 v37 v41 v52} (k32 : K32 p G v32) (k37 : K37 p G v37) (k41 : K41 p G v41) (k52 : K52 p G v52) {a w} (h : S E G 73 [] ((12, p0 g12) :: (32, v32) :: (37, v37) :: (41, v41) :: (52, v52) :: F0) (i12 g12 :: L0) a w) : W 7 (bm 31 654098431) a w := by
  subst hW hF0 hL0
  refine bg2 14 16 true true h ?_ ?_
  ·refine clG bod28 (o43 _ _ e _ k41) h (fun r43 H43 L43 a w le43 R h => ?_)
   obtain ⟨k43, rfl⟩ := R
   exact br0 (mR (st6 (e.trans le43) (k32.mono le43) (k37.mono le43) k43 (k52.mono le43) (h.to 0 _)))
  ·refine bsl bs24 h fun g45 a w h => ?_
   obtain ⟨Hq45, e45, h, hs45⟩ := h.fsT 0 (rT1 (kf.mono e))
   refine au [2,7,8,17,7,5,2,6] h ?_; intro a w h
   exact mR (st10 (e.trans e45) (k32.mono e45) (k37.mono e45) (k41.mono e45) ⟨_, _, rfl, hs45⟩ (k52.mono e45) (h.to 0 _))
 have st12 {G} (e : LE Hq G) {v32 v37 v41 v52} (k32 : K32 p G v32) (k37 : K37 p G v37) (k41 : K41 p G v41) (k52 : K52 p G v52) {a w} (h : S E G 73 [] ((32, v32) :: (37, v37) :: (41, v41) :: (52, v52) :: F0) L0 a w) : W 8 (bm 31 117227519) a w := by
  subst hW hF0 hL0
  refine bg3 14 16 29 h ?_ ?_ ?_
  ·refine clG bod28 (o43 _ _ e _ k41) h (fun r43 H43 L43 a w le43 R h => ?_)
   obtain ⟨k43, rfl⟩ := R
   exact br0 (mR (st5 (e.trans le43) (k32.mono le43) (k37.mono le43) k43 (k52.mono le43) (h.to 0 _)))
  ·refine bsl bs24 h fun g45 a w h => ?_
   obtain ⟨Hq45, e45, h, hs45⟩ := h.fsT 0 (rT1 (kf.mono e))
   refine au [2,7,8,17,7,5,2,6] h ?_; intro a w h
   exact mR (st9 (e.trans e45) (k32.mono e45) (k37.mono e45) (k41.mono e45) ⟨_, _, rfl, hs45⟩ (k52.mono e45) (h.to 0 _))
  ·refine al zr26 h fun g12 a w h => ?_
   exact br0 (mR (st13 e k32 k37 k41 k52 (h.to 0 _)))
 have st14 {G} (e : LE Hq G) {g12 v32 v37 v41} (k32 : K32 p G v32) (k37 : K37 p G v37) (k41 : K41 p G v41) {a w} (h : S E G 73 [] ((12, p0 g12) :: (32, v32) :: (37, v37) :: (41, v41) :: F0) (i12 g12 :: L0) a w) : W 9 (bm 31 641515519) a w := by
  subst hW hF0 hL0
  refine bg3 14 16 22 h ?_ ?_ ?_
  ·refine clG bod28 (o43 _ _ e _ k41) h (fun r43 H43 L43 a w le43 R h => ?_)
   obtain ⟨k43, rfl⟩ := R
   exact br0 (mR (st7 (e.trans le43) (k32.mono le43) (k37.mono le43) k43 (h.to 0 _)))
  ·refine bsl bs24 h fun g45 a w h => ?_
   obtain ⟨Hq45, e45, h, hs45⟩ := h.fsT 0 (rT1 (kf.mono e))
   refine au [2,7,8,17,7,5,2,6] h ?_; intro a w h
   exact mR (st11 (e.trans e45) (k32.mono e45) (k37.mono e45) (k41.mono e45) ⟨_, _, rfl, hs45⟩ (h.to 0 _))
  ·refine bsl bs24 h fun g51 a w h => ?_
   obtain ⟨Hq51, e51, h, hs51⟩ := h.fsT 0 (rTc (kb.mono e) (rTc (kf.mono e) (rT1 (k1.mono e))))
   refine au [2,7,8,23,7,5,2,6] h ?_; intro a w h
   exact mR (st13 (e.trans e51) (k32.mono e51) (k37.mono e51) (k41.mono e51) ⟨_, _, rfl, hs51⟩ (h.to 0 _))
 have st17 {G} (e : LE Hq G) {g12 v32 v37 v46 v52} (k32 : K32 p G v32) (k37 : K37 p G v37) (k46 : K46 p G v46) (k52 : K52 p G v52) {a w} (h : S E G 73 [] ((12, p0 g12) :: (32, v32) :: (37, v37) :: (46, v46) :: (52, v52) :: F0) (i12 g12 :: L0) a w) : W 6 (bm 31 654290943) a w := by
  subst hW hF0 hL0
  refine bg1 12 true h ?_
  refine clG bod28 (o41 _ _ e) h (fun r41 H41 L41 a w le41 R h => ?_)
  obtain ⟨k41, rfl⟩ := R
  exact br0 (mR (st10 (e.trans le41) (k32.mono le41) (k37.mono le41) k41 (k46.mono le41) (k52.mono le41) (h.to 0 _)))
 have st16 {G} (e : LE Hq G) {v32 v37 v46 v52} (k32 : K32 p G v32) (k37 : K37 p G v37) (k46 : K46 p G v46) (k52 : K52 p G v52) {a w} (h : S E G 73 [] ((32, v32) :: (37, v37) :: (46, v46) :: (52, v52) :: F0) L0 a w) : W 7 (bm 31 117420031) a w := by
  subst hW hF0 hL0
  refine bg2 12 29 true true h ?_ ?_
  ·refine clG bod28 (o41 _ _ e) h (fun r41 H41 L41 a w le41 R h => ?_)
   obtain ⟨k41, rfl⟩ := R
   exact br0 (mR (st9 (e.trans le41) (k32.mono le41) (k37.mono le41) k41 (k46.mono le41) (k52.mono le41) (h.to 0 _)))
  ·refine al zr26 h fun g12 a w h => ?_
   exact br0 (mR (st17 e k32 k37 k46 k52 (h.to 0 _)))
 have st18 {G} (e : LE Hq G) {g12 v32 v37 v46} (k32 : K32 p G v32) (k37 : K37 p G v37) (k46 : K46 p G v46) {a w} (h : S E G 73 [] ((12, p0 g12) :: (32, v32) :: (37, v37) :: (46, v46) :: F0) (i12 g12 :: L0) a w) : W 8 (bm 31 641708031) a w := by
  subst hW hF0 hL0
  refine bg2 12 22 true true h ?_ ?_
  ·refine clG bod28 (o41 _ _ e) h (fun r41 H41 L41 a w le41 R h => ?_)
   obtain ⟨k41, rfl⟩ := R
   exact br0 (mR (st11 (e.trans le41) (k32.mono le41) (k37.mono le41) k41 (k46.mono le41) (h.to 0 _)))
  ·refine bsl bs24 h fun g51 a w h => ?_
   obtain ⟨Hq51, e51, h, hs51⟩ := h.fsT 0 (rTc (kb.mono e) (rTc (kf.mono e) (rT1 (k1.mono e))))
   refine au [2,7,8,23,7,5,2,6] h ?_; intro a w h
   exact mR (st17 (e.trans e51) (k32.mono e51) (k37.mono e51) (k46.mono e51) ⟨_, _, rfl, hs51⟩ (h.to 0 _))
 have st15 {G} (e : LE Hq G) {v32 v37 v46} (k32 : K32 p G v32) (k37 : K37 p G v37) (k46 : K46 p G v46) {a w} (h : S E G 73 [] ((32, v32) :: (37, v37) :: (46, v46) :: F0) L0 a w) : W 9 (bm 31 104837119) a w := by
  subst hW hF0 hL0
  refine bg3 12 22 29 h ?_ ?_ ?_
  ·refine clG bod28 (o41 _ _ e) h (fun r41 H41 L41 a w le41 R h => ?_)
   obtain ⟨k41, rfl⟩ := R
   exact br0 (mR (st8 (e.trans le41) (k32.mono le41) (k37.mono le41) k41 (k46.mono le41) (h.to 0 _)))
  ·refine bsl bs24 h fun g51 a w h => ?_
   obtain ⟨Hq51, e51, h, hs51⟩ := h.fsT 0 (rTc (kb.mono e) (rTc (kf.mono e) (rT1 (k1.mono e))))
   refine au [2,7,8,23,7,5,2,6] h ?_; intro a w h
   exact mR (st16 (e.trans e51) (k32.mono e51) (k37.mono e51) (k46.mono e51) ⟨_, _, rfl, hs51⟩ (h.to 0 _))
  ·refine al zr26 h fun g12 a w h => ?_
   exact br0 (mR (st18 e k32 k37 k46 (h.to 0 _)))
 have st20 {G} (e : LE Hq G) {g12 v32 v37 v52} (k32 : K32 p G v32) (k37 : K37 p G v37) (k52 : K52 p G v52) {a w} (h : S E G 73 [] ((12, p0 g12) :: (32, v32) :: (37, v37) :: (52, v52) :: F0) (i12 g12 :: L0) a w) : W 8 (bm 31 654094335) a w := by
  subst hW hF0 hL0
  refine bg2 12 16 true true h ?_ ?_
  ·refine clG bod28 (o41 _ _ e) h (fun r41 H41 L41 a w le41 R h => ?_)
   obtain ⟨k41, rfl⟩ := R
   exact br0 (mR (st13 (e.trans le41) (k32.mono le41) (k37.mono le41) k41 (k52.mono le41) (h.to 0 _)))
  ·refine bsl bs24 h fun g45 a w h => ?_
   obtain ⟨Hq45, e45, h, hs45⟩ := h.fsT 0 (rT1 (kf.mono e))
   refine au [2,7,8,17,7,5,2,6] h ?_; intro a w h
   exact mR (st17 (e.trans e45) (k32.mono e45) (k37.mono e45) ⟨_, _, rfl, hs45⟩ (k52.mono e45) (h.to 0 _))
 have st19 {G} (e : LE Hq G) {v32 v37 v52} (k32 : K32 p G v32) (k37 : K37 p G v37) (k52 : K52 p G v52) {a w} (h : S E G 73 [] ((32, v32) :: (37, v37) :: (52, v52) :: F0) L0 a w) : W 9 (bm 31 117223423) a w := by
  subst hW hF0 hL0
  refine bg3 12 16 29 h ?_ ?_ ?_
  ·refine clG bod28 (o41 _ _ e) h (fun r41 H41 L41 a w le41 R h => ?_)
   obtain ⟨k41, rfl⟩ := R
   exact br0 (mR (st12 (e.trans le41) (k32.mono le41) (k37.mono le41) k41 (k52.mono le41) (h.to 0 _)))
  ·refine bsl bs24 h fun g45 a w h => ?_
   obtain ⟨Hq45, e45, h, hs45⟩ := h.fsT 0 (rT1 (kf.mono e))
   refine au [2,7,8,17,7,5,2,6] h ?_; intro a w h
   exact mR (st16 (e.trans e45) (k32.mono e45) (k37.mono e45) ⟨_, _, rfl, hs45⟩ (k52.mono e45) (h.to 0 _))
  ·refine al zr26 h fun g12 a w h => ?_
   exact br0 (mR (st20 e k32 k37 k52 (h.to 0 _)))
 have st21 {G} (e : LE Hq G) {g12 v32 v37} (k32 : K32 p G v32) (k37 : K37 p G v37) {a w} (h : S E G 73 [] ((12, p0 g12) :: (32, v32) :: (37, v37) :: F0) (i12 g12 :: L0) a w) : W 10 (bm 31 641511423) a w := by
  subst hW hF0 hL0
  refine bg3 12 16 22 h ?_ ?_ ?_
  ·refine clG bod28 (o41 _ _ e) h (fun r41 H41 L41 a w le41 R h => ?_)
   obtain ⟨k41, rfl⟩ := R
   exact br0 (mR (st14 (e.trans le41) (k32.mono le41) (k37.mono le41) k41 (h.to 0 _)))
  ·refine bsl bs24 h fun g45 a w h => ?_
   obtain ⟨Hq45, e45, h, hs45⟩ := h.fsT 0 (rT1 (kf.mono e))
   refine au [2,7,8,17,7,5,2,6] h ?_; intro a w h
   exact mR (st18 (e.trans e45) (k32.mono e45) (k37.mono e45) ⟨_, _, rfl, hs45⟩ (h.to 0 _))
  ·refine bsl bs24 h fun g51 a w h => ?_
   obtain ⟨Hq51, e51, h, hs51⟩ := h.fsT 0 (rTc (kb.mono e) (rTc (kf.mono e) (rT1 (k1.mono e))))
   refine au [2,7,8,23,7,5,2,6] h ?_; intro a w h
   exact mR (st20 (e.trans e51) (k32.mono e51) (k37.mono e51) ⟨_, _, rfl, hs51⟩ (h.to 0 _))
 have st24 {G} (e : LE Hq G) {g12 v32 v46 v52} (k32 : K32 p G v32) (k46 : K46 p G v46) (k52 : K52 p G v52) {a w} (h : S E G 73 [] ((12, p0 g12) :: (32, v32) :: (46, v46) :: (52, v52) :: F0) (i12 g12 :: L0) a w) : W 7 (bm 31 654290687) a w := by
  subst hW hF0 hL0
  refine bg1 8 true h ?_
  refine clG bod28 (o37 _ _ e) h (fun r37 H37 L37 a w le37 R h => ?_)
  obtain ⟨k37, rfl⟩ := R
  exact br0 (mR (st17 (e.trans le37) (k32.mono le37) k37 (k46.mono le37) (k52.mono le37) (h.to 0 _)))
 have st23 {G} (e : LE Hq G) {v32 v46 v52} (k32 : K32 p G v32) (k46 : K46 p G v46) (k52 : K52 p G v52) {a w} (h : S E G 73 [] ((32, v32) :: (46, v46) :: (52, v52) :: F0) L0 a w) : W 8 (bm 31 117419775) a w := by
  subst hW hF0 hL0
  refine bg2 8 29 true true h ?_ ?_
  ·refine clG bod28 (o37 _ _ e) h (fun r37 H37 L37 a w le37 R h => ?_)
   obtain ⟨k37, rfl⟩ := R
   exact br0 (mR (st16 (e.trans le37) (k32.mono le37) k37 (k46.mono le37) (k52.mono le37) (h.to 0 _)))
  ·refine al zr26 h fun g12 a w h => ?_
   exact br0 (mR (st24 e k32 k46 k52 (h.to 0 _)))
 have st25 {G} (e : LE Hq G) {g12 v32 v46} (k32 : K32 p G v32) (k46 : K46 p G v46) {a w} (h : S E G 73 [] ((12, p0 g12) :: (32, v32) :: (46, v46) :: F0) (i12 g12 :: L0) a w) : W 9 (bm 31 641707775) a w := by
  subst hW hF0 hL0
  refine bg2 8 22 true true h ?_ ?_
  ·refine clG bod28 (o37 _ _ e) h (fun r37 H37 L37 a w le37 R h => ?_)
   obtain ⟨k37, rfl⟩ := R
   exact br0 (mR (st18 (e.trans le37) (k32.mono le37) k37 (k46.mono le37) (h.to 0 _)))
  ·refine bsl bs24 h fun g51 a w h => ?_
   obtain ⟨Hq51, e51, h, hs51⟩ := h.fsT 0 (rTc (kb.mono e) (rTc (kf.mono e) (rT1 (k1.mono e))))
   refine au [2,7,8,23,7,5,2,6] h ?_; intro a w h
   exact mR (st24 (e.trans e51) (k32.mono e51) (k46.mono e51) ⟨_, _, rfl, hs51⟩ (h.to 0 _))
 have st22 {G} (e : LE Hq G) {v32 v46} (k32 : K32 p G v32) (k46 : K46 p G v46) {a w} (h : S E G 73 [] ((32, v32) :: (46, v46) :: F0) L0 a w) : W 10 (bm 31 104836863) a w := by
  subst hW hF0 hL0
  refine bg3 8 22 29 h ?_ ?_ ?_
  ·refine clG bod28 (o37 _ _ e) h (fun r37 H37 L37 a w le37 R h => ?_)
   obtain ⟨k37, rfl⟩ := R
   exact br0 (mR (st15 (e.trans le37) (k32.mono le37) k37 (k46.mono le37) (h.to 0 _)))
  ·refine bsl bs24 h fun g51 a w h => ?_
   obtain ⟨Hq51, e51, h, hs51⟩ := h.fsT 0 (rTc (kb.mono e) (rTc (kf.mono e) (rT1 (k1.mono e))))
   refine au [2,7,8,23,7,5,2,6] h ?_; intro a w h
   exact mR (st23 (e.trans e51) (k32.mono e51) (k46.mono e51) ⟨_, _, rfl, hs51⟩ (h.to 0 _))
  ·refine al zr26 h fun g12 a w h => ?_
   exact br0 (mR (st25 e k32 k46 (h.to 0 _)))
 have st27 {G} (e : LE Hq G) {g12 v32 v52} (k32 : K32 p G v32) (k52 : K52 p G v52) {a w} (h : S E G 73 [] ((12, p0 g12) :: (32, v32) :: (52, v52) :: F0) (i12 g12 :: L0) a w) : W 9 (bm 31 654094079) a w := by
  subst hW hF0 hL0
  refine bg2 8 16 true true h ?_ ?_
  ·refine clG bod28 (o37 _ _ e) h (fun r37 H37 L37 a w le37 R h => ?_)
   obtain ⟨k37, rfl⟩ := R
   exact br0 (mR (st20 (e.trans le37) (k32.mono le37) k37 (k52.mono le37) (h.to 0 _)))
  ·refine bsl bs24 h fun g45 a w h => ?_
   obtain ⟨Hq45, e45, h, hs45⟩ := h.fsT 0 (rT1 (kf.mono e))
   refine au [2,7,8,17,7,5,2,6] h ?_; intro a w h
   exact mR (st24 (e.trans e45) (k32.mono e45) ⟨_, _, rfl, hs45⟩ (k52.mono e45) (h.to 0 _))
 have st26 {G} (e : LE Hq G) {v32 v52} (k32 : K32 p G v32) (k52 : K52 p G v52) {a w} (h : S E G 73 [] ((32, v32) :: (52, v52) :: F0) L0 a w) : W 10 (bm 31 117223167) a w := by
  subst hW hF0 hL0
  refine bg3 8 16 29 h ?_ ?_ ?_
  ·refine clG bod28 (o37 _ _ e) h (fun r37 H37 L37 a w le37 R h => ?_)
   obtain ⟨k37, rfl⟩ := R
   exact br0 (mR (st19 (e.trans le37) (k32.mono le37) k37 (k52.mono le37) (h.to 0 _)))
  ·refine bsl bs24 h fun g45 a w h => ?_
   obtain ⟨Hq45, e45, h, hs45⟩ := h.fsT 0 (rT1 (kf.mono e))
   refine au [2,7,8,17,7,5,2,6] h ?_; intro a w h
   exact mR (st23 (e.trans e45) (k32.mono e45) ⟨_, _, rfl, hs45⟩ (k52.mono e45) (h.to 0 _))
  ·refine al zr26 h fun g12 a w h => ?_
   exact br0 (mR (st27 e k32 k52 (h.to 0 _)))
 have st28 {G} (e : LE Hq G) {g12 v32} (k32 : K32 p G v32) {a w} (h : S E G 73 [] ((12, p0 g12) :: (32, v32) :: F0) (i12 g12 :: L0) a w) : W 11 (bm 31 641511167) a w := by
  subst hW hF0 hL0
  refine bg3 8 16 22 h ?_ ?_ ?_
  ·refine clG bod28 (o37 _ _ e) h (fun r37 H37 L37 a w le37 R h => ?_)
   obtain ⟨k37, rfl⟩ := R
   exact br0 (mR (st21 (e.trans le37) (k32.mono le37) k37 (h.to 0 _)))
  ·refine bsl bs24 h fun g45 a w h => ?_
   obtain ⟨Hq45, e45, h, hs45⟩ := h.fsT 0 (rT1 (kf.mono e))
   refine au [2,7,8,17,7,5,2,6] h ?_; intro a w h
   exact mR (st25 (e.trans e45) (k32.mono e45) ⟨_, _, rfl, hs45⟩ (h.to 0 _))
  ·refine bsl bs24 h fun g51 a w h => ?_
   obtain ⟨Hq51, e51, h, hs51⟩ := h.fsT 0 (rTc (kb.mono e) (rTc (kf.mono e) (rT1 (k1.mono e))))
   refine au [2,7,8,23,7,5,2,6] h ?_; intro a w h
   exact mR (st27 (e.trans e51) (k32.mono e51) ⟨_, _, rfl, hs51⟩ (h.to 0 _))
 have st30 {G} (e : LE Hq G) {g12 v46 v52} (k46 : K46 p G v46) (k52 : K52 p G v52) {a w} (h : S E G 73 [] ((12, p0 g12) :: (46, v46) :: (52, v52) :: F0) (i12 g12 :: L0) a w) : W 8 (bm 31 654290679) a w := by
  subst hW hF0 hL0
  refine bg1 3 true h ?_
  refine clG bod28 (o32 _ _ e) h (fun r32 H32 L32 a w le32 R h => ?_)
  obtain ⟨k32, rfl⟩ := R
  exact br0 (mR (st24 (e.trans le32) k32 (k46.mono le32) (k52.mono le32) (h.to 0 _)))
 have st29 {G} (e : LE Hq G) {v46 v52} (k46 : K46 p G v46) (k52 : K52 p G v52) {a w} (h : S E G 73 [] ((46, v46) :: (52, v52) :: F0) L0 a w) : W 9 (bm 31 117419767) a w := by
  subst hW hF0 hL0
  refine bg2 3 29 true true h ?_ ?_
  ·refine clG bod28 (o32 _ _ e) h (fun r32 H32 L32 a w le32 R h => ?_)
   obtain ⟨k32, rfl⟩ := R
   exact br0 (mR (st23 (e.trans le32) k32 (k46.mono le32) (k52.mono le32) (h.to 0 _)))
  ·refine al zr26 h fun g12 a w h => ?_
   exact br0 (mR (st30 e k46 k52 (h.to 0 _)))
 have st31 {G} (e : LE Hq G) {g12 v46} (k46 : K46 p G v46) {a w} (h : S E G 73 [] ((12, p0 g12) :: (46, v46) :: F0) (i12 g12 :: L0) a w) : W 10 (bm 31 641707767) a w := by
  subst hW hF0 hL0
  refine bg2 3 22 true true h ?_ ?_
  ·refine clG bod28 (o32 _ _ e) h (fun r32 H32 L32 a w le32 R h => ?_)
   obtain ⟨k32, rfl⟩ := R
   exact br0 (mR (st25 (e.trans le32) k32 (k46.mono le32) (h.to 0 _)))
  ·refine bsl bs24 h fun g51 a w h => ?_
   obtain ⟨Hq51, e51, h, hs51⟩ := h.fsT 0 (rTc (kb.mono e) (rTc (kf.mono e) (rT1 (k1.mono e))))
   refine au [2,7,8,23,7,5,2,6] h ?_; intro a w h
   exact mR (st30 (e.trans e51) (k46.mono e51) ⟨_, _, rfl, hs51⟩ (h.to 0 _))
 have st32 {G} (e : LE Hq G) {g12 v52} (k52 : K52 p G v52) {a w} (h : S E G 73 [] ((12, p0 g12) :: (52, v52) :: F0) (i12 g12 :: L0) a w) : W 10 (bm 31 654094071) a w := by
  subst hW hF0 hL0
  refine bg2 3 16 true true h ?_ ?_
  ·refine clG bod28 (o32 _ _ e) h (fun r32 H32 L32 a w le32 R h => ?_)
   obtain ⟨k32, rfl⟩ := R
   exact br0 (mR (st27 (e.trans le32) k32 (k52.mono le32) (h.to 0 _)))
  ·refine bsl bs24 h fun g45 a w h => ?_
   obtain ⟨Hq45, e45, h, hs45⟩ := h.fsT 0 (rT1 (kf.mono e))
   refine au [2,7,8,17,7,5,2,6] h ?_; intro a w h
   exact mR (st30 (e.trans e45) ⟨_, _, rfl, hs45⟩ (k52.mono e45) (h.to 0 _))
 subst hW hF0 hL0
 refine brl4 3 16 22 29 true true true true (by kernel_rfl) (by kernel_rfl) (by kernel_rfl) (by kernel_rfl) (by kernel_rfl) (fun _ => h.st.sees' LE.rfl (by simp)) ?_ ?_ ?_ ?_
 ·refine clG bod28 (o32 _ _ LE.rfl) h (fun r32 H32 L32 a w le32 R h => ?_)
  obtain ⟨k32, rfl⟩ := R
  refine br0 ?_
  refine brl4 8 16 22 29 true true true true (by kernel_rfl) (by kernel_rfl) (by kernel_rfl) (by kernel_rfl) (by kernel_rfl) (fun _ => h.st.sees' le32 (by simp)) ?_ ?_ ?_ ?_
  ·refine clG bod28 (o37 _ _ le32) h (fun r37 H37 L37 a w le37 R h => ?_)
   obtain ⟨k37, rfl⟩ := R
   refine br0 ?_
   have l_Hq27_H37 : LE Hq H37 := le32.trans le37
   refine brl4 12 16 22 29 true true true true (by kernel_rfl) (by kernel_rfl) (by kernel_rfl) (by kernel_rfl) (by kernel_rfl) (fun _ => h.st.sees' l_Hq27_H37 (by simp)) ?_ ?_ ?_ ?_
   ·refine clG bod28 (o41 _ _ (le32.trans le37)) h (fun r41 H41 L41 a w le41 R h => ?_)
    obtain ⟨k41, rfl⟩ := R
    refine br0 ?_
    have l_Hq27_H41 : LE Hq H41 := (le32.trans le37).trans le41
    refine brl4 14 16 22 29 true true true true (by kernel_rfl) (by kernel_rfl) (by kernel_rfl) (by kernel_rfl) (by kernel_rfl) (fun _ => h.st.sees' l_Hq27_H41 (by simp)) ?_ ?_ ?_ ?_
    ·refine clG bod28 (o43 _ _ ((le32.trans le37).trans le41) _ k41) h (fun r43 H43 L43 a w le43 R h => ?_)
     obtain ⟨k43, rfl⟩ := R
     refine br0 ?_
     have l_Hq27_H43 : LE Hq H43 := ((le32.trans le37).trans le41).trans le43
     refine bg3 16 22 29 h ?_ ?_ ?_
     ·refine bsl bs24 h fun g45 a w h => ?_
      obtain ⟨Hq45, e45, h, hs45⟩ := h.fsT 0 (rT1 (kf.mono (((le32.trans le37).trans le41).trans le43)))
      refine au [2,7,8,17,7,5,2,6] h ?_; intro a w h
      have l_H32_Hq45 : LE H32 Hq45 := ((le37.trans le41).trans le43).trans e45
      have l_H37_Hq45 : LE H37 Hq45 := (le41.trans le43).trans e45
      exact mR (st0 ((((le32.trans le37).trans le41).trans le43).trans e45) (k32.mono l_H32_Hq45) (k37.mono l_H37_Hq45) (k43.mono e45) ⟨_, _, rfl, hs45⟩ (h.to 0 _))
     ·refine bsl bs24 h fun g51 a w h => ?_
      have q := ((le32.trans le37).trans le41).trans le43
      obtain ⟨Hq51, e51, h, hs51⟩ := h.fsT 0 (rTc (kb.mono q) (rTc (kf.mono q) (rT1 (k1.mono q))))
      refine au [2,7,8,23,7,5,2,6] h ?_; intro a w h
      have l_H32_Hq51 : LE H32 Hq51 := ((le37.trans le41).trans le43).trans e51
      have l_H37_Hq51 : LE H37 Hq51 := (le41.trans le43).trans e51
      exact mR (st5 ((((le32.trans le37).trans le41).trans le43).trans e51) (k32.mono l_H32_Hq51) (k37.mono l_H37_Hq51) (k43.mono e51) ⟨_, _, rfl, hs51⟩ (h.to 0 _))
     ·refine al zr26 h fun g12 a w h => ?_
      refine br0 ?_
      have l_H32_H43 : LE H32 H43 := (le37.trans le41).trans le43
      have l_H37_H43 : LE H37 H43 := le41.trans le43
      exact mR (st7 (((le32.trans le37).trans le41).trans le43) (k32.mono l_H32_H43) (k37.mono l_H37_H43) k43 (h.to 0 _))
    ·refine bsl bs24 h fun g45 a w h => ?_
     obtain ⟨Hq45, e45, h, hs45⟩ := h.fsT 0 (rT1 (kf.mono ((le32.trans le37).trans le41)))
     refine au [2,7,8,17,7,5,2,6] h ?_; intro a w h
     have l_H32_Hq45 : LE H32 Hq45 := (le37.trans le41).trans e45
     have l_H37_Hq45 : LE H37 Hq45 := le41.trans e45
     exact mR (st8 (((le32.trans le37).trans le41).trans e45) (k32.mono l_H32_Hq45) (k37.mono l_H37_Hq45) (k41.mono e45) ⟨_, _, rfl, hs45⟩ (h.to 0 _))
    ·refine bsl bs24 h fun g51 a w h => ?_
     have q := (le32.trans le37).trans le41
     obtain ⟨Hq51, e51, h, hs51⟩ := h.fsT 0 (rTc (kb.mono q) (rTc (kf.mono q) (rT1 (k1.mono q))))
     refine au [2,7,8,23,7,5,2,6] h ?_; intro a w h
     have l_H32_Hq51 : LE H32 Hq51 := (le37.trans le41).trans e51
     have l_H37_Hq51 : LE H37 Hq51 := le41.trans e51
     exact mR (st12 (((le32.trans le37).trans le41).trans e51) (k32.mono l_H32_Hq51) (k37.mono l_H37_Hq51) (k41.mono e51) ⟨_, _, rfl, hs51⟩ (h.to 0 _))
    ·refine al zr26 h fun g12 a w h => ?_
     refine br0 ?_
     have l_H32_H41 : LE H32 H41 := le37.trans le41
     exact mR (st14 ((le32.trans le37).trans le41) (k32.mono l_H32_H41) (k37.mono le41) k41 (h.to 0 _))
   ·refine bsl bs24 h fun g45 a w h => ?_
    obtain ⟨Hq45, e45, h, hs45⟩ := h.fsT 0 (rT1 (kf.mono (le32.trans le37)))
    refine au [2,7,8,17,7,5,2,6] h ?_; intro a w h
    have l_H32_Hq45 : LE H32 Hq45 := le37.trans e45
    exact mR (st15 ((le32.trans le37).trans e45) (k32.mono l_H32_Hq45) (k37.mono e45) ⟨_, _, rfl, hs45⟩ (h.to 0 _))
   ·refine bsl bs24 h fun g51 a w h => ?_
    have q := le32.trans le37
    obtain ⟨Hq51, e51, h, hs51⟩ := h.fsT 0 (rTc (kb.mono q) (rTc (kf.mono q) (rT1 (k1.mono q))))
    refine au [2,7,8,23,7,5,2,6] h ?_; intro a w h
    have l_H32_Hq51 : LE H32 Hq51 := le37.trans e51
    exact mR (st19 ((le32.trans le37).trans e51) (k32.mono l_H32_Hq51) (k37.mono e51) ⟨_, _, rfl, hs51⟩ (h.to 0 _))
   ·refine al zr26 h fun g12 a w h => ?_
    exact br0 (mR (st21 (le32.trans le37) (k32.mono le37) k37 (h.to 0 _)))
  ·refine bsl bs24 h fun g45 a w h => ?_
   obtain ⟨Hq45, e45, h, hs45⟩ := h.fsT 0 (rT1 (kf.mono le32))
   refine au [2,7,8,17,7,5,2,6] h ?_; intro a w h
   exact mR (st22 (le32.trans e45) (k32.mono e45) ⟨_, _, rfl, hs45⟩ (h.to 0 _))
  ·refine bsl bs24 h fun g51 a w h => ?_
   obtain ⟨Hq51, e51, h, hs51⟩ := h.fsT 0 (rTc (kb.mono le32) (rTc (kf.mono le32) (rT1 (k1.mono le32))))
   refine au [2,7,8,23,7,5,2,6] h ?_; intro a w h
   exact mR (st26 (le32.trans e51) (k32.mono e51) ⟨_, _, rfl, hs51⟩ (h.to 0 _))
  ·refine al zr26 h fun g12 a w h => ?_
   exact br0 (mR (st28 le32 k32 (h.to 0 _)))
 ·refine bsl bs24 h fun g45 a w h => ?_
  obtain ⟨Hq45, e45, h, hs45⟩ := h.fsT 0 (rT1 (kf.mono LE.rfl))
  refine au [2,7,8,17,7,5,2,6] h ?_; intro a w h
  refine bg3 3 22 29 h ?_ ?_ ?_
  ·refine clG bod28 (o32 _ _ e45) h (fun r32 H32 L32 a w le32 R h => ?_)
   obtain ⟨k32, rfl⟩ := R
   exact br0 (mR (st22 (e45.trans le32) k32 ⟨_, _, rfl, (KS.up hs45 le32)⟩ (h.to 0 _)))
  ·refine bsl bs24 h fun g51 a w h => ?_
   obtain ⟨Hq51, e51, h, hs51⟩ := h.fsT 0 (rTc (kb.mono e45) (rTc (kf.mono e45) (rT1 (k1.mono e45))))
   refine au [2,7,8,23,7,5,2,6] h ?_; intro a w h
   exact mR (st29 (e45.trans e51) ⟨_, _, rfl, (KS.up hs45 e51)⟩ ⟨_, _, rfl, hs51⟩ (h.to 0 _))
  ·refine al zr26 h fun g12 a w h => ?_
   exact br0 (mR (st31 e45 ⟨_, _, rfl, hs45⟩ (h.to 0 _)))
 ·refine bsl bs24 h fun g51 a w h => ?_
  obtain ⟨Hq51, e51, h, hs51⟩ := h.fsT 0 (rTc (kb.mono LE.rfl) (rTc (kf.mono LE.rfl) (rT1 (k1.mono LE.rfl))))
  refine au [2,7,8,23,7,5,2,6] h ?_; intro a w h
  refine bg3 3 16 29 h ?_ ?_ ?_
  ·refine clG bod28 (o32 _ _ e51) h (fun r32 H32 L32 a w le32 R h => ?_)
   obtain ⟨k32, rfl⟩ := R
   exact br0 (mR (st26 (e51.trans le32) k32 ⟨_, _, rfl, (KS.up hs51 le32)⟩ (h.to 0 _)))
  ·refine bsl bs24 h fun g45 a w h => ?_
   obtain ⟨Hq45, e45, h, hs45⟩ := h.fsT 0 (rT1 (kf.mono e51))
   refine au [2,7,8,17,7,5,2,6] h ?_; intro a w h
   exact mR (st29 (e51.trans e45) ⟨_, _, rfl, hs45⟩ ⟨_, _, rfl, (KS.up hs51 e45)⟩ (h.to 0 _))
  ·refine al zr26 h fun g12 a w h => ?_
   exact br0 (mR (st32 e51 ⟨_, _, rfl, hs51⟩ (h.to 0 _)))
 ·refine al zr26 h fun g12 a w h => ?_
  refine br0 ?_
  refine bg3 3 16 22 h ?_ ?_ ?_
  ·refine clG bod28 (o32 _ _ LE.rfl) h (fun r32 H32 L32 a w le32 R h => ?_)
   obtain ⟨k32, rfl⟩ := R
   exact br0 (mR (st28 le32 k32 (h.to 0 _)))
  ·refine bsl bs24 h fun g45 a w h => ?_
   obtain ⟨Hq45, e45, h, hs45⟩ := h.fsT 0 (rT1 (kf.mono LE.rfl))
   refine au [2,7,8,17,7,5,2,6] h ?_; intro a w h
   exact mR (st31 e45 ⟨_, _, rfl, hs45⟩ (h.to 0 _))
  ·refine bsl bs24 h fun g51 a w h => ?_
   obtain ⟨Hq51, e51, h, hs51⟩ := h.fsT 0 (rTc (kb.mono LE.rfl) (rTc (kf.mono LE.rfl) (rT1 (k1.mono LE.rfl))))
   refine au [2,7,8,23,7,5,2,6] h ?_; intro a w h
   exact mR (st32 e51 ⟨_, _, rfl, hs51⟩ (h.to 0 _))
end Go.Proofs.YthnhddjlgjecdaaGreatDoor
namespace Go.Proofs.YthnhddjlgjecdaaGreatDoor.refu
open Go X Go.ChangeShapes Go.WideShapes Go.ChangeAt Go.RowKit
theorem own : ownKnob Tryz.prog.godebug = none := by kernel_rfl
theorem contract (H : Type) (enc : TypeId × Value → H) (W : World) (base : Nat) (args : Array Value) (ds gs : List (DataW H)) (before : List MemPlace)
   (hval : ∀ (j : Nat) t v, Tryz.f7.params[j]? = some t → args[j]? = some v → Value.okWide Tryz.prog W .any base t v)
   (hW : DataW.Whole enc Tryz.prog Tryz.f7.params.toList Rows.elabRefusesSpec.vars false W args.toList ds gs before) (hk : Rows.uptoSmall H (ds ++ gs) = true) (hL : laidMetH Tryz.prog Rows.elabRefusesUptoRow.laid W) :
   Calls Tryz.prog 7 args W fun e W' => ∃ v, e = .returned v ∧ Rows.elabRefusesSpec.post enc Tryz.prog Tryz.f7 false true false false W args v W' := by
 have hW' := hW
 obtain ⟨p, q, hA, hV, rfl, hfz, hnd⟩ := hW
 rw [show Tryz.f7.params = #[35, 5, 5] from rfl] at hA hval
 obtain ⟨v0, vs0, d0, ds0, p0, q0, ha0, rfl, rfl, h0, r0⟩ := trodAll_cons hA
 obtain ⟨v1, vs1, d1, ds1, p1, q1, ha1, rfl, rfl, h1, r1⟩ := trodAll_cons r0
 obtain ⟨v2, vs2, d2, ds2, p2, q2, ha2, rfl, rfl, h2, r2⟩ := trodAll_cons r1
 obtain ⟨rfl, rfl, rfl⟩ := trodAll_nil r2
 obtain rfl : args = #[v0, v1, v2] := by cases args; simp_all
 have hgs : gs = [] := by
   cases gs with
   | nil => rfl
   | cons g gs => exact (show False from hV).elim
 subst hgs
 have hbulk : Rows.uptoBulkAll [d0, d1, d2] ≤ 1048576 := by simpa [Rows.uptoSmall] using hk
 simp only [Rows.uptoBulkAll] at hbulk
 obtain ⟨fuel0, htr0⟩ := h0
 obtain ⟨fuel1, htr1⟩ := h1
 obtain ⟨fuel2, htr2⟩ := h2
 obtain ⟨A0, c0, l0, rfl, hl0, hb0⟩ := open_u8s (e := 5) Tryz.underlying35 Tryz.underlying5 (by kernel_rfl) (cells_slice Tryz.underlying35 (hval 0 35 v0 rfl rfl)) htr0 (by show Rows.uptoBulk d0 ≤ _; omega)
 obtain ⟨n1, rfl, lo1, hi1⟩ := open_int Tryz.underlying5 (cells_int Tryz.underlying5 (hval 1 5 v1 rfl rfl)) htr1
 obtain ⟨n1, rfl⟩ : ∃ n : Nat, n1 = (n : Int) := ⟨n1.toNat, by simp [IntKind.min, IntKind.max, IntKind.signed, IntKind.bits] at lo1; omega⟩
 simp [IntKind.min, IntKind.max, IntKind.signed, IntKind.bits] at lo1 hi1
 obtain ⟨n2, rfl, lo2, hi2⟩ := open_int Tryz.underlying5 (cells_int Tryz.underlying5 (hval 2 5 v2 rfl rfl)) htr2
 obtain ⟨n2, rfl⟩ : ∃ n : Nat, n2 = (n : Int) := ⟨n2.toNat, by simp [IntKind.min, IntKind.max, IntKind.signed, IntKind.bits] at lo2; omega⟩
 simp [IntKind.min, IntKind.max, IntKind.signed, IntKind.bits] at lo2 hi2
 have hlaid : Laid (HW W) := by
   obtain ⟨ps, hv, _⟩ := (hL : laidMet Tryz.prog Rows.elabRefusesUptoRow.laid W)
   exact laid_of hv (by simp [Rows.elabRefusesUptoRow]) (by simp [Rows.elabRefusesUptoRow]) (by simp [Rows.elabRefusesUptoRow]) (by simp [Rows.elabRefusesUptoRow])
 refine (refuses_law l0 n1 n2 A0 c0 W (HW W) [] hl0 (by omega) (by omega) (by omega) hlaid W (st_world W)).mono fun e W' ⟨r, H', L', he, hle, hst, hr, hl⟩ => ?_
 subst hr
 refine ⟨_, he, post_true (by simpa using hW') rfl rfl rfl rfl (below_of hle hst) (by kernel_rfl) (fun t ht => ?_) rfl Tryz.underlying4⟩
 rw [show Tryz.f7.params = #[35, 5, 5] from rfl] at ht
 have ht' : t = 35 ∨ t = 5 := by simpa using ht
 rcases ht' with rfl | rfl <;> exact ⟨by kernel_rfl, of_decide_eq_true (by kernel_rfl)⟩
def valOf : DataW Unit → Value
 | .lit (.int k n) => .int k n
 | .lit (.string s) => str s
 | _ => .bool false
def cellsOf : DataW Unit → Array Value
 | .agg ds => (ds.map valOf).toArray
 | _ => #[]
def lay (i : Nat) (o : Obj) : Obj := match i, o with
 | 2, .cells _ t z => .cells (cellsOf Rows.laid_chancel_term_kids) t z
 | 3, .cells _ t z => .cells (cellsOf Rows.laid_chancel_term_ops) t z
 | 1, .cells _ t z => .cells (cellsOf Rows.laid_internal_strconv_uint64pow10) t z
 | 4, .cells _ t z => .cells (cellsOf Rows.laid_chancel_lex_keys) t z
 | 5, .cells _ t z => .cells (cellsOf Rows.laid_math_bits_deBruijn32tab) t z
 | 6, .cells _ t z => .cells (cellsOf Rows.laid_math_bits_deBruijn64tab) t z
 | 0, .cells _ t z => .cells (cellsOf Rows.laid_chancel_eval_kids) t z
 | _, o => o
noncomputable def laidWorld (os : Os) : World :=
 { World.holding Tryz.prog os ⟨#[], #[], []⟩ with heap := (World.holding Tryz.prog os ⟨#[], #[], []⟩).heap.mapIdx lay }
def arg : Array Value := #[.slice none 0 0, .int .u8 0, .int .u8 0]
theorem laid_met (os : Os) : laidMet Tryz.prog Rows.elabRefusesUptoRow.laid ((laidWorld os).forCall (fun _ _ => 0) ⟨#[], arg, []⟩).memory :=
 laidMet_of_run' 8 (by kernel_rfl) (by kernel_rfl)
theorem reads (os : Os) {H : Type} (enc : TypeId × Value → H) : ∃ places, DataW.whole enc Tryz.prog ((laidWorld os).forCall (fun _ _ => 0) ⟨#[], arg, []⟩).memory Tryz.f7.params.toList Rows.elabRefusesSpec.vars false arg.toList 8 = some ([.nil, .lit (.int .u8 0), .lit (.int .u8 0)], [], places) :=
 ⟨[], by kernel_rfl⟩
theorem liftedUpto (os : Os) (started : os.Started) (H : Type) (enc : TypeId × Value → H) (F : Stop.Interp) :
   ReturnsInHanded {} Tryz.checked os 7 .any ((Rows.OpenSpec.upto Rows.elabRefusesSpec).preRow enc Tryz.prog Tryz.f7 Rows.elabRefusesUptoRow.domain false Rows.elabRefusesUptoRow.laid) (((Rows.OpenSpec.upto Rows.elabRefusesSpec).at F).post enc Tryz.prog Tryz.f7 false true false false) := by
 obtain ⟨places, hx⟩ := reads os enc
 refine returnsInHanded_of_row (C := Tryz.checked) (s := Rows.OpenSpec.upto Rows.elabRefusesSpec) own started (by kernel_rfl) Tryz.func7
   (witness_row_at (enc := enc) (C := Tryz.checked) false (laidWorld os) arg rfl (by kernel_rfl) (by kernel_rfl) (by kernel_rfl)
     (OpenSpec.preRow_of_cond 8 hx (by kernel_rfl) (fun k hk => by cases hk; kernel_rfl) (by kernel_rfl) (laid_met os))) ?_
 intro W base args ds gs before hval hW _ hcond _ hL _ _
 exact contract H enc W base args ds gs before hval hW (hcond _ rfl) hL
theorem andI {a b : Bool} (h : a = true) (k : b = true) : (a && b) = true := by rw [h, k]; rfl
theorem closed : joinedFacts Tryz.prog 7 Tryz.f7 (Rows.OpenSpec.upto Rows.elabRefusesSpec).bare Rows.elabRefusesUptoRow = true := by
 unfold joinedFacts
 repeat (refine andI ?_ ?_)
 all_goals (as_aux_lemma => kernel_rfl)
theorem saidUpto : Rows.ElabRefusesUptoSaid :=
 OpenClaim.holds_of_cond 7 Tryz.f7 rfl rfl rfl rfl rfl rfl rfl ⟨rfl, rfl, rfl, rfl, rfl⟩ rfl rfl rfl rfl rfl (by kernel_rfl) Tryz.func7 closed
   (of_decide_eq_true (by kernel_rfl)) (by unfold Func.isWrapper; first | (rw [if_pos (by decide +kernel)]; kernel_rfl) | (rw [if_neg (by decide +kernel)]; exact ⟨rfl, rfl⟩))
   (fun os started H enc _ F => by rw [OpenClaim.pre_eq_preRow]; exact liftedUpto os started H enc F)
theorem plain (f : FuncId) (fn : Func) (hf : Tryz.pinned.checked.prog.funcNamed "chancel/chancellaw09.ElabRefuses" = some f) (hfn : Tryz.pinned.checked.prog.funcs[f]? = some fn) :
   true = Tryz.pinned.checked.prog.looks [] ∧ ∀ (j : Nat) t, fn.params[j]? = some t → Tryz.pinned.checked.prog.wantsStandIn t = false := by
 obtain rfl : f = 7 := Option.some.inj ((show Tryz.prog.funcNamed "chancel/chancellaw09.ElabRefuses" = some 7 by kernel_rfl).symm.trans hf) |>.symm
 obtain rfl : fn = Tryz.f7 := (Option.some.inj (Tryz.func7.symm.trans hfn)).symm
 refine ⟨by kernel_rfl, fun j t ht => ?_⟩
 rw [show Tryz.f7.params = #[35, 5, 5] from rfl] at ht
 have ht' : t = 35 ∨ t = 5 := by simpa using Array.mem_of_getElem? ht
 rcases ht' with rfl | rfl <;> exact (show Tryz.prog.wantsStandIn _ = false by kernel_rfl)
theorem cardUpto : Rows.ElabRefusesUptoCardSaid :=
 Claim7.holds_tied_plain_at .later [] _ _ _ _ saidUpto (fun _ h => by cases h) (by kernel_rfl) (fun _ h => by cases h) elabRefusesUpto_row_tie rfl ⟨rfl, rfl⟩ (by kernel_rfl) rfl plain (by kernel_rfl)
end Go.Proofs.YthnhddjlgjecdaaGreatDoor.refu
