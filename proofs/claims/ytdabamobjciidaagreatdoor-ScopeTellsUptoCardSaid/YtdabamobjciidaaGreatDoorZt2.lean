/- Parts of the proof: T5, T6, T7, T8, G1, T12, G2, X24, F, W1, W3, G3, G4, X13, X14, X15, X16, G7, F2, W4, W5, Shelf, W6, W7, W8, W9. -/
import Derived.Test.YtdabamobjciidaaGreatDoorZt1
import Derived.Test.YtdabamobjciidaaGreatDoorRows
import Derived.ChangeArms
import Derived.Lib.SmallJoins
import Derived.Deep.Strs
import Derived.Test.YtdabamobjciidaaGreatDoorProg
import Derived.Shelf.Strconv.Itoa4
import Derived.Lib.LaidTab
import Derived.OpenShut
import Derived.FnData
import Derived.WideKeyArgs
import Derived.ChangeSame
import Derived.Deep.DeepHandedRow
import Derived.Below
import Derived.Laws.StructEq
import Derived.Shelf.Strings.Builder1
import Derived.Shelf.Strings.Builder2
import Derived.Shelf.Strings.OnBuilder
import Derived.Shelf.Small.Bits
import Derived.Shelf.Strings.BuilderF
import Derived.Shelf.Strings.BuilderK
import Derived.Shelf.Strings.Builder2Cap
import Derived.Shelf.Strconv.Itoa0
import Derived.Shelf.Strconv.Itoa1
import Derived.Shelf.LaysM
import Derived.Shelf.Strconv.Itoa2
import Derived.Shelf.Strconv.Itoa3
import Derived.Shelf.Sort.Plain
import Derived.Shelf.Strings.BuilderCap
import Derived.Shelf.Slices.Turned
import Derived.Shelf.Slices.In.SortNone
set_option autoImplicit false
set_option linter.unnecessarySimpa false
set_option linter.unusedSectionVars false
set_option linter.unusedSimpArgs false
set_option linter.unusedVariables false
set_option maxHeartbeats 8000000
set_option maxRecDepth 100000
set_option relaxedAutoImplicit false
namespace Go.Proofs.YtdabamobjciidaaGreatDoor
open Go X
def inc1 (b : Bs → Nat) (s : Bs) : Bs → Nat := fun x => if x = s then b x + 1 else b x
mutual
def Tm.fr : Tm → (Bs → Nat) → Bs → Bool
 | .mk k s n ks, b, x => ((k == 2 && decide (b s = 0)) && decide (x = s)) || frL (bnd k) s ks b x
def frL (bd : Bool) (s : Bs) : List Tm → (Bs → Nat) → Bs → Bool
 | [], _, _ => false
 | t :: l, b, x => t.fr (if bd && l.isEmpty then inc1 b s else b) x || frL bd s l b x
end
theorem frL_snoc (bd : Bool) (s : Bs) (b : Bs → Nat) (x : Bs) (t : Tm) : ∀ l : List Tm, frL bd s (l ++ [t]) b x = ((l.any fun u => u.fr b x) || t.fr (if bd then inc1 b s else b) x)
 | [] => by simp [frL]
 | u :: l => by
   simp only [List.cons_append, frL, frL_snoc bd s b x t l, List.any_cons, Bool.or_assoc]
   have : (l ++ [t]).isEmpty = false := by cases l <;> rfl
   rw [this, Bool.and_false]; rfl
def frT (bd : Bool) (s : Bs) (ks : List Tm) (k : Nat) (b : Bs → Nat) (x : Bs) : Bool :=
 (List.range k).any fun j => match ks[j]? with
   | some t => t.fr (if bd && j + 1 == ks.length then inc1 b s else b) x
   | none => false
theorem frT_zero (bd : Bool) (s : Bs) (ks : List Tm) (b : Bs → Nat) (x : Bs) : frT bd s ks 0 b x = false := rfl
theorem frT_succ (bd : Bool) (s : Bs) (ks : List Tm) (b : Bs → Nat) (x : Bs) {k : Nat} (h : k < ks.length) : frT bd s ks (k + 1) b x = (frT bd s ks k b x || ks[k].fr (if bd && k + 1 == ks.length then inc1 b s else b) x) := by
 unfold frT
 rw [List.range_succ, List.any_append]
 simp [List.getElem?_eq_getElem h]
theorem frT_all (bd : Bool) (s : Bs) (b : Bs → Nat) (x : Bs) (ks : List Tm) : frT bd s ks ks.length b x = frL bd s ks b x := by
 have key : ∀ (l : List Tm) (p : List Tm), ks = p ++ l → (frT bd s ks p.length b x || frL bd s l b x) = frT bd s ks ks.length b x := by
   intro l
   induction l with
   | nil => intro p e; simp [e, frL]
   | cons t l ih =>
     intro p e
     have h := ih (p ++ [t]) (by simp [e])
     rw [← h]
     have hlt : p.length < ks.length := by simp [e]
     have hk : ks[p.length] = t := by simp [e]
     rw [show (p ++ [t]).length = p.length + 1 by simp, frT_succ _ _ _ _ _ hlt, hk, Bool.or_assoc]
     congr 1
     simp only [frL]
     have : (p.length + 1 == ks.length) = l.isEmpty := by
       rw [e]; cases l <;> simp
     rw [this]
 have := key ks [] rfl
 rw [List.length_nil, frT_zero, Bool.false_or] at this
 exact this.symm
def IsSet (ss : List Bs) (p : Bs → Bool) : Prop := ss.Nodup ∧ (∀ x, x ∈ ss ↔ p x = true) ∧ ss.Pairwise (fun x y => x ≤ y)
mutual
def Tm.names : Tm → List Bs
 | .mk _ s _ ks => s :: namesL ks
def namesL : List Tm → List Bs
 | [] => []
 | t :: l => t.names ++ namesL l
end
mutual
theorem names_len : ∀ t : Tm, t.names.length = t.size
 | .mk _ s _ ks => by simp only [Tm.names, Tm.size, List.length_cons, namesL_len ks]; omega
theorem namesL_len : ∀ l : List Tm, (namesL l).length = sizeL l
 | [] => rfl
 | t :: l => by simp only [namesL, sizeL, List.length_append, names_len t, namesL_len l]
end
mutual
theorem fr_names : ∀ (t : Tm) (b : Bs → Nat) (x : Bs), t.fr b x = true → x ∈ t.names
 | .mk k s n ks, b, x, h => by
   simp only [Tm.fr, Bool.or_eq_true, Bool.and_eq_true, decide_eq_true_eq] at h
   simp only [Tm.names, List.mem_cons]
   rcases h with h | h
   · exact .inl h.2
   · exact .inr (frL_names (bnd k) s ks b x h)
theorem frL_names (bd : Bool) (s : Bs) : ∀ (l : List Tm) (b : Bs → Nat) (x : Bs), frL bd s l b x = true → x ∈ namesL l
 | [], b, x, h => by simp [frL] at h
 | t :: l, b, x, h => by
   simp only [frL, Bool.or_eq_true] at h
   simp only [namesL, List.mem_append]
   rcases h with h | h
   · exact .inl (fr_names t _ x h)
   · exact .inr (frL_names bd s l b x h)
end
mutual
theorem names_long : ∀ (t : Tm) (x : Bs), x ∈ t.names → x.length ≤ t.long
 | .mk k s n ks, x, h => by
   simp only [Tm.names, List.mem_cons] at h
   simp only [Tm.long]
   rcases h with rfl | h
   · omega
   · have := namesL_long ks x h; omega
theorem namesL_long : ∀ (l : List Tm) (x : Bs), x ∈ namesL l → x.length ≤ longL l
 | [], x, h => by simp [namesL] at h
 | t :: l, x, h => by
   simp only [namesL, List.mem_append] at h
   simp only [longL]
   rcases h with h | h
   · have := names_long t x h; omega
   · have := namesL_long l x h; omega
end
def none0 : Bs → Nat := fun _ => 0
def X.NP (Q : Exit → Act → World → Prop) : Exit → Act → World → Prop
 | .panic _, _, _ => False
 | e, a, w => Q e a w
theorem X.npN {Q : Exit → Act → World → Prop} {a : Act} {w : World} (h : Q .normal a w) : NP Q .normal a w := h
theorem X.np_mono {Q : Exit → Act → World → Prop} : ∀ e a w, NP Q e a w → Q e a w := by
 intro e a w h
 cases e <;> first | exact h | exact h.elim
section
variable {P : Program} {Q : Exit → Act → World → Prop} {E w : World} {H : GH} {N : Nat} {D : List Deferred} {F : List (Nat × Value)} {L : List It} {a : Act}
theorem X.rgxF {id : Nat} {l : List Oper} (ks : List Nat) (L1 : List It) (rd : List Nat) (n : Nat) (hm : P.follows .mixedOrders = true) (h : S E H N D F L a w)
   (k : ∀ a w, S E H N D F L a w → wpR P l.toArray (NP Q) (Sees H L1) rd n (Array.replicate n false) a w) (hn : l.length = n := by rfl) (hk : ks.map (fun k => L[k]?) = L1.map some := by rfl) : (Code.region id l.toArray true).wp P Q a w :=
 Code.wp_mono np_mono (rgx ks L1 rd n hm h k hn hk)
theorem X.rgdF {id : Nat} {l : List Oper} (ks : List Nat) (L1 : List It) (eff rd : List Nat) (nS : Nat) (hm : P.follows .mixedOrders = true) (hD : drawOk l.toArray eff rd nS = true) (h : S E H N D F L a w)
   (k : ∀ a w, S E H N D F L a w → (gd P l.toArray (NP Q) (Sees H L1) eff rd nS).G l a w) (hk : ks.map (fun k => L[k]?) = L1.map some := by rfl) : (Code.region id l.toArray true).wp P Q a w :=
 Code.wp_mono np_mono (rgd ks L1 eff rd nS hm hD h k hk (fun _ _ _ _ _ h => False.elim h))
end
def nx (n : Int) : Int := IntKind.i64.wrap (n + 1)
def In64 (n : Int) : Prop := -9223372036854775808 ≤ n ∧ n ≤ 9223372036854775807
theorem nx_in (n : Int) : In64 (nx n) := by
 unfold In64 nx
 simp [IntKind.wrap, IntKind.bits, IntKind.signed]
 omega
def updS (σ : Bs → Option Bs) (s s' : Bs) : Bs → Option Bs := fun x => if x = s then some s' else σ x
def renN (k : Int) (s : Bs) (σ : Bs → Option Bs) (n : Int) : Bs := if bnd k then Lib.itoa n else if k == 2 then (σ s).getD s else s
mutual
def Tm.ren : Tm → (Bs → Option Bs) → Int → Tm × Int
 | .mk k s m ks, σ, n => (.mk k (renN k s σ n) m (renL (bnd k) s (renN k s σ n) ks σ (if bnd k then nx n else n)).1, (renL (bnd k) s (renN k s σ n) ks σ (if bnd k then nx n else n)).2)
def renL (bd : Bool) (s s' : Bs) : List Tm → (Bs → Option Bs) → Int → List Tm × Int
 | [], _, n => ([], n)
 | t :: l, σ, n => ((t.ren (if bd && l.isEmpty then updS σ s s' else σ) n).1 :: (renL bd s s' l σ (t.ren (if bd && l.isEmpty then updS σ s s' else σ) n).2).1, (renL bd s s' l σ (t.ren (if bd && l.isEmpty then updS σ s s' else σ) n).2).2)
end
def renT (bd : Bool) (s s' : Bs) (ks : List Tm) (σ : Bs → Option Bs) (n : Int) : Nat → List Tm × Int
 | 0 => ([], n)
 | k + 1 => match ks[k]? with
   | some t => ((renT bd s s' ks σ n k).1 ++ [(t.ren (if bd && k + 1 == ks.length then updS σ s s' else σ) (renT bd s s' ks σ n k).2).1], (t.ren (if bd && k + 1 == ks.length then updS σ s s' else σ) (renT bd s s' ks σ n k).2).2)
   | none => renT bd s s' ks σ n k
theorem renT_succ {bd : Bool} {s s' : Bs} {ks : List Tm} {σ : Bs → Option Bs} {n : Int} {k : Nat} (h : k < ks.length) :
   renT bd s s' ks σ n (k + 1) = ((renT bd s s' ks σ n k).1 ++ [(ks[k].ren (if bd && k + 1 == ks.length then updS σ s s' else σ) (renT bd s s' ks σ n k).2).1], (ks[k].ren (if bd && k + 1 == ks.length then updS σ s s' else σ) (renT bd s s' ks σ n k).2).2) := by
 simp only [renT, List.getElem?_eq_getElem h]
theorem renT_all (bd : Bool) (s s' : Bs) (ks : List Tm) (σ : Bs → Option Bs) (n : Int) : renT bd s s' ks σ n ks.length = renL bd s s' ks σ n := by
 have key : ∀ (l p : List Tm), ks = p ++ l → renT bd s s' ks σ n ks.length = ((renT bd s s' ks σ n p.length).1 ++ (renL bd s s' l σ (renT bd s s' ks σ n p.length).2).1, (renL bd s s' l σ (renT bd s s' ks σ n p.length).2).2) := by
   intro l
   induction l with
   | nil => intro p e; simp [e, renL]
   | cons t l ih =>
     intro p e
     have hlt : p.length < ks.length := by simp [e]
     have hk : ks[p.length] = t := by simp [e]
     have hl : (p.length + 1 == ks.length) = l.isEmpty := by rw [e]; cases l <;> simp
     rw [ih (p ++ [t]) (by simp [e]), show (p ++ [t]).length = p.length + 1 by simp, renT_succ hlt, hk, hl]
     simp [renL]
 have := key ks [] rfl
 rw [this]; simp [renT]
theorem rt_of_vt {H : GH} {cs : List Value} {t : Tm} (h : VT H (.agg cs.toArray) t) : RT H cs t := by
 obtain ⟨k, s, n, ks⟩ := t
 obtain ⟨A, c, e, h⟩ := h
 rw [rt_mk]
 refine ⟨.slice A ks.length c, ?_, h⟩
 have := congrArg (fun v => match v with | .agg a => a.toList | _ => []) e
 have t2 : cs = [Value.int .i64 k, str s, .int .i64 n, .slice A ks.length c] := by
   have t3 := this
   simp at t3
   exact t3
 exact t2
mutual
theorem ren_size : ∀ (t : Tm) (σ : Bs → Option Bs) (n : Int), (t.ren σ n).1.size = t.size
 | .mk k s m ks, σ, n => by simp only [Tm.ren, Tm.size, renL_size]
theorem renL_size (bd : Bool) (s s' : Bs) : ∀ (l : List Tm) (σ : Bs → Option Bs) (n : Int), sizeL (renL bd s s' l σ n).1 = sizeL l
 | [], _, _ => rfl
 | t :: l, σ, n => by simp only [renL, sizeL, ren_size t, renL_size bd s s' l]
end
theorem renT_length {bd : Bool} {s s' : Bs} {ks : List Tm} {σ : Bs → Option Bs} {n : Int} : ∀ {k : Nat}, k ≤ ks.length → (renT bd s s' ks σ n k).1.length = k
 | 0, _ => rfl
 | k + 1, h => by
   have ih := renT_length (bd := bd) (s := s) (s' := s') (ks := ks) (σ := σ) (n := n) (k := k) (by omega)
   rw [renT_succ (show k < ks.length by omega), List.length_append, ih]; rfl
mutual
theorem ren_in : ∀ (t : Tm) (σ : Bs → Option Bs) (n : Int), In64 n → In64 (t.ren σ n).2
 | .mk k s m ks, σ, n, h => by
   simp only [Tm.ren]
   exact renL_in _ _ _ ks σ _ (by split <;> first | exact nx_in n | exact h)
theorem renL_in (bd : Bool) (s s' : Bs) : ∀ (l : List Tm) (σ : Bs → Option Bs) (n : Int), In64 n → In64 (renL bd s s' l σ n).2
 | [], _, n, h => h
 | t :: l, σ, n, h => by simp only [renL]; exact renL_in bd s s' l σ _ (ren_in t _ n h)
end
theorem renT_in {bd : Bool} {s s' : Bs} {ks : List Tm} {σ : Bs → Option Bs} {n : Int} (h : In64 n) : ∀ k, In64 (renT bd s s' ks σ n k).2
 | 0 => h
 | k + 1 => by
   simp only [renT]
   split
   · exact ren_in _ _ _ (renT_in h k)
   · exact renT_in h k
section
variable {E w : World} {H : GH} {N : Nat} {D : List Deferred} {F : List (Nat × Value)} {L : List It} {a : Act}
theorem X.St.thaw {H3 : GH} {g : Nat} {o : Obj} {w' : World} {L' : List It} (h : St E H3 L' w') (hg : H3 g = some o) (h0 : H g = none) (hl : LE H H3) : St E H (.obj g o :: L') w' := by
 refine ⟨h.os, h.tape, h.output, fun b x e => h.fro b x (hl b x e), fun i hi => ?_, fun i hi x hx => ?_, List.pairwise_cons.2 ⟨fun i hi x hx hxi => ?_, h.apart⟩⟩
 · cases hi with
   | head => exact h.fro g o hg
   | tail _ hi => exact h.holds i hi
 · cases hi with
   | head => simp [It.own] at hx; subst hx; exact h0
   | tail _ hi =>
     cases hH : H x with
     | none => rfl
     | some y => exact absurd ((hl x y hH).symm.trans (h.off i hi x hx)) (by simp)
 · simp [It.own] at hx; subst hx
   have := h.off i hi x hxi
   rw [hg] at this; cases this
def X.Back (E : World) (H H' : GH) (i : It) : Prop := ∀ (N : Nat) (D : List Deferred) (F : List (Nat × Value)) (L' : List It) (a : Act) (w : World) (H3 : GH), LE H' H3 → S E H3 N D F L' a w → S E H N D F (i :: L') a w
theorem X.Back.get {H' H3 : GH} {i : It} (b : Back E H H' i) (hl : LE H' H3) (h : S E H3 N D F L a w) : S E H N D F (i :: L) a w := b _ _ _ _ _ _ _ hl h
theorem X.S.lendO (k0 : Nat) {g : Nat} {o : Obj} {L' : List It} (h : S E H N D F L a w) (hk : L[k0]? = some (.obj g o) := by rfl) (hL : L.eraseIdx k0 = L' := by rfl) :
   ∃ H', LE H H' ∧ S E H' N D F L' a w ∧ H' g = some o ∧ Back E H H' (.obj g o) := by
 have h0 : H g = none := h.st.off _ (List.mem_of_getElem? hk) g (by simp [It.own])
 obtain ⟨H', hle, h', hg⟩ := h.frz k0 hk hL
 exact ⟨H', hle, h', hg, fun _ _ _ _ _ _ H3 hl hs => ⟨hs.ag, hs.st.thaw (hl g o hg) h0 (hle.trans hl)⟩⟩
theorem X.S.lendR {α : Type} {R : GH → List Value → α → Prop} {sz : Nat} {xs : List Value} {ys : List α} (k0 : Nat) {v : Value} {e n : Nat} {L' : List It} (h : S E H N D F L a w) (hr : RowR R sz H xs ys) (hn : n = ys.length) (hR : ∀ H', LE H H' → ∀ cs y, y ∈ ys → R H cs y → R H' cs y)
   (hk : L[k0]? = some (.row v e sz n xs) := by rfl) (hL : L.eraseIdx k0 = L' := by rfl) :
   ∃ H', LE H H' ∧ S E H' N D F L' a w ∧ RS R sz H' v ys ∧ Back E H H' (.row v e sz n xs) := by
 have hp := h.pull k0 hk hL
 have hown : w.ownsRow 0 e sz v n xs := hp.st.holds _ (List.mem_cons_self ..)
 rcases hown.2 with ⟨rfl, h0⟩ | ⟨g, cap, cur, rfl, h1, hg, h2, h3, h4, h5⟩
 · have hys : ys = [] := List.eq_nil_of_length_eq_zero (by omega)
   have hxs : xs = [] := List.eq_nil_of_length_eq_zero (by rw [hown.1, h0, Nat.zero_mul])
   subst hys; subst hxs; subst h0
   exact ⟨H, LE.rfl, hp.del 0, RS.nil R sz H, fun _ _ _ _ _ _ H3 hl hs => (hs.less hl).row⟩
 · have hst : St E H (.obj g (.cells cur e (0, 0)) :: L') w :=
     hp.st.set (k := 0) (i := .row (.slice (some ⟨g, 0, none⟩) n cap) e sz n xs) (j := .obj g (.cells cur e (0, 0))) rfl hg (fun x hx => .inl (by simpa [It.own, Value.ownBlock] using hx)) rfl rfl rfl (fun _ _ _ => rfl)
   have h0 : H g = none := hst.off _ (List.mem_cons_self ..) g (by simp [It.own])
   have hs : S E H N D F (.obj g (.cells cur e (0, 0)) :: L') a w := ⟨h.ag, hst⟩
   obtain ⟨H', hle, h', hg'⟩ := hs.frz 0
   obtain ⟨css, l1, e1, p1⟩ := hr
   refine ⟨H', hle, h', ⟨some ⟨g, 0, none⟩, cap, by rw [hn], by omega, fun j y hy => ?_⟩, fun _ _ _ L2 _ w2 H3 hl hs2 => ⟨hs2.ag, ?_⟩⟩
   · have hj : j < css.length := by have := (List.getElem?_eq_some_iff.1 hy).1; omega
     obtain ⟨q1, q2⟩ := p1 j css[j] y (List.getElem?_eq_getElem hj) hy
     refine ⟨g, 0, css[j], rfl, q1, hR _ hle _ y (List.mem_of_getElem? hy) q2, fun i u hu => ⟨cur, e, (0, 0), hg', ?_⟩⟩
     have hi : i < sz := by have := (List.getElem?_eq_some_iff.1 hu).1; omega
     have hall : ∀ cs ∈ css, cs.length = sz := fun cs hcs => by
       obtain ⟨q, hq, rfl⟩ := List.getElem_of_mem hcs
       exact (p1 q css[q] (ys[q]'(by omega)) (List.getElem?_eq_getElem hq) (List.getElem?_eq_getElem (by omega))).1
     have hf := flatten_at hall (List.getElem?_eq_getElem hj) hi
     rw [hu, ← e1, ← h5, List.getElem?_take] at hf
     split at hf
     · simpa using hf
     · cases hf
   · have ht := hs2.st.thaw (hl g _ hg') h0 (hle.trans hl)
     refine ht.set (k := 0) (i := .obj g (.cells cur e (0, 0))) (j := .row (.slice (some ⟨g, 0, none⟩) n cap) e sz n xs) rfl ?_ (fun x hx => .inl (by simpa [It.own, Value.ownBlock] using hx)) rfl rfl rfl (fun _ _ _ => rfl)
     exact ⟨hown.1, .inr ⟨g, cap, cur, rfl, Nat.zero_le _, ht.holds _ (List.mem_cons_self ..), h2, h3, h4, h5⟩⟩
end
section
variable {P : Program} {ops : Array Oper} {Q : Exit → Act → World → Prop} {γ : Gd P ops Q} {rest : List Oper} {o : Oper} {E w : World} {H : GH} {N : Nat} {D : List Deferred} {F : List (Nat × Value)} {L : List It} {a : Act}
variable {t u t' : TypeId} {x y : Operand} {d : Nat} {g : Nat}
theorem X.apc {α : Type} {R : GH → List Value → α → Prop} (kb : Nat) {e sz by_ : Nat} {ys : List α} {A : Option Addr} {ty' : TypeId} {z : Nat × Nat} (news : List Value) (ht : rowT P t e sz by_ = true) (hs : RS R sz H (.slice A ys.length ys.length) ys) (h : S E H N D F L a w)
   (hb : (ys.length + 1) * by_ ≤ 140737488355328) (h63 : ys.length + 1 ≤ 4611686018427387904)
   (k : ∀ A' c' olds a w, RowR R sz H olds ys → S E H N D ((d, .slice A' (ys.length + 1) c') :: F) (.row (.slice A' (ys.length + 1) c') e sz (ys.length + 1) (olds ++ news) :: L) a w → γ.G rest a w)
   (hkb : L[kb]? = some (.obj g (.cells news.toArray ty' z)) := by rfl) (hl : news.length = sz := by rfl)
   (ho : o.op = .call { callee := .builtin .append, args := #[x, y], argTypes := #[t, t] } := by rfl) (hx : ev F x = some (.slice A ys.length ys.length) := by rfl) (hy : ev F y = some (.slice (some ⟨g, 0, none⟩) 1 1) := by rfl)
   (hw : wn ops F o = some true := by rfl) (hd : o.dst = some d := by rfl) (hN : Nat.blt d N = true := by rfl) (hE : γ.isE rest.length = true := by rfl)
   (hS : γ.isN rest.length = true → ∀ A' c' olds w, St E H (.row (.slice A' (ys.length + 1) c') e sz (ys.length + 1) (olds ++ news) :: L) w → γ.S w := by first | exact fun e => Bool.noConfusion (show false = true from e) | exact fun _ _ _ _ _ hw => hw.sees' LE.rfl (by simp) | exact fun _ _ _ _ _ hw => hw.sees' (by assumption) (by simp)) : γ.G (o :: rest) a w := by
 obtain ⟨hu, i, zv, hi, hz, hsz, hby, hzs, h0⟩ := row_of ht
 -- the old cells
 have hex : ∀ q, q ≤ ys.length → ∃ olds : List Value, RowR R sz H olds (ys.take q) ∧ ∀ b, A = some b → ∀ j u, olds[j]? = some u → w.cell? (b.add j) = some u := by
   intro q
   induction q with
   | zero => intro _; exact ⟨[], by simpa using RowR.nil, fun b _ j u hu => by simp at hu⟩
   | succ q ih =>
     intro hq
     obtain ⟨olds, hr, hc⟩ := ih (by omega)
     obtain ⟨g', off', cs, e2, hl', hR, hcell⟩ := RS.at_ hs (List.getElem?_eq_getElem (show q < ys.length by omega))
     subst e2
     refine ⟨olds ++ cs, by rw [List.take_succ_eq_append_getElem (by omega)]; exact hr.snoc hl' hR, fun b hbb j u hu' => ?_⟩
     cases hbb
     have hlen := hr.len
     rw [List.length_take, Nat.min_eq_left (by omega)] at hlen
     by_cases hj : j < olds.length
     · rw [List.getElem?_append_left hj] at hu'; exact hc _ rfl j u hu'
     · rw [List.getElem?_append_right (by omega)] at hu'
       have := (hcell _ u hu').cell h.st.sees
       rw [hlen] at this
       rw [Addr.add_mid]
       rwa [show off' + q * sz + (j - q * sz) = off' + j by omega] at this
 obtain ⟨olds, hr, hc⟩ := hex ys.length (Nat.le_refl _)
 rw [List.take_length] at hr
 have hol := hr.len
 have hnews : ∀ j v, news[j]? = some v → w.cell? ((⟨g, 0, none⟩ : Addr).add j) = some v := fun j v hj => by
   rw [Addr.add_mid, Nat.zero_add, cell_own (item_at h.st.sees hkb) j]; simpa using hj
 have hrun : ∃ c', ys.length + 1 ≤ c' ∧ c' ≤ maxLen ∧ (Builtin.append_ #[t, t] o.type #[.slice A ys.length ys.length, .slice (some ⟨g, 0, none⟩) 1 1]).run P w =
     .ok (.slice (some ⟨w.heap.size, 0, none⟩) (ys.length + 1) c') (w.drew.alloc (.cells (olds.toArray ++ news.toArray ++ Builtin.zeroCells zv.cells (c' - (ys.length + 1))) e)) := by
   refine ⟨grownCap w (ys.length + 1) ys.length e, grownCap_ge .., grownCap_le_maxLen _ _ _ _ (by simp only [maxLen]; omega), ?_⟩
   cases A with
   | none =>
     have hy0 : ys = [] := by
       cases ys with
       | nil => rfl
       | cons y0 l => obtain ⟨_, _, _, e3, _⟩ := RS.at_ hs (j := 0) rfl; cases e3
     subst hy0
     have ho0 : olds = [] := List.eq_nil_of_length_eq_zero (by simpa using hol)
     subst ho0
     have := run_append_nil (P := P) w t o.type e i zv hu hi hz ⟨g, 0, none⟩ 1 1 news (by rw [hsz, hl, Nat.one_mul]) hnews (by omega) (by omega) (by rw [hby]; simp at hb; omega)
     simpa using this
   | some b =>
     exact run_append_grow (P := P) w t o.type e i zv hu hi hz b ys.length ys.length olds (by rw [hsz]; exact hol) (hc b rfl) ⟨g, 0, none⟩ 1 1 news (by rw [hsz, hl, Nat.one_mul]) hnews (by omega) (by omega) (growslice_fits (by omega) (by rw [hby]; exact hb))
 obtain ⟨c', hge, hle, hrun⟩ := hrun
 have hd0 : St E H L w.drew := h.st.drew _
 have hst : St E H (.row (.slice (some ⟨w.heap.size, 0, none⟩) (ys.length + 1) c') e sz (ys.length + 1) (olds ++ news) :: L) (w.drew.alloc (.cells (olds.toArray ++ news.toArray ++ Builtin.zeroCells zv.cells (c' - (ys.length + 1))) e)) := by
   refine (hd0.alloc _).set (k := 0) (i := .obj _ _) (j := .row (.slice (some ⟨w.heap.size, 0, none⟩) (ys.length + 1) c') e sz (ys.length + 1) (olds ++ news)) rfl ?_ (fun x hx => .inl (by simpa [It.own, Value.ownBlock] using hx)) rfl rfl rfl (fun _ _ _ => rfl)
   refine ⟨by rw [List.length_append, hol, hl, Nat.succ_mul], .inr ⟨w.heap.size, _, _, rfl, Nat.zero_le _, (hd0.alloc _).holds _ (List.mem_cons_self ..), hge, hle, ?_, ?_⟩⟩
   · have : ys.length * sz + sz + (c' - (ys.length + 1)) * sz = c' * sz := by
       rw [← Nat.succ_mul, ← Nat.add_mul]; congr 1; omega
     simp only [Array.size_append, size_zeroCells, hzs, List.size_toArray, hol, hl]
     exact this
   · rw [Array.toList_append, Array.toList_append]
     simp only []
     rw [List.take_append_of_le_length (by rw [List.length_append, hol, hl, Nat.succ_mul]; exact Nat.le_refl _)]
     rw [List.take_of_length_le (by rw [List.length_append, hol, hl, Nat.succ_mul]; exact Nat.le_refl _)]
 exact val h hw hd hN hE (fun e => hS e _ _ _) (by simp [execOp, ho, resolve, invoke, builtin, h.ag.ev hx, h.ag.ev hy, hrun]) hst (k _ _ olds · · hr)
end
def Tm.strange (known : List Bs) (t : Tm) : Bool := t.names.any fun x => t.fr none0 x && !known.contains x
theorem strange_of {t : Tm} {ss known : List Bs} (h : IsSet ss (t.fr none0)) : (ss.any fun s => !known.contains s) = t.strange known := by
 rw [Bool.eq_iff_iff, List.any_eq_true]
 unfold Tm.strange
 rw [List.any_eq_true]
 constructor
 · rintro ⟨x, hx, hk⟩
   have hf := (h.2.1 x).1 hx
   exact ⟨x, fr_names t _ x hf, by rw [hf, hk]; rfl⟩
 · rintro ⟨x, hx, hk⟩
   rw [Bool.and_eq_true] at hk
   exact ⟨x, (h.2.1 x).2 hk.1, hk.2⟩
def Pg.zero : Pg := ⟨[], [], [], .mk 0 [] 0 []⟩
def Pg.known (p : Pg) (k : Nat) : List Bs := (p.inputs ++ p.cells).map (·.name) ++ (p.defs.take k).map (·.name)
def Pg.twice (p : Pg) : Bool := (List.range (p.known p.defs.length).length).any fun k => decide (indexL (p.known p.defs.length) ((p.known p.defs.length).getD k []) < (k : Int))
def Pg.go (p : Pg) : Nat → Option (List Df × Int)
 | 0 => some ([], 1)
 | k + 1 => match p.go k, p.defs[k]? with
   | some (ds, n), some d => if d.t.strange (p.known k) then none else some (ds ++ [⟨d.name, (d.t.ren (fun _ => none) n).1⟩], (d.t.ren (fun _ => none) n).2)
   | _, _ => none
def Pg.resolve (p : Pg) : Pg × Int :=
 if !p.right then (Pg.zero, 11)
 else if p.twice then (Pg.zero, 6)
 else match p.go p.defs.length with
   | none => (Pg.zero, 5)
   | some (ds, n) => if p.body.strange (p.known p.defs.length) then (Pg.zero, 5) else (⟨p.inputs, p.cells, ds, (p.body.ren (fun _ => none) n).1⟩, 0)
section
variable {P : Program} {Q : Exit → Act → World → Prop} {S0 : World → Prop} {rd : List Nat} {n : Nat} {listed : Array Bool} {l : List Oper}
theorem X.brl3 (i j k : Nat) {o o' o2 : Oper} (nd nd' nd2 : Bool) {a : Act} {w : World} (hr : Region.ready .any l.toArray listed = [i, j, k]) (hnd : needs l.toArray rd i = nd) (hnd' : needs l.toArray rd j = nd') (hnd2 : needs l.toArray rd k = nd2) (hS : (nd || (nd' || nd2)) = true → S0 w)
   (h : (gb P l.toArray Q S0 nd (Nx P l.toArray Q S0 rd n listed i)).G [o] a w) (h' : (gb P l.toArray Q S0 nd' (Nx P l.toArray Q S0 rd n listed j)).G [o'] a w) (h2 : (gb P l.toArray Q S0 nd2 (Nx P l.toArray Q S0 rd n listed k)).G [o2] a w)
   (hi : l[i]? = some o := by rfl) (hj : l[j]? = some o' := by rfl) (hk : l[k]? = some o2 := by rfl) : wpR P l.toArray Q S0 rd (n + 1) listed a w :=
 br3 i j k nd nd' nd2 hr (by simpa using hi) (by simpa using hj) (by simpa using hk) hnd hnd' hnd2 hS h h' h2
theorem X.brl4 (i j k m : Nat) {o o' o2 o3 : Oper} (nd nd' nd2 nd3 : Bool) {a : Act} {w : World} (hr : Region.ready .any l.toArray listed = [i, j, k, m]) (hnd : needs l.toArray rd i = nd) (hnd' : needs l.toArray rd j = nd') (hnd2 : needs l.toArray rd k = nd2) (hnd3 : needs l.toArray rd m = nd3) (hS : (nd || (nd' || (nd2 || nd3))) = true → S0 w)
   (h : (gb P l.toArray Q S0 nd (Nx P l.toArray Q S0 rd n listed i)).G [o] a w) (h' : (gb P l.toArray Q S0 nd' (Nx P l.toArray Q S0 rd n listed j)).G [o'] a w) (h2 : (gb P l.toArray Q S0 nd2 (Nx P l.toArray Q S0 rd n listed k)).G [o2] a w) (h3 : (gb P l.toArray Q S0 nd3 (Nx P l.toArray Q S0 rd n listed m)).G [o3] a w)
   (hi : l[i]? = some o := by rfl) (hj : l[j]? = some o' := by rfl) (hk : l[k]? = some o2 := by rfl) (hm : l[m]? = some o3 := by rfl) : wpR P l.toArray Q S0 rd (n + 1) listed a w := by
 refine ⟨(fun e => by rw [e] at hr; cases hr), fun q hq => ?_⟩
 rw [hr] at hq
 simp at hq
 rcases hq with rfl | rfl | rfl | rfl
 · exact wpOp_b (by simpa using hi) hnd h (fun e => hS (by rw [e]; rfl))
 · exact wpOp_b (by simpa using hj) hnd' h' (fun e => hS (by rw [e]; simp))
 · exact wpOp_b (by simpa using hk) hnd2 h2 (fun e => hS (by rw [e]; simp))
 · exact wpOp_b (by simpa using hm) hnd3 h3 (fun e => hS (by rw [e]; simp))
end
def exX : Tm := .mk 2 [120] 0 []
def exY : Tm := .mk 2 [121] 0 []
def exA : Tm := .mk 4 [] 0 [exX, exY]
def exF (t : Tm) : Tm := .mk 3 [120] 0 [t]
def exD : Dc := ⟨[121], [76, 111], 0⟩
def exP : Pg := ⟨[exD], [], [⟨[102], exF exX⟩], exF exA⟩
def exP2 : Pg := ⟨[exD, exD], [], [⟨[102], exF exX⟩], exF exA⟩
def exP3 : Pg := ⟨[], [], [], exX⟩
def none1 : Bs → Option Bs := fun _ => none
theorem ex1 : (exF exA).ren none1 3 = (.mk 3 [51] 0 [.mk 4 [] 0 [.mk 2 [51] 0 [], .mk 2 [121] 0 []]], 4) := by
 simp [none1, exF, exA, exX, exY, Tm.ren, renL, renN, bnd, Lib.itoa, Lib.decDigits, nx, updS, IntKind.wrap, IntKind.bits, IntKind.signed]
theorem ex2 : (exF (exF exX)).ren none1 (-1) = (.mk 3 [45, 49] 0 [.mk 3 [48] 0 [.mk 2 [48] 0 []]], 1) := by
 simp [none1, exF, exX, Tm.ren, renL, renN, bnd, Lib.itoa, Lib.decDigits, nx, updS, IntKind.wrap, IntKind.bits, IntKind.signed]
theorem exR1 : exP.go 1 = some ([⟨[102], .mk 3 [49] 0 [.mk 2 [49] 0 []]⟩], 2) := by
 simp [exP, Pg.go, exF, exX, Tm.ren, renL, renN, bnd, Lib.itoa, Lib.decDigits, nx, updS, IntKind.wrap, IntKind.bits, IntKind.signed, Tm.strange, Tm.names, namesL, Tm.fr, frL, none0, inc1]
theorem exR2 : (exF exA).ren (fun _ => none) 2 = (.mk 3 [50] 0 [.mk 4 [] 0 [.mk 2 [50] 0 [], .mk 2 [121] 0 []]], 3) := by
 simp [exF, exA, exX, exY, Tm.ren, renL, renN, bnd, Lib.itoa, Lib.decDigits, nx, updS, IntKind.wrap, IntKind.bits, IntKind.signed]
theorem ex3 : exP.resolve = (⟨[exD], [], [⟨[102], .mk 3 [49] 0 [.mk 2 [49] 0 []]⟩], .mk 3 [50] 0 [.mk 4 [] 0 [.mk 2 [50] 0 [], .mk 2 [121] 0 []]]⟩, 0) := by
 unfold Pg.resolve
 rw [if_neg (show ¬ ((!exP.right) = true) by decide), if_neg (show ¬ (exP.twice = true) by decide)]
 rw [show exP.go exP.defs.length = some ([⟨[102], .mk 3 [49] 0 [.mk 2 [49] 0 []]⟩], 2) from exR1]
 refine (if_neg (show ¬ (Tm.strange (exP.known exP.defs.length) exP.body = true) by decide)).trans ?_
 rw [show exP.body.ren (fun x => none) 2 = (.mk 3 [50] 0 [.mk 4 [] 0 [.mk 2 [50] 0 [], .mk 2 [121] 0 []]], 3) from exR2]; rfl
theorem ex4 : exP2.resolve.2 = 6 := by rfl
theorem ex5 : exP3.resolve.2 = 5 := by rfl
theorem ex6 : Pg.zero.resolve.2 = 11 := by rfl
theorem rt_leaf {H : GH} (k : Int) (s : Bs) (n : Int) : RT H [.int .i64 k, str s, .int .i64 n, .slice none 0 0] (.mk k s n []) := by
 rw [rt_mk]; exact ⟨_, rfl, RS.nil _ _ _⟩
theorem rt_of_ks {H : GH} {k : Int} {s : Bs} {n : Int} {A : Option Addr} {c : Nat} {ks : List Tm} (h : KS H A c ks) : RT H [.int .i64 k, str s, .int .i64 n, .slice A ks.length c] (.mk k s n ks) := by
 rw [rt_mk]; exact ⟨_, rfl, h⟩
def HW (w : World) : GH := fun b => w.heap[b]?
theorem hc_of {w : World} {g off : Nat} {v : Value} (h : w.cell? ⟨g, off, none⟩ = some v) : Hc (HW w) g off v := by
 unfold World.cell? at h
 split at h
 · rename_i c e z hg; exact ⟨c, e, z, hg, by simpa using h⟩
 · cases h
theorem st_world (w : World) : St w (HW w) [] w where
 os := rfl
 tape := rfl
 output := rfl
 fro := fun _ _ h => h
 holds := fun _ h => absurd h List.not_mem_nil
 off := fun _ h => absurd h List.not_mem_nil
 apart := List.Pairwise.nil
theorem mapM_get {α β : Type} {f : α → Option β} : ∀ {l : List α} {ys : List β}, l.mapM f = some ys → ys.length = l.length ∧ ∀ (i : Nat) (a : α), l[i]? = some a → f a = ys[i]?
 | [], ys, h => by simp at h; subst h; simp
 | a :: l, ys, h => by
   simp only [List.mapM_cons, Option.bind_eq_bind, Option.bind_eq_some_iff, Option.pure_def, Option.some.injEq] at h
   obtain ⟨y, hy, zs, hz, rfl⟩ := h
   have ih := mapM_get hz
   refine ⟨by simp [ih.1], fun i b hb => ?_⟩
   cases i with
   | zero => simp at hb; subst hb; simpa using hy
   | succ i => simp at hb; simpa using ih.2 i b hb
theorem cells_get {w : World} {base : Nat} {a : Addr} {n : Nat} {cs : List Value} (h : w.cells? base a n = some cs) : cs.length = n ∧ ∀ i u, cs[i]? = some u → w.cell? (a.add i) = some u := by
 unfold World.cells? at h
 split at h
 · obtain ⟨h1, h2⟩ := mapM_get h
   have hl : cs.length = n := by simpa using h1
   refine ⟨hl, fun i u hu => ?_⟩
   have hi : i < n := by have := (List.getElem?_eq_some_iff.1 hu).1; omega
   have := h2 i i (by simp [hi])
   rw [this, hu]
 · cases h
section
variable {H : Type} {enc : TypeId × Value → H} {P : Program} {w : World} {base : Nat} {spare : Nat → Bool} {held : Bool}
theorem bulk_sum (l : List (DataW H)) : Rows.uptoBulkAll l = (l.map Rows.uptoBulk).sum := by
 induction l with
 | nil => rfl
 | cons d l ih => simp only [Rows.uptoBulkAll, List.map_cons, List.sum_cons, ih]
theorem open_sl {α : Type} {R : GH → List Value → α → Prop} {B : α → Nat} {t e sz fuel : Nat} {cs : List Value} {x : DataW H × List MemPlace} (ht : P.underlying t = some (.slice e)) (hc : P.cellsOf e = sz) (hsz : 0 < sz) (h : DataW.trod enc P w base spare held fuel t cs = some x)
   (hel : ∀ n cs' y, n < fuel → DataW.trod enc P w base spare held n e cs' = some y → ∃ a : α, R (HW w) cs' a ∧ B a ≤ Rows.uptoBulk y.1) :
   ∃ (A : Option Addr) (c : Nat) (ys : List α), cs = [.slice A ys.length c] ∧ RS R sz (HW w) (.slice A ys.length c) ys ∧ (ys.map B).sum + 1 ≤ Rows.uptoBulk x.1 := by
 rcases DataW.trod_slice ht h with ⟨rfl, rfl⟩ | ⟨a, len, cap, elems, rest, n, hn, rfl, rfl, hb, hl, hm, hlen, hget, _, _⟩
 · exact ⟨none, 0, [], rfl, RS.nil _ _ _, by simp [Rows.uptoBulk]⟩
 · have key : ∀ q, q ≤ len → ∃ ys : List α, ys.length = q ∧ (ys.map B).sum ≤ (((elems.take q).map (·.1)).map Rows.uptoBulk).sum ∧ ∀ j y, ys[j]? = some y → ∃ g off cs', a = ⟨g, off, none⟩ ∧ cs'.length = sz ∧ R (HW w) cs' y ∧ ∀ i u, cs'[i]? = some u → Hc (HW w) g (off + j * sz + i) u := by
     intro q
     induction q with
     | zero => intro _; exact ⟨[], rfl, by simp, fun j y hy => by simp at hy⟩
     | succ q ih =>
       intro hq
       obtain ⟨ys, h1, h2, h3⟩ := ih (by omega)
       have hge := hget q (by omega)
       have hel0 : elems[q]? = some elems[q] := List.getElem?_eq_getElem (by omega)
       rw [hel0] at hge
       obtain ⟨cs', hcs, htr⟩ := Option.bind_eq_some_iff.1 hge
       obtain ⟨y, hR, hB⟩ := hel n cs' _ (by omega) htr
       obtain ⟨hl', hcell⟩ := cells_get hcs
       rw [hc] at hl'
       have hspot : a.spot = none := by
         have h0 := hcell 0 (cs'[0]'(by omega)) (List.getElem?_eq_getElem _)
         cases hsp : a.spot with
         | none => rfl
         | some s =>
           exfalso
           by_cases hq0 : q * P.cellsOf e = 0
           · rw [hq0] at h0
             have : (a.add 0).add 0 = a := by simp [Addr.add]
             rw [this] at h0
             unfold World.cell? at h0
             split at h0
             · rw [hsp] at h0; simp at h0
             · cases h0
           · have hq1 : 0 < q := by
               rcases Nat.eq_zero_or_pos q with rfl | h; exact absurd (Nat.zero_mul _) hq0; exact h
             obtain ⟨g, off, _, he, _⟩ := h3 0 (ys[0]'(by omega)) (List.getElem?_eq_getElem _)
             rw [he] at hsp; cases hsp
       refine ⟨ys ++ [y], by simp [h1], ?_, fun j z hz => ?_⟩
       · rw [List.take_succ_eq_append_getElem (by omega)]
         simp only [List.map_append, List.sum_append, List.map_cons, List.map_nil, List.sum_cons, List.sum_nil]
         omega
       · by_cases hj : j < ys.length
         · rw [List.getElem?_append_left hj] at hz; exact h3 j z hz
         · have hj2 : j = ys.length := by
             have := (List.getElem?_eq_some_iff.1 hz).1
             simp at this; omega
           subst hj2
           simp at hz; subst hz
           obtain ⟨ab, ao, asp⟩ := a
           simp only at hspot; subst hspot
           refine ⟨ab, ao, cs', rfl, hl', hR, fun i u hu => ?_⟩
           have := hcell i u hu
           rw [hc, Addr.add_mid, Addr.add_mid, ← h1] at this
           exact hc_of this
   obtain ⟨ys, h1, h2, h3⟩ := key len (Nat.le_refl _)
   refine ⟨some a, cap, ys, by rw [h1], ⟨some a, cap, rfl, by omega, fun j y hy => ?_⟩, ?_⟩
   · obtain ⟨g, off, cs', he, hr⟩ := h3 j y hy
     exact ⟨g, off, cs', by rw [he], hr⟩
   · rw [List.take_of_length_le (by omega)] at h2
     simp only [Rows.uptoBulk, bulk_sum]
     omega
end
structure Tight (p : Pg) : Prop where
 li : p.inputs.length ≤ 1048576
 lc : p.cells.length ≤ 1048576
 lf : p.defs.length ≤ 1048576
 f : ∀ d ∈ p.defs, d.t.size ≤ 1048576
 b : p.body.size ≤ 1048576
mutual
def Tm.wt : Tm → Nat
 | .mk _ s _ ks => 1 + s.length + wtL ks
def wtL : List Tm → Nat
 | [] => 0
 | t :: l => t.wt + wtL l
end
theorem wtL_sum : ∀ l : List Tm, wtL l = (l.map Tm.wt).sum
 | [] => rfl
 | t :: l => by simp only [wtL, List.map_cons, List.sum_cons, wtL_sum l]
mutual
theorem size_wt : ∀ t : Tm, t.size ≤ t.wt
 | .mk _ s _ ks => by simp only [Tm.size, Tm.wt]; have := sizeL_wt ks; omega
theorem sizeL_wt : ∀ l : List Tm, sizeL l ≤ wtL l
 | [] => by simp [sizeL]
 | t :: l => by simp only [sizeL, wtL]; have := size_wt t; have := sizeL_wt l; omega
end
mutual
theorem long_wt : ∀ t : Tm, t.long ≤ t.wt
 | .mk _ s _ ks => by simp only [Tm.long, Tm.wt]; have := longL_wt ks; omega
theorem longL_wt : ∀ l : List Tm, longL l ≤ wtL l
 | [] => by simp [longL]
 | t :: l => by simp only [longL, wtL]; have := long_wt t; have := longL_wt l; omega
end
section
variable {H : Type} {enc : TypeId × Value → H} {w : World} {base : Nat} {spare : Nat → Bool} {held : Bool}
theorem cTm : Tryz.prog.cellsOf 24 = 4 := by kernel_rfl
theorem cDc : Tryz.prog.cellsOf 59 = 3 := by kernel_rfl
theorem cDf : Tryz.prog.cellsOf 61 = 5 := by kernel_rfl
theorem cPg : Tryz.prog.cellsOf 28 = 7 := by kernel_rfl
theorem c1i : Tryz.prog.cellsOf 3 = 1 := by kernel_rfl
theorem c1s : Tryz.prog.cellsOf 9 = 1 := by kernel_rfl
theorem c1n : Tryz.prog.cellsOf 2 = 1 := by kernel_rfl
theorem c1k : Tryz.prog.cellsOf 22 = 1 := by kernel_rfl
theorem c1d : Tryz.prog.cellsOf 25 = 1 := by kernel_rfl
theorem c1f : Tryz.prog.cellsOf 26 = 1 := by kernel_rfl
theorem str_ba (s : ByteArray) : Value.string s = str s.data.toList := by
 simp [str]
theorem piece {cs : List Value} {o n : Nat} {l : List Value} (h : (cs.drop o).take n = l) (hl : l.length = n) : ∀ i, i < n → cs[o + i]? = l[i]? := by
 intro i hi
 rw [← h, List.getElem?_take, if_pos hi, List.getElem?_drop]
theorem open_tm : ∀ (fuel : Nat) (cs : List Value) (x : DataW H × List MemPlace), DataW.trod enc Tryz.prog w base spare held fuel 24 cs = some x → ∃ t : Tm, RT (HW w) cs t ∧ t.wt ≤ Rows.uptoBulk x.1 := by
 intro fuel
 induction fuel using Nat.strongRecOn with
 | _ fuel ih =>
 intro cs x h
 obtain ⟨xs, n, rfl, rfl, hl, hlen, hf⟩ := DataW.trod_struct Tryz.underlying24 h
 rw [cTm] at hl
 match xs, hlen with
 | [y0, y1, y2, y3], _ =>
   obtain ⟨kd, e0, rfl, _⟩ := DataW.trod_int Tryz.underlying3 (hf 0 _ rfl)
   obtain ⟨s, e1, rfl, _⟩ := DataW.trod_string Tryz.underlying9 (hf 1 _ rfl)
   obtain ⟨nn, e2, rfl, _⟩ := DataW.trod_int Tryz.underlying2 (hf 2 _ rfl)
   obtain ⟨A, c, ks, e3, hks, hB⟩ := open_sl (R := RT) (B := Tm.wt) (sz := 4) Tryz.underlying22 cTm (by omega) (hf 3 _ rfl) (fun m cs' y hm hy => ih m (by omega) cs' y hy)
   have g0 : cs[0]? = _ := piece e0 rfl 0 (by show 0 < Tryz.prog.cellsOf 3; rw [c1i]; omega)
   have g1 : cs[1]? = _ := piece e1 rfl 0 (by show 0 < Tryz.prog.cellsOf 9; rw [c1s]; omega)
   have g2 : cs[2]? = _ := piece e2 rfl 0 (by show 0 < Tryz.prog.cellsOf 2; rw [c1n]; omega)
   have g3 : cs[3]? = _ := piece e3 rfl 0 (by show 0 < Tryz.prog.cellsOf 22; rw [c1k]; omega)
   refine ⟨.mk kd s.data.toList nn ks, ?_, ?_⟩
   · rw [rt_mk]
     refine ⟨.slice A ks.length c, ?_, hks⟩
     match cs, hl with
     | [a0, a1, a2, a3], _ =>
       simp at g0 g1 g2 g3
       rw [g0, g1, g2, g3, str_ba]
   · simp only [Tm.wt, wtL_sum, Rows.uptoBulk, Rows.uptoBulkAll, List.map_cons, List.map_nil]
     omega
theorem rt_kids {cs : List Value} {t : Tm} (h : RT (HW w) cs t) : ∃ A c, cs = [.int .i64 t.kind, str t.name, .int .i64 t.n, .slice A t.kids.length c] ∧ KS (HW w) A c t.kids := by
 obtain ⟨k, s, n, ks⟩ := t
 rw [rt_mk] at h
 obtain ⟨v, rfl, A, c, rfl, h1, h2⟩ := h
 exact ⟨A, c, rfl, A, c, rfl, h1, h2⟩
theorem open_dc (fuel : Nat) (cs : List Value) (x : DataW H × List MemPlace) (h : DataW.trod enc Tryz.prog w base spare held fuel 59 cs = some x) : ∃ d : Dc, RDc (HW w) cs d ∧ d.name.length + d.label.length + 1 ≤ Rows.uptoBulk x.1 := by
 obtain ⟨xs, n, rfl, rfl, hl, hlen, hf⟩ := DataW.trod_struct Tryz.underlying59 h
 rw [cDc] at hl
 match xs, hlen with
 | [y0, y1, y2], _ =>
   obtain ⟨s, e0, rfl, _⟩ := DataW.trod_string Tryz.underlying9 (hf 0 _ rfl)
   obtain ⟨s', e1, rfl, _⟩ := DataW.trod_string Tryz.underlying9 (hf 1 _ rfl)
   obtain ⟨nn, e2, rfl, _⟩ := DataW.trod_int Tryz.underlying2 (hf 2 _ rfl)
   have g0 : cs[0]? = _ := piece e0 rfl 0 (by show 0 < Tryz.prog.cellsOf 9; rw [c1s]; omega)
   have g1 : cs[1]? = _ := piece e1 rfl 0 (by show 0 < Tryz.prog.cellsOf 9; rw [c1s]; omega)
   have g2 : cs[2]? = _ := piece e2 rfl 0 (by show 0 < Tryz.prog.cellsOf 2; rw [c1n]; omega)
   refine ⟨⟨s.data.toList, s'.data.toList, nn⟩, ?_, ?_⟩
   · match cs, hl with
     | [a0, a1, a2], _ =>
       simp at g0 g1 g2
       unfold RDc
       rw [g0, g1, g2, str_ba, str_ba]
   · simp only [Rows.uptoBulk, Rows.uptoBulkAll, List.map_cons, List.map_nil]
     omega
theorem open_df (fuel : Nat) (cs : List Value) (x : DataW H × List MemPlace) (h : DataW.trod enc Tryz.prog w base spare held fuel 61 cs = some x) : ∃ d : Df, RDf (HW w) cs d ∧ d.name.length + d.t.wt + 1 ≤ Rows.uptoBulk x.1 := by
 obtain ⟨xs, n, rfl, rfl, hl, hlen, hf⟩ := DataW.trod_struct Tryz.underlying61 h
 rw [cDf] at hl
 match xs, hlen with
 | [y0, y1], _ =>
   obtain ⟨s, e0, rfl, _⟩ := DataW.trod_string Tryz.underlying9 (hf 0 _ rfl)
   obtain ⟨t, hrt, hB⟩ := open_tm n _ y1 (hf 1 _ rfl)
   have g0 : cs[0]? = _ := piece e0 rfl 0 (by show 0 < Tryz.prog.cellsOf 9; rw [c1s]; omega)
   refine ⟨⟨s.data.toList, t⟩, ?_, ?_⟩
   · have hrt2 : RT (HW w) ((cs.drop 1).take (Tryz.prog.cellsOf 24)) t := hrt
     rw [cTm] at hrt2
     match cs, hl with
     | [a0, a1, a2, a3, a4], _ =>
       simp at g0
       exact ⟨[a1, a2, a3, a4], by rw [g0, str_ba], hrt2⟩
   · simp only [Rows.uptoBulk, Rows.uptoBulkAll, List.map_cons, List.map_nil]
     omega
theorem sum_le {α : Type} {f : α → Nat} {x : α} {l : List α} (h : x ∈ l) : f x ≤ (l.map f).sum := by
 induction l with
 | nil => cases h
 | cons y l ih =>
   simp only [List.map_cons, List.sum_cons]
   cases h with
   | head => omega
   | tail _ h => have := ih h; omega
theorem len_le {α : Type} {f : α → Nat} {l : List α} : l.length ≤ (l.map fun x => f x + 1).sum := by
 induction l with
 | nil => simp
 | cons y l ih => simp only [List.map_cons, List.sum_cons, List.length_cons]; omega
theorem open_pgT (fuel : Nat) (v : Value) (hv : ∃ cs, v = .agg cs) (x : DataW H × List MemPlace) (h : DataW.trod enc Tryz.prog w base spare held fuel 28 v.cells.toList = some x) (hx : Rows.uptoBulk x.1 ≤ 1048576) : ∃ p : Pg, VP (HW w) v p ∧ Mild p ∧ Tight p := by
 obtain ⟨cs, rfl⟩ := hv
 obtain ⟨xs, n, rfl, rfl, hl, hlen, hf⟩ := DataW.trod_struct Tryz.underlying28 h
 rw [cPg] at hl
 match xs, hlen with
 | [y0, y1, y2, y3], _ =>
   obtain ⟨A1, k1, ds1, e0, hd1, hB1⟩ := open_sl (R := RDc) (B := fun d => d.name.length + d.label.length + 1) (sz := 3) Tryz.underlying25 cDc (by omega) (hf 0 _ rfl) (fun m cs' y _ hy => open_dc m cs' y hy)
   obtain ⟨A2, k2, ds2, e1, hd2, hB2⟩ := open_sl (R := RDc) (B := fun d => d.name.length + d.label.length + 1) (sz := 3) Tryz.underlying25 cDc (by omega) (hf 1 _ rfl) (fun m cs' y _ hy => open_dc m cs' y hy)
   obtain ⟨A3, k3, fs, e2, hd3, hB3⟩ := open_sl (R := RDf) (B := fun d => d.name.length + d.t.wt + 1) (sz := 5) Tryz.underlying26 cDf (by omega) (hf 2 _ rfl) (fun m cs' y _ hy => open_df m cs' y hy)
   obtain ⟨t, hrt, hB⟩ := open_tm n _ y3 (hf 3 _ rfl)
   have l1 := len_le (f := fun d : Dc => d.name.length + d.label.length) (l := ds1)
   have l2 := len_le (f := fun d : Dc => d.name.length + d.label.length) (l := ds2)
   have l3 := len_le (f := fun d : Df => d.name.length + d.t.wt) (l := fs)
   have g0 : cs.toList[0]? = _ := piece e0 rfl 0 (by show 0 < Tryz.prog.cellsOf 25; rw [c1d]; omega)
   have g1 : cs.toList[1]? = _ := piece e1 rfl 0 (by show 0 < Tryz.prog.cellsOf 25; rw [c1d]; omega)
   have g2 : cs.toList[2]? = _ := piece e2 rfl 0 (by show 0 < Tryz.prog.cellsOf 26; rw [c1f]; omega)
   have hrt2 : RT (HW w) ((cs.toList.drop 3).take (Tryz.prog.cellsOf 24)) t := hrt
   rw [cTm] at hrt2
   simp only [Rows.uptoBulk, Rows.uptoBulkAll, List.map_cons, List.map_nil] at hx
   have hsz := size_wt t
   have hlg := long_wt t
   refine ⟨⟨ds1, ds2, fs, t⟩, ?_, ⟨by show ds1.length < _; omega, by show ds2.length < _; omega, by show fs.length < _; omega, fun d hd => ?_, fun d hd => ?_, fun d hd => ?_, by show t.long < _; omega, by show t.size < _; omega⟩, by show ds1.length ≤ _; omega, by show ds2.length ≤ _; omega, by show fs.length ≤ _; omega, fun d hd => ?_, by show t.size ≤ _; omega⟩
   · obtain ⟨A4, k4, e4, hk4⟩ := rt_kids hrt2
     refine ⟨A1, k1, A2, k2, A3, k3, A4, k4, ?_, hd1, hd2, hd3, hk4⟩
     obtain ⟨cl⟩ := cs
     have hl : cl.length = 7 := hl
     match cl, hl with
     | [a0, a1, a2, a3, a4, a5, a6], _ =>
       simp at g0 g1 g2 e4
       rw [g0, g1, g2, e4.1, e4.2.1, e4.2.2.1, e4.2.2.2]
   · have := sum_le (f := fun d : Dc => d.name.length + d.label.length + 1) hd; simp only at this; omega
   · have := sum_le (f := fun d : Dc => d.name.length + d.label.length + 1) hd; simp only at this; omega
   · have := sum_le (f := fun d : Df => d.name.length + d.t.wt + 1) hd
     have q1 := size_wt d.t
     have q2 := long_wt d.t
     simp only at this; omega
   · have := sum_le (f := fun d : Df => d.name.length + d.t.wt + 1) hd
     have q1 := size_wt d.t
     simp only at this; omega
end
end Go.Proofs.YtdabamobjciidaaGreatDoor
namespace Go.Proofs.YtdabamobjciidaaGreatDoor.X
open Go
theorem cd_ {σ p : Prop} (c : σ) (s : σ → p := by intro c; first | (simpa using c) | (simp at c; omega) | (simp at c ⊢; omega)) : p := s c
section
variable {P : Program} {ops : Array Oper} {Q : Exit → Act → World → Prop} {γ : Gd P ops Q} {rest : List Oper} {o : Oper} {E w : World} {H : GH} {N : Nat} {D : List Deferred} {F : List (Nat × Value)} {L : List It} {a : Act} {x : Operand} {d : Nat}
theorem clG {f : FuncId} {args first caps : Array Value} {aL : List Operand} {vs : List Value} {ts : Array TypeId} {R : Value → GH → List It → Prop}
   (hb : bodT P f = true) (hc : Ok P f args E H L R) (h : S E H N D F L a w)
   (k : ∀ r H' L' a w, LE H H' → R r H' L' → S E H' N D ((d, r) :: F) L' a w → γ.G rest a w)
   (hS : ∀ r H' L' w, LE H H' → R r H' L' → St E H' L' w → γ.S w := by
     intro r H' L' w le R hw
     repeat (obtain ⟨_, R⟩ := R)
     exact hw.sees' (by first | exact le | exact LE.trans (by assumption) le | exact LE.trans le_ le) (by simp))
   (ho : o.op = .call { callee := .value x, args := aL.toArray, argTypes := ts } := by rfl) (hx : ev F x = some (.func (.func f) first caps) := by rfl) (has : evs F aL = some vs := by rfl)
   (hA : first ++ vs.toArray ++ caps = args := by rfl)
   (hw : wn ops F o = some true := by rfl) (hd : o.dst = some d := by rfl) (hN : Nat.blt d N = true := by rfl) (hE : γ.isE rest.length = true := by rfl) : γ.G (o :: rest) a w :=
 cl hb hc h k ho hx has hA hw hd hN hE fun _ => hS
variable {t : TypeId} {g off : Nat} {v : Value}
theorem ldHB {H1 : GH} {L1 : List It} {K : Act → World → Prop} {nd : Bool} (ht : ty1 P t = true) (hc : Hc H g off v) (h : S E H N D F L a w) (k : ∀ a w, S E H N D ((d, v) :: F) L a w → (gb P ops Q (Sees H1 L1) nd K).G rest a w)
   (ho : o.op = .load t x := by rfl) (hx : ev F x = some (.pointer (some ⟨g, off, none⟩)) := by rfl)
   (hw : wn ops F o = some true := by rfl) (hd : o.dst = some d := by rfl) (hN : Nat.blt d N = true := by rfl) (hSub : ∀ i ∈ L1, i ∈ L := by simp) (hLe : LE H1 H := by exact le_) : (gb P ops Q (Sees H1 L1) nd K).G (o :: rest) a w :=
 ldHX (H1 := H) (L1 := L) ht hc h rfl (h.st.sees' hLe hSub) (fun w' e => e ▸ h.st.sees) k ho hx hw hd hN
end
section
variable {P : Program} {ops : Array Oper} {Q : Exit → Act → World → Prop} {γ : Gd P ops Q} {rest : List Oper} {o : Oper} {E w : World} {H : GH} {N : Nat} {D : List Deferred} {F : List (Nat × Value)} {L : List It} {a : Act} {x : Operand} {d : Nat} {t : TypeId} {v : Value}
end
section
variable {P : Program} {Q : Exit → Act → World → Prop} {S0 : World → Prop} {rd : List Nat} {n : Nat} {listed : Array Bool} {l : List Oper} {a : Act} {w : World} {o o' : Oper}
theorem bf1 (i : Nat) (h : (gb P l.toArray Q S0 false (Nx P l.toArray Q S0 rd n listed i)).G [o] a w) (hr : Region.ready .any l.toArray listed = [i] := by kernel_rfl) (hnd : needs l.toArray rd i = false := by kernel_rfl) (hi : l[i]? = some o := by rfl) : wpR P l.toArray Q S0 rd (n + 1) listed a w :=
 brl1 i false hr hnd (fun e => nomatch e) h hi
theorem bf2 (i j : Nat) (h : (gb P l.toArray Q S0 false (Nx P l.toArray Q S0 rd n listed i)).G [o] a w) (h' : (gb P l.toArray Q S0 false (Nx P l.toArray Q S0 rd n listed j)).G [o'] a w) (hr : Region.ready .any l.toArray listed = [i, j] := by kernel_rfl) (hnd : needs l.toArray rd i = false := by kernel_rfl) (hnd' : needs l.toArray rd j = false := by kernel_rfl)
   (hi : l[i]? = some o := by rfl) (hj : l[j]? = some o' := by rfl) : wpR P l.toArray Q S0 rd (n + 1) listed a w :=
 brl2 i j false false hr hnd hnd' (fun e => nomatch e) h h' hi hj
variable {E : World} {H H1 : GH} {N : Nat} {D : List Deferred} {F : List (Nat × Value)} {L L1 : List It}
theorem bg1 (i : Nat) (nd : Bool) (hs : S E H N D F L a w) (h : (gb P l.toArray Q (Sees H1 L1) nd (Nx P l.toArray Q (Sees H1 L1) rd n listed i)).G [o] a w) (hr : Region.ready .any l.toArray listed = [i] := by kernel_rfl) (hnd : needs l.toArray rd i = nd := by kernel_rfl) (hi : l[i]? = some o := by rfl) (hSub : ∀ i ∈ L1, i ∈ L := by simp) (hLe : LE H1 H := by exact le_) : wpR P l.toArray Q (Sees H1 L1) rd (n + 1) listed a w :=
 brl1 i nd hr hnd (fun _ => hs.st.sees' hLe hSub) h hi
theorem bg2 (i j : Nat) (nd nd' : Bool) (hs : S E H N D F L a w) (h : (gb P l.toArray Q (Sees H1 L1) nd (Nx P l.toArray Q (Sees H1 L1) rd n listed i)).G [o] a w) (h' : (gb P l.toArray Q (Sees H1 L1) nd' (Nx P l.toArray Q (Sees H1 L1) rd n listed j)).G [o'] a w) (hr : Region.ready .any l.toArray listed = [i, j] := by kernel_rfl) (hnd : needs l.toArray rd i = nd := by kernel_rfl) (hnd' : needs l.toArray rd j = nd' := by kernel_rfl)
   (hi : l[i]? = some o := by rfl) (hj : l[j]? = some o' := by rfl) (hSub : ∀ i ∈ L1, i ∈ L := by simp) (hLe : LE H1 H := by exact le_) : wpR P l.toArray Q (Sees H1 L1) rd (n + 1) listed a w :=
 brl2 i j nd nd' hr hnd hnd' (fun _ => hs.st.sees' hLe hSub) h h' hi hj
end
end Go.Proofs.YtdabamobjciidaaGreatDoor.X
namespace Go.Proofs.YtdabamobjciidaaGreatDoor
open Go X
theorem bod10 : bodT Tryz.prog 10 = true := by kernel_rfl
theorem bod106 : bodT Tryz.prog 106 = true := by kernel_rfl
theorem bod107 : bodT Tryz.prog 107 = true := by kernel_rfl
theorem bod108 : bodT Tryz.prog 108 = true := by kernel_rfl
theorem bod109 : bodT Tryz.prog 109 = true := by kernel_rfl
theorem bod11 : bodT Tryz.prog 11 = true := by kernel_rfl
theorem bod110 : bodT Tryz.prog 110 = true := by kernel_rfl
theorem bod111 : bodT Tryz.prog 111 = true := by kernel_rfl
theorem bod112 : bodT Tryz.prog 112 = true := by kernel_rfl
theorem bod113 : bodT Tryz.prog 113 = true := by kernel_rfl
theorem bod114 : bodT Tryz.prog 114 = true := by kernel_rfl
theorem bod115 : bodT Tryz.prog 115 = true := by kernel_rfl
theorem bod12 : bodT Tryz.prog 12 = true := by kernel_rfl
theorem bod120 : bodT Tryz.prog 120 = true := by kernel_rfl
theorem bod121 : bodT Tryz.prog 121 = true := by kernel_rfl
theorem bod122 : bodT Tryz.prog 122 = true := by kernel_rfl
theorem bod126 : bodT Tryz.prog 126 = true := by kernel_rfl
theorem bod13 : bodT Tryz.prog 13 = true := by kernel_rfl
theorem bod133 : bodT Tryz.prog 133 = true := by kernel_rfl
theorem bod134 : bodT Tryz.prog 134 = true := by kernel_rfl
theorem bod137 : bodT Tryz.prog 137 = true := by kernel_rfl
theorem bod14 : bodT Tryz.prog 14 = true := by kernel_rfl
theorem bod141 : bodT Tryz.prog 141 = true := by kernel_rfl
theorem bod15 : bodT Tryz.prog 15 = true := by kernel_rfl
theorem bod16 : bodT Tryz.prog 16 = true := by kernel_rfl
theorem bod17 : bodT Tryz.prog 17 = true := by kernel_rfl
theorem bod18 : bodT Tryz.prog 18 = true := by kernel_rfl
theorem bod19 : bodT Tryz.prog 19 = true := by kernel_rfl
theorem bod20 : bodT Tryz.prog 20 = true := by kernel_rfl
theorem bod21 : bodT Tryz.prog 21 = true := by kernel_rfl
theorem bod22 : bodT Tryz.prog 22 = true := by kernel_rfl
theorem bod23 : bodT Tryz.prog 23 = true := by kernel_rfl
theorem bod24 : bodT Tryz.prog 24 = true := by kernel_rfl
theorem bod25 : bodT Tryz.prog 25 = true := by kernel_rfl
theorem bod26 : bodT Tryz.prog 26 = true := by kernel_rfl
theorem bod27 : bodT Tryz.prog 27 = true := by kernel_rfl
theorem bod28 : bodT Tryz.prog 28 = true := by kernel_rfl
theorem bod29 : bodT Tryz.prog 29 = true := by kernel_rfl
theorem bod30 : bodT Tryz.prog 30 = true := by kernel_rfl
theorem bod31 : bodT Tryz.prog 31 = true := by kernel_rfl
theorem bod32 : bodT Tryz.prog 32 = true := by kernel_rfl
theorem bod33 : bodT Tryz.prog 33 = true := by kernel_rfl
theorem bod34 : bodT Tryz.prog 34 = true := by kernel_rfl
theorem bod35 : bodT Tryz.prog 35 = true := by kernel_rfl
theorem bod36 : bodT Tryz.prog 36 = true := by kernel_rfl
theorem bod37 : bodT Tryz.prog 37 = true := by kernel_rfl
theorem bod38 : bodT Tryz.prog 38 = true := by kernel_rfl
theorem bod39 : bodT Tryz.prog 39 = true := by kernel_rfl
theorem bod4 : bodT Tryz.prog 4 = true := by kernel_rfl
theorem bod40 : bodT Tryz.prog 40 = true := by kernel_rfl
theorem bod41 : bodT Tryz.prog 41 = true := by kernel_rfl
theorem bod42 : bodT Tryz.prog 42 = true := by kernel_rfl
theorem bod43 : bodT Tryz.prog 43 = true := by kernel_rfl
theorem bod44 : bodT Tryz.prog 44 = true := by kernel_rfl
theorem bod45 : bodT Tryz.prog 45 = true := by kernel_rfl
theorem bod46 : bodT Tryz.prog 46 = true := by kernel_rfl
theorem bod47 : bodT Tryz.prog 47 = true := by kernel_rfl
theorem bod48 : bodT Tryz.prog 48 = true := by kernel_rfl
theorem bod49 : bodT Tryz.prog 49 = true := by kernel_rfl
theorem bod5 : bodT Tryz.prog 5 = true := by kernel_rfl
theorem bod51 : bodT Tryz.prog 51 = true := by kernel_rfl
theorem bod52 : bodT Tryz.prog 52 = true := by kernel_rfl
theorem bod53 : bodT Tryz.prog 53 = true := by kernel_rfl
theorem bod54 : bodT Tryz.prog 54 = true := by kernel_rfl
theorem bod55 : bodT Tryz.prog 55 = true := by kernel_rfl
theorem bod59 : bodT Tryz.prog 59 = true := by kernel_rfl
theorem bod6 : bodT Tryz.prog 6 = true := by kernel_rfl
theorem bod60 : bodT Tryz.prog 60 = true := by kernel_rfl
theorem bod61 : bodT Tryz.prog 61 = true := by kernel_rfl
theorem bod62 : bodT Tryz.prog 62 = true := by kernel_rfl
theorem bod64 : bodT Tryz.prog 64 = true := by kernel_rfl
theorem bod65 : bodT Tryz.prog 65 = true := by kernel_rfl
theorem bod66 : bodT Tryz.prog 66 = true := by kernel_rfl
theorem bod67 : bodT Tryz.prog 67 = true := by kernel_rfl
theorem bod68 : bodT Tryz.prog 68 = true := by kernel_rfl
theorem bod69 : bodT Tryz.prog 69 = true := by kernel_rfl
theorem bod7 : bodT Tryz.prog 7 = true := by kernel_rfl
theorem bod70 : bodT Tryz.prog 70 = true := by kernel_rfl
theorem bod71 : bodT Tryz.prog 71 = true := by kernel_rfl
theorem bod75 : bodT Tryz.prog 75 = true := by kernel_rfl
theorem bod76 : bodT Tryz.prog 76 = true := by kernel_rfl
theorem bod77 : bodT Tryz.prog 77 = true := by kernel_rfl
theorem bod78 : bodT Tryz.prog 78 = true := by kernel_rfl
theorem bod79 : bodT Tryz.prog 79 = true := by kernel_rfl
theorem bod8 : bodT Tryz.prog 8 = true := by kernel_rfl
theorem bod84 : bodT Tryz.prog 84 = true := by kernel_rfl
theorem bod85 : bodT Tryz.prog 85 = true := by kernel_rfl
theorem bod86 : bodT Tryz.prog 86 = true := by kernel_rfl
theorem bod87 : bodT Tryz.prog 87 = true := by kernel_rfl
theorem bod88 : bodT Tryz.prog 88 = true := by kernel_rfl
theorem bod89 : bodT Tryz.prog 89 = true := by kernel_rfl
theorem bod9 : bodT Tryz.prog 9 = true := by kernel_rfl
theorem bod90 : bodT Tryz.prog 90 = true := by kernel_rfl
theorem bod91 : bodT Tryz.prog 91 = true := by kernel_rfl
theorem bod92 : bodT Tryz.prog 92 = true := by kernel_rfl
theorem bod93 : bodT Tryz.prog 93 = true := by kernel_rfl
theorem bod94 : bodT Tryz.prog 94 = true := by kernel_rfl
theorem bs100 : bsT Tryz.prog 100 = some (25, 1, #[.slice none 0 0]) := by kernel_rfl
theorem bs124 : bsT Tryz.prog 124 = some (143, 3, #[.int .i64 0, .string ⟨#[]⟩, .int .i64 0]) := by kernel_rfl
theorem bs132 : bsT Tryz.prog 132 = some (163, 3, #[.int .i64 0, .string ⟨#[]⟩, .int .i64 0]) := by kernel_rfl
theorem bs164 : bsT Tryz.prog 164 = some (132, 1, #[.slice none 0 0]) := by kernel_rfl
theorem bs185 : bsT Tryz.prog 185 = some (187, 1, #[.nilIface]) := by kernel_rfl
theorem bs22 : bsT Tryz.prog 22 = some (24, 4, #[.int .i64 0, .string ⟨#[]⟩, .int .i64 0, .slice none 0 0]) := by kernel_rfl
theorem bs25 : bsT Tryz.prog 25 = some (59, 3, #[.string ⟨#[]⟩, .string ⟨#[]⟩, .int .i64 0]) := by kernel_rfl
theorem bs26 : bsT Tryz.prog 26 = some (61, 5, #[.string ⟨#[]⟩, .int .i64 0, .string ⟨#[]⟩, .int .i64 0, .slice none 0 0]) := by kernel_rfl
theorem bs29 : bsT Tryz.prog 29 = some (5, 1, #[.int .u8 0]) := by kernel_rfl
theorem bs33 : bsT Tryz.prog 33 = some (35, 4, #[.int .i64 0, .string ⟨#[]⟩, .int .i64 0, .slice none 0 0]) := by kernel_rfl
theorem bs43 : bsT Tryz.prog 43 = some (28, 7, #[.slice none 0 0, .slice none 0 0, .slice none 0 0, .int .i64 0, .string ⟨#[]⟩, .int .i64 0, .slice none 0 0]) := by kernel_rfl
theorem bs47 : bsT Tryz.prog 47 = some (88, 3, #[.string ⟨#[]⟩, .string ⟨#[]⟩, .int .i64 0]) := by kernel_rfl
theorem bs48 : bsT Tryz.prog 48 = some (86, 5, #[.string ⟨#[]⟩, .int .i64 0, .string ⟨#[]⟩, .int .i64 0, .slice none 0 0]) := by kernel_rfl
theorem bs70 : bsT Tryz.prog 70 = some (9, 1, #[.string ⟨#[]⟩]) := by kernel_rfl
theorem bs94 : bsT Tryz.prog 94 = some (96, 2, #[.string ⟨#[]⟩, .string ⟨#[]⟩]) := by kernel_rfl
theorem bs98 : bsT Tryz.prog 98 = some (3, 1, #[.int .i64 0]) := by kernel_rfl
theorem cnc146 : cncT Tryz.prog 146 = true := by kernel_rfl
theorem cnc148 : cncT Tryz.prog 148 = true := by kernel_rfl
theorem cnc150 : cncT Tryz.prog 150 = true := by kernel_rfl
theorem cnc151 : cncT Tryz.prog 151 = true := by kernel_rfl
theorem fl143_1 : fldT Tryz.prog 143 1 = some 1 := by kernel_rfl
theorem fl146_0 : fldT Tryz.prog 146 0 = some 0 := by kernel_rfl
theorem fl163_1 : fldT Tryz.prog 163 1 = some 1 := by kernel_rfl
theorem fl24_0 : fldT Tryz.prog 24 0 = some 0 := by kernel_rfl
theorem fl24_1 : fldT Tryz.prog 24 1 = some 1 := by kernel_rfl
theorem fl24_2 : fldT Tryz.prog 24 2 = some 2 := by kernel_rfl
theorem fl24_3 : fldT Tryz.prog 24 3 = some 3 := by kernel_rfl
theorem fl28_0 : fldT Tryz.prog 28 0 = some 0 := by kernel_rfl
theorem fl28_1 : fldT Tryz.prog 28 1 = some 1 := by kernel_rfl
theorem fl28_2 : fldT Tryz.prog 28 2 = some 2 := by kernel_rfl
theorem fl28_3 : fldT Tryz.prog 28 3 = some 3 := by kernel_rfl
theorem fl35_0 : fldT Tryz.prog 35 0 = some 0 := by kernel_rfl
theorem fl35_1 : fldT Tryz.prog 35 1 = some 1 := by kernel_rfl
theorem fl35_2 : fldT Tryz.prog 35 2 = some 2 := by kernel_rfl
theorem fl35_3 : fldT Tryz.prog 35 3 = some 3 := by kernel_rfl
theorem fl50_0 : fldT Tryz.prog 50 0 = some 0 := by kernel_rfl
theorem fl50_1 : fldT Tryz.prog 50 1 = some 1 := by kernel_rfl
theorem fl50_2 : fldT Tryz.prog 50 2 = some 2 := by kernel_rfl
theorem fl50_3 : fldT Tryz.prog 50 3 = some 3 := by kernel_rfl
theorem fl59_0 : fldT Tryz.prog 59 0 = some 0 := by kernel_rfl
theorem fl59_1 : fldT Tryz.prog 59 1 = some 1 := by kernel_rfl
theorem fl59_2 : fldT Tryz.prog 59 2 = some 2 := by kernel_rfl
theorem fl61_0 : fldT Tryz.prog 61 0 = some 0 := by kernel_rfl
theorem fl61_1 : fldT Tryz.prog 61 1 = some 1 := by kernel_rfl
theorem fl65_0 : fldT Tryz.prog 65 0 = some 0 := by kernel_rfl
theorem fl65_1 : fldT Tryz.prog 65 1 = some 1 := by kernel_rfl
theorem fl73_0 : fldT Tryz.prog 73 0 = some 0 := by kernel_rfl
theorem fl73_1 : fldT Tryz.prog 73 1 = some 1 := by kernel_rfl
theorem fl86_0 : fldT Tryz.prog 86 0 = some 0 := by kernel_rfl
theorem fl86_1 : fldT Tryz.prog 86 1 = some 1 := by kernel_rfl
theorem fl88_0 : fldT Tryz.prog 88 0 = some 0 := by kernel_rfl
theorem fl88_1 : fldT Tryz.prog 88 1 = some 1 := by kernel_rfl
theorem fl88_2 : fldT Tryz.prog 88 2 = some 2 := by kernel_rfl
theorem fl96_0 : fldT Tryz.prog 96 0 = some 0 := by kernel_rfl
theorem fl96_1 : fldT Tryz.prog 96 1 = some 1 := by kernel_rfl
theorem lay143 : layT Tryz.prog 143 = some #[(0, 1), (1, 1), (2, 1)] := by kernel_rfl
theorem lay146 : layT Tryz.prog 146 = some #[(0, 4)] := by kernel_rfl
theorem lay163 : layT Tryz.prog 163 = some #[(0, 1), (1, 1), (2, 1)] := by kernel_rfl
theorem lay24 : layT Tryz.prog 24 = some #[(0, 1), (1, 1), (2, 1), (3, 1)] := by kernel_rfl
theorem lay28 : layT Tryz.prog 28 = some #[(0, 1), (1, 1), (2, 1), (3, 4)] := by kernel_rfl
theorem lay35 : layT Tryz.prog 35 = some #[(0, 1), (1, 1), (2, 1), (3, 1)] := by kernel_rfl
theorem lay50 : layT Tryz.prog 50 = some #[(0, 1), (1, 1), (2, 1), (3, 4)] := by kernel_rfl
theorem lay59 : layT Tryz.prog 59 = some #[(0, 1), (1, 1), (2, 1)] := by kernel_rfl
theorem lay61 : layT Tryz.prog 61 = some #[(0, 1), (1, 4)] := by kernel_rfl
theorem lay65 : layT Tryz.prog 65 = some #[(0, 1), (1, 1)] := by kernel_rfl
theorem lay73 : layT Tryz.prog 73 = some #[(0, 1), (1, 1)] := by kernel_rfl
theorem lay86 : layT Tryz.prog 86 = some #[(0, 1), (1, 4)] := by kernel_rfl
theorem lay88 : layT Tryz.prog 88 = some #[(0, 1), (1, 1), (2, 1)] := by kernel_rfl
theorem lay96 : layT Tryz.prog 96 = some #[(0, 1), (1, 1)] := by kernel_rfl
theorem mix : Tryz.prog.follows .mixedOrders = true := by kernel_rfl
theorem row124 : rowT Tryz.prog 124 143 3 32 = true := by kernel_rfl
theorem row132 : rowT Tryz.prog 132 163 3 32 = true := by kernel_rfl
theorem row164 : rowT Tryz.prog 164 132 1 24 = true := by kernel_rfl
theorem row22 : rowT Tryz.prog 22 24 4 56 = true := by kernel_rfl
theorem row25 : rowT Tryz.prog 25 59 3 40 = true := by kernel_rfl
theorem row26 : rowT Tryz.prog 26 61 5 72 = true := by kernel_rfl
theorem row33 : rowT Tryz.prog 33 35 4 56 = true := by kernel_rfl
theorem row47 : rowT Tryz.prog 47 88 3 40 = true := by kernel_rfl
theorem row48 : rowT Tryz.prog 48 86 5 72 = true := by kernel_rfl
theorem row70 : rowT Tryz.prog 70 9 1 16 = true := by kernel_rfl
theorem row94 : rowT Tryz.prog 94 96 2 32 = true := by kernel_rfl
theorem sli100 : sliT Tryz.prog 100 = some 25 := by kernel_rfl
theorem sli124 : sliT Tryz.prog 124 = some 143 := by kernel_rfl
theorem sli132 : sliT Tryz.prog 132 = some 163 := by kernel_rfl
theorem sli164 : sliT Tryz.prog 164 = some 132 := by kernel_rfl
theorem sli185 : sliT Tryz.prog 185 = some 187 := by kernel_rfl
theorem sli22 : sliT Tryz.prog 22 = some 24 := by kernel_rfl
theorem sli25 : sliT Tryz.prog 25 = some 59 := by kernel_rfl
theorem sli26 : sliT Tryz.prog 26 = some 61 := by kernel_rfl
theorem sli29 : sliT Tryz.prog 29 = some 5 := by kernel_rfl
theorem sli33 : sliT Tryz.prog 33 = some 35 := by kernel_rfl
theorem sli43 : sliT Tryz.prog 43 = some 28 := by kernel_rfl
theorem sli47 : sliT Tryz.prog 47 = some 88 := by kernel_rfl
theorem sli48 : sliT Tryz.prog 48 = some 86 := by kernel_rfl
theorem sli70 : sliT Tryz.prog 70 = some 9 := by kernel_rfl
theorem sli94 : sliT Tryz.prog 94 = some 96 := by kernel_rfl
theorem sli98 : sliT Tryz.prog 98 = some 3 := by kernel_rfl
theorem str9 : strT Tryz.prog 9 = true := by kernel_rfl
theorem sz132 : szT Tryz.prog 132 1 = true := by kernel_rfl
theorem sz143 : szT Tryz.prog 143 3 = true := by kernel_rfl
theorem sz163 : szT Tryz.prog 163 3 = true := by kernel_rfl
theorem sz187 : szT Tryz.prog 187 1 = true := by kernel_rfl
theorem sz24 : szT Tryz.prog 24 4 = true := by kernel_rfl
theorem sz25 : szT Tryz.prog 25 1 = true := by kernel_rfl
theorem sz28 : szT Tryz.prog 28 7 = true := by kernel_rfl
theorem sz3 : szT Tryz.prog 3 1 = true := by kernel_rfl
theorem sz35 : szT Tryz.prog 35 4 = true := by kernel_rfl
theorem sz5 : szT Tryz.prog 5 1 = true := by kernel_rfl
theorem sz59 : szT Tryz.prog 59 3 = true := by kernel_rfl
theorem sz61 : szT Tryz.prog 61 5 = true := by kernel_rfl
theorem sz86 : szT Tryz.prog 86 5 = true := by kernel_rfl
theorem sz88 : szT Tryz.prog 88 3 = true := by kernel_rfl
theorem sz9 : szT Tryz.prog 9 1 = true := by kernel_rfl
theorem sz96 : szT Tryz.prog 96 2 = true := by kernel_rfl
theorem t1_103 : ty1 Tryz.prog 103 = true := by kernel_rfl
theorem t1_104 : ty1 Tryz.prog 104 = true := by kernel_rfl
theorem t1_132 : ty1 Tryz.prog 132 = true := by kernel_rfl
theorem t1_187 : ty1 Tryz.prog 187 = true := by kernel_rfl
theorem t1_2 : ty1 Tryz.prog 2 = true := by kernel_rfl
theorem t1_22 : ty1 Tryz.prog 22 = true := by kernel_rfl
theorem t1_25 : ty1 Tryz.prog 25 = true := by kernel_rfl
theorem t1_26 : ty1 Tryz.prog 26 = true := by kernel_rfl
theorem t1_29 : ty1 Tryz.prog 29 = true := by kernel_rfl
theorem t1_3 : ty1 Tryz.prog 3 = true := by kernel_rfl
theorem t1_33 : ty1 Tryz.prog 33 = true := by kernel_rfl
theorem t1_4 : ty1 Tryz.prog 4 = true := by kernel_rfl
theorem t1_47 : ty1 Tryz.prog 47 = true := by kernel_rfl
theorem t1_48 : ty1 Tryz.prog 48 = true := by kernel_rfl
theorem t1_5 : ty1 Tryz.prog 5 = true := by kernel_rfl
theorem t1_62 : ty1 Tryz.prog 62 = true := by kernel_rfl
theorem t1_63 : ty1 Tryz.prog 63 = true := by kernel_rfl
theorem t1_68 : ty1 Tryz.prog 68 = true := by kernel_rfl
theorem t1_70 : ty1 Tryz.prog 70 = true := by kernel_rfl
theorem t1_9 : ty1 Tryz.prog 9 = true := by kernel_rfl
theorem tN143 : tyN Tryz.prog 143 3 = true := by kernel_rfl
theorem tN146 : tyN Tryz.prog 146 4 = true := by kernel_rfl
theorem tN24 : tyN Tryz.prog 24 4 = true := by kernel_rfl
theorem tN28 : tyN Tryz.prog 28 7 = true := by kernel_rfl
theorem tN35 : tyN Tryz.prog 35 4 = true := by kernel_rfl
theorem tN50 : tyN Tryz.prog 50 7 = true := by kernel_rfl
theorem tN59 : tyN Tryz.prog 59 3 = true := by kernel_rfl
theorem tN61 : tyN Tryz.prog 61 5 = true := by kernel_rfl
theorem tN88 : tyN Tryz.prog 88 3 = true := by kernel_rfl
theorem zr103 : zrT Tryz.prog 103 = some (.map none) := by kernel_rfl
theorem zr104 : zrT Tryz.prog 104 = some (.nilFunc) := by kernel_rfl
theorem zr143 : zrT Tryz.prog 143 = some (.agg #[.int .i64 0, .string ⟨#[]⟩, .int .i64 0]) := by kernel_rfl
theorem zr146 : zrT Tryz.prog 146 = some (.agg #[.int .i64 0, .string ⟨#[]⟩, .int .i64 0, .slice none 0 0]) := by kernel_rfl
theorem zr148 : zrT Tryz.prog 148 = some (.string ⟨#[]⟩) := by kernel_rfl
theorem zr150 : zrT Tryz.prog 150 = some (.string ⟨#[]⟩) := by kernel_rfl
theorem zr151 : zrT Tryz.prog 151 = some (.string ⟨#[]⟩) := by kernel_rfl
theorem zr163 : zrT Tryz.prog 163 = some (.agg #[.int .i64 0, .string ⟨#[]⟩, .int .i64 0]) := by kernel_rfl
theorem zr24 : zrT Tryz.prog 24 = some (.agg #[.int .i64 0, .string ⟨#[]⟩, .int .i64 0, .slice none 0 0]) := by kernel_rfl
theorem zr28 : zrT Tryz.prog 28 = some (.agg #[.slice none 0 0, .slice none 0 0, .slice none 0 0, .int .i64 0, .string ⟨#[]⟩, .int .i64 0, .slice none 0 0]) := by kernel_rfl
theorem zr3 : zrT Tryz.prog 3 = some (.int .i64 0) := by kernel_rfl
theorem zr35 : zrT Tryz.prog 35 = some (.agg #[.int .i64 0, .string ⟨#[]⟩, .int .i64 0, .slice none 0 0]) := by kernel_rfl
theorem zr4 : zrT Tryz.prog 4 = some (.bool false) := by kernel_rfl
theorem zr50 : zrT Tryz.prog 50 = some (.agg #[.slice none 0 0, .slice none 0 0, .slice none 0 0, .int .i64 0, .string ⟨#[]⟩, .int .i64 0, .slice none 0 0]) := by kernel_rfl
theorem zr59 : zrT Tryz.prog 59 = some (.agg #[.string ⟨#[]⟩, .string ⟨#[]⟩, .int .i64 0]) := by kernel_rfl
theorem zr61 : zrT Tryz.prog 61 = some (.agg #[.string ⟨#[]⟩, .int .i64 0, .string ⟨#[]⟩, .int .i64 0, .slice none 0 0]) := by kernel_rfl
theorem zr65 : zrT Tryz.prog 65 = some (.agg #[.map none, .int .i64 0]) := by kernel_rfl
theorem zr68 : zrT Tryz.prog 68 = some (.nilFunc) := by kernel_rfl
theorem zr70 : zrT Tryz.prog 70 = some (.slice none 0 0) := by kernel_rfl
theorem zr73 : zrT Tryz.prog 73 = some (.agg #[.slice none 0 0, .int .i64 0]) := by kernel_rfl
theorem zr86 : zrT Tryz.prog 86 = some (.agg #[.string ⟨#[]⟩, .int .i64 0, .string ⟨#[]⟩, .int .i64 0, .slice none 0 0]) := by kernel_rfl
theorem zr88 : zrT Tryz.prog 88 = some (.agg #[.string ⟨#[]⟩, .string ⟨#[]⟩, .int .i64 0]) := by kernel_rfl
theorem zr9 : zrT Tryz.prog 9 = some (.string ⟨#[]⟩) := by kernel_rfl
theorem zr96 : zrT Tryz.prog 96 = some (.agg #[.string ⟨#[]⟩, .string ⟨#[]⟩]) := by kernel_rfl
instance k_cnc_146 : KCc Tryz.prog 146 := ⟨cnc146⟩
instance k_cnc_148 : KCc Tryz.prog 148 := ⟨cnc148⟩
instance k_cnc_150 : KCc Tryz.prog 150 := ⟨cnc150⟩
instance k_cnc_151 : KCc Tryz.prog 151 := ⟨cnc151⟩
instance k_fl_143_1 : KFl Tryz.prog 143 1 1 := ⟨fl143_1⟩
instance k_fl_146_0 : KFl Tryz.prog 146 0 0 := ⟨fl146_0⟩
instance k_fl_163_1 : KFl Tryz.prog 163 1 1 := ⟨fl163_1⟩
instance k_fl_24_0 : KFl Tryz.prog 24 0 0 := ⟨fl24_0⟩
instance k_fl_24_1 : KFl Tryz.prog 24 1 1 := ⟨fl24_1⟩
instance k_fl_24_2 : KFl Tryz.prog 24 2 2 := ⟨fl24_2⟩
instance k_fl_24_3 : KFl Tryz.prog 24 3 3 := ⟨fl24_3⟩
instance k_fl_28_0 : KFl Tryz.prog 28 0 0 := ⟨fl28_0⟩
instance k_fl_28_1 : KFl Tryz.prog 28 1 1 := ⟨fl28_1⟩
instance k_fl_28_2 : KFl Tryz.prog 28 2 2 := ⟨fl28_2⟩
instance k_fl_28_3 : KFl Tryz.prog 28 3 3 := ⟨fl28_3⟩
instance k_fl_35_0 : KFl Tryz.prog 35 0 0 := ⟨fl35_0⟩
instance k_fl_35_1 : KFl Tryz.prog 35 1 1 := ⟨fl35_1⟩
instance k_fl_35_2 : KFl Tryz.prog 35 2 2 := ⟨fl35_2⟩
instance k_fl_35_3 : KFl Tryz.prog 35 3 3 := ⟨fl35_3⟩
instance k_fl_50_0 : KFl Tryz.prog 50 0 0 := ⟨fl50_0⟩
instance k_fl_50_1 : KFl Tryz.prog 50 1 1 := ⟨fl50_1⟩
instance k_fl_50_2 : KFl Tryz.prog 50 2 2 := ⟨fl50_2⟩
instance k_fl_50_3 : KFl Tryz.prog 50 3 3 := ⟨fl50_3⟩
instance k_fl_59_0 : KFl Tryz.prog 59 0 0 := ⟨fl59_0⟩
instance k_fl_59_1 : KFl Tryz.prog 59 1 1 := ⟨fl59_1⟩
instance k_fl_59_2 : KFl Tryz.prog 59 2 2 := ⟨fl59_2⟩
instance k_fl_61_0 : KFl Tryz.prog 61 0 0 := ⟨fl61_0⟩
instance k_fl_61_1 : KFl Tryz.prog 61 1 1 := ⟨fl61_1⟩
instance k_fl_65_0 : KFl Tryz.prog 65 0 0 := ⟨fl65_0⟩
instance k_fl_65_1 : KFl Tryz.prog 65 1 1 := ⟨fl65_1⟩
instance k_fl_73_0 : KFl Tryz.prog 73 0 0 := ⟨fl73_0⟩
instance k_fl_73_1 : KFl Tryz.prog 73 1 1 := ⟨fl73_1⟩
instance k_fl_86_0 : KFl Tryz.prog 86 0 0 := ⟨fl86_0⟩
instance k_fl_86_1 : KFl Tryz.prog 86 1 1 := ⟨fl86_1⟩
instance k_fl_88_0 : KFl Tryz.prog 88 0 0 := ⟨fl88_0⟩
instance k_fl_88_1 : KFl Tryz.prog 88 1 1 := ⟨fl88_1⟩
instance k_fl_88_2 : KFl Tryz.prog 88 2 2 := ⟨fl88_2⟩
instance k_fl_96_0 : KFl Tryz.prog 96 0 0 := ⟨fl96_0⟩
instance k_fl_96_1 : KFl Tryz.prog 96 1 1 := ⟨fl96_1⟩
instance k_lay_143 : KLy Tryz.prog 143 [(0, 1), (1, 1), (2, 1)] := ⟨lay143⟩
instance k_lay_146 : KLy Tryz.prog 146 [(0, 4)] := ⟨lay146⟩
instance k_lay_163 : KLy Tryz.prog 163 [(0, 1), (1, 1), (2, 1)] := ⟨lay163⟩
instance k_lay_24 : KLy Tryz.prog 24 [(0, 1), (1, 1), (2, 1), (3, 1)] := ⟨lay24⟩
instance k_lay_28 : KLy Tryz.prog 28 [(0, 1), (1, 1), (2, 1), (3, 4)] := ⟨lay28⟩
instance k_lay_35 : KLy Tryz.prog 35 [(0, 1), (1, 1), (2, 1), (3, 1)] := ⟨lay35⟩
instance k_lay_50 : KLy Tryz.prog 50 [(0, 1), (1, 1), (2, 1), (3, 4)] := ⟨lay50⟩
instance k_lay_59 : KLy Tryz.prog 59 [(0, 1), (1, 1), (2, 1)] := ⟨lay59⟩
instance k_lay_61 : KLy Tryz.prog 61 [(0, 1), (1, 4)] := ⟨lay61⟩
instance k_lay_65 : KLy Tryz.prog 65 [(0, 1), (1, 1)] := ⟨lay65⟩
instance k_lay_73 : KLy Tryz.prog 73 [(0, 1), (1, 1)] := ⟨lay73⟩
instance k_lay_86 : KLy Tryz.prog 86 [(0, 1), (1, 4)] := ⟨lay86⟩
instance k_lay_88 : KLy Tryz.prog 88 [(0, 1), (1, 1), (2, 1)] := ⟨lay88⟩
instance k_lay_96 : KLy Tryz.prog 96 [(0, 1), (1, 1)] := ⟨lay96⟩
instance k_sli_100 : KSl Tryz.prog 100 25 := ⟨sli100⟩
instance k_sli_124 : KSl Tryz.prog 124 143 := ⟨sli124⟩
instance k_sli_132 : KSl Tryz.prog 132 163 := ⟨sli132⟩
instance k_sli_164 : KSl Tryz.prog 164 132 := ⟨sli164⟩
instance k_sli_185 : KSl Tryz.prog 185 187 := ⟨sli185⟩
instance k_sli_22 : KSl Tryz.prog 22 24 := ⟨sli22⟩
instance k_sli_25 : KSl Tryz.prog 25 59 := ⟨sli25⟩
instance k_sli_26 : KSl Tryz.prog 26 61 := ⟨sli26⟩
instance k_sli_29 : KSl Tryz.prog 29 5 := ⟨sli29⟩
instance k_sli_33 : KSl Tryz.prog 33 35 := ⟨sli33⟩
instance k_sli_43 : KSl Tryz.prog 43 28 := ⟨sli43⟩
instance k_sli_47 : KSl Tryz.prog 47 88 := ⟨sli47⟩
instance k_sli_48 : KSl Tryz.prog 48 86 := ⟨sli48⟩
instance k_sli_70 : KSl Tryz.prog 70 9 := ⟨sli70⟩
instance k_sli_94 : KSl Tryz.prog 94 96 := ⟨sli94⟩
instance k_sli_98 : KSl Tryz.prog 98 3 := ⟨sli98⟩
instance k_str_9 : KSr Tryz.prog 9 := ⟨str9⟩
instance k_t1_103 : KT1 Tryz.prog 103 := ⟨t1_103⟩
instance k_t1_104 : KT1 Tryz.prog 104 := ⟨t1_104⟩
instance k_t1_132 : KT1 Tryz.prog 132 := ⟨t1_132⟩
instance k_t1_187 : KT1 Tryz.prog 187 := ⟨t1_187⟩
instance k_t1_2 : KT1 Tryz.prog 2 := ⟨t1_2⟩
instance k_t1_22 : KT1 Tryz.prog 22 := ⟨t1_22⟩
instance k_t1_25 : KT1 Tryz.prog 25 := ⟨t1_25⟩
instance k_t1_26 : KT1 Tryz.prog 26 := ⟨t1_26⟩
instance k_t1_29 : KT1 Tryz.prog 29 := ⟨t1_29⟩
instance k_t1_3 : KT1 Tryz.prog 3 := ⟨t1_3⟩
instance k_t1_33 : KT1 Tryz.prog 33 := ⟨t1_33⟩
instance k_t1_4 : KT1 Tryz.prog 4 := ⟨t1_4⟩
instance k_t1_47 : KT1 Tryz.prog 47 := ⟨t1_47⟩
instance k_t1_48 : KT1 Tryz.prog 48 := ⟨t1_48⟩
instance k_t1_5 : KT1 Tryz.prog 5 := ⟨t1_5⟩
instance k_t1_62 : KT1 Tryz.prog 62 := ⟨t1_62⟩
instance k_t1_63 : KT1 Tryz.prog 63 := ⟨t1_63⟩
instance k_t1_68 : KT1 Tryz.prog 68 := ⟨t1_68⟩
instance k_t1_70 : KT1 Tryz.prog 70 := ⟨t1_70⟩
instance k_t1_9 : KT1 Tryz.prog 9 := ⟨t1_9⟩
instance k_tN_143 : KTN Tryz.prog 143 3 := ⟨tN143⟩
instance k_tN_146 : KTN Tryz.prog 146 4 := ⟨tN146⟩
instance k_tN_24 : KTN Tryz.prog 24 4 := ⟨tN24⟩
instance k_tN_28 : KTN Tryz.prog 28 7 := ⟨tN28⟩
instance k_tN_35 : KTN Tryz.prog 35 4 := ⟨tN35⟩
instance k_tN_50 : KTN Tryz.prog 50 7 := ⟨tN50⟩
instance k_tN_59 : KTN Tryz.prog 59 3 := ⟨tN59⟩
instance k_tN_61 : KTN Tryz.prog 61 5 := ⟨tN61⟩
instance k_tN_88 : KTN Tryz.prog 88 3 := ⟨tN88⟩
instance k_zr_103 : KZr Tryz.prog 103 (.map none) := ⟨zr103⟩
instance k_zr_104 : KZr Tryz.prog 104 (.nilFunc) := ⟨zr104⟩
instance k_zr_143 : KZr Tryz.prog 143 (.agg #[.int .i64 0, .string ⟨#[]⟩, .int .i64 0]) := ⟨zr143⟩
instance k_zr_146 : KZr Tryz.prog 146 (.agg #[.int .i64 0, .string ⟨#[]⟩, .int .i64 0, .slice none 0 0]) := ⟨zr146⟩
instance k_zr_148 : KZr Tryz.prog 148 (.string ⟨#[]⟩) := ⟨zr148⟩
instance k_zr_150 : KZr Tryz.prog 150 (.string ⟨#[]⟩) := ⟨zr150⟩
instance k_zr_151 : KZr Tryz.prog 151 (.string ⟨#[]⟩) := ⟨zr151⟩
instance k_zr_163 : KZr Tryz.prog 163 (.agg #[.int .i64 0, .string ⟨#[]⟩, .int .i64 0]) := ⟨zr163⟩
instance k_zr_24 : KZr Tryz.prog 24 (.agg #[.int .i64 0, .string ⟨#[]⟩, .int .i64 0, .slice none 0 0]) := ⟨zr24⟩
instance k_zr_28 : KZr Tryz.prog 28 (.agg #[.slice none 0 0, .slice none 0 0, .slice none 0 0, .int .i64 0, .string ⟨#[]⟩, .int .i64 0, .slice none 0 0]) := ⟨zr28⟩
instance k_zr_3 : KZr Tryz.prog 3 (.int .i64 0) := ⟨zr3⟩
instance k_zr_35 : KZr Tryz.prog 35 (.agg #[.int .i64 0, .string ⟨#[]⟩, .int .i64 0, .slice none 0 0]) := ⟨zr35⟩
instance k_zr_4 : KZr Tryz.prog 4 (.bool false) := ⟨zr4⟩
instance k_zr_50 : KZr Tryz.prog 50 (.agg #[.slice none 0 0, .slice none 0 0, .slice none 0 0, .int .i64 0, .string ⟨#[]⟩, .int .i64 0, .slice none 0 0]) := ⟨zr50⟩
instance k_zr_59 : KZr Tryz.prog 59 (.agg #[.string ⟨#[]⟩, .string ⟨#[]⟩, .int .i64 0]) := ⟨zr59⟩
instance k_zr_61 : KZr Tryz.prog 61 (.agg #[.string ⟨#[]⟩, .int .i64 0, .string ⟨#[]⟩, .int .i64 0, .slice none 0 0]) := ⟨zr61⟩
instance k_zr_65 : KZr Tryz.prog 65 (.agg #[.map none, .int .i64 0]) := ⟨zr65⟩
instance k_zr_68 : KZr Tryz.prog 68 (.nilFunc) := ⟨zr68⟩
instance k_zr_70 : KZr Tryz.prog 70 (.slice none 0 0) := ⟨zr70⟩
instance k_zr_73 : KZr Tryz.prog 73 (.agg #[.slice none 0 0, .int .i64 0]) := ⟨zr73⟩
instance k_zr_86 : KZr Tryz.prog 86 (.agg #[.string ⟨#[]⟩, .int .i64 0, .string ⟨#[]⟩, .int .i64 0, .slice none 0 0]) := ⟨zr86⟩
instance k_zr_88 : KZr Tryz.prog 88 (.agg #[.string ⟨#[]⟩, .string ⟨#[]⟩, .int .i64 0]) := ⟨zr88⟩
instance k_zr_9 : KZr Tryz.prog 9 (.string ⟨#[]⟩) := ⟨zr9⟩
instance k_zr_96 : KZr Tryz.prog 96 (.agg #[.string ⟨#[]⟩, .string ⟨#[]⟩]) := ⟨zr96⟩
theorem Binder_ok (k n : Int) (s : Bs) (v : Value) (E : World) (H : GH) (L : List It) : Ok Tryz.prog 20 #[.agg #[.int .i64 k, str s, .int .i64 n, v]] E H L fun r H' L' => r = .bool (bnd k) ∧ H = H' ∧ L = L' := by
 refine enter (N := 16) [(0, _)] Tryz.func20 rfl rfl rfl rfl fun a w h => ?_
 refine au [1,2] h ?_
 refine bxA h fun g1 a w h => ?_
 refine au [0,6,0,2,0,7,0,8,6,2] h ?_; intro a w h
 refine h.spl (fun c5 h => ?_) (fun c5 h => ?_)
 ·refine au [0,0,0,1,0,1,0,1,4,8,0,0,0,1,0,1,0,1,4,8,0,6,0,3,1,3] h ?_; intro a w h
  refine fin1 2 1 h LE.rfl ?_
  exact ⟨by first | (simp only [bnd, *]; done) | (simp only [bnd, *]; rfl), rfl, rfl⟩
 ·refine au [0,0,0,7,0,8,6,2,5,0] h ?_; intro a w h
  refine h.spl (fun c10 h => ?_) (fun c10 h => ?_)
  ·refine au [0,0,0,1,0,1,0,1,4,8,0,6,0,3,1,3] h ?_; intro a w h
   refine fin1 2 1 h LE.rfl ?_
   exact ⟨by first | (simp only [bnd, *]; done) | (simp only [bnd, *]; rfl), rfl, rfl⟩
  ·refine au [0,0,0,7,0,8,6,2,5,0,0,6,0,3,1,3] h ?_; intro a w h
   refine fin1 2 1 h LE.rfl ?_
   exact ⟨by first | (simp only [bnd, *]; done) | (simp only [bnd, *]; rfl), rfl, rfl⟩
theorem Size_ok : ∀ (t : Tm) (v : Value) (E : World) (H : GH) (L : List It), VT H v t → t.size < 1000000000000 →
   Ok Tryz.prog 91 #[v] E H L fun r H' L' => r = .int .i64 t.size ∧ H = H' ∧ L = L' := by
 intro t
 induction t using Tm.ind with
 | h kd nm nn ks ih =>
 intro v E H L hv hb
 obtain ⟨A, c, rfl, hks⟩ := hv
 simp only [Tm.size] at hb
 have hks : KS H A c ks := hks
 have hlen := length_le_sizeL ks
 refine enter (N := 19) [(0, _)] Tryz.func91 rfl rfl rfl rfl fun a w h => ?_
 refine au [1,2] h ?_
 refine bxA h fun g1 a w h => ?_
 refine au [0,6,0,2,0,6,0,3,0,4,1,2,0,7,0,8,6,0,0,0,0,3,1,5] h ?_; intro a w h
 refine lp (β := Nat) (fun k a w => (k ≤ ks.length) ∧ S E H 19 [] [(9, .int .i64 (k : Int)), (3, .int .i64 ((1 + sizeL (ks.take k) : Nat) : Int)), (7, .slice A ks.length c), (8, .int .i64 (ks.length : Int))] (L) a w)
  (fun k => ks.length - k) 0 ⟨Nat.zero_le _, h.to 1 _⟩ ?_
 rintro k a w ⟨pre, h⟩
 refine au [1,2,6,4,0,3,0,4] h ?_; intro a w h
 refine cdB h (fun c10 => ?_) (fun c10 => ?_)
 ·have c10 : k < ks.length := by simpa using c10
  obtain ⟨g, off, A2, c2, rfl, hvt, hcell⟩ := KS.get hks c10
  have hsz := size_get_le c10
  have hts := take_size c10
  have hlt := size_take_le ks (k + 1)
  refine au [1,8,1,0,0,4,1,5,1,2] h ?_
  refine ia sli22 sz24 rfl c10 h fun a w h => ?_
  refine ldHN tN24 rfl hcell h fun a w h => ?_
  refine al zr24 h fun g5 a w h => ?_
  refine au [5,5,0,3,0,5,0,0,3,3] h ?_; intro a w h
  refine cl bod91 (ih _ (List.getElem_mem c10) _ E H _ hvt (by omega)) h fun r15 H15 L15 a w le15 R h => ?_
  obtain ⟨rfl, rfl, rfl⟩ := R
  refine adr (((1 + sizeL (ks.take (k + 1)) : Nat) : Int)) ?_ h fun a w h => ?_
  ·rw [w64 (by omega) (by omega)]; exact hts
  refine au [0,6,1,1,1,7,1,0,0,5] h ?_; intro a w h
  refine inc ?_ h fun a w h => ?_
  ·omega
  refine au [0,0,0,3] h ?_; intro a w h
  exact ⟨(k + 1), ⟨by omega, h.to 1 _⟩, by show _ - (k + 1) < _ - k; omega⟩
 ·have hk : k = ks.length := by simp at c10; omega
  refine au [2,5,2,2,2,2,2,3,1,0,1,2,0,0,0,6,0,3,1,3] h ?_; intro a w h
  refine fin1 2 0 h LE.rfl ?_
  refine ⟨?_, rfl, rfl⟩
  rw [hk, List.take_length]; rfl
theorem Depth_ok : ∀ (t : Tm) (v : Value) (E : World) (H : GH) (L : List It), VT H v t → t.size < 1000000000000 →
   Ok Tryz.prog 90 #[v] E H L fun r H' L' => r = .int .i64 t.depth ∧ H = H' ∧ L = L' := by
 intro t
 induction t using Tm.ind with
 | h kd nm nn ks ih =>
 intro v E H L hv hb
 obtain ⟨A, c, rfl, hks⟩ := hv
 simp only [Tm.size] at hb
 have hks : KS H A c ks := hks
 have hlen := length_le_sizeL ks
 refine enter (N := 20) [(0, _)] Tryz.func90 rfl rfl rfl rfl fun a w h => ?_
 refine au [1,2] h ?_
 refine bxA h fun g1 a w h => ?_
 refine au [0,6,0,2,0,6,0,3,0,4,1,2,0,7,0,8,6,0,0,0,0,3,1,5] h ?_; intro a w h
 refine lp (β := Nat) (fun k a w => (k ≤ ks.length) ∧ S E H 20 [] [(9, .int .i64 (k : Int)), (3, .int .i64 ((depthL (ks.take k) : Nat) : Int)), (7, .slice A ks.length c), (8, .int .i64 (ks.length : Int))] (L) a w)
  (fun k => ks.length - k) 0 ⟨Nat.zero_le _, h.to 1 _⟩ ?_
 rintro k a w ⟨pre, h⟩
 refine au [1,2,6,4,0,3,0,4] h ?_; intro a w h
 refine cdB h (fun c10 => ?_) (fun c10 => ?_)
 ·have c10 : k < ks.length := by simpa using c10
  obtain ⟨g, off, A2, c2, rfl, hvt, hcell⟩ := KS.get hks c10
  have hsz := size_get_le c10
  have htd := take_depth c10
  have hmx : (if ((depthL (ks.take k) : Nat) : Int) < (ks[k].depth : Int) then (ks[k].depth : Int) else ((depthL (ks.take k) : Nat) : Int)) = ((depthL (ks.take (k + 1)) : Nat) : Int) := by rw [htd]; split <;> omega
  refine au [1,8,1,0,0,4,1,5,1,2] h ?_
  refine ia sli22 sz24 rfl c10 h fun a w h => ?_
  refine ldHN tN24 rfl hcell h fun a w h => ?_
  refine al zr24 h fun g5 a w h => ?_
  refine au [5,5,0,3,0,5,0,0,3,3] h ?_; intro a w h
  refine cl bod90 (ih _ (List.getElem_mem c10) _ E H _ hvt (by omega)) h fun r15 H15 L15 a w le15 R h => ?_
  obtain ⟨rfl, rfl, rfl⟩ := R
  refine mx h fun a w h => ?_
  rw [hmx] at h
  refine au [0,6,1,1,1,7,1,0,0,5] h ?_; intro a w h
  refine inc ?_ h fun a w h => ?_
  ·omega
  refine au [0,0,0,3] h ?_; intro a w h
  exact ⟨(k + 1), ⟨by omega, h.to 1 _⟩, by show _ - (k + 1) < _ - k; omega⟩
 ·have hk : k = ks.length := by simp at c10; omega
  refine au [2,5,2,2,2,2,2,3,1,0,1,2,0,0] h ?_; intro a w h
  refine adr (((depthL ks + 1 : Nat) : Int)) ?_ h fun a w h => ?_
  ·have := depthL_le ks; rw [hk, List.take_length, w64 (by omega) (by omega)]; omega
  refine au [0,6,0,3,1,3] h ?_; intro a w h
  refine fin1 2 0 h LE.rfl ?_
  exact ⟨rfl, rfl, rfl⟩
theorem Count_ok : ∀ (t : Tm) (v : Value) (E : World) (H : GH) (L : List It), VT H v t → t.size < 1000000000000 →
   Ok Tryz.prog 9 #[v] E H L fun r H' L' => r = .int .i64 t.count ∧ H = H' ∧ L = L' := by
 intro t
 induction t using Tm.ind with
 | h kd nm nn ks ih =>
 intro v E H L hv hb
 obtain ⟨A, c, rfl, hks⟩ := hv
 simp only [Tm.size] at hb
 have hks : KS H A c ks := hks
 have hlen := length_le_sizeL ks
 refine enter (N := 23) [(0, _)] Tryz.func9 rfl rfl rfl rfl fun a w h => ?_
 refine au [1,2] h ?_
 refine bxA h fun g1 a w h => ?_
 refine au [0,6,0,2,0,6,0,3,0,4,1,2,3,3] h ?_; intro a w h
 refine cl bod20 (Binder_ok _ _ _ _ _ _ _) h fun r7 H7 L7 a w le7 R h => ?_
 obtain ⟨rfl, rfl, rfl⟩ := R
 refine au [0,3] h ?_
 refine cdB h (fun c7 => ?_) (fun c7 => ?_)
 ·have c7 : bnd kd = true := c7
  refine au [0,5,0,0] h ?_; intro a w h
  refine adr (((if bnd kd then 1 else 0 : Nat) : Int)) ?_ h fun a w h => ?_
  ·rw [c7]; rfl
  refine au [0,6,0,3,0,4,1,2,0,7,0,8,6,0,0,0,0,3,1,5] h ?_; intro a w h
  refine lp (β := Nat) (fun k a w => (k ≤ ks.length) ∧ S E H 23 [] [(13, .int .i64 (k : Int)), (3, .int .i64 (((if bnd kd then 1 else 0) + countL (ks.take k) : Nat) : Int)), (11, .slice A ks.length c), (12, .int .i64 (ks.length : Int))] (L) a w)
   (fun k => ks.length - k) 0 ⟨Nat.zero_le _, h.to 1 _⟩ ?_
  rintro k a w ⟨pre, h⟩
  refine au [1,2,6,4,0,3,0,4] h ?_; intro a w h
  refine cdB h (fun c14 => ?_) (fun c14 => ?_)
  ·have c14 : k < ks.length := by simpa using c14
   obtain ⟨g, off, A2, c2, rfl, hvt, hcell⟩ := KS.get hks c14
   have hsz := size_get_le c14
   have hts := take_count c14
   refine au [1,8,1,0,0,4,1,5,1,2] h ?_
   refine ia sli22 sz24 rfl c14 h fun a w h => ?_
   refine ldHN tN24 rfl hcell h fun a w h => ?_
   refine al zr24 h fun g5 a w h => ?_
   refine au [5,5,0,3,0,5,0,0,3,3] h ?_; intro a w h
   refine cl bod9 (ih _ (List.getElem_mem c14) _ E H _ hvt (by omega)) h fun r19 H19 L19 a w le19 R h => ?_
   obtain ⟨rfl, rfl, rfl⟩ := R
   refine adr ((((if bnd kd then 1 else 0) + countL (ks.take (k + 1)) : Nat) : Int)) ?_ h fun a w h => ?_
   ·have : countL (ks.take (k + 1)) ≤ sizeL ks := Nat.le_trans (countL_le _) (size_take_le ks _); rw [hts] at this ⊢; rw [w64 (by split <;> omega) (by split <;> omega)]; omega
   refine au [0,6,1,1,1,7,1,0,0,5] h ?_; intro a w h
   refine inc ?_ h fun a w h => ?_
   ·omega
   refine au [0,0,0,3] h ?_; intro a w h
   exact ⟨(k + 1), ⟨by omega, h.to 1 _⟩, by show _ - (k + 1) < _ - k; omega⟩
  ·have hk : k = ks.length := by simp at c14; omega
   refine au [2,5,2,2,2,2,2,3,1,0,1,2,0,0,0,6,0,3,1,3] h ?_; intro a w h
   refine fin1 2 0 h LE.rfl ?_
   refine ⟨?_, rfl, rfl⟩
   rw [hk, List.take_length]; rfl
 ·have c7 : bnd kd = false := c7
  have e0 : (0 : Int) = ((if bnd kd then 1 else 0 : Nat) : Int) := by rw [c7]; rfl
  rw [e0] at h
  refine au [1,8,1,0,0,4,1,2,0,7,0,8,6,0,0,0,0,3,1,5] h ?_; intro a w h
  refine lp (β := Nat) (fun k a w => (k ≤ ks.length) ∧ S E H 23 [] [(13, .int .i64 (k : Int)), (3, .int .i64 (((if bnd kd then 1 else 0) + countL (ks.take k) : Nat) : Int)), (11, .slice A ks.length c), (12, .int .i64 (ks.length : Int))] (L) a w)
   (fun k => ks.length - k) 0 ⟨Nat.zero_le _, h.to 1 _⟩ ?_
  rintro k a w ⟨pre, h⟩
  refine au [1,2,6,4,0,3,0,4] h ?_; intro a w h
  refine cdB h (fun c14 => ?_) (fun c14 => ?_)
  ·have c14 : k < ks.length := by simpa using c14
   obtain ⟨g, off, A2, c2, rfl, hvt, hcell⟩ := KS.get hks c14
   have hsz := size_get_le c14
   have hts := take_count c14
   refine au [1,8,1,0,0,4,1,5,1,2] h ?_
   refine ia sli22 sz24 rfl c14 h fun a w h => ?_
   refine ldHN tN24 rfl hcell h fun a w h => ?_
   refine al zr24 h fun g5 a w h => ?_
   refine au [5,5,0,3,0,5,0,0,3,3] h ?_; intro a w h
   refine cl bod9 (ih _ (List.getElem_mem c14) _ E H _ hvt (by omega)) h fun r19 H19 L19 a w le19 R h => ?_
   obtain ⟨rfl, rfl, rfl⟩ := R
   refine adr ((((if bnd kd then 1 else 0) + countL (ks.take (k + 1)) : Nat) : Int)) ?_ h fun a w h => ?_
   ·have : countL (ks.take (k + 1)) ≤ sizeL ks := Nat.le_trans (countL_le _) (size_take_le ks _); rw [hts] at this ⊢; rw [w64 (by split <;> omega) (by split <;> omega)]; omega
   refine au [0,6,1,1,1,7,1,0,0,5] h ?_; intro a w h
   refine inc ?_ h fun a w h => ?_
   ·omega
   refine au [0,0,0,3] h ?_; intro a w h
   exact ⟨(k + 1), ⟨by omega, h.to 1 _⟩, by show _ - (k + 1) < _ - k; omega⟩
  ·have hk : k = ks.length := by simp at c14; omega
   refine au [2,5,2,2,2,2,2,3,1,0,1,2,0,0,0,6,0,3,1,3] h ?_; intro a w h
   refine fin1 2 0 h LE.rfl ?_
   refine ⟨?_, rfl, rfl⟩
   rw [hk, List.take_length]; rfl
structure Laid (H : GH) : Prop where
 keys : SS H (some ⟨3, 0, none⟩) 14 keysL
 ops : SS H (some ⟨2, 0, none⟩) 5 opsL
 kids : ∀ (j : Nat) (k : Int), kidsL[j]? = some k → Hc H 1 j (.int .i64 k)
 pow : ∀ w, Sees H [] w → Lib.TabIs Tryz.prog w "internal/strconv.uint64pow10" .u64 Lib.pow10Tab
theorem Laid.up {H H' : GH} (h : Laid H) (hl : LE H H') : Laid H' := ⟨h.keys.up hl, h.ops.up hl, fun j k e => (h.kids j k e).mono hl, fun w hw => h.pow w ⟨fun b o e => hw.fro b o (hl b o e), fun i hi => by cases hi⟩⟩
theorem arrK : arrT Tryz.prog 195 = some (14, 9) := by kernel_rfl
theorem arrO : arrT Tryz.prog 174 = some (5, 9) := by kernel_rfl
theorem arrN : arrT Tryz.prog 173 = some (14, 3) := by kernel_rfl
theorem letter_ok (c : UInt8) (E : World) (H : GH) (L : List It) : Ok Tryz.prog 137 #[.int .u8 (c.toNat : Int)] E H L fun r H' L' => r = .bool (letterB c) ∧ H = H' ∧ L = L' := by
 refine enter (N := 11) [(0, _)] Tryz.func137 rfl rfl rfl rfl fun a w h => ?_
 refine au [1,2,0,6,0,2,0,0] h ?_; intro a w h
 refine orb (c := c) (c' := 32) h fun a w h => ?_
 refine ge h fun a w h => ?_
 refine h.spl (fun c5 h => ?_) (fun c5 h => ?_)
 ·refine au [0,0,0,0] h ?_; intro a w h
  refine orb (c := c) (c' := 32) h fun a w h => ?_
  refine au [6,5,4,8,0,6,0,3,1,3] h ?_; intro a w h
  refine fin1 2 0 h LE.rfl ?_
  exact ⟨by unfold letterB; rw [c5]; first | done | rfl, rfl, rfl⟩
 ·refine au [0,0,0,1,0,1,0,1,5,0,0,6,0,3,1,3] h ?_; intro a w h
  refine fin1 2 0 h LE.rfl ?_
  exact ⟨by unfold letterB; rw [c5]; first | done | rfl, rfl, rfl⟩
theorem Name_ok (s : Bs) (E : World) (H : GH) (L : List It) (hb : s.length < 1000000000000) : Ok Tryz.prog 120 #[str s] E H L fun r H' L' => r = .bool (nameB s) ∧ H = H' ∧ L = L' := by
 refine enter (N := 42) [(0, _)] Tryz.func120 rfl rfl rfl rfl fun a w h => ?_
 refine au [1,2,0,6,0,3,0,4,1,2,0,0,6,1,0,0,0,3,1,5] h ?_; intro a w h
 refine lp (β := Nat) (fun k a w => (k ≤ s.length ∧ ∀ j, j < k → okAt s j = true) ∧ S E H 42 [] [(7, .int .i64 (k : Int)), (6, .int .i64 (s.length : Int)), (0, str s)] (L) a w)
  (fun k => s.length - k) 0 ⟨⟨Nat.zero_le _, fun j hj => absurd hj (by omega)⟩, h.to 0 _⟩ ?_
 rintro k a w ⟨pre, h⟩
 refine au [1,2,6,4,0,3,0,4] h ?_; intro a w h
 refine cdB h (fun c8 => ?_) (fun c8 => ?_)
 ·have c8 : k < s.length := by simpa using c8
  obtain ⟨c, hc⟩ : ∃ c, s[k]? = some c := ⟨s[k], List.getElem?_eq_getElem c8⟩
  have hgd : s.getD k 0 = c := by simp [List.getD, hc]
  have hoc : okAt s k = (letterB c || (k != 0 && digitB c)) := by unfold okAt; rw [hgd]
  refine au [1,8,1,0,0,4,1,5,1,2,0,0,0,6,0,2,0,0,0,0] h ?_; intro a w h
  refine ix str9 rfl hc h fun a w h => ?_
  refine ge h fun a w h => ?_
  refine h.spl (fun c13 h => ?_) (fun c13 h => ?_)
  ·refine au [0,0,0,0,0,0] h ?_; intro a w h
   refine ix str9 rfl hc h fun a w h => ?_
   refine au [6,5,4,8,0,6,0,2,0,0,0,0] h ?_; intro a w h
   refine ix str9 rfl hc h fun a w h => ?_
   refine cl bod137 (letter_ok c E H _) h fun r23 H23 L23 a w le23 R h => ?_
   obtain ⟨rfl, rfl, rfl⟩ := R
   refine nt h fun a w h => ?_
   refine h.spl (fun c24 h => ?_) (fun c24 h => ?_)
   ·refine au [0,0,0,0,6,2] h ?_; intro a w h
    refine h.spl (fun c27 h => ?_) (fun c27 h => ?_)
    ·refine au [0,0,0,1,0,1,4,8,4,8,0,3] h ?_; intro a w h
     have hno : okAt s k = false := by rw [hoc]; (try simp at c8 c13 c24 c27); (try simp [digitB, c8, c13, c24, c27]); (try omega)
     refine au [2,0,1,2,0,6,0,3,1,3,1,6,1,4,1,4,1,6,1,4] h ?_; intro a w h
     refine fin1 2 0 h LE.rfl ?_
     exact ⟨by rw [nameB_no c8 hno], rfl, rfl⟩
    ·refine au [0,0,0,0,7,1,5,0,4,8,0,3] h ?_; intro a w h
     refine cdB h (fun c32 => ?_) (fun c32 => ?_)
     ·have hno : okAt s k = false := by rw [hoc]; (try simp at c8 c13 c24 c27 c32); (try simp [digitB, c8, c13, c24, c27, c32]); (try omega)
      refine au [1,2,0,6,0,3,1,3,1,6,1,4,1,4,1,6,1,4] h ?_; intro a w h
      refine fin1 2 0 h LE.rfl ?_
      exact ⟨by rw [nameB_no c8 hno], rfl, rfl⟩
     ·have hok : okAt s k = true := by rw [hoc]; (try simp at c8 c13 c24 c27 c32); (try simp [digitB, c8, c13, c24, c27, c32]); (try omega)
      refine au [1,8,1,7,1,0,0,5] h ?_
      refine inc ?_ h fun a w h => ?_
      ·omega
      refine au [0,0,0,3] h ?_; intro a w h
      exact ⟨(k + 1), ⟨⟨by omega, fun j hj => by rcases Nat.lt_succ_iff_lt_or_eq.1 hj with hj | rfl <;> first | exact hok | exact pre.2 _ hj⟩, h.to 0 _⟩, by show _ - (k + 1) < _ - k; omega⟩
   ·refine au [0,0,0,1,0,1,0,1,0,1,0,1,0,1,5,0,0,3] h ?_; intro a w h
    have hok : okAt s k = true := by rw [hoc]; (try simp at c8 c13 c24); (try simp [digitB, c8, c13, c24]); (try omega)
    refine au [2,1,1,8,1,7,1,0,0,5] h ?_
    refine inc ?_ h fun a w h => ?_
    ·omega
    refine au [0,0,0,3] h ?_; intro a w h
    exact ⟨(k + 1), ⟨⟨by omega, fun j hj => by rcases Nat.lt_succ_iff_lt_or_eq.1 hj with hj | rfl <;> first | exact hok | exact pre.2 _ hj⟩, h.to 0 _⟩, by show _ - (k + 1) < _ - k; omega⟩
  ·refine au [0,0,0,1,0,1,0,1,0,1,5,0,0,6,0,2,0,0,0,0] h ?_; intro a w h
   refine ix str9 rfl hc h fun a w h => ?_
   refine cl bod137 (letter_ok c E H _) h fun r23 H23 L23 a w le23 R h => ?_
   obtain ⟨rfl, rfl, rfl⟩ := R
   refine nt h fun a w h => ?_
   refine h.spl (fun c24 h => ?_) (fun c24 h => ?_)
   ·refine au [0,0,0,0,6,2] h ?_; intro a w h
    refine h.spl (fun c27 h => ?_) (fun c27 h => ?_)
    ·refine au [0,0,0,1,0,1,4,8,4,8,0,3] h ?_; intro a w h
     have hno : okAt s k = false := by rw [hoc]; (try simp at c8 c13 c24 c27); (try simp [digitB, c8, c13, c24, c27]); (try omega)
     refine au [2,0,1,2,0,6,0,3,1,3,1,6,1,4,1,4,1,6,1,4] h ?_; intro a w h
     refine fin1 2 0 h LE.rfl ?_
     exact ⟨by rw [nameB_no c8 hno], rfl, rfl⟩
    ·refine au [0,0,0,0,7,1,5,0,4,8,0,3] h ?_; intro a w h
     refine cdB h (fun c32 => ?_) (fun c32 => ?_)
     ·have hno : okAt s k = false := by rw [hoc]; (try simp at c8 c13 c24 c27 c32); (try simp [digitB, c8, c13, c24, c27, c32]); (try omega)
      refine au [1,2,0,6,0,3,1,3,1,6,1,4,1,4,1,6,1,4] h ?_; intro a w h
      refine fin1 2 0 h LE.rfl ?_
      exact ⟨by rw [nameB_no c8 hno], rfl, rfl⟩
     ·have hok : okAt s k = true := by rw [hoc]; (try simp at c8 c13 c24 c27 c32); (try simp [digitB, c8, c13, c24, c27, c32]); (try omega)
      refine au [1,8,1,7,1,0,0,5] h ?_
      refine inc ?_ h fun a w h => ?_
      ·omega
      refine au [0,0,0,3] h ?_; intro a w h
      exact ⟨(k + 1), ⟨⟨by omega, fun j hj => by rcases Nat.lt_succ_iff_lt_or_eq.1 hj with hj | rfl <;> first | exact hok | exact pre.2 _ hj⟩, h.to 0 _⟩, by show _ - (k + 1) < _ - k; omega⟩
   ·refine au [0,0,0,1,0,1,0,1,0,1,0,1,0,1,5,0,0,3] h ?_; intro a w h
    have hok : okAt s k = true := by rw [hoc]; (try simp at c8 c13 c24); (try simp [digitB, c8, c13, c24]); (try omega)
    refine au [2,1,1,8,1,7,1,0,0,5] h ?_
    refine inc ?_ h fun a w h => ?_
    ·omega
    refine au [0,0,0,3] h ?_; intro a w h
    exact ⟨(k + 1), ⟨⟨by omega, fun j hj => by rcases Nat.lt_succ_iff_lt_or_eq.1 hj with hj | rfl <;> first | exact hok | exact pre.2 _ hj⟩, h.to 0 _⟩, by show _ - (k + 1) < _ - k; omega⟩
 ·have hk : k = s.length := by simp at c8; omega
  have hall : ∀ j, j < s.length → okAt s j = true := by rw [← hk]; exact pre.2
  refine au [2,5,2,2,2,2,2,3,1,0,1,2,0,0,6,1,6,6] h ?_; intro a w h
  refine h.spl (fun c36 h => ?_) (fun c36 h => ?_)
  ·refine au [0,0,0,0,6,1,6,5,4,8,0,6,0,3,1,3] h ?_; intro a w h
   refine fin1 2 0 h LE.rfl ?_
   exact ⟨by rw [nameB_yes hall, c36]; first | done | rfl, rfl, rfl⟩
  ·refine au [0,0,0,1,0,1,0,1,5,0,0,6,0,3,1,3] h ?_; intro a w h
   refine fin1 2 0 h LE.rfl ?_
   exact ⟨by rw [nameB_yes hall, c36]; first | done | rfl, rfl, rfl⟩
theorem Index_ok (ss : List Bs) (s : Bs) (A : Option Addr) (c : Nat) (E : World) (H : GH) (L : List It) (hss : SS H A c ss) (hb : ss.length < 1000000000000) :
   Ok Tryz.prog 26 #[.slice A ss.length c, str s] E H L fun r H' L' => r = .int .i64 (indexL ss s) ∧ H = H' ∧ L = L' := by
 refine enter (N := 19) [(0, _), (1, _)] Tryz.func26 rfl rfl rfl rfl fun a w h => ?_
 refine au [1,2,0,6,0,3,0,4,1,2,0,0,6,0,0,0,0,3,1,5] h ?_; intro a w h
 refine lp (β := Nat) (fun k a w => (k ≤ ss.length ∧ ∀ j (hj : j < ss.length), j < k → ss[j] ≠ s) ∧ S E H 19 [] [(8, .int .i64 (k : Int)), (6, .slice A ss.length c), (7, .int .i64 (ss.length : Int)), (0, .slice A ss.length c), (1, str s)] (L) a w)
  (fun k => ss.length - k) 0 ⟨⟨Nat.zero_le _, fun j hj h0 => absurd h0 (by omega)⟩, h.to 0 _⟩ ?_
 rintro k a w ⟨pre, h⟩
 refine au [1,2,6,4,0,3,0,4] h ?_; intro a w h
 refine cdB h (fun c9 => ?_) (fun c9 => ?_)
 ·have c9 : k < ss.length := by simpa using c9
  obtain ⟨g, off, rfl, hcell⟩ := hss.get c9
  refine au [1,8,1,0,0,4,1,5,1,2,0,0,0,6,0,2,0,0,0,0,0,0] h ?_; intro a w h
  refine ia sli70 sz9 rfl c9 h fun a w h => ?_
  refine ldH t1_9 hcell h fun a w h => ?_
  refine au [6,8,0,3] h ?_; intro a w h
  refine cdB h (fun c16 => ?_) (fun c16 => ?_)
  ·have hfact : indexL ss s = (k : Int) := indexL_at c9 (fun j hj hjk => pre.2 j hj hjk) (of_decide_eq_true c16).symm
   refine au [1,2,0,0,0,6,0,3,1,3,1,6,1,4,1,4,1,6,1,4] h ?_; intro a w h
   refine fin1 4 0 h LE.rfl ?_
   exact ⟨by rw [hfact], rfl, rfl⟩
  ·have hne : ss[k] ≠ s := fun e => of_decide_eq_false c16 e.symm
   refine au [1,8,1,7,1,0,0,5] h ?_
   refine inc ?_ h fun a w h => ?_
   ·omega
   refine au [0,0,0,3] h ?_; intro a w h
   exact ⟨(k + 1), ⟨⟨by omega, fun j hj hjk => by rcases Nat.lt_succ_iff_lt_or_eq.1 hjk with h0 | rfl <;> first | exact hne | exact pre.2 j hj h0⟩, h.to 0 _⟩, by show _ - (k + 1) < _ - k; omega⟩
 ·have hk : k = ss.length := by simp at c9; omega
  have hfact : indexL ss s = -1 := indexL_no fun j hj => pre.2 j hj (by omega)
  refine au [2,5,2,2,2,2,2,3,1,0,1,2,0,6,0,3,1,3] h ?_; intro a w h
  refine fin1 4 0 h LE.rfl ?_
  exact ⟨by rw [hfact], rfl, rfl⟩
theorem Contains_ok (ss : List Bs) (s : Bs) (A : Option Addr) (c : Nat) (E : World) (H : GH) (L : List It) (hss : SS H A c ss) (hb : ss.length < 1000000000000) :
   Ok Tryz.prog 31 #[.slice A ss.length c, str s] E H L fun r H' L' => r = .bool (ss.contains s) ∧ H = H' ∧ L = L' := by
 refine enter (N := 9) [(0, _), (1, _)] Tryz.func31 rfl rfl rfl rfl fun a w h => ?_
 refine au [1,2,0,6,0,2,0,0,0,0] h ?_; intro a w h
 refine cl bod26 (Index_ok ss s A c E H _ hss hb) h fun r7 H7 L7 a w le7 R h => ?_
 obtain ⟨rfl, rfl, rfl⟩ := R
 refine au [6,7,0,6,0,3,1,3] h ?_; intro a w h
 refine fin1 4 0 h LE.rfl ?_
 exact ⟨by rw [← indexL_ge], rfl, rfl⟩
theorem Keyword_ok (s : Bs) (E : World) (H : GH) (L : List It) (hL : Laid H) :
   Ok Tryz.prog 121 #[str s] E H L fun r H' L' => r = .bool (keywordB s) ∧ H = H' ∧ L = L' := by
 refine enter (N := 6) [(0, _)] Tryz.func121 rfl rfl rfl rfl fun a w h => ?_
 refine au [1,2,0,6,0,2] h ?_; intro a w h
 refine sla arrK sz9 h fun a w h => ?_
 refine mv h fun a w h => ?_
 refine cl bod31 (Contains_ok keysL s _ 14 E H _ hL.keys (by decide)) h fun r5 H5 L5 a w le5 R h => ?_
 obtain ⟨rfl, rfl, rfl⟩ := R
 refine au [0,6,0,3,1,3] h ?_; intro a w h
 refine fin1 2 0 h LE.rfl ?_
 exact ⟨rfl, rfl, rfl⟩
theorem lv_get {P : Program} {w : World} {n : String} {d : DataW Unit} : ∀ {l : List (String × DataW Unit)} {ps : List MemPlace}, DataW.LaidVars P w l ps → (n, d) ∈ l →
   ∃ g t cs fuel p, P.globalNamed n = some g ∧ (P.globals[g]?).map (·.type) = some t ∧ w.var? P n = some cs ∧ DataW.trod (fun _ => ()) P w 0 (fun _ => true) false fuel t cs.toList = some (d, p)
 | [], _, _, hm => by cases hm
 | (n', d') :: l, ps, h, hm => by
   obtain ⟨g, t, cs, fuel, p, q, h1, h2, h3, h4, h5, h6⟩ := h
   cases hm with
   | head => exact ⟨g, t, cs, fuel, p, h1, h2, h3, h4⟩
   | tail _ hm => exact lv_get h5 hm
theorem str_cells {P : Program} {w : World} {fuel t e n : Nat} {cs : List Value} {ss : List Bs} {p : List MemPlace} (ht : P.underlying t = some (.array n e)) (he : P.underlying e = some .string) (hc : P.cellsOf e = 1)
   (h : DataW.trod (fun _ => ()) P w 0 (fun _ => true) false fuel t cs = some (.agg (ss.map fun s => .lit (.string s)), p)) : ∀ (i : Nat) (s : Bs), ss[i]? = some s → cs[i]? = some (str s) := by
 obtain ⟨xs, m, rfl, hx, hl, hlen, hf⟩ := DataW.trod_array ht h
 intro i s hs
 have hmap : ss.map (fun s => DataW.lit (H := Unit) (.string s)) = xs.map (·.1) := by
   have := congrArg Prod.fst hx
   simpa using this
 have hxi : (xs.map (·.1))[i]? = some (.lit (.string s)) := by rw [← hmap]; simp [hs]
 rw [List.getElem?_map, Option.map_eq_some_iff] at hxi
 obtain ⟨y, hy, hys⟩ := hxi
 have hi : i < n := by have := (List.getElem?_eq_some_iff.1 hy).1; omega
 have hg := hf i hi
 rw [hy, hc] at hg
 obtain ⟨b, e0, hyb, _⟩ := DataW.trod_string he hg
 have := piece e0 rfl 0 (by omega)
 rw [Nat.add_zero, Nat.mul_one] at this
 rw [this]
 have hb : b.data.toList = s := by rw [hyb] at hys; simpa using hys
 rw [← hb, ← str_ba]; rfl
theorem ss_of {w : World} {g n : Nat} {cs : Array Value} {ss : List Bs} (hg : ∀ i : Nat, w.cell? ⟨g, i, none⟩ = cs[i]?) (h : ∀ (i : Nat) (s : Bs), ss[i]? = some s → cs.toList[i]? = some (str s)) (hn : n = ss.length) : SS (HW w) (some ⟨g, 0, none⟩) n ss := by
 subst hn
 refine ⟨_, _, rfl, Nat.le_refl _, fun j s hs => ⟨g, 0, [str s], rfl, rfl, rfl, fun i u hu => ?_⟩⟩
 cases i with
 | zero =>
   simp at hu; subst hu
   refine hc_of ?_
   rw [hg]
   have := h j s hs
   simpa using this
 | succ i => simp at hu
theorem laid_of {l : List (String × DataW Unit)} {ps : List MemPlace} {W : World} (h : DataW.LaidVars Tryz.prog W l ps) (h1 : ("internal/strconv.uint64pow10", Rows.laid_internal_strconv_uint64pow10) ∈ l) (h2 : ("chancel/lex.keys", Rows.laid_chancel_lex_keys) ∈ l)
   (h3 : ("chancel/term.kids", Rows.laid_chancel_term_kids) ∈ l) (h4 : ("chancel/term.ops", Rows.laid_chancel_term_ops) ∈ l) : Laid (HW W) := by
 refine ⟨?_, ?_, ?_, ?_⟩
 · obtain ⟨g, t, cs, fuel, p, hg, hty, hvar, htr⟩ := lv_get h h2
   obtain rfl : g = 3 := Option.some.inj (hg.symm.trans (show Tryz.prog.globalNamed "chancel/lex.keys" = some 3 by kernel_rfl))
   obtain rfl : t = 195 := Option.some.inj (hty.symm.trans (show (Tryz.prog.globals[3]?).map (·.type) = some 195 by kernel_rfl))
   exact ss_of (World.var?_cell hg hvar) (str_cells (ss := keysL) Tryz.underlying195 Tryz.underlying9 c1s htr) rfl
 · obtain ⟨g, t, cs, fuel, p, hg, hty, hvar, htr⟩ := lv_get h h4
   obtain rfl : g = 2 := Option.some.inj (hg.symm.trans (show Tryz.prog.globalNamed "chancel/term.ops" = some 2 by kernel_rfl))
   obtain rfl : t = 174 := Option.some.inj (hty.symm.trans (show (Tryz.prog.globals[2]?).map (·.type) = some 174 by kernel_rfl))
   exact ss_of (World.var?_cell hg hvar) (str_cells (ss := opsL) Tryz.underlying174 Tryz.underlying9 c1s htr) rfl
 · obtain ⟨g, t, cs, fuel, p, hg, hty, hvar, htr⟩ := lv_get h h3
   obtain rfl : g = 1 := Option.some.inj (hg.symm.trans (show Tryz.prog.globalNamed "chancel/term.kids" = some 1 by kernel_rfl))
   obtain rfl : t = 173 := Option.some.inj (hty.symm.trans (show (Tryz.prog.globals[1]?).map (·.type) = some 173 by kernel_rfl))
   have hcs := Lib.cells_of_tab (zs := kidsL) (k := .i64) Tryz.underlying173 Tryz.underlying3 c1i (by kernel_rfl) htr
   intro j k hk
   refine hc_of ?_
   rw [World.var?_cell hg hvar, ← Array.getElem?_toList, hcs]
   simp [hk]
 · obtain ⟨g, t, cs, fuel, p, hg, hty, hvar, htr⟩ := lv_get h h1
   obtain rfl : t = 170 := by
     have hg2 : g = 0 := Option.some.inj (hg.symm.trans (show Tryz.prog.globalNamed "internal/strconv.uint64pow10" = some 0 by kernel_rfl))
     subst hg2
     exact Option.some.inj (hty.symm.trans (show (Tryz.prog.globals[0]?).map (·.type) = some 170 by kernel_rfl))
   have hcs := Lib.cells_of_tab (zs := Lib.pow10Tab) (k := .u64) Tryz.underlying170 Tryz.underlying111 (by kernel_rfl) (by kernel_rfl) htr
   intro w hw
   unfold Lib.TabIs
   unfold World.var? at hvar ⊢
   rw [hg] at hvar ⊢
   simp only [Option.bind_some] at hvar ⊢
   split at hvar
   · rename_i c e z hc
     cases hvar
     have := hw.fro g _ hc
     rw [this]
     simp only
     rw [← hcs]
   · cases hvar
end Go.Proofs.YtdabamobjciidaaGreatDoor
namespace Go.Proofs.YtdabamobjciidaaGreatDoor
open Go X Go.ChangeShapes Go.WideShapes Go.ChangeAt
theorem below_of {W W' : World} {H' : GH} {L' : List It} (hl : LE (HW W) H') (h : St W H' L' W') : RowKit.Below W.heap.size W W' where
 os := h.os
 tape := h.tape
 output := h.output
 size := by
   rcases Nat.eq_zero_or_pos W.heap.size with h0 | h0
   · omega
   · have := h.size_le (b := W.heap.size - 1) (o := W.heap[W.heap.size - 1]'(by omega)) (hl _ _ (by unfold HW; exact Array.getElem?_eq_getElem _))
     omega
 block := fun k hk => by
   have h1 : HW W k = some (W.heap[k]'hk) := Array.getElem?_eq_getElem _
   rw [h.fro k _ (hl _ _ h1)]; exact h1.symm
theorem kept_of {W W' : World} {may : MemPlace → Prop} (h : RowKit.Below W.heap.size W W') : W.keptBut W' may := by
 refine ⟨h.os, h.output, fun i hi => ?_⟩
 rw [h.block i hi]
 cases hx : W.heap[i]? with
 | none => rfl
 | some o => cases o <;> first | exact ⟨rfl, rfl, rfl, fun _ _ => rfl⟩ | exact .inr ⟨rfl, rfl⟩ | rfl
theorem post_true {H : Type} {enc : TypeId × Value → H} {P : Program} {f : Func} {s : ChangeSpec} {apart fresh handsOn again : Bool} {W W' : World} {args : Array Value} {ds gs : List (DataW H)} {before : List MemPlace}
   (hW : DataW.Whole enc P f.params.toList s.vars apart W args.toList ds gs before) (hv : s.vars = []) (hfn : (s.fn H (ds ++ gs)).results = [.lit (.bool true)]) (hfa : (s.fn H (ds ++ gs)).args = ds) (hfv : (s.fn H (ds ++ gs)).vars = [])
   (hb : RowKit.Below W.heap.size W W') (hlo : laidOutB P = true) (hrd : ∀ t ∈ f.params.toList, P.readableRec t = true ∧ t < P.types.size) (hrt : f.resultTypes = #[4]) (hu4 : P.underlying 4 = some .bool) : s.post enc P f apart fresh handsOn again W args (.bool true) W' := by
 have hW' := hW
 obtain ⟨p, q, hA, hV, rfl, hz, hn⟩ := hW
 have hq : q = [] := by
   rw [hv] at hV
   cases gs with
   | nil => exact hV
   | cons g gs => exact hV.elim
 subst hq
 have hlt : ∀ x ∈ p, x.block < W.heap.size := fun x hx => hW'.lt x (by simpa using hx)
 have hargs : ∀ sp : Nat → Bool, (∀ x ∈ p, sp x.block = true) → DataW.TrodAll enc P W' 0 sp true f.params.toList args.toList ds p := by
   intro sp hsp
   clear hW' hz hn hfa hfn hfv
   generalize f.params.toList = ts at hA hrd
   generalize args.toList = vs at hA
   induction ts generalizing vs ds p with
   | nil => cases vs <;> cases ds <;> first | exact hA | exact hA.elim
   | cons t ts ih =>
     cases vs with
     | nil => exact hA.elim
     | cons v vs =>
       cases ds with
       | nil => exact hA.elim
       | cons d ds =>
         obtain ⟨p1, p2, h1, h2, rfl⟩ := hA
         refine ⟨p1, p2, WideElems.Trod_stays hlo (hrd t (List.mem_cons_self ..)).1 (hrd t (List.mem_cons_self ..)).2 h1 (fun x hx => hb.same (hlt x (by simp [hx]))) (fun x hx => hsp x (by simp [hx])), ?_, rfl⟩
         exact ih p2 (fun x hx => hlt x (by simp [hx])) (fun x hx => hsp x (by simp [hx])) (fun t ht => hrd t (List.mem_cons_of_mem _ ht)) vs h2
 have hres : ∀ (b : Nat) (sp : Nat → Bool) (hd : Bool), DataW.TrodAll enc P W' b sp hd f.resultTypes.toList ((Value.bool true).resultList f.resultTypes.size) [.lit (.bool true)] [] := by
   intro b sp hd
   rw [hrt]
   exact ⟨[], [], ⟨1, by simp [DataW.trod, hu4, Value.cells]⟩, rfl, rfl⟩
 refine ⟨ds, gs, p ++ [], [], p, [], hW', ?_, ?_, ?_, World.keptBut_mono (fun x hx => ⟨hx, .inr (.inl (by simpa using hx))⟩) (kept_of (may := (· ∈ p ++ [])) hb), fun _ => ?_⟩
 · rw [hfn]; exact hres _ _ _
 · rw [hfa]; exact hargs _ (fun x hx => by simpa using hlt x hx)
 · rw [hv, hfv]; exact rfl
 · refine ⟨fun j t r h1 h2 => ?_, [.lit (.bool true)] ++ ds, [], [] ++ p, ⟨[] ++ p, [], trodAll_append (hargs _ (fun _ _ => rfl)) (hres _ _ _), by rw [hv]; exact rfl, by simp, fun b off hx => ?_, fun ha => by have := hn ha; simpa using this⟩, fun x hx _ => by simpa using hx⟩
   · rw [hrt] at h1 h2
     cases j with
     | zero =>
       simp at h1 h2
       subst h1
       have h3 : r = .bool true := by
         have : ((Value.bool true).resultList 1)[0]? = some r := h2
         simp [Value.resultList] at this; exact this.symm
       subst h3
       simp [Value.okWide, hu4, Cell.okWide, Cell.ok]
     | succ j => simp at h1
   · have hx' : MemPlace.cell b off ∈ p := by simpa using hx
     have h4 := hz b off (by simpa using hx')
     have h5 : b < W.heap.size := hlt _ hx'
     unfold World.frozen? at h4 ⊢
     simp only at h4 ⊢
     rw [hb.block b h5]; exact h4
end Go.Proofs.YtdabamobjciidaaGreatDoor
namespace Go.Proofs.YtdabamobjciidaaGreatDoor.X
open Go
section
variable {P : Program} {ops : Array Oper} {Q : Exit → Act → World → Prop} {γ : Gd P ops Q} {rest : List Oper} {o : Oper} {E w : World} {H : GH} {N : Nat} {D : List Deferred} {F : List (Nat × Value)} {L : List It} {a : Act}
variable {t u : TypeId} {x y : Operand} {d : Nat} {g off : Nat}
theorem iaE {e sz n c j : Nat} {i : Int} {kd : IntKind} {A : Option Addr} (hs : sliT P t = some e) (hz : szT P e sz = true) (hi : i = j) (hj : j < n) (hA : A = some ⟨g, off, none⟩) (h : S E H N D F L a w)
   (k : ∀ a w, S E H N D ((d, .pointer (some ⟨g, off + j * sz, none⟩)) :: F) L a w → γ.G rest a w)
   (ho : o.op = .indexAddr t x y := by rfl) (hx : ev F x = some (.slice A n c) := by rfl) (hy : ev F y = some (.int kd i) := by rfl)
   (hw : wn ops F o = some true := by rfl) (hd : o.dst = some d := by rfl) (hN : Nat.blt d N = true := by rfl) : γ.G (o :: rest) a w := by
 subst hA
 exact ia hs hz hi hj h k ho hx hy hw hd hN
end
theorem sbL {H : GH} {g o : Nat} {l : List Value} (k n : Nat) (h : ∀ i u, l[i]? = some u → Hc H g (o + i) u) : ∀ i u, ((l.drop k).take n)[i]? = some u → Hc H g (o + k + i) u := fun i u hu => by
 rw [List.getElem?_take] at hu
 split at hu
 · rw [List.getElem?_drop] at hu
   have := h (k + i) u hu
   rwa [← Nat.add_assoc] at this
 · cases hu
def RInt (_H : GH) (cs : List Value) (n : Int) : Prop := cs = [.int .i64 n]
abbrev IS (H : GH) (A : Option Addr) (c : Nat) (ns : List Int) : Prop := RS RInt 1 H (.slice A ns.length c) ns
theorem IS.get {H : GH} {A : Option Addr} {c : Nat} {ns : List Int} (h : IS H A c ns) {j : Nat} (hj : j < ns.length) : ∃ g off, A = some ⟨g, off, none⟩ ∧ Hc H g (off + j * 1) (.int .i64 ns[j]) := by
 obtain ⟨g, off, cs, hA, hl, hr, hc⟩ := RS.at_ h (List.getElem?_eq_getElem hj)
 unfold RInt at hr; subst hr
 exact ⟨g, off, hA, by simpa using hc 0 _ rfl⟩
def RU8 (_H : GH) (cs : List Value) (n : UInt8) : Prop := cs = [.int .u8 (n.toNat : Int)]
abbrev US (H : GH) (A : Option Addr) (c : Nat) (ns : List UInt8) : Prop := RS RU8 1 H (.slice A ns.length c) ns
theorem US.up {H H' : GH} {A : Option Addr} {c : Nat} {ns : List UInt8} (h : US H A c ns) (hl : LE H H') : US H' A c ns := RS.mono h hl fun _ _ _ h => h
theorem US.get {H : GH} {A : Option Addr} {c : Nat} {ns : List UInt8} (h : US H A c ns) {j : Nat} (hj : j < ns.length) : ∃ g off, A = some ⟨g, off, none⟩ ∧ Hc H g (off + j * 1) (.int .u8 (ns[j].toNat : Int)) := by
 obtain ⟨g, off, cs, hA, hl, hr, hc⟩ := RS.at_ h (List.getElem?_eq_getElem hj)
 unfold RU8 at hr; subst hr
 exact ⟨g, off, hA, by simpa using hc 0 _ rfl⟩
theorem rstr_row {H : GH} : ∀ ss : List (List UInt8), RowR RStr 1 H (ss.map fun s => .string ⟨s.toArray⟩) ss
 | [] => RowR.nil
 | s :: ss => by
   have := (RowR.one (R := RStr) (sz := 1) (H := H) (cs := [.string ⟨s.toArray⟩]) (y := s) rfl rfl).app (rstr_row ss)
   simpa using this
def eqv : Nat → Value → Value → Option Bool
 | 0, .int k a, .int k' b => if k = k' then some (a == b) else none
 | 1, .bool a, .bool b => some (a == b)
 | 2, .string a, .string b => some (decide (a.data.toList = b.data.toList))
 | _, _, _ => none
def eqCells : List Nat → List Value → List Value → Option Bool
 | [], [], [] => some true
 | k :: ks, x :: xs, y :: ys => match eqv k x y, eqCells ks xs ys with
   | some a, some b => some (a && b)
   | _, _ => none
 | _, _, _ => none
def kOf (P : Program) (t : TypeId) : Option Nat := match P.underlying t with
 | some (.int _) => some 0
 | some .bool => some 1
 | some .string => some 2
 | _ => none
def flatFs (P : Program) : Nat → List Field → Option (List Nat)
 | _, [] => some []
 | i, f :: fs => if f.name != "_" && f.offset == i then match kOf P f.type, flatFs P (i + 1) fs with
   | some k, some ks => some (k :: ks)
   | _, _ => none else none
def flatT (P : Program) (t : TypeId) : Option (List Nat) := match P.underlying t with
 | some (.struct fs) => if !P.stoodInHeld t && !P.eqGuardType P.depth t then flatFs P 0 fs.toList else none
 | _ => none
section
variable {P : Program}
theorem kOf_part {t : TypeId} {k : Nat} (ht : kOf P t = some k) {cs : Array Value} {i : Nat} {v : Value} (hv : cs[i]? = some v) (w : World) : (part t cs i).run P w = .ok v w := by
 have hagg : (isAgg t).run P w = .ok false w := by
   unfold kOf at ht
   split at ht <;> first | (rename_i q; simp [isAgg, run_underlying q]) | cases ht
 simp [part, hagg, hv]
theorem eqv_run {t : TypeId} {k : Nat} (ht : kOf P t = some k) {x y : Value} {b : Bool} (hb : eqv k x y = some b) (d : Nat) (w : World) : (Op.equalIn (d + 1) t x y).run P w = .ok b w := by
 unfold kOf at ht
 unfold eqv at hb
 split at hb
 · rename_i k1 a k2 c
   split at ht <;> cases ht
   split at hb
   · rename_i q hq e; subst e
     simp at hb; subst hb
     exact run_equalIn_int w d t k1 q a c hq
   · cases hb
 · split at ht <;> cases ht
   rename_i hq
   simp at hb; subst hb
   exact run_equalIn_bool' w d t _ _ hq
 · rename_i a c
   split at ht <;> cases ht
   rename_i hq
   simp at hb; subst hb
   rw [run_equalIn_string w d t a c hq]
   congr 1
   rw [ByteArray.toList_eq, ByteArray.toList_eq]
   rw [Bool.eq_iff_iff]; simp
 · cases hb
theorem eqFields_run (xs ys : Array Value) (d : Nat) (w : World) : ∀ (fs : List Field) (i : Nat) (ks : List Nat) (b : Bool), flatFs P i fs = some ks → eqCells ks (xs.toList.drop i) (ys.toList.drop i) = some b → (Op.eqFields (d + 1) xs ys fs).run P w = .ok b w
 | [], i, ks, b, h, hb => by
   simp [flatFs] at h; subst h
   unfold eqCells at hb
   split at hb <;> simp_all [Op.eqFields]
 | f :: fs, i, ks, b, h, hb => by
   simp only [flatFs] at h
   split at h
   · rename_i hc
     simp only [bne_iff_ne, ne_eq, Bool.and_eq_true, beq_iff_eq] at hc
     split at h
     · rename_i k ks' h1 h2
       cases h
       generalize e1 : xs.toList.drop i = xl at hb
       generalize e2 : ys.toList.drop i = yl at hb
       cases xl with
       | nil => simp [eqCells] at hb
       | cons x xs' =>
       cases yl with
       | nil => simp [eqCells] at hb
       | cons y ys' =>
         simp only [eqCells] at hb
         split at hb
         · rename_i a b' h3 h4
           cases hb
           have hx : xs[i]? = some x := by
             have := congrArg (fun l => l[0]?) e1; simpa using this
           have hy : ys[i]? = some y := by
             have := congrArg (fun l => l[0]?) e2; simpa using this
           have hxs : xs' = xs.toList.drop (i + 1) := by
             have := congrArg List.tail e1; simpa using this.symm
           have hys : ys' = ys.toList.drop (i + 1) := by
             have := congrArg List.tail e2; simpa using this.symm
           subst hxs; subst hys
           have ih := eqFields_run xs ys d w fs (i + 1) ks' b' h2 h4
           simp only [Op.eqFields, ne_eq, hc.1, not_false_eq_true, if_true, hc.2]
           simp only [Sem.run_bind, kOf_part h1 hx, kOf_part h1 hy, Result.andThen_ok, eqv_run h1 h3]
           cases a
           · simp
           · simpa using ih
         · cases hb
     · cases h
   · cases h
theorem flat_of {t : TypeId} {ks : List Nat} (h : flatT P t = some ks) : ∃ fs, P.underlying t = some (.struct fs) ∧ P.fieldsOf t = fs ∧ P.stoodInHeld t = false ∧ P.eqGuardType P.depth t = false ∧ flatFs P 0 fs.toList = some ks := by
 unfold flatT at h
 split at h
 · rename_i fs hu
   split at h
   · rename_i hc
     simp at hc
     exact ⟨fs, hu, by simp [Program.fieldsOf, hu], hc.1, hc.2, h⟩
   · cases h
 · cases h
theorem eq_agg_run {t : TypeId} {ks : List Nat} {xs ys : Array Value} {b : Bool} (h : flatT P t = some ks) (hb : eqCells ks xs.toList ys.toList = some b) (w : World) : (Op.equalIn 10000 t (.agg xs) (.agg ys)).run P w = .ok b w := by
 obtain ⟨fs, h1, h2, h3, _, h5⟩ := flat_of h
 rw [run_equalIn_agg w 9999 t xs ys (by rw [h1, h2]) h3, h2]
 exact eqFields_run xs ys 9998 w fs.toList 0 ks b h5 (by simpa using hb)
variable {ops : Array Oper} {Q : Exit → Act → World → Prop} {γ : Gd P ops Q} {rest : List Oper} {o : Oper} {E w : World} {H : GH} {N : Nat} {D : List Deferred} {F : List (Nat × Value)} {L : List It} {a : Act}
variable {t u : TypeId} {x y : Operand} {d : Nat} {xs ys : Array Value} {ks : List Nat} {b : Bool}
theorem nea (hf : flatT P t = some ks) (h : S E H N D F L a w) (k : ∀ a w, S E H N D ((d, .bool (!b)) :: F) L a w → γ.G rest a w)
   (ho : o.op = .binOp .neq t x y u := by rfl) (hx : ev F x = some (.agg xs) := by rfl) (hy : ev F y = some (.agg ys) := by rfl) (hb : eqCells ks xs.toList ys.toList = some b := by rfl)
   (hw : wn ops F o = some true := by rfl) (hd : o.dst = some d := by rfl) (hN : Nat.blt d N = true := by rfl) : γ.G (o :: rest) a w :=
 bo (fun w => by
   obtain ⟨_, _, _, _, h4, _⟩ := flat_of hf
   rw [Sem.run_bind, run_eqGuard_agg w _ t x y xs ys h4, Result.andThen_ok, run_neq_struct, eq_agg_run hf hb]; rfl) h k ho hx hy hw hd hN
end
section
variable {P : Program} {ops : Array Oper} {Q : Exit → Act → World → Prop} {γ : Gd P ops Q} {rest : List Oper} {o : Oper} {E w : World} {H : GH} {N : Nat} {D : List Deferred} {F : List (Nat × Value)} {L : List It} {a : Act}
variable {t u : TypeId} {x y : Operand} {d : Nat} {g off : Nat} {v : Value}
theorem apn (kr kb : Nat) {e sz by_ n m : Nat} {xs : List Value} {ty' : TypeId} {z : Nat × Nat} {L' : It → List It} (news : List Value) (n' : Nat) (hn' : n + m = n') (ht : rowT P t e sz by_ = true) (h : S E H N D F L a w)
   (hb : n' * by_ ≤ 140737488355328) (h63 : n' ≤ 4611686018427387904)
   (k : ∀ v' a w, v'.oneCell' = true → S E H N D ((d, v') :: F) (L' (.row v' e sz n' (xs ++ news))) a w → γ.G rest a w)
   (hL : ∀ i, L.set kr i = L' i := by intro _; rfl) (hkr : L[kr]? = some (.row v e sz n xs) := by rfl) (hkb : L[kb]? = some (.obj g (.cells news.toArray ty' z)) := by rfl)
   (hl : news.length = m * sz := by rfl) (h1 : news.all (·.oneCell') = true := by rfl)
   (ho : o.op = .call { callee := .builtin .append, args := #[x, y], argTypes := #[t, t] } := by rfl) (hx : ev F x = some v := by rfl) (hy : ev F y = some (.slice (some ⟨g, 0, none⟩) m m) := by rfl)
   (hw : wn ops F o = some true := by rfl) (hd : o.dst = some d := by rfl) (hN : Nat.blt d N = true := by rfl) (hE : γ.isE rest.length = true := by rfl) (hS : γ.isN rest.length = true → ∀ v' w, St E H (L' (.row v' e sz n' (xs ++ news))) w → γ.S w := by first | exact fun e => Bool.noConfusion (show false = true from e) | exact fun _ _ _ hw => hw.sees' LE.rfl (by simp) | exact fun _ _ _ hw => hw.sees' (by assumption) (by simp)) : γ.G (o :: rest) a w := by
 subst hn'
 exact apb kr kb news ht h hb h63 k hL hkr hkb hl h1 ho hx hy hw hd hN hE hS
theorem apsn {α : Type} {R : GH → List Value → α → Prop} (kr : Nat) {e sz by_ n : Nat} {xs : List Value} {ys : List α} {vy : Value} {L' : It → List It} (n' : Nat) (hn' : n + ys.length = n') (ht : rowT P t e sz by_ = true) (hs : RS R sz H vy ys) (hone : ∀ cs y, y ∈ ys → R H cs y → ∀ u ∈ cs, u.oneCell' = true)
   (h : S E H N D F L a w) (hb : n' * by_ ≤ 140737488355328) (h63 : n' ≤ 4611686018427387904)
   (k : ∀ v' news a w, v'.oneCell' = true → RowR R sz H news ys → S E H N D ((d, v') :: F) (L' (.row v' e sz n' (xs ++ news))) a w → γ.G rest a w)
   (hL : ∀ i, L.set kr i = L' i := by intro _; rfl) (hkr : L[kr]? = some (.row v e sz n xs) := by rfl)
   (ho : o.op = .call { callee := .builtin .append, args := #[x, y], argTypes := #[t, t] } := by rfl) (hx : ev F x = some v := by rfl) (hy : ev F y = some vy := by rfl)
   (hw : wn ops F o = some true := by rfl) (hd : o.dst = some d := by rfl) (hN : Nat.blt d N = true := by rfl)
   (hE : γ.isE rest.length = true := by rfl) (hS : γ.isN rest.length = true → ∀ v' news w, St E H (L' (.row v' e sz n' (xs ++ news))) w → γ.S w := by first | exact fun e => Bool.noConfusion (show false = true from e) | exact fun _ _ _ _ hw => hw.sees' LE.rfl (by simp) | exact fun _ _ _ _ hw => hw.sees' (by assumption) (by simp)) : γ.G (o :: rest) a w := by
 subst hn'
 exact aps kr ht hs hone h hb h63 k hL hkr ho hx hy hw hd hN hE hS
end
def intT (P : Program) (t : TypeId) : Option IntKind := match P.underlying t with
 | some (.int k) => some k
 | _ => none
theorem und_int {P : Program} {t : TypeId} {k : IntKind} (h : intT P t = some k) : P.underlying t = some (.int k) := by
 unfold intT at h; split at h
 · cases h; assumption
 · cases h
section
variable {P : Program} {ops : Array Oper} {Q : Exit → Act → World → Prop} {γ : Gd P ops Q} {rest : List Oper} {o : Oper} {E w : World} {H : GH} {N : Nat} {D : List Deferred} {F : List (Nat × Value)} {L : List It} {a : Act}
variable {t u : TypeId} {x y : Operand} {d : Nat} {kd : IntKind}
theorem rm (m n : Nat) (hn : 0 < n) (h : S E H N D F L a w) (k : ∀ a w, S E H N D ((d, .int kd ((m % n : Nat) : Int)) :: F) L a w → γ.G rest a w)
   (ho : o.op = .binOp .rem t x y u := by rfl) (hx : ev F x = some (.int kd (m : Int)) := by rfl) (hy : ev F y = some (.int kd (n : Int)) := by rfl)
   (hw : wn ops F o = some true := by rfl) (hd : o.dst = some d := by rfl) (hN : Nat.blt d N = true := by rfl) : γ.G (o :: rest) a w :=
 bo (run_int _ _ (fun w => by
   have h0 : ¬ ((n : Int) = 0) := by omega
   have h1 : (m : Int).tmod (n : Int) = ((m % n : Nat) : Int) := rfl
   simp only [binOp, Op.intDiv, if_neg h0, h1]; simp)) h k ho hx hy hw hd hN
theorem qu (m n : Nat) (hn : 0 < n) (hr : kd.wrap ((m / n : Nat) : Int) = ((m / n : Nat) : Int)) (h : S E H N D F L a w) (k : ∀ a w, S E H N D ((d, .int kd ((m / n : Nat) : Int)) :: F) L a w → γ.G rest a w)
   (ho : o.op = .binOp .quo t x y u := by rfl) (hx : ev F x = some (.int kd (m : Int)) := by rfl) (hy : ev F y = some (.int kd (n : Int)) := by rfl)
   (hw : wn ops F o = some true := by rfl) (hd : o.dst = some d := by rfl) (hN : Nat.blt d N = true := by rfl) : γ.G (o :: rest) a w :=
 bo (run_int _ _ (fun w => by
   have h0 : ¬ ((n : Int) = 0) := by omega
   have h1 : (m : Int).tdiv (n : Int) = ((m / n : Nat) : Int) := rfl
   simp only [binOp, Op.intDiv, if_neg h0, h1, hr]; simp)) h k ho hx hy hw hd hN
theorem ml {m n : Int} (r : Int) (hr : kd.wrap (m * n) = r) (h : S E H N D F L a w) (k : ∀ a w, S E H N D ((d, .int kd r) :: F) L a w → γ.G rest a w)
   (ho : o.op = .binOp .mul t x y u := by rfl) (hx : ev F x = some (.int kd m) := by rfl) (hy : ev F y = some (.int kd n) := by rfl)
   (hw : wn ops F o = some true := by rfl) (hd : o.dst = some d := by rfl) (hN : Nat.blt d N = true := by rfl) : γ.G (o :: rest) a w :=
 bo (run_int _ _ (fun w => by subst hr; simp [binOp, Op.intArith])) h k ho hx hy hw hd hN
theorem cv {k2 k3 : IntKind} {n : Int} (r : Int) (hr : k2.wrap n = r) (hs : intT P t = some k3) (ht : intT P u = some k2) (h : S E H N D F L a w) (k : ∀ a w, S E H N D ((d, .int k2 r) :: F) L a w → γ.G rest a w)
   (ho : o.op = .convert t u x := by rfl) (hx : ev F x = some (.int kd n) := by rfl)
   (hw : wn ops F o = some true := by rfl) (hd : o.dst = some d := by rfl) (hN : Nat.blt d N = true := by rfl) : γ.G (o :: rest) a w :=
 pv h (fun w => by
   subst hr
   simp [execOp, ho, h.ag.ev hx, convert, run_underlying (und_int hs), run_underlying (und_int ht), Conv.intToInt]) k hw hd hN
theorem mn {t2 : Array TypeId} {m n : Int} (r : Int) (hr : (if n < m then n else m) = r) (h : S E H N D F L a w) (k : ∀ a w, S E H N D ((d, .int .i64 r) :: F) L a w → γ.G rest a w)
   (ho : o.op = .call { callee := .builtin .min, args := #[x, y], argTypes := t2 } := by rfl) (hx : ev F x = some (.int .i64 m) := by rfl) (hy : ev F y = some (.int .i64 n) := by rfl)
   (hw : wn ops F o = some true := by rfl) (hd : o.dst = some d := by rfl) (hN : Nat.blt d N = true := by rfl) : γ.G (o :: rest) a w :=
 pv h (fun w => by
   subst hr
   simp [execOp, ho, resolve, invoke, builtin, h.ag.ev hx, h.ag.ev hy, Builtin.min_, Builtin.min2]) k hw hd hN
theorem slh {e sz n c hi : Nat} {A : Option Addr} (hs : sliT P t = some e) (hz : szT P e sz = true) (hh : hi ≤ c) (h : S E H N D F L a w)
   (k : ∀ a w, S E H N D ((d, .slice A hi c) :: F) L a w → γ.G rest a w)
   (ho : o.op = .slice t x none (some y) none := by rfl) (hx : ev F x = some (.slice A n c) := by rfl) (hy : ev F y = some (.int kd (hi : Int)) := by rfl)
   (hw : wn ops F o = some true := by rfl) (hd : o.dst = some d := by rfl) (hN : Nat.blt d N = true := by rfl) : γ.G (o :: rest) a w := by
 have e1 : (if c = 0 then A else A.map (·.add (0 * sz))) = A := by
   split
   · rfl
   · cases A <;> simp [Addr.add]
 refine sl (l := 0) (h' := hi) (m := c) hs hz (fun w => ?_) h (fun a w h => ?_) ho hx hw hd hN
 · simp [Instr.sliceBounds, h.ag.ev hy, asIntOf, Instr.sliceBound, hh]
 · rw [e1, Nat.sub_zero, Nat.sub_zero] at h; exact k a w h
theorem slhN {e sz n c : Nat} {A : Option Addr} (hi n' : Nat) (hn : hi = n') (hs : sliT P t = some e) (hz : szT P e sz = true) (hh : hi ≤ c) (h : S E H N D F L a w)
   (k : ∀ a w, S E H N D ((d, .slice A n' c) :: F) L a w → γ.G rest a w)
   (ho : o.op = .slice t x none (some y) none := by rfl) (hx : ev F x = some (.slice A n c) := by rfl) (hy : ev F y = some (.int kd (hi : Int)) := by rfl)
   (hw : wn ops F o = some true := by rfl) (hd : o.dst = some d := by rfl) (hN : Nat.blt d N = true := by rfl) : γ.G (o :: rest) a w := by
 subst hn
 exact slh hs hz hh h k ho hx hy hw hd hN
end
theorem thc {P : Program} {Q : Exit → Act → World → Prop} {a : Act} {w : World} {c : Code} {K : Act → World → Prop} (I : Act → World → Prop) (h : c.wp P (Exit.then I Q) a w) (k : ∀ a w, I a w → K a w) : c.wp P (Exit.then K Q) a w :=
 Code.wp_mono (fun e a w h => by cases e <;> first | exact k a w h | exact h) h
theorem RS.capl {α : Type} {R : GH → List Value → α → Prop} {sz n c : Nat} {H : GH} {A : Option Addr} {xs : List α} (h : RS R sz H (.slice A n c) xs) : xs.length ≤ c := by
 obtain ⟨A', c', e, h1, h2⟩ := h
 cases e; exact h1
theorem RS.front {α : Type} {R : GH → List Value → α → Prop} {sz n c hi : Nat} {H : GH} {A : Option Addr} {xs : List α} (h : RS R sz H (.slice A n c) xs) (hh : hi ≤ xs.length) : RS R sz H (.slice A (xs.take hi).length c) (xs.take hi) := by
 obtain ⟨A', c', e, h1, h2⟩ := h
 cases e
 refine ⟨A, c, rfl, by rw [List.length_take]; omega, fun j x hx => h2 j x ?_⟩
 rw [List.getElem?_take] at hx
 split at hx
 · exact hx
 · cases hx
theorem rint_row {H : GH} : ∀ ns : List Int, RowR RInt 1 H (ns.map fun n => .int .i64 n) ns
 | [] => RowR.nil
 | n :: ns => by
   have := (RowR.one (R := RInt) (sz := 1) (H := H) (cs := [.int .i64 n]) (y := n) rfl rfl).app (rint_row ns)
   simpa using this
end Go.Proofs.YtdabamobjciidaaGreatDoor.X
namespace Go.Proofs.YtdabamobjciidaaGreatDoor
open Go X
section
variable {P : Program} {w : World} {r : Reach} {base : Nat} {t : TypeId} {v : Value}
theorem cells_int {k : IntKind} (hu : P.underlying t = some (.int k)) (h : Value.okWide P w r base t v) : v.cells.toList = [v] := by
 unfold Value.okWide at h
 rw [hu] at h
 cases v <;> simp_all [Cell.okWide, Cell.ok, Value.cells]
theorem cells_slice {e : TypeId} (hu : P.underlying t = some (.slice e)) (h : Value.okWide P w r base t v) : v.cells.toList = [v] := by
 unfold Value.okWide at h
 rw [hu] at h
 cases v <;> simp_all [Cell.okWide, Cell.ok, Value.cells]
end
section
variable {H : Type} {enc : TypeId × Value → H} {P : Program} {w : World} {base : Nat} {spare : Nat → Bool} {held : Bool}
theorem lit_in {k : IntKind} {n : Int} (h : (Lit.int k n).wf = true) : k.min ≤ n ∧ n ≤ k.max := by
 simp only [Lit.wf, Bool.and_eq_true, decide_eq_true_eq] at h; exact h
theorem open_int {k : IntKind} {t fuel : TypeId} {v : Value} {x : DataW H × List MemPlace} (hu : P.underlying t = some (.int k)) (hv : v.cells.toList = [v]) (h : DataW.trod enc P w base spare held fuel t v.cells.toList = some x) : ∃ n, v = .int k n ∧ k.min ≤ n ∧ n ≤ k.max := by
 obtain ⟨n, e, _, hw⟩ := DataW.trod_int hu h
 rw [hv] at e
 exact ⟨n, by simpa using e, lit_in hw⟩
theorem open_u8s {t e fuel : Nat} {v : Value} {x : DataW H × List MemPlace} (ht : P.underlying t = some (.slice e)) (he : P.underlying e = some (.int .u8)) (hc : P.cellsOf e = 1) (hv : v.cells.toList = [v]) (h : DataW.trod enc P w base spare held fuel t v.cells.toList = some x) (hx : Rows.uptoBulk x.1 ≤ 1048576) :
   ∃ (A : Option Addr) (c : Nat) (l : List UInt8), v = .slice A l.length c ∧ US (HW w) A c l ∧ l.length < 1000000000000 := by
 obtain ⟨A, c, ys, e1, hs, hB⟩ := open_sl (R := RU8) (B := fun _ => 1) (sz := 1) ht hc (by omega) h (fun n cs' y _ hy => by
   obtain ⟨n, rfl, e2, hw⟩ := DataW.trod_int he hy
   have hr := lit_in hw
   simp [IntKind.min, IntKind.max, IntKind.signed, IntKind.bits] at hr
   refine ⟨UInt8.ofNat n.toNat, ?_, ?_⟩
   · unfold RU8
     have : (UInt8.ofNat n.toNat).toNat = n.toNat := by simp [UInt8.toNat_ofNat']; omega
     rw [this]; congr 2; omega
   · rw [e2]; simp [Rows.uptoBulk])
 rw [hv] at e1
 refine ⟨A, c, ys, by simpa using e1, hs, ?_⟩
 have : (ys.map fun _ => 1).sum = ys.length := by clear hs e1 hB; induction ys with
   | nil => rfl
   | cons y l ih => simp only [List.map_cons, List.sum_cons, List.length_cons, ih]; omega
 omega
end
theorem flt88 : flatT Tryz.prog 88 = some [2, 2, 0] := by kernel_rfl
theorem it111 : intT Tryz.prog 111 = some .u64 := by kernel_rfl
theorem it2 : intT Tryz.prog 2 = some .i64 := by kernel_rfl
theorem it3 : intT Tryz.prog 3 = some .i64 := by kernel_rfl
theorem it5 : intT Tryz.prog 5 = some .u8 := by kernel_rfl
theorem kids_at {j : Nat} (h : j < 14) : kidsL[j]? = some (kidsL.getD j (-1)) := by
 have : j < kidsL.length := h
 simp [List.getD, List.getElem?_eq_getElem this]
theorem node_ok (t : Tm) (v : Value) (E : World) (H : GH) (L : List It) (hv : VT H v t) (hL : Laid H) (hb : t.name.length < 1000000000000) : Ok Tryz.prog 88 #[v] E H L fun r H' L' => r = .bool t.node ∧ H = H' ∧ L = L' := by
 obtain ⟨A, c, rfl, hks⟩ := hv
 refine enter (N := 69) [(0, _)] Tryz.func88 rfl rfl rfl rfl fun a w h => ?_
 refine au [1,2] h ?_
 refine bxA h fun g1 a w h => ?_
 refine au [0,6,0,3,0,4,0,4] h ?_; intro a w h
 refine rgd [0] [_] [] [1, 5, 10, 13, 15, 20, 25, 30, 34] 0 mix (by kernel_rfl) h (fun a w h => ?_)
 refine au [0,7,4,2,6,4] h ?_; intro a w h
 refine h.spl (fun c5 h => ?_) (fun c5 h => ?_)
 ·refine au [0,0,0,1,0,1,0,1,4,8,0,0,0,1,0,1,0,1,0,1,0,1,0,1,0,1,0,1,4,8,0,0,0,1,0,1,0,1,4,8,0,0,0,1,0,1,0,1,4,8,0,0,0,1,0,1,0,1,0,1,0,1,0,1,0,1,0,1,4,8,0,3,2,0,1,2,0,6,0,3,1,3,1,4] h ?_; intro a w h
  refine fin1 2 1 h LE.rfl ?_
  exact ⟨by first | (simp only [Tm.node, nodeB, c5]; done) | (simp only [Tm.node, nodeB, c5]; rfl), rfl, rfl⟩
 ·refine au [0,0,0,7,4,2,6,7,5,0] h ?_; intro a w h
  refine h.spl (fun c10 h => ?_) (fun c10 h => ?_)
  ·refine au [0,0,0,1,0,1,0,1,0,1,0,1,0,1,0,1,0,1,4,8,0,0,0,1,0,1,0,1,4,8,0,0,0,1,0,1,0,1,4,8,0,0,0,1,0,1,0,1,0,1,0,1,0,1,0,1,0,1,4,8,0,3,2,0,1,2,0,6,0,3,1,3,1,4] h ?_; intro a w h
   refine fin1 2 1 h LE.rfl ?_
   exact ⟨by first | (simp only [Tm.node, nodeB, c5, c10]; done) | (simp only [Tm.node, nodeB, c5, c10]; rfl), rfl, rfl⟩
  ·have hk0 : 1 ≤ t.kind := by have := of_decide_eq_false c5; omega
   have hk1 : t.kind < 14 := by have := of_decide_eq_false c10; omega
   have hkt : t.kind = (t.kind.toNat : Int) := by omega
   have hkl : t.kind.toNat < 14 := by omega
   have hkc : Hc H 1 (0 + t.kind.toNat * 1) (.int .i64 (kidsL.getD t.kind.toNat (-1))) := by rw [Nat.zero_add, Nat.mul_one]; exact hL.kids _ _ (kids_at hkl)
   refine au [0,0,0,7,4,2,6,0,0,7,4,2] h ?_; intro a w h
   refine iaA arrN sz3 hkt hkl h fun a w h => ?_
   refine ldHD t1_3 hkc h fun a w h => ?_
   refine au [6,3,5,0] h ?_; intro a w h
   refine h.spl (fun c20 h => ?_) (fun c20 h => ?_)
   ·refine au [0,0,0,1,0,1,0,1,4,8,0,0,0,1,0,1,0,1,4,8,0,0,0,1,0,1,0,1,0,1,0,1,0,1,0,1,0,1,4,8,0,3,2,0,1,2,0,6,0,3,1,3,1,4] h ?_; intro a w h
    refine fin1 2 1 h LE.rfl ?_
    exact ⟨by first | (simp only [Tm.node, nodeB, c5, c10, c20]; done) | (simp only [Tm.node, nodeB, c5, c10, c20]; rfl), rfl, rfl⟩
   ·refine au [0,0,0,7,4,2,6,4,5,0] h ?_; intro a w h
    refine h.spl (fun c25 h => ?_) (fun c25 h => ?_)
    ·refine au [0,0,0,1,0,1,0,1,4,8,0,0,0,1,0,1,0,1,0,1,0,1,0,1,0,1,0,1,4,8,0,3,2,0,1,2,0,6,0,3,1,3,1,4] h ?_; intro a w h
     refine fin1 2 1 h LE.rfl ?_
     exact ⟨by first | (simp only [Tm.node, nodeB, c5, c10, c20, c25]; done) | (simp only [Tm.node, nodeB, c5, c10, c20, c25]; rfl), rfl, rfl⟩
    ·refine au [0,0,0,7,4,2,6,7,5,0] h ?_; intro a w h
     refine h.spl (fun c30 h => ?_) (fun c30 h => ?_)
     ·refine au [0,0,0,1,0,1,0,1,0,1,0,1,0,1,0,1,0,1,4,8,0,3,2,0,1,2,0,6,0,3,1,3,1,4] h ?_; intro a w h
      refine fin1 2 1 h LE.rfl ?_
      exact ⟨by first | (simp only [Tm.node, nodeB, c5, c10, c20, c25, c30]; done) | (simp only [Tm.node, nodeB, c5, c10, c20, c25, c30]; rfl), rfl, rfl⟩
     ·refine au [0,0,0,7,4,2,6,3] h ?_; intro a w h
      refine h.spl (fun c34 h => ?_) (fun c34 h => ?_)
      ·refine au [0,0,0,7,4,2,6,3,4,8,5,0,0,3] h ?_; intro a w h
       refine cdB h (fun c40 => ?_) (fun c40 => ?_)
       ·refine au [1,2,0,6,0,3,1,3,1,4] h ?_; intro a w h
        refine fin1 2 1 h LE.rfl ?_
        exact ⟨by first | (simp only [Tm.node, nodeB, c5, c10, c20, c25, c30, c34, c40]; done) | (simp only [Tm.node, nodeB, c5, c10, c20, c25, c30, c34, c40]; rfl), rfl, rfl⟩
       ·refine au [1,8,1,0,0,4,1,5,1,2,3,3] h ?_; intro a w h
        refine cl bod20 (Binder_ok _ _ _ _ _ _ _) h fun r43 H43 L43 a w le43 R h => ?_
        obtain ⟨rfl, rfl, rfl⟩ := R
        refine h.spl (fun c43 h => ?_) (fun c43 h => ?_)
        ·refine au [0,0,0,1,0,1,0,1,4,8,0,6,0,3,2,0,1,2,0,7,0,8] h ?_; intro a w h
         refine cl bod120 (Name_ok _ E H _ (by omega)) h fun r51 H51 L51 a w le51 R h => ?_
         obtain ⟨rfl, rfl, rfl⟩ := R
         refine h.spl (fun c51 h => ?_) (fun c51 h => ?_)
         ·refine au [0,0,0,7,0,8] h ?_; intro a w h
          refine cl bod121 (Keyword_ok _ E H _ hL) h fun r55 H55 L55 a w le55 R h => ?_
          obtain ⟨rfl, rfl, rfl⟩ := R
          refine au [7,1,4,8,0,6,0,3,1,3,1,6,1,4] h ?_; intro a w h
          refine fin1 2 1 h LE.rfl ?_
          exact ⟨by first | (simp only [Tm.node, nodeB, c5, c10, c20, c25, c30, c34, c40, c43, c51]; done) | (simp only [Tm.node, nodeB, c5, c10, c20, c25, c30, c34, c40, c43, c51]; rfl), rfl, rfl⟩
         ·refine au [0,0,0,1,0,1,0,1,0,1,5,0,0,6,0,3,1,3,1,6,1,4] h ?_; intro a w h
          refine fin1 2 1 h LE.rfl ?_
          exact ⟨by first | (simp only [Tm.node, nodeB, c5, c10, c20, c25, c30, c34, c40, c43, c51]; done) | (simp only [Tm.node, nodeB, c5, c10, c20, c25, c30, c34, c40, c43, c51]; rfl), rfl, rfl⟩
        ·refine au [0,0,0,7,0,8,6,2,5,0,0,6,0,3] h ?_; intro a w h
         refine cdB h (fun c41 => ?_) (fun c41 => ?_)
         ·refine au [1,2,0,7,0,8] h ?_; intro a w h
          refine cl bod120 (Name_ok _ E H _ (by omega)) h fun r51 H51 L51 a w le51 R h => ?_
          obtain ⟨rfl, rfl, rfl⟩ := R
          refine h.spl (fun c51 h => ?_) (fun c51 h => ?_)
          ·refine au [0,0,0,7,0,8] h ?_; intro a w h
           refine cl bod121 (Keyword_ok _ E H _ hL) h fun r55 H55 L55 a w le55 R h => ?_
           obtain ⟨rfl, rfl, rfl⟩ := R
           refine au [7,1,4,8,0,6,0,3,1,3,1,6,1,4] h ?_; intro a w h
           refine fin1 2 1 h LE.rfl ?_
           exact ⟨by first | (simp only [Tm.node, nodeB, c5, c10, c20, c25, c30, c34, c40, c43, c41, c51]; done) | (simp only [Tm.node, nodeB, c5, c10, c20, c25, c30, c34, c40, c43, c41, c51]; rfl), rfl, rfl⟩
          ·refine au [0,0,0,1,0,1,0,1,0,1,5,0,0,6,0,3,1,3,1,6,1,4] h ?_; intro a w h
           refine fin1 2 1 h LE.rfl ?_
           exact ⟨by first | (simp only [Tm.node, nodeB, c5, c10, c20, c25, c30, c34, c40, c43, c41, c51]; done) | (simp only [Tm.node, nodeB, c5, c10, c20, c25, c30, c34, c40, c43, c41, c51]; rfl), rfl, rfl⟩
         ·refine au [1,2,0,7,0,8,6,2,0,6,0,3] h ?_; intro a w h
          refine cdB h (fun c58 => ?_) (fun c58 => ?_)
          ·refine sq ?_
           refine rgd [0] [_] [1] [2] 3 mix (by kernel_rfl) h (fun a w h => ?_)
           refine sla arrO sz9 h fun a w h => ?_
           refine au [0,7,4,2] h ?_; intro a w h
           refine cl bod31 (Contains_ok opsL _ _ 5 E H _ hL.ops (by decide)) h fun r65 H65 L65 a w le65 R h => ?_
           obtain ⟨rfl, rfl, rfl⟩ := R
           refine au [0,6,0,3,1,3,1,6,1,4] h ?_; intro a w h
           refine fin1 2 1 h LE.rfl ?_
           exact ⟨by first | (simp only [Tm.node, nodeB, c5, c10, c20, c25, c30, c34, c40, c43, c41, c58]; done) | (simp only [Tm.node, nodeB, c5, c10, c20, c25, c30, c34, c40, c43, c41, c58]; rfl), rfl, rfl⟩
          ·refine au [1,8,1,7,1,0,1,2,0,7,0,8,6,8,0,6,0,3,1,3] h ?_; intro a w h
           refine fin1 2 1 h LE.rfl ?_
           exact ⟨by first | (simp only [Tm.node, nodeB, c5, c10, c20, c25, c30, c34, c40, c43, c41, c58]; done) | (simp only [Tm.node, nodeB, c5, c10, c20, c25, c30, c34, c40, c43, c41, c58]; rfl), rfl, rfl⟩
      ·refine au [0,0,0,1,0,1,0,1,5,0,5,0,0,3,2,1,1,8,1,0,0,4,1,5,1,2,3,3] h ?_; intro a w h
       refine cl bod20 (Binder_ok _ _ _ _ _ _ _) h fun r43 H43 L43 a w le43 R h => ?_
       obtain ⟨rfl, rfl, rfl⟩ := R
       refine h.spl (fun c43 h => ?_) (fun c43 h => ?_)
       ·refine au [0,0,0,1,0,1,0,1,4,8,0,6,0,3,2,0,1,2,0,7,0,8] h ?_; intro a w h
        refine cl bod120 (Name_ok _ E H _ (by omega)) h fun r51 H51 L51 a w le51 R h => ?_
        obtain ⟨rfl, rfl, rfl⟩ := R
        refine h.spl (fun c51 h => ?_) (fun c51 h => ?_)
        ·refine au [0,0,0,7,0,8] h ?_; intro a w h
         refine cl bod121 (Keyword_ok _ E H _ hL) h fun r55 H55 L55 a w le55 R h => ?_
         obtain ⟨rfl, rfl, rfl⟩ := R
         refine au [7,1,4,8,0,6,0,3,1,3,1,6,1,4] h ?_; intro a w h
         refine fin1 2 1 h LE.rfl ?_
         exact ⟨by first | (simp only [Tm.node, nodeB, c5, c10, c20, c25, c30, c34, c43, c51]; done) | (simp only [Tm.node, nodeB, c5, c10, c20, c25, c30, c34, c43, c51]; rfl), rfl, rfl⟩
        ·refine au [0,0,0,1,0,1,0,1,0,1,5,0,0,6,0,3,1,3,1,6,1,4] h ?_; intro a w h
         refine fin1 2 1 h LE.rfl ?_
         exact ⟨by first | (simp only [Tm.node, nodeB, c5, c10, c20, c25, c30, c34, c43, c51]; done) | (simp only [Tm.node, nodeB, c5, c10, c20, c25, c30, c34, c43, c51]; rfl), rfl, rfl⟩
       ·refine au [0,0,0,7,0,8,6,2,5,0,0,6,0,3] h ?_; intro a w h
        refine cdB h (fun c41 => ?_) (fun c41 => ?_)
        ·refine au [1,2,0,7,0,8] h ?_; intro a w h
         refine cl bod120 (Name_ok _ E H _ (by omega)) h fun r51 H51 L51 a w le51 R h => ?_
         obtain ⟨rfl, rfl, rfl⟩ := R
         refine h.spl (fun c51 h => ?_) (fun c51 h => ?_)
         ·refine au [0,0,0,7,0,8] h ?_; intro a w h
          refine cl bod121 (Keyword_ok _ E H _ hL) h fun r55 H55 L55 a w le55 R h => ?_
          obtain ⟨rfl, rfl, rfl⟩ := R
          refine au [7,1,4,8,0,6,0,3,1,3,1,6,1,4] h ?_; intro a w h
          refine fin1 2 1 h LE.rfl ?_
          exact ⟨by first | (simp only [Tm.node, nodeB, c5, c10, c20, c25, c30, c34, c43, c41, c51]; done) | (simp only [Tm.node, nodeB, c5, c10, c20, c25, c30, c34, c43, c41, c51]; rfl), rfl, rfl⟩
         ·refine au [0,0,0,1,0,1,0,1,0,1,5,0,0,6,0,3,1,3,1,6,1,4] h ?_; intro a w h
          refine fin1 2 1 h LE.rfl ?_
          exact ⟨by first | (simp only [Tm.node, nodeB, c5, c10, c20, c25, c30, c34, c43, c41, c51]; done) | (simp only [Tm.node, nodeB, c5, c10, c20, c25, c30, c34, c43, c41, c51]; rfl), rfl, rfl⟩
        ·refine au [1,2,0,7,0,8,6,2,0,6,0,3] h ?_; intro a w h
         refine cdB h (fun c58 => ?_) (fun c58 => ?_)
         ·refine sq ?_
          refine rgd [0] [_] [1] [2] 3 mix (by kernel_rfl) h (fun a w h => ?_)
          refine sla arrO sz9 h fun a w h => ?_
          refine au [0,7,4,2] h ?_; intro a w h
          refine cl bod31 (Contains_ok opsL _ _ 5 E H _ hL.ops (by decide)) h fun r65 H65 L65 a w le65 R h => ?_
          obtain ⟨rfl, rfl, rfl⟩ := R
          refine au [0,6,0,3,1,3,1,6,1,4] h ?_; intro a w h
          refine fin1 2 1 h LE.rfl ?_
          exact ⟨by first | (simp only [Tm.node, nodeB, c5, c10, c20, c25, c30, c34, c43, c41, c58]; done) | (simp only [Tm.node, nodeB, c5, c10, c20, c25, c30, c34, c43, c41, c58]; rfl), rfl, rfl⟩
         ·refine au [1,8,1,7,1,0,1,2,0,7,0,8,6,8,0,6,0,3,1,3] h ?_; intro a w h
          refine fin1 2 1 h LE.rfl ?_
          exact ⟨by first | (simp only [Tm.node, nodeB, c5, c10, c20, c25, c30, c34, c43, c41, c58]; done) | (simp only [Tm.node, nodeB, c5, c10, c20, c25, c30, c34, c43, c41, c58]; rfl), rfl, rfl⟩
theorem word_ok (s : Bs) (E : World) (H : GH) (L : List It) (hL : Laid H) (hb : s.length < 1000000000000) : Ok Tryz.prog 85 #[str s] E H L fun r H' L' => r = .bool (wordB s) ∧ H = H' ∧ L = L' := by
 refine enter (N := 10) [(0, _)] Tryz.func85 rfl rfl rfl rfl fun a w h => ?_
 refine au [1,2,0,6,0,2,0,0] h ?_; intro a w h
 refine cl bod120 (Name_ok s E H _ (by omega)) h fun r4 H4 L4 a w le4 R h => ?_
 obtain ⟨rfl, rfl, rfl⟩ := R
 refine h.spl (fun c4 h => ?_) (fun c4 h => ?_)
 ·refine au [0,0,0,0] h ?_; intro a w h
  refine cl bod121 (Keyword_ok s E H _ hL) h fun r7 H7 L7 a w le7 R h => ?_
  obtain ⟨rfl, rfl, rfl⟩ := R
  refine au [7,1,4,8,0,6,0,3,1,3] h ?_; intro a w h
  refine fin1 2 0 h LE.rfl ?_
  exact ⟨by first | (simp only [wordB, c4]; done) | (simp only [wordB, c4]; rfl), rfl, rfl⟩
 ·refine au [0,0,0,1,0,1,0,1,5,0,0,6,0,3,1,3] h ?_; intro a w h
  refine fin1 2 0 h LE.rfl ?_
  exact ⟨by first | (simp only [wordB, c4]; done) | (simp only [wordB, c4]; rfl), rfl, rfl⟩
theorem IndexFunc_Tm_ok (xs : List Tm) (A : Option Addr) (c : Nat) (q : Tm → Bool) (f : FuncId) (caps : Array Value) (E : World) (H : GH) (L : List It) (hxs : KS H A c xs) (hb : xs.length < 1000000000000) (hf : bodT Tryz.prog f = true)
   (hq : ∀ j (hj : j < xs.length) (v : Value), VT H v xs[j] → Ok Tryz.prog f (#[] ++ [v].toArray ++ caps) E H L fun r H' L' => r = .bool (q xs[j]) ∧ H = H' ∧ L = L') :
   Ok Tryz.prog 122 #[.slice A xs.length c, .func (.func f) #[] caps] E H L fun r H' L' => r = .int .i64 (indexF q xs) ∧ H = H' ∧ L = L' := by
 refine enter (N := 19) [(0, _), (1, _)] Tryz.func122 rfl rfl rfl rfl fun a w h => ?_
 refine au [1,2,0,6,0,3,0,4,1,2,0,0,6,0,0,0,0,3,1,5] h ?_; intro a w h
 refine lp (β := Nat) (fun k a w => (k ≤ xs.length ∧ ∀ j (hj : j < xs.length), j < k → q xs[j] = false) ∧ S E H 19 [] [(8, .int .i64 (k : Int)), (7, .int .i64 (xs.length : Int)), (0, .slice A xs.length c), (1, .func (.func f) #[] caps)] (L) a w)
  (fun k => xs.length - k) 0 ⟨⟨Nat.zero_le _, fun j hj h0 => absurd h0 (by omega)⟩, h.to 0 _⟩ ?_
 rintro k a w ⟨pre, h⟩
 refine au [1,2,6,4,0,3,0,4] h ?_; intro a w h
 refine cdB h (fun c9 => ?_) (fun c9 => ?_)
 ·have c9 : k < xs.length := by simpa using c9
  obtain ⟨g, off, A2, c2, rfl, hvt, hcell⟩ := KS.get hxs c9
  refine au [1,8,1,0,0,4,1,5,1,2,0,0,0,6,0,2,0,0,0,0,0,0] h ?_; intro a w h
  refine ia sli22 sz24 rfl c9 h fun a w h => ?_
  refine ldHN tN24 rfl hcell h fun a w h => ?_
  refine cl hf (hq k c9 _ hvt) h fun r16 H16 L16 a w le16 R h => ?_
  obtain ⟨rfl, rfl, rfl⟩ := R
  refine au [0,3] h ?_
  refine cdB h (fun c16 => ?_) (fun c16 => ?_)
  ·have hfact : indexF q xs = (k : Int) := indexF_at c9 (fun j hj hjk => pre.2 j hj hjk) c16
   refine au [1,2,0,0,0,6,0,3,1,3,1,6,1,4,1,4,1,6,1,4] h ?_; intro a w h
   refine fin1 4 0 h LE.rfl ?_
   exact ⟨by rw [hfact], rfl, rfl⟩
  ·have hne : q xs[k] = false := c16
   refine au [1,8,1,7,1,0,0,5] h ?_
   refine inc ?_ h fun a w h => ?_
   ·omega
   refine au [0,0,0,3] h ?_; intro a w h
   exact ⟨(k + 1), ⟨⟨by omega, fun j hj hjk => by rcases Nat.lt_succ_iff_lt_or_eq.1 hjk with h0 | rfl <;> first | exact hne | exact pre.2 j hj h0⟩, h.to 0 _⟩, by show _ - (k + 1) < _ - k; omega⟩
 ·have hk : k = xs.length := by simp at c9; omega
  have hfact : indexF q xs = -1 := indexF_no fun j hj => pre.2 j hj (by omega)
  refine au [2,5,2,2,2,2,2,3,1,0,1,2,0,6,0,3,1,3] h ?_; intro a w h
  refine fin1 4 0 h LE.rfl ?_
  exact ⟨by rw [hfact], rfl, rfl⟩
theorem ContainsFunc_Tm_ok (xs : List Tm) (A : Option Addr) (c : Nat) (q : Tm → Bool) (f : FuncId) (caps : Array Value) (E : World) (H : GH) (L : List It) (hxs : KS H A c xs) (hb : xs.length < 1000000000000) (hf : bodT Tryz.prog f = true)
   (hq : ∀ j (hj : j < xs.length) (v : Value), VT H v xs[j] → Ok Tryz.prog f (#[] ++ [v].toArray ++ caps) E H L fun r H' L' => r = .bool (q xs[j]) ∧ H = H' ∧ L = L') :
   Ok Tryz.prog 89 #[.slice A xs.length c, .func (.func f) #[] caps] E H L fun r H' L' => r = .bool (xs.any q) ∧ H = H' ∧ L = L' := by
 refine enter (N := 9) [(0, _), (1, _)] Tryz.func89 rfl rfl rfl rfl fun a w h => ?_
 refine au [1,2,0,6,0,2,0,0,0,0] h ?_; intro a w h
 refine cl bod122 (IndexFunc_Tm_ok xs A c q f caps E H _ hxs hb hf hq) h fun r7 H7 L7 a w le7 R h => ?_
 obtain ⟨rfl, rfl, rfl⟩ := R
 refine au [6,7,0,6,0,3,1,3] h ?_; intro a w h
 refine fin1 4 0 h LE.rfl ?_
 exact ⟨by rw [← indexF_ge], rfl, rfl⟩
theorem IndexFunc_Dc_ok (xs : List Dc) (A : Option Addr) (c : Nat) (q : Dc → Bool) (f : FuncId) (caps : Array Value) (E : World) (H : GH) (L : List It) (hxs : CS H A c xs) (hb : xs.length < 1000000000000) (hf : bodT Tryz.prog f = true)
   (hq : ∀ j (hj : j < xs.length) (v : Value), VDc H v xs[j] → Ok Tryz.prog f (#[] ++ [v].toArray ++ caps) E H L fun r H' L' => r = .bool (q xs[j]) ∧ H = H' ∧ L = L') :
   Ok Tryz.prog 84 #[.slice A xs.length c, .func (.func f) #[] caps] E H L fun r H' L' => r = .int .i64 (indexF q xs) ∧ H = H' ∧ L = L' := by
 refine enter (N := 19) [(0, _), (1, _)] Tryz.func84 rfl rfl rfl rfl fun a w h => ?_
 refine au [1,2,0,6,0,3,0,4,1,2,0,0,6,0,0,0,0,3,1,5] h ?_; intro a w h
 refine lp (β := Nat) (fun k a w => (k ≤ xs.length ∧ ∀ j (hj : j < xs.length), j < k → q xs[j] = false) ∧ S E H 19 [] [(8, .int .i64 (k : Int)), (7, .int .i64 (xs.length : Int)), (0, .slice A xs.length c), (1, .func (.func f) #[] caps)] (L) a w)
  (fun k => xs.length - k) 0 ⟨⟨Nat.zero_le _, fun j hj h0 => absurd h0 (by omega)⟩, h.to 0 _⟩ ?_
 rintro k a w ⟨pre, h⟩
 refine au [1,2,6,4,0,3,0,4] h ?_; intro a w h
 refine cdB h (fun c9 => ?_) (fun c9 => ?_)
 ·have c9 : k < xs.length := by simpa using c9
  obtain ⟨g, off, rfl, hvt, hcell⟩ := CS.get hxs c9
  refine au [1,8,1,0,0,4,1,5,1,2,0,0,0,6,0,2,0,0,0,0,0,0] h ?_; intro a w h
  refine ia sli25 sz59 rfl c9 h fun a w h => ?_
  refine ldHN tN59 rfl hcell h fun a w h => ?_
  refine cl hf (hq k c9 _ hvt) h fun r16 H16 L16 a w le16 R h => ?_
  obtain ⟨rfl, rfl, rfl⟩ := R
  refine au [0,3] h ?_
  refine cdB h (fun c16 => ?_) (fun c16 => ?_)
  ·have hfact : indexF q xs = (k : Int) := indexF_at c9 (fun j hj hjk => pre.2 j hj hjk) c16
   refine au [1,2,0,0,0,6,0,3,1,3,1,6,1,4,1,4,1,6,1,4] h ?_; intro a w h
   refine fin1 4 0 h LE.rfl ?_
   exact ⟨by rw [hfact], rfl, rfl⟩
  ·have hne : q xs[k] = false := c16
   refine au [1,8,1,7,1,0,0,5] h ?_
   refine inc ?_ h fun a w h => ?_
   ·omega
   refine au [0,0,0,3] h ?_; intro a w h
   exact ⟨(k + 1), ⟨⟨by omega, fun j hj hjk => by rcases Nat.lt_succ_iff_lt_or_eq.1 hjk with h0 | rfl <;> first | exact hne | exact pre.2 j hj h0⟩, h.to 0 _⟩, by show _ - (k + 1) < _ - k; omega⟩
 ·have hk : k = xs.length := by simp at c9; omega
  have hfact : indexF q xs = -1 := indexF_no fun j hj => pre.2 j hj (by omega)
  refine au [2,5,2,2,2,2,2,3,1,0,1,2,0,6,0,3,1,3] h ?_; intro a w h
  refine fin1 4 0 h LE.rfl ?_
  exact ⟨by rw [hfact], rfl, rfl⟩
theorem ContainsFunc_Dc_ok (xs : List Dc) (A : Option Addr) (c : Nat) (q : Dc → Bool) (f : FuncId) (caps : Array Value) (E : World) (H : GH) (L : List It) (hxs : CS H A c xs) (hb : xs.length < 1000000000000) (hf : bodT Tryz.prog f = true)
   (hq : ∀ j (hj : j < xs.length) (v : Value), VDc H v xs[j] → Ok Tryz.prog f (#[] ++ [v].toArray ++ caps) E H L fun r H' L' => r = .bool (q xs[j]) ∧ H = H' ∧ L = L') :
   Ok Tryz.prog 65 #[.slice A xs.length c, .func (.func f) #[] caps] E H L fun r H' L' => r = .bool (xs.any q) ∧ H = H' ∧ L = L' := by
 refine enter (N := 9) [(0, _), (1, _)] Tryz.func65 rfl rfl rfl rfl fun a w h => ?_
 refine au [1,2,0,6,0,2,0,0,0,0] h ?_; intro a w h
 refine cl bod84 (IndexFunc_Dc_ok xs A c q f caps E H _ hxs hb hf hq) h fun r7 H7 L7 a w le7 R h => ?_
 obtain ⟨rfl, rfl, rfl⟩ := R
 refine au [6,7,0,6,0,3,1,3] h ?_; intro a w h
 refine fin1 4 0 h LE.rfl ?_
 exact ⟨by rw [← indexF_ge], rfl, rfl⟩
theorem IndexFunc_Df_ok (xs : List Df) (A : Option Addr) (c : Nat) (q : Df → Bool) (f : FuncId) (caps : Array Value) (E : World) (H : GH) (L : List It) (hxs : FS H A c xs) (hb : xs.length < 1000000000000) (hf : bodT Tryz.prog f = true)
   (hq : ∀ j (hj : j < xs.length) (v : Value), VDf H v xs[j] → Ok Tryz.prog f (#[] ++ [v].toArray ++ caps) E H L fun r H' L' => r = .bool (q xs[j]) ∧ H = H' ∧ L = L') :
   Ok Tryz.prog 86 #[.slice A xs.length c, .func (.func f) #[] caps] E H L fun r H' L' => r = .int .i64 (indexF q xs) ∧ H = H' ∧ L = L' := by
 refine enter (N := 19) [(0, _), (1, _)] Tryz.func86 rfl rfl rfl rfl fun a w h => ?_
 refine au [1,2,0,6,0,3,0,4,1,2,0,0,6,0,0,0,0,3,1,5] h ?_; intro a w h
 refine lp (β := Nat) (fun k a w => (k ≤ xs.length ∧ ∀ j (hj : j < xs.length), j < k → q xs[j] = false) ∧ S E H 19 [] [(8, .int .i64 (k : Int)), (7, .int .i64 (xs.length : Int)), (0, .slice A xs.length c), (1, .func (.func f) #[] caps)] (L) a w)
  (fun k => xs.length - k) 0 ⟨⟨Nat.zero_le _, fun j hj h0 => absurd h0 (by omega)⟩, h.to 0 _⟩ ?_
 rintro k a w ⟨pre, h⟩
 refine au [1,2,6,4,0,3,0,4] h ?_; intro a w h
 refine cdB h (fun c9 => ?_) (fun c9 => ?_)
 ·have c9 : k < xs.length := by simpa using c9
  obtain ⟨g, off, A2, c2, rfl, hvt, hcell⟩ := FS.get hxs c9
  refine au [1,8,1,0,0,4,1,5,1,2,0,0,0,6,0,2,0,0,0,0,0,0] h ?_; intro a w h
  refine ia sli26 sz61 rfl c9 h fun a w h => ?_
  refine ldHN tN61 rfl hcell h fun a w h => ?_
  refine cl hf (hq k c9 _ hvt) h fun r16 H16 L16 a w le16 R h => ?_
  obtain ⟨rfl, rfl, rfl⟩ := R
  refine au [0,3] h ?_
  refine cdB h (fun c16 => ?_) (fun c16 => ?_)
  ·have hfact : indexF q xs = (k : Int) := indexF_at c9 (fun j hj hjk => pre.2 j hj hjk) c16
   refine au [1,2,0,0,0,6,0,3,1,3,1,6,1,4,1,4,1,6,1,4] h ?_; intro a w h
   refine fin1 4 0 h LE.rfl ?_
   exact ⟨by rw [hfact], rfl, rfl⟩
  ·have hne : q xs[k] = false := c16
   refine au [1,8,1,7,1,0,0,5] h ?_
   refine inc ?_ h fun a w h => ?_
   ·omega
   refine au [0,0,0,3] h ?_; intro a w h
   exact ⟨(k + 1), ⟨⟨by omega, fun j hj hjk => by rcases Nat.lt_succ_iff_lt_or_eq.1 hjk with h0 | rfl <;> first | exact hne | exact pre.2 j hj h0⟩, h.to 0 _⟩, by show _ - (k + 1) < _ - k; omega⟩
 ·have hk : k = xs.length := by simp at c9; omega
  have hfact : indexF q xs = -1 := indexF_no fun j hj => pre.2 j hj (by omega)
  refine au [2,5,2,2,2,2,2,3,1,0,1,2,0,6,0,3,1,3] h ?_; intro a w h
  refine fin1 4 0 h LE.rfl ?_
  exact ⟨by rw [hfact], rfl, rfl⟩
theorem ContainsFunc_Df_ok (xs : List Df) (A : Option Addr) (c : Nat) (q : Df → Bool) (f : FuncId) (caps : Array Value) (E : World) (H : GH) (L : List It) (hxs : FS H A c xs) (hb : xs.length < 1000000000000) (hf : bodT Tryz.prog f = true)
   (hq : ∀ j (hj : j < xs.length) (v : Value), VDf H v xs[j] → Ok Tryz.prog f (#[] ++ [v].toArray ++ caps) E H L fun r H' L' => r = .bool (q xs[j]) ∧ H = H' ∧ L = L') :
   Ok Tryz.prog 67 #[.slice A xs.length c, .func (.func f) #[] caps] E H L fun r H' L' => r = .bool (xs.any q) ∧ H = H' ∧ L = L' := by
 refine enter (N := 9) [(0, _), (1, _)] Tryz.func67 rfl rfl rfl rfl fun a w h => ?_
 refine au [1,2,0,6,0,2,0,0,0,0] h ?_; intro a w h
 refine cl bod86 (IndexFunc_Df_ok xs A c q f caps E H _ hxs hb hf hq) h fun r7 H7 L7 a w le7 R h => ?_
 obtain ⟨rfl, rfl, rfl⟩ := R
 refine au [6,7,0,6,0,3,1,3] h ?_; intro a w h
 refine fin1 4 0 h LE.rfl ?_
 exact ⟨by rw [← indexF_ge], rfl, rfl⟩
theorem IndexFunc_Bs_ok (xs : List Bs) (A : Option Addr) (c : Nat) (q : Bs → Bool) (f : FuncId) (caps : Array Value) (E : World) (H : GH) (L : List It) (hxs : SS H A c xs) (hb : xs.length < 1000000000000) (hf : bodT Tryz.prog f = true)
   (hq : ∀ j (hj : j < xs.length) (v : Value), v = str xs[j] → Ok Tryz.prog f (#[] ++ [v].toArray ++ caps) E H L fun r H' L' => r = .bool (q xs[j]) ∧ H = H' ∧ L = L') :
   Ok Tryz.prog 44 #[.slice A xs.length c, .func (.func f) #[] caps] E H L fun r H' L' => r = .int .i64 (indexF q xs) ∧ H = H' ∧ L = L' := by
 refine enter (N := 19) [(0, _), (1, _)] Tryz.func44 rfl rfl rfl rfl fun a w h => ?_
 refine au [1,2,0,6,0,3,0,4,1,2,0,0,6,0,0,0,0,3,1,5] h ?_; intro a w h
 refine lp (β := Nat) (fun k a w => (k ≤ xs.length ∧ ∀ j (hj : j < xs.length), j < k → q xs[j] = false) ∧ S E H 19 [] [(8, .int .i64 (k : Int)), (7, .int .i64 (xs.length : Int)), (0, .slice A xs.length c), (1, .func (.func f) #[] caps)] (L) a w)
  (fun k => xs.length - k) 0 ⟨⟨Nat.zero_le _, fun j hj h0 => absurd h0 (by omega)⟩, h.to 0 _⟩ ?_
 rintro k a w ⟨pre, h⟩
 refine au [1,2,6,4,0,3,0,4] h ?_; intro a w h
 refine cdB h (fun c9 => ?_) (fun c9 => ?_)
 ·have c9 : k < xs.length := by simpa using c9
  obtain ⟨g, off, rfl, hcell⟩ := hxs.get c9
  refine au [1,8,1,0,0,4,1,5,1,2,0,0,0,6,0,2,0,0,0,0,0,0] h ?_; intro a w h
  refine ia sli70 sz9 rfl c9 h fun a w h => ?_
  refine ldH t1_9 hcell h fun a w h => ?_
  refine cl hf (hq k c9 _ rfl) h fun r16 H16 L16 a w le16 R h => ?_
  obtain ⟨rfl, rfl, rfl⟩ := R
  refine au [0,3] h ?_
  refine cdB h (fun c16 => ?_) (fun c16 => ?_)
  ·have hfact : indexF q xs = (k : Int) := indexF_at c9 (fun j hj hjk => pre.2 j hj hjk) c16
   refine au [1,2,0,0,0,6,0,3,1,3,1,6,1,4,1,4,1,6,1,4] h ?_; intro a w h
   refine fin1 4 0 h LE.rfl ?_
   exact ⟨by rw [hfact], rfl, rfl⟩
  ·have hne : q xs[k] = false := c16
   refine au [1,8,1,7,1,0,0,5] h ?_
   refine inc ?_ h fun a w h => ?_
   ·omega
   refine au [0,0,0,3] h ?_; intro a w h
   exact ⟨(k + 1), ⟨⟨by omega, fun j hj hjk => by rcases Nat.lt_succ_iff_lt_or_eq.1 hjk with h0 | rfl <;> first | exact hne | exact pre.2 j hj h0⟩, h.to 0 _⟩, by show _ - (k + 1) < _ - k; omega⟩
 ·have hk : k = xs.length := by simp at c9; omega
  have hfact : indexF q xs = -1 := indexF_no fun j hj => pre.2 j hj (by omega)
  refine au [2,5,2,2,2,2,2,3,1,0,1,2,0,6,0,3,1,3] h ?_; intro a w h
  refine fin1 4 0 h LE.rfl ?_
  exact ⟨by rw [hfact], rfl, rfl⟩
theorem ContainsFunc_Bs_ok (xs : List Bs) (A : Option Addr) (c : Nat) (q : Bs → Bool) (f : FuncId) (caps : Array Value) (E : World) (H : GH) (L : List It) (hxs : SS H A c xs) (hb : xs.length < 1000000000000) (hf : bodT Tryz.prog f = true)
   (hq : ∀ j (hj : j < xs.length) (v : Value), v = str xs[j] → Ok Tryz.prog f (#[] ++ [v].toArray ++ caps) E H L fun r H' L' => r = .bool (q xs[j]) ∧ H = H' ∧ L = L') :
   Ok Tryz.prog 28 #[.slice A xs.length c, .func (.func f) #[] caps] E H L fun r H' L' => r = .bool (xs.any q) ∧ H = H' ∧ L = L' := by
 refine enter (N := 9) [(0, _), (1, _)] Tryz.func28 rfl rfl rfl rfl fun a w h => ?_
 refine au [1,2,0,6,0,2,0,0,0,0] h ?_; intro a w h
 refine cl bod44 (IndexFunc_Bs_ok xs A c q f caps E H _ hxs hb hf hq) h fun r7 H7 L7 a w le7 R h => ?_
 obtain ⟨rfl, rfl, rfl⟩ := R
 refine au [6,7,0,6,0,3,1,3] h ?_; intro a w h
 refine fin1 4 0 h LE.rfl ?_
 exact ⟨by rw [← indexF_ge], rfl, rfl⟩
theorem wrong_ok : ∀ (t : Tm) (v : Value) (E : World) (H : GH) (L : List It) (gc : Nat), VT H v t → Laid H → Hc H gc 0 (.func (.func 87) #[] #[.pointer (some ⟨gc, 0, none⟩)]) → t.long < 1000000000000 → t.size < 1000000000000 →
   Ok Tryz.prog 87 #[v, .pointer (some ⟨gc, 0, none⟩)] E H L fun r H' L' => r = .bool t.wrong ∧ H = H' ∧ L = L' := by
 intro t
 induction t using Tm.ind with
 | h kd nm nn ks ih =>
 intro v E H L gc hv hL hcl hlg hsz
 have hv0 := hv
 obtain ⟨A, c, rfl, hks⟩ := hv
 simp only [Tm.size] at hsz
 simp only [Tm.long] at hlg
 have hks : KS H A c ks := hks
 have hlen := length_le_sizeL ks
 have hv := hv0
 have hln : (Tm.mk kd nm nn ks).name.length < 1000000000000 := by show nm.length < _; omega
 have hnw : (Tm.mk kd nm nn ks).wrong = (!(Tm.mk kd nm nn ks).node || ks.any Tm.wrong) := by simp only [Tm.wrong, wrongL_any]; rfl
 refine enter (N := 13) [(0, _), (1, _)] Tryz.func87 rfl rfl rfl rfl fun a w h => ?_
 refine au [1,2] h ?_
 refine bxA h fun g2 a w h => ?_
 refine au [0,6,0,2,3,3] h ?_; intro a w h
 refine cl bod88 (node_ok _ _ E H _ hv hL hln) h fun r5 H5 L5 a w le5 R h => ?_
 obtain ⟨rfl, rfl, rfl⟩ := R
 refine nt h fun a w h => ?_
 refine h.spl (fun c6 h => ?_) (fun c6 h => ?_)
 ·refine au [0,0,0,1,0,1,0,1,0,1,4,8,0,6,0,3,1,3] h ?_; intro a w h
  refine fin1 3 1 h LE.rfl ?_
  exact ⟨by rw [hnw, c6]; rfl, rfl, rfl⟩
 ·refine au [0,0,0,7,0,8] h ?_; intro a w h
  refine ldH t1_68 hcl h fun a w h => ?_
  refine cl bod89 (ContainsFunc_Tm_ok ks A c Tm.wrong 87 #[.pointer (some ⟨gc, 0, none⟩)] E H _ hks (by omega) bod87 (fun j hj v hv => ih _ (List.getElem_mem hj) v E H _ gc hv hL hcl (by have := long_get hj; omega) (by have := size_get_le hj; omega))) h fun r11 H11 L11 a w le11 R h => ?_
  obtain ⟨rfl, rfl, rfl⟩ := R
  refine au [5,0,0,6,0,3,1,3] h ?_; intro a w h
  refine fin1 3 1 h LE.rfl ?_
  exact ⟨by rw [hnw, c6]; rfl, rfl, rfl⟩
theorem Right_ok (t : Tm) (v : Value) (E : World) (H : GH) (L : List It) (hv : VT H v t) (hL : Laid H) (hlg : t.long < 1000000000000) (hsz : t.size < 1000000000000) : Ok Tryz.prog 69 #[v] E H L fun r H' L' => r = .bool t.right ∧ H = H' ∧ L = L' := by
 have hv0 := hv
 obtain ⟨A, c, rfl, hks⟩ := hv
 have hv := hv0
 refine enter (N := 19) [(0, _)] Tryz.func69 rfl rfl rfl rfl fun a w h => ?_
 refine au [1,2] h ?_
 refine bxA h fun g1 a w h => ?_
 refine au [0,6,0,2] h ?_; intro a w h
 refine al zr68 h fun g3 a w h => ?_
 refine au [0,2,7,3,5,1,0,2] h ?_; intro a w h
 obtain ⟨H1, le1, h, hfz⟩ := h.frz 0
 have hcl : Hc H1 g3 0 (.func (.func 87) #[] #[.pointer (some ⟨g3, 0, none⟩)]) := Hc.of hfz rfl
 have hv := hv.mono le1
 have hL := hL.up le1
 have hle := H1
 refine ldW 0 tN24 h fun a w h => ?_
 refine cl bod90 (Depth_ok t _ E H1 _ hv hsz) h fun r6 H6 L6 a w le6 R h => ?_
 obtain ⟨rfl, rfl, rfl⟩ := R
 refine le h fun a w h => ?_
 refine h.spl (fun c7 h => ?_) (fun c7 h => ?_)
 ·refine au [0,0,3,3] h ?_; intro a w h
  refine cl bod91 (Size_ok t _ E H1 _ hv hsz) h fun r10 H10 L10 a w le10 R h => ?_
  obtain ⟨rfl, rfl, rfl⟩ := R
  refine au [6,5,4,8] h ?_; intro a w h
  refine h.spl (fun c12 h => ?_) (fun c12 h => ?_)
  ·refine mv h fun a w h => ?_
   refine ldH t1_68 hcl h fun a w h => ?_
   refine ldW 0 tN24 h fun a w h => ?_
   refine cl bod87 (wrong_ok t _ E H1 _ g3 hv hL hcl hlg hsz) h fun r16 H16 L16 a w le16 R h => ?_
   obtain ⟨rfl, rfl, rfl⟩ := R
   refine au [7,1,4,8,0,6,0,3,1,3] h ?_; intro a w h
   refine fin1 2 1 (h.less le1) LE.rfl ?_
   exact ⟨by first | (simp only [Tm.right, c7, c12]; done) | (simp only [Tm.right, c7, c12]; rfl), rfl, rfl⟩
  ·refine au [0,0,0,1,0,1,0,1,0,1,5,0,0,6,0,3,1,3] h ?_; intro a w h
   refine fin1 2 1 (h.less le1) LE.rfl ?_
   exact ⟨by first | (simp only [Tm.right, c7, c12]; done) | (simp only [Tm.right, c7, c12]; rfl), rfl, rfl⟩
 ·refine au [0,0,0,1,0,1,0,1,5,0,0,0,0,1,0,1,0,1,0,1,5,0,0,6,0,3,1,3] h ?_; intro a w h
  refine fin1 2 1 (h.less le1) LE.rfl ?_
  exact ⟨by first | (simp only [Tm.right, c7]; done) | (simp only [Tm.right, c7]; rfl), rfl, rfl⟩
theorem Dwrong_ok (d : Dc) (v : Value) (E : World) (H : GH) (L : List It) (hv : VDc H v d) (hL : Laid H) (h1 : d.name.length < 1000000000000) (h2 : d.label.length < 1000000000000) : Ok Tryz.prog 66 #[v] E H L fun r H' L' => r = .bool d.wrong ∧ H = H' ∧ L = L' := by
 unfold VDc at hv; subst hv
 refine enter (N := 23) [(0, _)] Tryz.func66 rfl rfl rfl rfl fun a w h => ?_
 refine au [1,2] h ?_
 refine bxA h fun g1 a w h => ?_
 refine au [0,6,0,2,0,7,0,8] h ?_; intro a w h
 refine cl bod85 (word_ok d.name E H _ hL (by omega)) h fun r5 H5 L5 a w le5 R h => ?_
 obtain ⟨rfl, rfl, rfl⟩ := R
 refine nt h fun a w h => ?_
 refine h.spl (fun c6 h => ?_) (fun c6 h => ?_)
 ·refine au [0,0,0,1,0,1,0,1,0,1,4,8,0,0,0,1,0,1,0,1,4,8,0,0,0,1,0,1,0,1,4,8,0,6,0,3,1,3] h ?_; intro a w h
  refine fin1 2 1 h LE.rfl ?_
  exact ⟨by first | (simp only [Dc.wrong, c6]; done) | (simp only [Dc.wrong, c6]; rfl), rfl, rfl⟩
 ·refine au [0,0,0,7,0,8] h ?_; intro a w h
  refine cl bod85 (word_ok d.label E H _ hL (by omega)) h fun r10 H10 L10 a w le10 R h => ?_
  obtain ⟨rfl, rfl, rfl⟩ := R
  refine au [7,1,5,0] h ?_; intro a w h
  refine h.spl (fun c12 h => ?_) (fun c12 h => ?_)
  ·refine au [0,0,0,1,0,1,0,1,4,8,0,0,0,1,0,1,0,1,4,8,0,6,0,3,1,3] h ?_; intro a w h
   refine fin1 2 1 h LE.rfl ?_
   exact ⟨by first | (simp only [Dc.wrong, c6, c12]; done) | (simp only [Dc.wrong, c6, c12]; rfl), rfl, rfl⟩
  ·refine au [0,0,0,7,0,8,6,4,5,0] h ?_; intro a w h
   refine h.spl (fun c17 h => ?_) (fun c17 h => ?_)
   ·refine au [0,0,0,1,0,1,0,1,4,8,0,6,0,3,1,3] h ?_; intro a w h
    refine fin1 2 1 h LE.rfl ?_
    exact ⟨by first | (simp only [Dc.wrong, c6, c12, c17]; done) | (simp only [Dc.wrong, c6, c12, c17]; rfl), rfl, rfl⟩
   ·refine au [0,0,0,7,0,8,6,7,5,0,0,6,0,3,1,3] h ?_; intro a w h
    refine fin1 2 1 h LE.rfl ?_
    exact ⟨by first | (simp only [Dc.wrong, c6, c12, c17]; done) | (simp only [Dc.wrong, c6, c12, c17]; rfl), rfl, rfl⟩
theorem set_ok (d : Dc) (v : Value) (E : World) (H : GH) (L : List It) (hv : VDc H v d) : Ok Tryz.prog 64 #[v] E H L fun r H' L' => r = .bool (d.n != 0) ∧ H = H' ∧ L = L' := by
 unfold VDc at hv; subst hv
 refine enter (N := 6) [(0, _)] Tryz.func64 rfl rfl rfl rfl fun a w h => ?_
 refine au [1,2] h ?_
 refine bxA h fun g1 a w h => ?_
 refine au [0,6,0,2,0,7,0,8,6,3,0,6,0,3,1,3] h ?_; intro a w h
 refine fin1 2 1 h LE.rfl ?_
 exact ⟨rfl, rfl, rfl⟩
theorem Fwrong_ok (d : Df) (v : Value) (E : World) (H : GH) (L : List It) (hv : VDf H v d) (hL : Laid H) (h1 : d.name.length < 1000000000000) (h2 : d.t.long < 1000000000000) (h3 : d.t.size < 1000000000000) : Ok Tryz.prog 68 #[v] E H L fun r H' L' => r = .bool d.wrong ∧ H = H' ∧ L = L' := by
 obtain ⟨A, c, rfl, hks⟩ := hv
 refine enter (N := 19) [(0, _)] Tryz.func68 rfl rfl rfl rfl fun a w h => ?_
 refine au [1,2] h ?_
 refine bxA h fun g1 a w h => ?_
 refine au [0,6,0,2,0,7,0,8] h ?_; intro a w h
 refine cl bod85 (word_ok d.name E H _ hL (by omega)) h fun r5 H5 L5 a w le5 R h => ?_
 obtain ⟨rfl, rfl, rfl⟩ := R
 refine nt h fun a w h => ?_
 refine h.spl (fun c6 h => ?_) (fun c6 h => ?_)
 ·refine au [0,0,0,1,0,1,0,1,0,1,4,8,0,0,0,1,0,1,0,1,0,1,4,8,0,6,0,3,1,3] h ?_; intro a w h
  refine fin1 2 1 h LE.rfl ?_
  exact ⟨by first | (simp only [Df.wrong, c6]; done) | (simp only [Df.wrong, c6]; rfl), rfl, rfl⟩
 ·refine au [0,0,0,7] h ?_; intro a w h
  refine ldN 0 tN24 h fun a w h => ?_
  refine cl bod69 (Right_ok d.t _ E H _ (VDf.t hks) hL (by omega) (by omega)) h fun r10 H10 L10 a w le10 R h => ?_
  obtain ⟨rfl, rfl, rfl⟩ := R
  refine au [7,1,5,0] h ?_; intro a w h
  refine h.spl (fun c12 h => ?_) (fun c12 h => ?_)
  ·refine au [0,0,0,1,0,1,0,1,0,1,4,8,0,6,0,3,1,3] h ?_; intro a w h
   refine fin1 2 1 h LE.rfl ?_
   exact ⟨by first | (simp only [Df.wrong, c6, c12]; done) | (simp only [Df.wrong, c6, c12]; rfl), rfl, rfl⟩
  ·refine au [0,0,0,7,0,7,0,8,6,3,5,0,0,6,0,3,1,3] h ?_; intro a w h
   refine fin1 2 1 h LE.rfl ?_
   exact ⟨by first | (simp only [Df.wrong, c6, c12]; done) | (simp only [Df.wrong, c6, c12]; rfl), rfl, rfl⟩
theorem fits_ok (p : Pg) (v : Value) (E : World) (H : GH) (L : List It) (hv : VP H v p) (hL : Laid H) (hb : Mild p) : Ok Tryz.prog 53 #[v] E H L fun r H' L' => r = .bool p.fits ∧ H = H' ∧ L = L' := by
 obtain ⟨A1, c1, A2, c2, A3, c3, A4, c4, rfl, hi, hc, hd, hk⟩ := hv
 have b1 := hb.li
 have b2 := hb.lc
 have b3 := hb.lf
 refine enter (N := 39) [(0, _)] Tryz.func53 rfl rfl rfl rfl fun a w h => ?_
 refine au [1,2] h ?_
 refine bxA h fun g1 a w h => ?_
 refine au [0,6,0,2,0,6,0,3,0,4,1,2,0,7,0,8] h ?_; intro a w h
 refine cl bod65 (ContainsFunc_Dc_ok p.inputs A1 c1 (Dc.wrong) 66 #[] E H _ hi (by omega) bod66 (fun j hj v hv => Dwrong_ok _ v E H _ hv hL (hb.i _ (List.getElem_mem hj)).1 (hb.i _ (List.getElem_mem hj)).2)) h fun r6 H6 L6 a w le6 R h => ?_
 obtain ⟨rfl, rfl, rfl⟩ := R
 refine h.spl (fun c6 h => ?_) (fun c6 h => ?_)
 ·refine au [0,0,0,1,0,1,0,1,0,1,4,8,0,0,0,1,0,1,0,1,4,8,0,0,0,1,0,1,0,1,4,8,0,3,2,0,1,2,0,6,0,3,1,3,1,4] h ?_; intro a w h
  refine fin1 2 1 h LE.rfl ?_
  exact ⟨by first | (simp only [Pg.fits, Pg.bad, c6]; done) | (simp only [Pg.fits, Pg.bad, c6]; rfl), rfl, rfl⟩
 ·refine au [0,0,0,7,0,8,0,0] h ?_; intro a w h
  refine cl bod65 (ContainsFunc_Dc_ok p.inputs A1 c1 (fun d => d.n != 0) 64 #[] E H _ hi (by omega) bod64 (fun j hj v hv => set_ok _ v E H _ hv)) h fun r11 H11 L11 a w le11 R h => ?_
  obtain ⟨rfl, rfl, rfl⟩ := R
  refine pkF h fun a w h => ?_
  refine h.spl (fun c12 h => ?_) (fun c12 h => ?_)
  ·refine au [0,0,0,1,0,1,0,1,4,8,0,0,0,1,0,1,0,1,4,8,0,3,2,0,1,2,0,6,0,3,1,3,1,4] h ?_; intro a w h
   refine fin1 2 1 h LE.rfl ?_
   exact ⟨by first | (simp only [Pg.fits, Pg.bad, c6, c12]; done) | (simp only [Pg.fits, Pg.bad, c6, c12]; rfl), rfl, rfl⟩
  ·refine au [0,0,0,7,0,8] h ?_; intro a w h
   refine cl bod65 (ContainsFunc_Dc_ok p.cells A2 c2 (Dc.wrong) 66 #[] E H _ hc (by omega) bod66 (fun j hj v hv => Dwrong_ok _ v E H _ hv hL (hb.c _ (List.getElem_mem hj)).1 (hb.c _ (List.getElem_mem hj)).2)) h fun r16 H16 L16 a w le16 R h => ?_
   obtain ⟨rfl, rfl, rfl⟩ := R
   refine pkF h fun a w h => ?_
   refine h.spl (fun c17 h => ?_) (fun c17 h => ?_)
   ·refine au [0,0,0,1,0,1,0,1,4,8,0,3,2,0,1,2,0,6,0,3,1,3,1,4] h ?_; intro a w h
    refine fin1 2 1 h LE.rfl ?_
    exact ⟨by first | (simp only [Pg.fits, Pg.bad, c6, c12, c17]; done) | (simp only [Pg.fits, Pg.bad, c6, c12, c17]; rfl), rfl, rfl⟩
   ·refine au [0,0,0,7,0,8] h ?_; intro a w h
    refine cl bod67 (ContainsFunc_Df_ok p.defs A3 c3 (Df.wrong) 68 #[] E H _ hd (by omega) bod68 (fun j hj v hv => Fwrong_ok _ v E H _ hv hL (hb.f _ (List.getElem_mem hj)).1 (hb.f _ (List.getElem_mem hj)).2.1 (hb.f _ (List.getElem_mem hj)).2.2)) h fun r21 H21 L21 a w le21 R h => ?_
    obtain ⟨rfl, rfl, rfl⟩ := R
    refine au [5,0,0,3] h ?_; intro a w h
    refine cdB h (fun c22 => ?_) (fun c22 => ?_)
    ·refine au [1,2,0,6,0,3,1,3,1,4] h ?_; intro a w h
     refine fin1 2 1 h LE.rfl ?_
     exact ⟨by first | (simp only [Pg.fits, Pg.bad, c6, c12, c17, c22]; done) | (simp only [Pg.fits, Pg.bad, c6, c12, c17, c22]; rfl), rfl, rfl⟩
    ·refine au [1,8,1,0,1,2,0,7,0,8,6,0,0,7,0,8,6,0,0,7,0,8,6,0] h ?_; intro a w h
     refine mxl h fun a w h => ?_
     refine le h fun a w h => ?_
     refine h.spl (fun c33 h => ?_) (fun c33 h => ?_)
     ·refine au [0,0,0,7] h ?_; intro a w h
      refine ldN 0 tN24 h fun a w h => ?_
      refine cl bod69 (Right_ok p.body _ E H _ ⟨A4, c4, rfl, hk⟩ hL (hb.b1) (hb.b2)) h fun r37 H37 L37 a w le37 R h => ?_
      obtain ⟨rfl, rfl, rfl⟩ := R
      refine au [4,8,0,6,0,3,1,3] h ?_; intro a w h
      refine fin1 2 1 h LE.rfl ?_
      exact ⟨by first | (simp only [Pg.fits, Pg.bad, c6, c12, c17, c22, c33]; done) | (simp only [Pg.fits, Pg.bad, c6, c12, c17, c22, c33]; rfl), rfl, rfl⟩
     ·refine au [0,0,0,1,0,1,0,1,5,0,0,6,0,3,1,3] h ?_; intro a w h
      refine fin1 2 1 h LE.rfl ?_
      exact ⟨by first | (simp only [Pg.fits, Pg.bad, c6, c12, c17, c22, c33]; done) | (simp only [Pg.fits, Pg.bad, c6, c12, c17, c22, c33]; rfl), rfl, rfl⟩
end Go.Proofs.YtdabamobjciidaaGreatDoor
/-
  DERIVED: THE SHELF's CONTRACTS AT THIS DUMP, IN PLAIN WORDS (tools/lay-plain.mjs out of 'TryzShelf.lean', which tools/lay-shelf.mjs wrote): THE SAME DECLARATIONS UNDER THE SAME NAMES: 'import', 'namespace', 'open', 'def', 'theorem' AND NOTHING ELSE: no command of the shelf's: FOR A HAND-IN. Each laying: the table of numbers ('.._ren') and one theorem, a field a fact of the dump's own or the kernel's comparison; each contract: ONE APPLICATION.
-/
namespace Go.Proofs
open Go.Shelf
def Tryz.lays156_ren : Go.Shelf.Ren := ⟨fun | 156 => 92 | 165 => 123 | 166 => 124 | 169 => 125 | 240 => 138 | 241 => 139 | 276 => 142 | 277 => 143 | n => n, fun | 31 => 70 | 9 => 9 | 3 => 3 | 4 => 4 | 0 => 0 | 20 => 20 | 72 => 178 | 76 => 182 | 70 => 176 | 37 => 29 | 75 => 181 | 127 => 196 | 164 => 202 | 5 => 5 | 80 => 184 | n => n, fun | n => n⟩
theorem Tryz.lays156 : Go.Proofs.Lays.n156 Tryz.prog Tryz.lays156_ren := {
 mixed := by kernel_rfl
 f156 := Tryz.func92.trans (congrArg some (by kernel_rfl))
 f165 := Tryz.func123.trans (congrArg some (by kernel_rfl))
 f166 := Tryz.func124.trans (congrArg some (by kernel_rfl))
 f169 := Tryz.func125.trans (congrArg some (by kernel_rfl))
 f240 := Tryz.func138.trans (congrArg some (by kernel_rfl))
 f241 := Tryz.func139.trans (congrArg some (by kernel_rfl))
 f276 := Tryz.func142.trans (congrArg some (by kernel_rfl))
 f277 := Tryz.func143.trans (congrArg some (by kernel_rfl))
 t0 := Tryz.underlying0
 a0 := Tryz.isAgg0
 z0 := Tryz.sizeOf0
 v0 := Tryz.zeroValue0
 t3 := Tryz.underlying3
 a3 := Tryz.isAgg3
 z3 := Tryz.sizeOf3
 v3 := Tryz.zeroValue3
 t4 := Tryz.underlying4
 a4 := Tryz.isAgg4
 z4 := Tryz.sizeOf4
 v4 := Tryz.zeroValue4
 t9 := Tryz.underlying9
 a9 := Tryz.isAgg9
 z9 := Tryz.sizeOf9
 v9 := Tryz.zeroValue9
 t20 := Tryz.underlying20
 a20 := Tryz.isAgg20
 z20 := Tryz.sizeOf20
 v20 := Tryz.zeroValue20
 t31 := Tryz.underlying70
 a31 := Tryz.isAgg70
 z31 := Tryz.sizeOf70
 v31 := Tryz.zeroValue70
 t37 := Tryz.underlying29
 a37 := Tryz.isAgg29
 z37 := Tryz.sizeOf29
 v37 := Tryz.zeroValue29
 t70 := Tryz.underlying176
 a70 := Tryz.isAgg176
 z70 := Tryz.sizeOf176
 v70 := Tryz.zeroValue176
 t72 := Tryz.underlying178
 a72 := Tryz.isAgg178
 z72 := Tryz.sizeOf178
 v72 := Tryz.zeroValue178
 t75 := Tryz.underlying181
 a75 := Tryz.isAgg181
 z75 := Tryz.sizeOf181
 v75 := Tryz.zeroValue181
 t76 := Tryz.underlying182
 a76 := Tryz.isAgg182
 z76 := Tryz.sizeOf182
 v76 := Tryz.zeroValue182
 t127 := Tryz.underlying196
 a127 := Tryz.isAgg196
 z127 := Tryz.sizeOf196
 v127 := Tryz.zeroValue196
 t164 := Tryz.underlying202
 a164 := Tryz.isAgg202
 z164 := Tryz.sizeOf202
 v164 := Tryz.zeroValue202 }
theorem Tryz.Builder_Extra_156 : Builder.Extra Tryz.prog Tryz.lays156_ren := {
 sizeBuilder := by kernel_rfl
 liesBuilder := by kernel_rfl
 t5 := Tryz.underlying5
 a5 := Tryz.isAgg5
 z5 := Tryz.sizeOf5
 v5 := Tryz.zeroValue5
 infoByte := by kernel_rfl
 cellsByte := by kernel_rfl
 sizeByte := by kernel_rfl
 neB5 := by decide }
open Go.RowKit in
theorem Tryz.strings_Join_none (a : Option Addr) (c : Nat) (sep : ByteArray) (w : World) :
   Calls Tryz.prog 92 #[.slice a 0 c, .string sep] w fun e w' => e = .returned (.string ⟨#[]⟩) ∧ w' = w := Any.strings_Join_none Tryz.lays156 Tryz.Builder_Extra_156 a c sep w
open Go.RowKit in
theorem Tryz.strings_Join (bk o c : Nat) (xs : List ByteArray) (sep : ByteArray) (w : World) (hcells : ∀ (j : Nat) x, xs[j]? = some x → w.cell? ⟨bk, o + j, none⟩ = some (.string x)) (hbk : bk < w.heap.size) (hN : xs.length ≤ 140737488355328) (hcap : xs.length ≤ c) (hlen : (Lib.join (xs.map (·.data.toList)) sep.data.toList).length ≤ 140737488355328) :
   Calls Tryz.prog 92 #[.slice (some ⟨bk, o, none⟩) xs.length c, .string sep] w fun e w' => e = .returned (.string ⟨(Lib.join (xs.map (·.data.toList)) sep.data.toList).toArray⟩) ∧ Below w.heap.size w w' := Any.strings_Join Tryz.lays156 Tryz.Builder_Extra_156 bk o c xs sep w hcells hbk hN hcap hlen
def Tryz.laysM171_ren : Go.Shelf.Ren := ⟨fun | 171 => 37 | 243 => 50 | 246 => 63 | 283 => 80 | 284 => 81 | 285 => 82 | 286 => 83 | 129 => 105 | 317 => 116 | 318 => 117 | 319 => 118 | 320 => 119 | 337 => 135 | 338 => 136 | n => n, fun | 3 => 3 | 9 => 9 | 2 => 2 | 4 => 4 | 171 => 134 | 0 => 0 | 53 => 111 | 37 => 29 | 5 => 5 | 173 => 137 | 212 => 170 | 51 => 162 | 20 => 20 | 213 => 171 | 46 => 129 | 232 => 200 | 233 => 201 | n => n, fun | 17 => 0 | 18 => 4 | 19 => 5 | n => n⟩
theorem Tryz.laysM171 : Go.Proofs.LaysM.n171 Tryz.prog Tryz.laysM171_ren := {
 mixed := by kernel_rfl
 f129 := Tryz.func105.trans (congrArg some (by kernel_rfl))
 f171 := Tryz.func37.trans (congrArg some (by kernel_rfl))
 f243 := Tryz.func50.trans (congrArg some (by kernel_rfl))
 f246 := Tryz.func63.trans (congrArg some (by kernel_rfl))
 f283 := Tryz.func80.trans (congrArg some (by kernel_rfl))
 f284 := Tryz.func81.trans (congrArg some (by kernel_rfl))
 f285 := Tryz.func82.trans (congrArg some (by kernel_rfl))
 f286 := Tryz.func83.trans (congrArg some (by kernel_rfl))
 f317 := Tryz.func116.trans (congrArg some (by kernel_rfl))
 f318 := Tryz.func117.trans (congrArg some (by kernel_rfl))
 f319 := Tryz.func118.trans (congrArg some (by kernel_rfl))
 f320 := Tryz.func119.trans (congrArg some (by kernel_rfl))
 f337 := Tryz.func135.trans (congrArg some (by kernel_rfl))
 f338 := Tryz.func136.trans (congrArg some (by kernel_rfl))
 t0 := Tryz.underlying0
 a0 := Tryz.isAgg0
 z0 := Tryz.sizeOf0
 v0 := Tryz.zeroValue0
 t2 := Tryz.underlying2
 a2 := Tryz.isAgg2
 z2 := Tryz.sizeOf2
 v2 := Tryz.zeroValue2
 t3 := Tryz.underlying3
 a3 := Tryz.isAgg3
 z3 := Tryz.sizeOf3
 v3 := Tryz.zeroValue3
 t4 := Tryz.underlying4
 a4 := Tryz.isAgg4
 z4 := Tryz.sizeOf4
 v4 := Tryz.zeroValue4
 t5 := Tryz.underlying5
 a5 := Tryz.isAgg5
 z5 := Tryz.sizeOf5
 v5 := Tryz.zeroValue5
 t9 := Tryz.underlying9
 a9 := Tryz.isAgg9
 z9 := Tryz.sizeOf9
 v9 := Tryz.zeroValue9
 t20 := Tryz.underlying20
 a20 := Tryz.isAgg20
 z20 := Tryz.sizeOf20
 v20 := Tryz.zeroValue20
 t37 := Tryz.underlying29
 a37 := Tryz.isAgg29
 z37 := Tryz.sizeOf29
 v37 := Tryz.zeroValue29
 t46 := Tryz.underlying129
 a46 := Tryz.isAgg129
 z46 := Tryz.sizeOf129
 v46 := Tryz.zeroValue129
 t51 := Tryz.underlying162
 a51 := Tryz.isAgg162
 z51 := Tryz.sizeOf162
 v51 := Tryz.zeroValue162
 t53 := Tryz.underlying111
 a53 := Tryz.isAgg111
 z53 := Tryz.sizeOf111
 v53 := Tryz.zeroValue111
 t171 := Tryz.underlying134
 a171 := Tryz.isAgg134
 z171 := Tryz.sizeOf134
 v171 := Tryz.zeroValue134
 t173 := Tryz.underlying137
 a173 := Tryz.isAgg137
 z173 := Tryz.sizeOf137
 v173 := Tryz.zeroValue137
 t212 := Tryz.underlying170
 a212 := Tryz.isAgg170
 z212 := Tryz.sizeOf170
 v212 := Tryz.zeroValue170
 t213 := Tryz.underlying171
 a213 := Tryz.isAgg171
 z213 := Tryz.sizeOf171
 t232 := Tryz.underlying200
 a232 := Tryz.isAgg200
 z232 := Tryz.sizeOf200
 v232 := Tryz.zeroValue200
 t233 := Tryz.underlying201
 a233 := Tryz.isAgg201
 z233 := Tryz.sizeOf201
 v233 := Tryz.zeroValue201
 g17 := by kernel_rfl
 g18 := by kernel_rfl
 g19 := by kernel_rfl
 i0 := by kernel_rfl
 i2 := by kernel_rfl
 i3 := by kernel_rfl
 i4 := by kernel_rfl
 i5 := by kernel_rfl
 i9 := by kernel_rfl
 i20 := by kernel_rfl
 i37 := by kernel_rfl
 i46 := by kernel_rfl
 i51 := by kernel_rfl
 i53 := by kernel_rfl
 i171 := by kernel_rfl
 i173 := by kernel_rfl
 i212 := by kernel_rfl
 i232 := by kernel_rfl
 i233 := by kernel_rfl
 m17 := by kernel_rfl
 m18 := by kernel_rfl
 m19 := by kernel_rfl }
open Go.RowKit Go.Sort Go.Lib in
theorem Tryz.strconv_Itoa (n : Int) (h0 : -9223372036854775808 ≤ n) (h1 : n ≤ 9223372036854775807) (w : World) (htab : Lib.TabIs Tryz.prog w "internal/strconv.uint64pow10" .u64 Lib.pow10Tab) :
   Calls Tryz.prog 37 #[.int .i64 n] w fun e w' => e = .returned (.string ⟨(Lib.itoa n).toArray⟩) ∧ ∃ k os, w' = grow (w.drewN k) os := Any.strconv_Itoa Tryz.laysM171 n h0 h1 w htab
def Tryz.laysM173_ren : Go.Shelf.Ren := ⟨fun | 173 => 54 | 246 => 63 | 283 => 80 | 284 => 81 | 285 => 82 | 286 => 83 | 129 => 105 | 317 => 116 | 318 => 117 | 319 => 118 | 320 => 119 | 337 => 135 | 338 => 136 | n => n, fun | 2 => 2 | 3 => 3 | 9 => 9 | 4 => 4 | 171 => 134 | 0 => 0 | 53 => 111 | 37 => 29 | 5 => 5 | 173 => 137 | 212 => 170 | 51 => 162 | 20 => 20 | 213 => 171 | 46 => 129 | 232 => 200 | 233 => 201 | n => n, fun | 17 => 0 | 18 => 4 | 19 => 5 | n => n⟩
theorem Tryz.laysM173 : Go.Proofs.LaysM.n173 Tryz.prog Tryz.laysM173_ren := {
 mixed := by kernel_rfl
 f129 := Tryz.func105.trans (congrArg some (by kernel_rfl))
 f173 := Tryz.func54.trans (congrArg some (by kernel_rfl))
 f246 := Tryz.func63.trans (congrArg some (by kernel_rfl))
 f283 := Tryz.func80.trans (congrArg some (by kernel_rfl))
 f284 := Tryz.func81.trans (congrArg some (by kernel_rfl))
 f285 := Tryz.func82.trans (congrArg some (by kernel_rfl))
 f286 := Tryz.func83.trans (congrArg some (by kernel_rfl))
 f317 := Tryz.func116.trans (congrArg some (by kernel_rfl))
 f318 := Tryz.func117.trans (congrArg some (by kernel_rfl))
 f319 := Tryz.func118.trans (congrArg some (by kernel_rfl))
 f320 := Tryz.func119.trans (congrArg some (by kernel_rfl))
 f337 := Tryz.func135.trans (congrArg some (by kernel_rfl))
 f338 := Tryz.func136.trans (congrArg some (by kernel_rfl))
 t0 := Tryz.underlying0
 a0 := Tryz.isAgg0
 z0 := Tryz.sizeOf0
 v0 := Tryz.zeroValue0
 t2 := Tryz.underlying2
 a2 := Tryz.isAgg2
 z2 := Tryz.sizeOf2
 v2 := Tryz.zeroValue2
 t3 := Tryz.underlying3
 a3 := Tryz.isAgg3
 z3 := Tryz.sizeOf3
 v3 := Tryz.zeroValue3
 t4 := Tryz.underlying4
 a4 := Tryz.isAgg4
 z4 := Tryz.sizeOf4
 v4 := Tryz.zeroValue4
 t5 := Tryz.underlying5
 a5 := Tryz.isAgg5
 z5 := Tryz.sizeOf5
 v5 := Tryz.zeroValue5
 t9 := Tryz.underlying9
 a9 := Tryz.isAgg9
 z9 := Tryz.sizeOf9
 v9 := Tryz.zeroValue9
 t20 := Tryz.underlying20
 a20 := Tryz.isAgg20
 z20 := Tryz.sizeOf20
 v20 := Tryz.zeroValue20
 t37 := Tryz.underlying29
 a37 := Tryz.isAgg29
 z37 := Tryz.sizeOf29
 v37 := Tryz.zeroValue29
 t46 := Tryz.underlying129
 a46 := Tryz.isAgg129
 z46 := Tryz.sizeOf129
 v46 := Tryz.zeroValue129
 t51 := Tryz.underlying162
 a51 := Tryz.isAgg162
 z51 := Tryz.sizeOf162
 v51 := Tryz.zeroValue162
 t53 := Tryz.underlying111
 a53 := Tryz.isAgg111
 z53 := Tryz.sizeOf111
 v53 := Tryz.zeroValue111
 t171 := Tryz.underlying134
 a171 := Tryz.isAgg134
 z171 := Tryz.sizeOf134
 v171 := Tryz.zeroValue134
 t173 := Tryz.underlying137
 a173 := Tryz.isAgg137
 z173 := Tryz.sizeOf137
 v173 := Tryz.zeroValue137
 t212 := Tryz.underlying170
 a212 := Tryz.isAgg170
 z212 := Tryz.sizeOf170
 v212 := Tryz.zeroValue170
 t213 := Tryz.underlying171
 a213 := Tryz.isAgg171
 z213 := Tryz.sizeOf171
 t232 := Tryz.underlying200
 a232 := Tryz.isAgg200
 z232 := Tryz.sizeOf200
 v232 := Tryz.zeroValue200
 t233 := Tryz.underlying201
 a233 := Tryz.isAgg201
 z233 := Tryz.sizeOf201
 v233 := Tryz.zeroValue201
 g17 := by kernel_rfl
 g18 := by kernel_rfl
 g19 := by kernel_rfl
 i0 := by kernel_rfl
 i2 := by kernel_rfl
 i3 := by kernel_rfl
 i4 := by kernel_rfl
 i5 := by kernel_rfl
 i9 := by kernel_rfl
 i20 := by kernel_rfl
 i37 := by kernel_rfl
 i46 := by kernel_rfl
 i51 := by kernel_rfl
 i53 := by kernel_rfl
 i171 := by kernel_rfl
 i173 := by kernel_rfl
 i212 := by kernel_rfl
 i232 := by kernel_rfl
 i233 := by kernel_rfl
 m17 := by kernel_rfl
 m18 := by kernel_rfl
 m19 := by kernel_rfl }
open Go.RowKit Go.Sort Go.Lib in
theorem Tryz.strconv_FormatInt_10 (n : Int) (h0 : -9223372036854775808 ≤ n) (h1 : n ≤ 9223372036854775807) (w : World) (htab : Lib.TabIs Tryz.prog w "internal/strconv.uint64pow10" .u64 Lib.pow10Tab) :
   Calls Tryz.prog 54 #[.int .i64 n, .int .i64 10] w fun e w' => e = .returned (.string ⟨(Lib.itoa n).toArray⟩) ∧ ∃ k os, w' = grow (w.drewN k) os := Any.strconv_FormatInt_10 Tryz.laysM173 n h0 h1 w htab
end Go.Proofs
namespace Go.Proofs.YtdabamobjciidaaGreatDoor
open Go X
theorem Itoa_ok (n : Int) (E : World) (H : GH) (L : List It) (hL : Laid H) (h0 : -9223372036854775808 ≤ n) (h1 : n ≤ 9223372036854775807) : Ok Tryz.prog 37 #[.int .i64 n] E H L fun r H' L' => r = str (Lib.itoa n) ∧ H = H' ∧ L = L' :=
 Ok.of_below fun w hw => (Tryz.strconv_Itoa n h0 h1 w (hL.pow w ⟨hw.fro, fun i hi => by cases hi⟩)).mono fun e w' ⟨h, k, os, hw'⟩ => ⟨h, by subst hw'; exact belowG _ _ _⟩
theorem FormatInt_ok (n : Int) (E : World) (H : GH) (L : List It) (hL : Laid H) (h0 : -9223372036854775808 ≤ n) (h1 : n ≤ 9223372036854775807) : Ok Tryz.prog 54 #[.int .i64 n, .int .i64 10] E H L fun r H' L' => r = str (Lib.itoa n) ∧ H = H' ∧ L = L' :=
 Ok.of_below fun w hw => (Tryz.strconv_FormatInt_10 n h0 h1 w (hL.pow w ⟨hw.fro, fun i hi => by cases hi⟩)).mono fun e w' ⟨h, k, os, hw'⟩ => ⟨h, by subst hw'; exact belowG _ _ _⟩
theorem Join_ok (ss : List Bs) (sep : Bs) (A : Option Addr) (c : Nat) (v : Value) (E : World) (H : GH) (L : List It) (hss : RS RStr 1 H v ss) (hb : ss.length < 1000000000000) (hlen : (Lib.join ss sep).length ≤ 140737488355328) : Ok Tryz.prog 92 #[v, str sep] E H L fun r H' L' => r = str (Lib.join ss sep) ∧ H = H' ∧ L = L' := by
 obtain ⟨A, c, rfl, hc, hat⟩ := hss
 cases ss with
 | nil => exact Ok.of_below fun w hw => (Tryz.strings_Join_none A c _ w).mono fun e w' ⟨h, hw'⟩ => ⟨h, by subst hw'; exact .refl _ _⟩
 | cons s0 ss =>
   obtain ⟨g, off, cs, rfl, hl, hr, hcell⟩ := hat 0 s0 rfl
   have hcells : ∀ w, St E H L w → ∀ (j : Nat) x, ((s0 :: ss).map fun s => (⟨s.toArray⟩ : ByteArray))[j]? = some x → w.cell? ⟨g, off + j, none⟩ = some (.string x) := by
     intro w hw j x hx
     rw [List.getElem?_map, Option.map_eq_some_iff] at hx
     obtain ⟨s, hs, rfl⟩ := hx
     obtain ⟨g', off', cs', e, hl', hr', hcell'⟩ := hat j s hs
     cases e
     unfold RStr at hr'; subst hr'
     have := (hcell' 0 _ rfl).cell hw.sees
     simpa using this
   have hmap : ((s0 :: ss).map fun s => (⟨s.toArray⟩ : ByteArray)).map (·.data.toList) = s0 :: ss := by rw [List.map_map]; exact List.map_id _
   have hgl : ∀ w, St E H L w → g < w.heap.size := fun w hw => by
     obtain ⟨c1, e1, z1, h1, _⟩ := hcell 0 (cs[0]'(by rw [hl]; exact Nat.one_pos)) (List.getElem?_eq_getElem _)
     exact hw.size_le h1
   refine Ok.of_below fun w hw => ?_
   have := Tryz.strings_Join g off c ((s0 :: ss).map fun s => (⟨s.toArray⟩ : ByteArray)) ⟨sep.toArray⟩ w (hcells w hw) (hgl w hw) (by rw [List.length_map]; omega) (by rw [List.length_map]; exact hc) (by rw [hmap]; exact hlen)
   rw [hmap, List.length_map] at this
   exact this
abbrev TS (H : GH) (A : Option Addr) (c : Nat) (ks : List Tk) : Prop := RS RTk 3 H (.slice A ks.length c) ks
theorem TS.get {H : GH} {A : Option Addr} {c : Nat} {ks : List Tk} (h : TS H A c ks) {j : Nat} (hj : j < ks.length) :
   ∃ g off, A = some ⟨g, off, none⟩ ∧ ∀ i u, [Value.int .i64 ks[j].kind, str ks[j].text, .int .i64 ks[j].n][i]? = some u → Hc H g (off + j * 3 + i) u := by
 obtain ⟨g, off, cs, hA, hl, hr, hc⟩ := RS.at_ h (List.getElem?_eq_getElem hj)
 unfold RTk at hr; subst hr
 exact ⟨g, off, hA, hc⟩
theorem Print_ok (ks : List Tk) (v : Value) (E : World) (H : GH) (L : List It) (hks : RS RTk 3 H v ks) (hb : ks.length < 1000000000000) (hlen : (Lib.join (ks.map (·.text)) [32]).length ≤ 140737488355328) : Ok Tryz.prog 70 #[v] E H L fun r H' L' => r = str (showL ks) ∧ H = H' ∧ L = L' := by
 obtain ⟨A, c, rfl, hc⟩ := id hks
 refine enter (N := 20) [(0, _)] Tryz.func70 rfl rfl rfl rfl fun a w h => ?_
 refine au [1,2,0,6,0,2,0,6,0,3,0,4,1,2] h ?_; intro a w h
 have h := h.row (e := 9) (sz := 1)
 refine au [0,0,6,0,0,0,0,3,1,5] h ?_; intro a w h
 refine lp (β := Nat × Value × List Value) (fun x a w => match x with | (k, v, xs) => (k ≤ ks.length ∧ RowR RStr 1 H xs ((ks.take k).map (·.text))) ∧ S E H 20 [] [(8, .int .i64 (k : Int)), (7, .int .i64 (ks.length : Int)), (6, .slice A ks.length c), (3, v)] (.row v 9 1 k xs :: L) a w)
  (fun x => match x with | (k, v, xs) => ks.length - k) (0, .slice none 0 0, []) ⟨⟨Nat.zero_le _, RowR.nil⟩, h.to 0 _⟩ ?_
 rintro ⟨k, v, xs⟩ a w ⟨pre, h⟩
 refine au [1,2,6,4,0,3,0,4] h ?_; intro a w h
 refine cdB h (fun c9 => ?_) (fun c9 => ?_)
 ·have c9 : k < ks.length := by simpa using c9
  obtain ⟨g, off, rfl, hcell⟩ := TS.get hks c9
  refine au [1,8,1,0,0,4,1,5,1,2] h ?_
  refine ia sli124 sz143 rfl c9 h fun a w h => ?_
  refine ldHN tN143 rfl hcell h fun a w h => ?_
  refine al zr143 h fun g5 a w h => ?_
  refine au [5,5,0,3,0,5,0,0,0,7,0,8] h ?_; intro a w h
  refine bsl bs70 h fun g15 a w h => ?_
  refine apb 2 0 (L' := fun i => _ :: _ :: i :: _) [str ks[k].text] row70 h ?_ ?_ fun v16 a w hone16 h => ?_
  ·have := pre.1; omega
  ·have := pre.1; omega
  have h := h.del 1
  have h := h.del 0
  refine au [0,6,1,1,1,7,1,0,0,5] h ?_; intro a w h
  refine inc ?_ h fun a w h => ?_
  ·omega
  refine au [0,0,0,3] h ?_; intro a w h
  exact ⟨(k + 1, v16, xs ++ [str ks[k].text]), ⟨⟨by omega, by rw [List.take_succ_eq_append_getElem c9, List.map_append]; exact pre.2.app (.one rfl rfl)⟩, h.to 0 _⟩, by show _ - (k + 1) < _ - k; omega⟩
 ·have hk : k = ks.length := by simp at c9; omega
  refine au [2,5,2,2,2,2,2,3,1,0,1,2,0,0] h ?_; intro a w h
  obtain ⟨H2, le2, h, hrs⟩ := h.frw 0 (n := k) (ys := ks.map (·.text)) (by rw [hk, List.take_length] at pre; exact pre.2) (by rw [List.length_map]; exact hk) (fun _ _ _ _ _ h => h)
  have l_H_H2 : LE H H2 := le2
  refine cl bod92 (Join_ok (ks.map (·.text)) [32] none 0 _ E H2 _ hrs (by rw [List.length_map]; omega) hlen) h fun r19 H19 L19 a w le19 R h => ?_
  obtain ⟨rfl, rfl, rfl⟩ := R
  refine au [0,6,0,3,1,3] h ?_; intro a w h
  refine fin1 2 0 (h.less l_H_H2) LE.rfl ?_
  exact ⟨rfl, rfl, rfl⟩
def RPt (H : GH) (cs : List Value) : Pt → Prop
 | .word s => cs = [.iface 150 (str s)]
 | .mark s => cs = [.iface 151 (str s)]
 | .name s => cs = [.iface 148 (str s)]
 | .kid t => ∃ A c, cs = [.iface 146 (.agg #[.int .i64 t.kind, str t.name, .int .i64 t.n, .slice A t.kids.length c])] ∧ KS H A c t.kids
theorem rpt_up {H H' : GH} (hl : LE H H') {cs : List Value} {p : Pt} (h : RPt H cs p) : RPt H' cs p := by
 cases p with
 | kid t => obtain ⟨A, c, h1, h2⟩ := h; exact ⟨A, c, h1, h2.up hl⟩
 | _ => exact h
def RowTk (ks : List Tk) (L : List It) : Value → GH → List It → Prop := fun r H' L' => ∃ A c xs, r = .slice A ks.length c ∧ L' = .row (.slice A ks.length c) 143 3 ks.length xs :: L ∧ RowR RTk 3 H' xs ks
def WithinOk (t : Tm) : Prop := ∀ (v : Value) (E : World) (H : GH) (L : List It), VT H v t → Laid H → Ok Tryz.prog 126 #[v] E H L (RowTk t.within L)
def ToksOk (t : Tm) : Prop := ∀ (v : Value) (E : World) (H : GH) (L : List It), VT H v t → Laid H → Ok Tryz.prog 71 #[v] E H L (RowTk t.toks L)
theorem rtkR {H : GH} {xs : List Value} {ks : List Tk} {H' : GH} (h : RowR RTk 3 H xs ks) : RowR RTk 3 H' xs ks := h.mono fun _ _ _ h => h
theorem kid_ok (ks : List Tm) (i : Nat) (hi : i < ks.length) (A : Option Addr) (c g : Nat) (E : World) (H : GH) (L : List It) (hks : KS H A c ks) (hcap : Hc H g 3 (.slice A ks.length c)) :
   Ok Tryz.prog 93 #[.int .i64 (i : Int), .pointer (some ⟨g, 0, none⟩)] E H L fun r H' L' => ∃ A' c', r = .agg #[.int .i64 ks[i].kind, str ks[i].name, .int .i64 ks[i].n, .slice A' ks[i].kids.length c'] ∧ KS H A' c' ks[i].kids ∧ H = H' ∧ L = L' := by
 obtain ⟨g2, off, A2, c2, rfl, hvt, hcell⟩ := KS.get hks hi
 have hvt : KS H A2 c2 ks[i].kids := by obtain ⟨A3, c3, e, h3⟩ := hvt; cases e; exact h3
 refine enter (N := 10) [(0, _), (1, _)] Tryz.func93 rfl rfl rfl rfl fun a w h => ?_
 refine au [1,2] h ?_
 refine al zr146 h fun g3 a w h => ?_
 refine au [0,2,0,7] h ?_; intro a w h
 refine ldH t1_22 hcap h fun a w h => ?_
 refine mv h fun a w h => ?_
 refine ia sli22 sz24 rfl hi h fun a w h => ?_
 refine ldHN tN24 rfl hcell h fun a w h => ?_
 refine au [7,5,5,5,0,3,1,3] h ?_; intro a w h
 exact fin (rs := [.cell 3 146]) (vs := [.agg #[.int .i64 ks[i].kind, str ks[i].name, .int .i64 ks[i].n, .slice A2 ks[i].kids.length c2]]) h rfl (.agg (k0 := 0) tN146 rfl rfl rfl .nil) rfl LE.rfl ⟨LE.rfl, h.st.drop 1⟩ ⟨A2, c2, rfl, hvt, rfl, rfl⟩
theorem laid_ok (ps : List Pt) (v : Value) (E : World) (H : GH) (L : List It) (hps : RS RPt 1 H v ps) (hL : Laid H) (hw : ∀ t, Pt.kid t ∈ ps → WithinOk t) (hb : ps.length < 1000000000000) (hbb : (laidL ps).length < 1000000000000) : Ok Tryz.prog 94 #[v] E H L (RowTk (laidL ps) L) := by
 obtain ⟨A, c, rfl, hpc⟩ := id hps
 have hL0 := hL
 have hps0 := hps
 refine enter (N := 51) [(0, _)] Tryz.func94 rfl rfl rfl rfl fun a w h => ?_
 refine au [1,2,0,6,0,2,0,6,0,3,0,4,1,2] h ?_; intro a w h
 have h := h.row (e := 143) (sz := 3)
 refine au [0,0,6,0,0,0,0,3,1,5] h ?_; intro a w h
 refine lp (β := Nat × GH × Option Addr × Nat × Nat × List Value) (fun x a w => match x with | (k, H1, B, n, cp, xs) => (k ≤ ps.length ∧ LE H H1 ∧ n = (laidL (ps.take k)).length ∧ RowR RTk 3 H1 xs (laidL (ps.take k))) ∧ S E H1 51 [] [(12, .int .i64 (k : Int)), (11, .int .i64 (ps.length : Int)), (10, .slice A ps.length c), (3, .slice B n cp)] (.row (.slice B n cp) 143 3 n xs :: L) a w)
  (fun x => match x with | (k, H1, B, n, cp, xs) => ps.length - k) (0, H, none, 0, 0, []) ⟨⟨Nat.zero_le _, LE.rfl, rfl, RowR.nil⟩, h.to 0 _⟩ ?_
 rintro ⟨k, H1, B, n, cp, xs⟩ a w ⟨pre, h⟩
 obtain ⟨hk, l_H_H1, hn, hrow⟩ := pre
 have hL := hL0.up l_H_H1
 have hps := RS.mono hps0 l_H_H1 (fun cs x _ hr => rpt_up l_H_H1 hr)
 refine au [1,2,6,4,0,3,0,4] h ?_; intro a w h
 refine cdB h (fun c13 => ?_) (fun c13 => ?_)
 ·have c13 : k < ps.length := by simpa using c13
  obtain ⟨g, off, cs, rfl, hl, hR, hcell⟩ := RS.at_ hps (List.getElem?_eq_getElem c13)
  refine au [1,8,1,0,0,4,1,5,1,2] h ?_
  refine ia sli185 sz187 rfl c13 h fun a w h => ?_
  have hltk := laid_take c13
  have hlen := laid_len_take ps (k + 1)
  have hkw : ∀ t, ps[k] = .kid t → WithinOk t := fun t e => hw t (e ▸ List.getElem_mem c13)
  generalize ps[k] = p at hR hltk hkw
  rw [hltk, List.length_append] at hlen
  cases p with
  | word s =>
   have hR : cs = [.iface 150 (str s)] := hR
   subst hR
   refine ldH t1_187 (hcell 0 _ rfl) h fun a w h => ?_
   refine au [0,6,0,2,0,0,0,3,1,5,1,2] h ?_; intro a w h
   refine taT cnc150 h fun a w h => ?_
   refine au [4,7,4,7,0,3,2,0,1,2,0,6,0,3,0,5,0,0,0,0,7,5] h ?_; intro a w h
   refine bsl bs124 h fun g23 a w h => ?_
   refine apb 1 0 (L' := fun i => _ :: i :: _) [.int .i64 3, str s, .int .i64 0] row124 h ?_ ?_ fun v24 a w hone h => ?_
   ·have e := hlen; simp only [Pt.toks, List.length_cons, List.length_nil] at e; omega
   ·have e := hlen; simp only [Pt.toks, List.length_cons, List.length_nil] at e; omega
   have h := h.del 0
   obtain ⟨B2, cp2, rfl⟩ := h.rowv 0
   have hn2 : n + 1 = (laidL (ps.take (k + 1))).length := by rw [hltk, List.length_append, ← hn]; rfl
   have hr2 : RowR RTk 3 H1 (xs ++ [.int .i64 3, str s, .int .i64 0]) (laidL (ps.take (k + 1))) := by rw [hltk]; exact hrow.app (.one rfl rfl)
   refine au [0,6,1,1,1,7,1,7,1,0,0,5] h ?_; intro a w h
   refine inc ?_ h fun a w h => ?_
   ·omega
   refine au [0,0,0,3] h ?_; intro a w h
   exact ⟨(k + 1, H1, B2, _, cp2, _), ⟨⟨by omega, l_H_H1, hn2, hr2⟩, h.to 0 _⟩, by show _ - (k + 1) < _ - k; omega⟩
  | mark s =>
   have hR : cs = [.iface 151 (str s)] := hR
   subst hR
   refine ldH t1_187 (hcell 0 _ rfl) h fun a w h => ?_
   refine au [0,6,0,2,0,0,0,3,1,5,1,2] h ?_; intro a w h
   refine taF cnc150 zr150 h fun a w h => ?_
   refine au [4,7,4,7,0,3,2,1,1,2] h ?_; intro a w h
   refine taT cnc151 h fun a w h => ?_
   refine au [4,7,4,7,0,3,2,0,1,2,0,6,0,3,0,5,0,0,0,0,7,5] h ?_; intro a w h
   refine bsl bs124 h fun g31 a w h => ?_
   refine apb 1 0 (L' := fun i => _ :: i :: _) [.int .i64 4, str s, .int .i64 0] row124 h ?_ ?_ fun v32 a w hone h => ?_
   ·have e := hlen; simp only [Pt.toks, List.length_cons, List.length_nil] at e; omega
   ·have e := hlen; simp only [Pt.toks, List.length_cons, List.length_nil] at e; omega
   have h := h.del 0
   obtain ⟨B2, cp2, rfl⟩ := h.rowv 0
   have hn2 : n + 1 = (laidL (ps.take (k + 1))).length := by rw [hltk, List.length_append, ← hn]; rfl
   have hr2 : RowR RTk 3 H1 (xs ++ [.int .i64 4, str s, .int .i64 0]) (laidL (ps.take (k + 1))) := by rw [hltk]; exact hrow.app (.one rfl rfl)
   refine au [0,6,1,1,1,7,1,7,1,0,0,5] h ?_; intro a w h
   refine inc ?_ h fun a w h => ?_
   ·omega
   refine au [0,0,0,3] h ?_; intro a w h
   exact ⟨(k + 1, H1, B2, _, cp2, _), ⟨⟨by omega, l_H_H1, hn2, hr2⟩, h.to 0 _⟩, by show _ - (k + 1) < _ - k; omega⟩
  | name s =>
   have hR : cs = [.iface 148 (str s)] := hR
   subst hR
   refine ldH t1_187 (hcell 0 _ rfl) h fun a w h => ?_
   refine au [0,6,0,2,0,0,0,3,1,5,1,2] h ?_; intro a w h
   refine taF cnc150 zr150 h fun a w h => ?_
   refine au [4,7,4,7,0,3,2,1,1,2] h ?_; intro a w h
   refine taF cnc151 zr151 h fun a w h => ?_
   refine au [4,7,4,7,0,3,2,1,1,2] h ?_; intro a w h
   refine taT cnc148 h fun a w h => ?_
   refine au [4,7,4,7,0,3,2,0,1,2,0,6,0,3,0,5,0,0,0,0,7,5] h ?_; intro a w h
   refine bsl bs124 h fun g39 a w h => ?_
   refine apb 1 0 (L' := fun i => _ :: i :: _) [.int .i64 1, str s, .int .i64 0] row124 h ?_ ?_ fun v40 a w hone h => ?_
   ·have e := hlen; simp only [Pt.toks, List.length_cons, List.length_nil] at e; omega
   ·have e := hlen; simp only [Pt.toks, List.length_cons, List.length_nil] at e; omega
   have h := h.del 0
   obtain ⟨B2, cp2, rfl⟩ := h.rowv 0
   have hn2 : n + 1 = (laidL (ps.take (k + 1))).length := by rw [hltk, List.length_append, ← hn]; rfl
   have hr2 : RowR RTk 3 H1 (xs ++ [.int .i64 1, str s, .int .i64 0]) (laidL (ps.take (k + 1))) := by rw [hltk]; exact hrow.app (.one rfl rfl)
   refine au [0,6,1,1,1,7,1,7,1,0,0,5] h ?_; intro a w h
   refine inc ?_ h fun a w h => ?_
   ·omega
   refine au [0,0,0,3] h ?_; intro a w h
   exact ⟨(k + 1, H1, B2, _, cp2, _), ⟨⟨by omega, l_H_H1, hn2, hr2⟩, h.to 0 _⟩, by show _ - (k + 1) < _ - k; omega⟩
  | kid t =>
   obtain ⟨A2, c2, rfl, hkt⟩ := hR
   refine ldH t1_187 (hcell 0 _ rfl) h fun a w h => ?_
   refine au [0,6,0,2,0,0,0,3,1,5,1,2] h ?_; intro a w h
   refine taF cnc150 zr150 h fun a w h => ?_
   refine au [4,7,4,7,0,3,2,1,1,2] h ?_; intro a w h
   refine taF cnc151 zr151 h fun a w h => ?_
   refine au [4,7,4,7,0,3,2,1,1,2] h ?_; intro a w h
   refine taF cnc148 zr148 h fun a w h => ?_
   refine au [4,7,4,7,0,3,2,1,1,2] h ?_; intro a w h
   refine taT cnc146 h fun a w h => ?_
   refine au [4,7,4,7,0,3,2,0,1,2] h ?_; intro a w h
   refine al zr146 h fun g9 a w h => ?_
   refine au [5,5,0,3,0,5,0,0,0,7,3,3] h ?_; intro a w h
   refine cl bod126 (hkw t rfl _ E H1 _ ⟨A2, c2, rfl, hkt⟩ hL) h fun r47 H47 L47 a w le47 R h => ?_
   obtain ⟨A47, c47, xs47, rfl, rfl, hr47⟩ := R
   have l_H_H47 : LE H H47 := l_H_H1.trans le47
   have l_H1_H47 : LE H1 H47 := le47
   obtain ⟨H5, le5, h, hs5⟩ := h.frw 0 (n := t.within.length) hr47 rfl (fun _ _ _ _ _ h => h)
   have l_H_H5 : LE H H5 := l_H_H47.trans le5
   have l_H1_H5 : LE H1 H5 := l_H1_H47.trans le5
   have l_H47_H5 : LE H47 H5 := le5
   refine aps 1 (L' := fun i => _ :: i :: _) row124 hs5 rtk_one h ?_ ?_ fun v48 news a w hone hnews h => ?_
   ·have e := hlen; simp only [Pt.toks] at e; omega
   ·have e := hlen; simp only [Pt.toks] at e; omega
   have h := h.del 0
   obtain ⟨B2, cp2, rfl⟩ := h.rowv 0
   have hn2 : n + t.within.length = (laidL (ps.take (k + 1))).length := by rw [hltk, List.length_append, ← hn]; rfl
   have hr2 : RowR RTk 3 H5 (xs ++ news) (laidL (ps.take (k + 1))) := by rw [hltk]; exact (rtkR hrow).app (rtkR hnews)
   refine au [0,6,1,1,1,7,1,7,1,0,0,5] h ?_; intro a w h
   refine inc ?_ h fun a w h => ?_
   ·omega
   refine au [0,0,0,3] h ?_; intro a w h
   exact ⟨(k + 1, H5, B2, _, cp2, _), ⟨⟨by omega, l_H_H5, hn2, hr2⟩, h.to 0 _⟩, by show _ - (k + 1) < _ - k; omega⟩
 ·have hkk : k = ps.length := by simp at c13; omega
  refine au [2,5,2,2,2,2,2,3,1,0,1,2,0,0,0,6,0,3,1,3] h ?_; intro a w h
  have hk : k = ps.length := hkk
  rw [hk, List.take_length] at hn hrow
  subst hn
  refine fin1 2 0 h l_H_H1 ?_
  exact ⟨B, cp, xs, rfl, rfl, hrow⟩
theorem within_ok (t : Tm) (hto : ToksOk t) (hlen : t.toks.length < 100000000000) : WithinOk t := by
 intro v E H L hv hL
 have hv0 := hv
 obtain ⟨A, c, rfl, hks⟩ := hv
 have hv := hv0
 refine enter (N := 23) [(0, _)] Tryz.func126 rfl rfl rfl rfl fun a w h => ?_
 refine au [1,2] h ?_
 refine bxA h fun g1 a w h => ?_
 refine au [0,6,0,3,0,4,1,2,0,7,0,8,6,2] h ?_; intro a w h
 refine h.spl (fun c5 h => ?_) (fun c5 h => ?_)
 ·refine au [0,0,0,1,0,1,0,1,4,8,0,3,2,0,1,2,3,3] h ?_; intro a w h
  refine cl bod71 (hto _ E H _ (hv.mono LE.rfl) (hL.up LE.rfl)) h fun r12 H12 L12 a w le12 R h => ?_
  obtain ⟨A12, c12, xs12, rfl, rfl, hr12⟩ := R
  have l_H_H12 : LE H H12 := le12
  refine au [0,6,0,3,1,3,1,4] h ?_; intro a w h
  have h := h.del 1
  refine fin1 2 0 h l_H_H12 ?_
  unfold RowTk Tm.within
  rw [if_pos (by simp only [c5]; rfl)]
  exact ⟨_, _, _, rfl, rfl, hr12⟩
 ·refine au [0,0,0,7,0,8,6,2,5,0,0,3] h ?_; intro a w h
  refine cdB h (fun c10 => ?_) (fun c10 => ?_)
  ·refine au [1,2,3,3] h ?_; intro a w h
   refine cl bod71 (hto _ E H _ (hv.mono LE.rfl) (hL.up LE.rfl)) h fun r12 H12 L12 a w le12 R h => ?_
   obtain ⟨A12, c12, xs12, rfl, rfl, hr12⟩ := R
   have l_H_H12 : LE H H12 := le12
   refine au [0,6,0,3,1,3,1,4] h ?_; intro a w h
   have h := h.del 1
   refine fin1 2 0 h l_H_H12 ?_
   unfold RowTk Tm.within
   rw [if_pos (by simp only [c5, c10]; rfl)]
   exact ⟨_, _, _, rfl, rfl, hr12⟩
  ·refine au [1,8,1,0,0,4] h ?_
   refine rgx [0] [_] [3] 11 mix h (fun a w h => ?_)
   refine au [8,0,7,6,2,6,8,3,4,5,2,6,8,6,7,6,2,6] h ?_; intro a w h
   refine brl2 1 7 true true (by kernel_rfl) (by kernel_rfl) (by kernel_rfl) (fun _ => h.st.sees' (by first | exact LE.rfl | assumption) (by simp)) ?_ ?_
   ·refine bsl bs185 h fun g14 a w h => ?_
    refine br0 ?_
    refine brl2 2 7 true true (by kernel_rfl) (by kernel_rfl) (by kernel_rfl) (fun _ => h.st.sees' (by first | exact LE.rfl | assumption) (by simp)) ?_ ?_
    ·obtain ⟨Hl14, leHl14, h, hp14⟩ := h.fsl (α := Pt) (R := RPt) 0 (ys := [.mark [40]]) (.cons1 rfl .nil) (fun _ l _ _ _ hr => rpt_up l hr)
     have l_H_Hl14 : LE H Hl14 := leHl14
     refine cl bod94 (laid_ok [.mark [40]] _ E Hl14 _ hp14 (hL.up l_H_Hl14) (fun t ht => by simp at ht) (by decide) (by decide)) h fun r15 H15 L15 a w le15 R h => ?_
     obtain ⟨A15, c15, xs15, rfl, rfl, hr15⟩ := R
     have l_H_H15 : LE H H15 := l_H_Hl14.trans le15
     have l_Hl14_H15 : LE Hl14 H15 := le15
     refine br0 ?_
     refine brl2 4 7 false true (by kernel_rfl) (by kernel_rfl) (by kernel_rfl) (fun _ => h.st.sees' (by first | exact LE.rfl | assumption) (by simp)) ?_ ?_
     ·refine cl bod71 (hto _ E H15 _ (hv.mono l_H_H15) (hL.up l_H_H15)) h fun r17 H17 L17 a w le17 R h => ?_
      obtain ⟨A17, c17, xs17, rfl, rfl, hr17⟩ := R
      have l_H_H17 : LE H H17 := l_H_H15.trans le17
      have l_Hl14_H17 : LE Hl14 H17 := l_Hl14_H15.trans le17
      have l_H15_H17 : LE H15 H17 := le17
      refine br0 ?_
      refine brl2 5 7 true true (by kernel_rfl) (by kernel_rfl) (by kernel_rfl) (fun _ => h.st.sees' (by first | exact LE.rfl | assumption) (by simp)) ?_ ?_
      ·obtain ⟨Ha18, leHa18, h, hs18⟩ := h.frw 0 (n := (t.toks).length) hr17 rfl (fun _ _ _ _ _ h => h)
       have l_H_Ha18 : LE H Ha18 := l_H_H17.trans leHa18
       have l_Hl14_Ha18 : LE Hl14 Ha18 := l_Hl14_H17.trans leHa18
       have l_H15_Ha18 : LE H15 Ha18 := l_H15_H17.trans leHa18
       have l_H17_Ha18 : LE H17 Ha18 := leHa18
       refine aps 0 (L' := fun i => i :: _) row124 hs18 rtk_one h ?_ ?_ fun v18 news18 a w hone hnews18 h => ?_
       ·have := hlen; simp only [List.length_cons, List.length_append, List.length_nil, laidL, List.flatMap_cons, List.flatMap_nil, Pt.toks] at this ⊢; omega
       ·have := hlen; simp only [List.length_cons, List.length_append, List.length_nil, laidL, List.flatMap_cons, List.flatMap_nil, Pt.toks] at this ⊢; omega
       obtain ⟨Ar18, cr18, rfl⟩ := h.rowv 0
       refine br0 ?_
       refine brl1 7 true (by kernel_rfl) (by kernel_rfl) (fun _ => h.st.sees' (by first | exact LE.rfl | assumption) (by simp)) ?_
       refine bsl bs185 h fun g20 a w h => ?_
       refine br0 ?_
       refine brl1 8 true (by kernel_rfl) (by kernel_rfl) (fun _ => h.st.sees' (by first | exact LE.rfl | assumption) (by simp)) ?_
       obtain ⟨Hl20, leHl20, h, hp20⟩ := h.fsl (α := Pt) (R := RPt) 0 (ys := [.mark [41]]) (.cons1 rfl .nil) (fun _ l _ _ _ hr => rpt_up l hr)
       have l_H_Hl20 : LE H Hl20 := l_H_Ha18.trans leHl20
       have l_Hl14_Hl20 : LE Hl14 Hl20 := l_Hl14_Ha18.trans leHl20
       have l_H15_Hl20 : LE H15 Hl20 := l_H15_Ha18.trans leHl20
       have l_H17_Hl20 : LE H17 Hl20 := l_H17_Ha18.trans leHl20
       have l_Ha18_Hl20 : LE Ha18 Hl20 := leHl20
       refine cl bod94 (laid_ok [.mark [41]] _ E Hl20 _ hp20 (hL.up l_H_Hl20) (fun t ht => by simp at ht) (by decide) (by decide)) h fun r21 H21 L21 a w le21 R h => ?_
       obtain ⟨A21, c21, xs21, rfl, rfl, hr21⟩ := R
       have l_H_H21 : LE H H21 := l_H_Hl20.trans le21
       have l_Hl14_H21 : LE Hl14 H21 := l_Hl14_Hl20.trans le21
       have l_H15_H21 : LE H15 H21 := l_H15_Hl20.trans le21
       have l_H17_H21 : LE H17 H21 := l_H17_Hl20.trans le21
       have l_Ha18_H21 : LE Ha18 H21 := l_Ha18_Hl20.trans le21
       have l_Hl20_H21 : LE Hl20 H21 := le21
       refine br0 ?_
       refine brl1 9 true (by kernel_rfl) (by kernel_rfl) (fun _ => h.st.sees' (by first | exact LE.rfl | assumption) (by simp)) ?_
       obtain ⟨Ha22, leHa22, h, hs22⟩ := h.frw 0 (n := ((laidL [.mark [41]])).length) hr21 rfl (fun _ _ _ _ _ h => h)
       have l_H_Ha22 : LE H Ha22 := l_H_H21.trans leHa22
       have l_Hl14_Ha22 : LE Hl14 Ha22 := l_Hl14_H21.trans leHa22
       have l_H15_Ha22 : LE H15 Ha22 := l_H15_H21.trans leHa22
       have l_H17_Ha22 : LE H17 Ha22 := l_H17_H21.trans leHa22
       have l_Ha18_Ha22 : LE Ha18 Ha22 := l_Ha18_H21.trans leHa22
       have l_Hl20_Ha22 : LE Hl20 Ha22 := l_Hl20_H21.trans leHa22
       have l_H21_Ha22 : LE H21 Ha22 := leHa22
       refine aps 0 (L' := fun i => i :: _) row124 hs22 rtk_one h ?_ ?_ fun v22 news22 a w hone hnews22 h => ?_
       ·have := hlen; simp only [List.length_cons, List.length_append, List.length_nil, laidL, List.flatMap_cons, List.flatMap_nil, Pt.toks] at this ⊢; omega
       ·have := hlen; simp only [List.length_cons, List.length_append, List.length_nil, laidL, List.flatMap_cons, List.flatMap_nil, Pt.toks] at this ⊢; omega
       obtain ⟨Ar22, cr22, rfl⟩ := h.rowv 0
       refine au [2,7,8,10,0,6,2,6] h ?_; intro a w h
       refine en (by kernel_rfl) ?_
       refine au [1,0,1,3] h ?_
       have h := h.del 1
       have e : (laidL [.mark [40]]).length + t.toks.length + (laidL [.mark [41]]).length = (⟨4, [40], 0⟩ :: (t.toks ++ [⟨4, [41], 0⟩]) : List Tk).length := by simp [laidL, Pt.toks]; omega
       rw [e] at h
       refine fin1 2 0 h l_H_Ha22 ?_
       unfold RowTk Tm.within
       rw [if_neg (by simp only [c5, c10]; decide)]
       exact ⟨_, _, _, rfl, rfl, ((rtkR hr15).app (rtkR hnews18)).app (rtkR hnews22)⟩
      ·refine bsl bs185 h fun g20 a w h => ?_
       refine br0 ?_
       refine brl1 5 true (by kernel_rfl) (by kernel_rfl) (fun _ => h.st.sees' (by first | exact LE.rfl | assumption) (by simp)) ?_
       obtain ⟨Ha18, leHa18, h, hs18⟩ := h.frw 1 (n := (t.toks).length) hr17 rfl (fun _ _ _ _ _ h => h)
       have l_H_Ha18 : LE H Ha18 := l_H_H17.trans leHa18
       have l_Hl14_Ha18 : LE Hl14 Ha18 := l_Hl14_H17.trans leHa18
       have l_H15_Ha18 : LE H15 Ha18 := l_H15_H17.trans leHa18
       have l_H17_Ha18 : LE H17 Ha18 := leHa18
       refine aps 1 (L' := fun i => _ :: i :: _) row124 hs18 rtk_one h ?_ ?_ fun v18 news18 a w hone hnews18 h => ?_
       ·have := hlen; simp only [List.length_cons, List.length_append, List.length_nil, laidL, List.flatMap_cons, List.flatMap_nil, Pt.toks] at this ⊢; omega
       ·have := hlen; simp only [List.length_cons, List.length_append, List.length_nil, laidL, List.flatMap_cons, List.flatMap_nil, Pt.toks] at this ⊢; omega
       obtain ⟨Ar18, cr18, rfl⟩ := h.rowv 1
       refine br0 ?_
       refine brl1 8 true (by kernel_rfl) (by kernel_rfl) (fun _ => h.st.sees' (by first | exact LE.rfl | assumption) (by simp)) ?_
       obtain ⟨Hl20, leHl20, h, hp20⟩ := h.fsl (α := Pt) (R := RPt) 0 (ys := [.mark [41]]) (.cons1 rfl .nil) (fun _ l _ _ _ hr => rpt_up l hr)
       have l_H_Hl20 : LE H Hl20 := l_H_Ha18.trans leHl20
       have l_Hl14_Hl20 : LE Hl14 Hl20 := l_Hl14_Ha18.trans leHl20
       have l_H15_Hl20 : LE H15 Hl20 := l_H15_Ha18.trans leHl20
       have l_H17_Hl20 : LE H17 Hl20 := l_H17_Ha18.trans leHl20
       have l_Ha18_Hl20 : LE Ha18 Hl20 := leHl20
       refine cl bod94 (laid_ok [.mark [41]] _ E Hl20 _ hp20 (hL.up l_H_Hl20) (fun t ht => by simp at ht) (by decide) (by decide)) h fun r21 H21 L21 a w le21 R h => ?_
       obtain ⟨A21, c21, xs21, rfl, rfl, hr21⟩ := R
       have l_H_H21 : LE H H21 := l_H_Hl20.trans le21
       have l_Hl14_H21 : LE Hl14 H21 := l_Hl14_Hl20.trans le21
       have l_H15_H21 : LE H15 H21 := l_H15_Hl20.trans le21
       have l_H17_H21 : LE H17 H21 := l_H17_Hl20.trans le21
       have l_Ha18_H21 : LE Ha18 H21 := l_Ha18_Hl20.trans le21
       have l_Hl20_H21 : LE Hl20 H21 := le21
       refine br0 ?_
       refine brl1 9 true (by kernel_rfl) (by kernel_rfl) (fun _ => h.st.sees' (by first | exact LE.rfl | assumption) (by simp)) ?_
       obtain ⟨Ha22, leHa22, h, hs22⟩ := h.frw 0 (n := ((laidL [.mark [41]])).length) hr21 rfl (fun _ _ _ _ _ h => h)
       have l_H_Ha22 : LE H Ha22 := l_H_H21.trans leHa22
       have l_Hl14_Ha22 : LE Hl14 Ha22 := l_Hl14_H21.trans leHa22
       have l_H15_Ha22 : LE H15 Ha22 := l_H15_H21.trans leHa22
       have l_H17_Ha22 : LE H17 Ha22 := l_H17_H21.trans leHa22
       have l_Ha18_Ha22 : LE Ha18 Ha22 := l_Ha18_H21.trans leHa22
       have l_Hl20_Ha22 : LE Hl20 Ha22 := l_Hl20_H21.trans leHa22
       have l_H21_Ha22 : LE H21 Ha22 := leHa22
       refine aps 0 (L' := fun i => i :: _) row124 hs22 rtk_one h ?_ ?_ fun v22 news22 a w hone hnews22 h => ?_
       ·have := hlen; simp only [List.length_cons, List.length_append, List.length_nil, laidL, List.flatMap_cons, List.flatMap_nil, Pt.toks] at this ⊢; omega
       ·have := hlen; simp only [List.length_cons, List.length_append, List.length_nil, laidL, List.flatMap_cons, List.flatMap_nil, Pt.toks] at this ⊢; omega
       obtain ⟨Ar22, cr22, rfl⟩ := h.rowv 0
       refine au [2,7,8,10,0,6,2,6] h ?_; intro a w h
       refine en (by kernel_rfl) ?_
       refine au [1,0,1,3] h ?_
       have h := h.del 1
       have e : (laidL [.mark [40]]).length + t.toks.length + (laidL [.mark [41]]).length = (⟨4, [40], 0⟩ :: (t.toks ++ [⟨4, [41], 0⟩]) : List Tk).length := by simp [laidL, Pt.toks]; omega
       rw [e] at h
       refine fin1 2 0 h l_H_Ha22 ?_
       unfold RowTk Tm.within
       rw [if_neg (by simp only [c5, c10]; decide)]
       exact ⟨_, _, _, rfl, rfl, ((rtkR hr15).app (rtkR hnews18)).app (rtkR hnews22)⟩
     ·refine bsl bs185 h fun g20 a w h => ?_
      refine br0 ?_
      refine brl1 4 false (by kernel_rfl) (by kernel_rfl) (fun _ => h.st.sees' (by first | exact LE.rfl | assumption) (by simp)) ?_
      refine cl bod71 (hto _ E H15 _ (hv.mono l_H_H15) (hL.up l_H_H15)) h fun r17 H17 L17 a w le17 R h => ?_
      obtain ⟨A17, c17, xs17, rfl, rfl, hr17⟩ := R
      have l_H_H17 : LE H H17 := l_H_H15.trans le17
      have l_Hl14_H17 : LE Hl14 H17 := l_Hl14_H15.trans le17
      have l_H15_H17 : LE H15 H17 := le17
      refine br0 ?_
      refine brl1 5 true (by kernel_rfl) (by kernel_rfl) (fun _ => h.st.sees' (by first | exact LE.rfl | assumption) (by simp)) ?_
      obtain ⟨Ha18, leHa18, h, hs18⟩ := h.frw 0 (n := (t.toks).length) hr17 rfl (fun _ _ _ _ _ h => h)
      have l_H_Ha18 : LE H Ha18 := l_H_H17.trans leHa18
      have l_Hl14_Ha18 : LE Hl14 Ha18 := l_Hl14_H17.trans leHa18
      have l_H15_Ha18 : LE H15 Ha18 := l_H15_H17.trans leHa18
      have l_H17_Ha18 : LE H17 Ha18 := leHa18
      refine aps 1 (L' := fun i => _ :: i :: _) row124 hs18 rtk_one h ?_ ?_ fun v18 news18 a w hone hnews18 h => ?_
      ·have := hlen; simp only [List.length_cons, List.length_append, List.length_nil, laidL, List.flatMap_cons, List.flatMap_nil, Pt.toks] at this ⊢; omega
      ·have := hlen; simp only [List.length_cons, List.length_append, List.length_nil, laidL, List.flatMap_cons, List.flatMap_nil, Pt.toks] at this ⊢; omega
      obtain ⟨Ar18, cr18, rfl⟩ := h.rowv 1
      refine br0 ?_
      refine brl1 8 true (by kernel_rfl) (by kernel_rfl) (fun _ => h.st.sees' (by first | exact LE.rfl | assumption) (by simp)) ?_
      obtain ⟨Hl20, leHl20, h, hp20⟩ := h.fsl (α := Pt) (R := RPt) 0 (ys := [.mark [41]]) (.cons1 rfl .nil) (fun _ l _ _ _ hr => rpt_up l hr)
      have l_H_Hl20 : LE H Hl20 := l_H_Ha18.trans leHl20
      have l_Hl14_Hl20 : LE Hl14 Hl20 := l_Hl14_Ha18.trans leHl20
      have l_H15_Hl20 : LE H15 Hl20 := l_H15_Ha18.trans leHl20
      have l_H17_Hl20 : LE H17 Hl20 := l_H17_Ha18.trans leHl20
      have l_Ha18_Hl20 : LE Ha18 Hl20 := leHl20
      refine cl bod94 (laid_ok [.mark [41]] _ E Hl20 _ hp20 (hL.up l_H_Hl20) (fun t ht => by simp at ht) (by decide) (by decide)) h fun r21 H21 L21 a w le21 R h => ?_
      obtain ⟨A21, c21, xs21, rfl, rfl, hr21⟩ := R
      have l_H_H21 : LE H H21 := l_H_Hl20.trans le21
      have l_Hl14_H21 : LE Hl14 H21 := l_Hl14_Hl20.trans le21
      have l_H15_H21 : LE H15 H21 := l_H15_Hl20.trans le21
      have l_H17_H21 : LE H17 H21 := l_H17_Hl20.trans le21
      have l_Ha18_H21 : LE Ha18 H21 := l_Ha18_Hl20.trans le21
      have l_Hl20_H21 : LE Hl20 H21 := le21
      refine br0 ?_
      refine brl1 9 true (by kernel_rfl) (by kernel_rfl) (fun _ => h.st.sees' (by first | exact LE.rfl | assumption) (by simp)) ?_
      obtain ⟨Ha22, leHa22, h, hs22⟩ := h.frw 0 (n := ((laidL [.mark [41]])).length) hr21 rfl (fun _ _ _ _ _ h => h)
      have l_H_Ha22 : LE H Ha22 := l_H_H21.trans leHa22
      have l_Hl14_Ha22 : LE Hl14 Ha22 := l_Hl14_H21.trans leHa22
      have l_H15_Ha22 : LE H15 Ha22 := l_H15_H21.trans leHa22
      have l_H17_Ha22 : LE H17 Ha22 := l_H17_H21.trans leHa22
      have l_Ha18_Ha22 : LE Ha18 Ha22 := l_Ha18_H21.trans leHa22
      have l_Hl20_Ha22 : LE Hl20 Ha22 := l_Hl20_H21.trans leHa22
      have l_H21_Ha22 : LE H21 Ha22 := leHa22
      refine aps 0 (L' := fun i => i :: _) row124 hs22 rtk_one h ?_ ?_ fun v22 news22 a w hone hnews22 h => ?_
      ·have := hlen; simp only [List.length_cons, List.length_append, List.length_nil, laidL, List.flatMap_cons, List.flatMap_nil, Pt.toks] at this ⊢; omega
      ·have := hlen; simp only [List.length_cons, List.length_append, List.length_nil, laidL, List.flatMap_cons, List.flatMap_nil, Pt.toks] at this ⊢; omega
      obtain ⟨Ar22, cr22, rfl⟩ := h.rowv 0
      refine au [2,7,8,10,0,6,2,6] h ?_; intro a w h
      refine en (by kernel_rfl) ?_
      refine au [1,0,1,3] h ?_
      have h := h.del 1
      have e : (laidL [.mark [40]]).length + t.toks.length + (laidL [.mark [41]]).length = (⟨4, [40], 0⟩ :: (t.toks ++ [⟨4, [41], 0⟩]) : List Tk).length := by simp [laidL, Pt.toks]; omega
      rw [e] at h
      refine fin1 2 0 h l_H_Ha22 ?_
      unfold RowTk Tm.within
      rw [if_neg (by simp only [c5, c10]; decide)]
      exact ⟨_, _, _, rfl, rfl, ((rtkR hr15).app (rtkR hnews18)).app (rtkR hnews22)⟩
    ·refine bsl bs185 h fun g20 a w h => ?_
     refine br0 ?_
     refine brl1 2 true (by kernel_rfl) (by kernel_rfl) (fun _ => h.st.sees' (by first | exact LE.rfl | assumption) (by simp)) ?_
     obtain ⟨Hl14, leHl14, h, hp14⟩ := h.fsl (α := Pt) (R := RPt) 1 (ys := [.mark [40]]) (.cons1 rfl .nil) (fun _ l _ _ _ hr => rpt_up l hr)
     have l_H_Hl14 : LE H Hl14 := leHl14
     refine cl bod94 (laid_ok [.mark [40]] _ E Hl14 _ hp14 (hL.up l_H_Hl14) (fun t ht => by simp at ht) (by decide) (by decide)) h fun r15 H15 L15 a w le15 R h => ?_
     obtain ⟨A15, c15, xs15, rfl, rfl, hr15⟩ := R
     have l_H_H15 : LE H H15 := l_H_Hl14.trans le15
     have l_Hl14_H15 : LE Hl14 H15 := le15
     refine br0 ?_
     refine brl1 4 false (by kernel_rfl) (by kernel_rfl) (fun _ => h.st.sees' (by first | exact LE.rfl | assumption) (by simp)) ?_
     refine cl bod71 (hto _ E H15 _ (hv.mono l_H_H15) (hL.up l_H_H15)) h fun r17 H17 L17 a w le17 R h => ?_
     obtain ⟨A17, c17, xs17, rfl, rfl, hr17⟩ := R
     have l_H_H17 : LE H H17 := l_H_H15.trans le17
     have l_Hl14_H17 : LE Hl14 H17 := l_Hl14_H15.trans le17
     have l_H15_H17 : LE H15 H17 := le17
     refine br0 ?_
     refine brl1 5 true (by kernel_rfl) (by kernel_rfl) (fun _ => h.st.sees' (by first | exact LE.rfl | assumption) (by simp)) ?_
     obtain ⟨Ha18, leHa18, h, hs18⟩ := h.frw 0 (n := (t.toks).length) hr17 rfl (fun _ _ _ _ _ h => h)
     have l_H_Ha18 : LE H Ha18 := l_H_H17.trans leHa18
     have l_Hl14_Ha18 : LE Hl14 Ha18 := l_Hl14_H17.trans leHa18
     have l_H15_Ha18 : LE H15 Ha18 := l_H15_H17.trans leHa18
     have l_H17_Ha18 : LE H17 Ha18 := leHa18
     refine aps 0 (L' := fun i => i :: _) row124 hs18 rtk_one h ?_ ?_ fun v18 news18 a w hone hnews18 h => ?_
     ·have := hlen; simp only [List.length_cons, List.length_append, List.length_nil, laidL, List.flatMap_cons, List.flatMap_nil, Pt.toks] at this ⊢; omega
     ·have := hlen; simp only [List.length_cons, List.length_append, List.length_nil, laidL, List.flatMap_cons, List.flatMap_nil, Pt.toks] at this ⊢; omega
     obtain ⟨Ar18, cr18, rfl⟩ := h.rowv 0
     refine br0 ?_
     refine brl1 8 true (by kernel_rfl) (by kernel_rfl) (fun _ => h.st.sees' (by first | exact LE.rfl | assumption) (by simp)) ?_
     obtain ⟨Hl20, leHl20, h, hp20⟩ := h.fsl (α := Pt) (R := RPt) 1 (ys := [.mark [41]]) (.cons1 rfl .nil) (fun _ l _ _ _ hr => rpt_up l hr)
     have l_H_Hl20 : LE H Hl20 := l_H_Ha18.trans leHl20
     have l_Hl14_Hl20 : LE Hl14 Hl20 := l_Hl14_Ha18.trans leHl20
     have l_H15_Hl20 : LE H15 Hl20 := l_H15_Ha18.trans leHl20
     have l_H17_Hl20 : LE H17 Hl20 := l_H17_Ha18.trans leHl20
     have l_Ha18_Hl20 : LE Ha18 Hl20 := leHl20
     refine cl bod94 (laid_ok [.mark [41]] _ E Hl20 _ hp20 (hL.up l_H_Hl20) (fun t ht => by simp at ht) (by decide) (by decide)) h fun r21 H21 L21 a w le21 R h => ?_
     obtain ⟨A21, c21, xs21, rfl, rfl, hr21⟩ := R
     have l_H_H21 : LE H H21 := l_H_Hl20.trans le21
     have l_Hl14_H21 : LE Hl14 H21 := l_Hl14_Hl20.trans le21
     have l_H15_H21 : LE H15 H21 := l_H15_Hl20.trans le21
     have l_H17_H21 : LE H17 H21 := l_H17_Hl20.trans le21
     have l_Ha18_H21 : LE Ha18 H21 := l_Ha18_Hl20.trans le21
     have l_Hl20_H21 : LE Hl20 H21 := le21
     refine br0 ?_
     refine brl1 9 true (by kernel_rfl) (by kernel_rfl) (fun _ => h.st.sees' (by first | exact LE.rfl | assumption) (by simp)) ?_
     obtain ⟨Ha22, leHa22, h, hs22⟩ := h.frw 0 (n := ((laidL [.mark [41]])).length) hr21 rfl (fun _ _ _ _ _ h => h)
     have l_H_Ha22 : LE H Ha22 := l_H_H21.trans leHa22
     have l_Hl14_Ha22 : LE Hl14 Ha22 := l_Hl14_H21.trans leHa22
     have l_H15_Ha22 : LE H15 Ha22 := l_H15_H21.trans leHa22
     have l_H17_Ha22 : LE H17 Ha22 := l_H17_H21.trans leHa22
     have l_Ha18_Ha22 : LE Ha18 Ha22 := l_Ha18_H21.trans leHa22
     have l_Hl20_Ha22 : LE Hl20 Ha22 := l_Hl20_H21.trans leHa22
     have l_H21_Ha22 : LE H21 Ha22 := leHa22
     refine aps 0 (L' := fun i => i :: _) row124 hs22 rtk_one h ?_ ?_ fun v22 news22 a w hone hnews22 h => ?_
     ·have := hlen; simp only [List.length_cons, List.length_append, List.length_nil, laidL, List.flatMap_cons, List.flatMap_nil, Pt.toks] at this ⊢; omega
     ·have := hlen; simp only [List.length_cons, List.length_append, List.length_nil, laidL, List.flatMap_cons, List.flatMap_nil, Pt.toks] at this ⊢; omega
     obtain ⟨Ar22, cr22, rfl⟩ := h.rowv 0
     refine au [2,7,8,10,0,6,2,6] h ?_; intro a w h
     refine en (by kernel_rfl) ?_
     refine au [1,0,1,3] h ?_
     have h := h.del 1
     have e : (laidL [.mark [40]]).length + t.toks.length + (laidL [.mark [41]]).length = (⟨4, [40], 0⟩ :: (t.toks ++ [⟨4, [41], 0⟩]) : List Tk).length := by simp [laidL, Pt.toks]; omega
     rw [e] at h
     refine fin1 2 0 h l_H_Ha22 ?_
     unfold RowTk Tm.within
     rw [if_neg (by simp only [c5, c10]; decide)]
     exact ⟨_, _, _, rfl, rfl, ((rtkR hr15).app (rtkR hnews18)).app (rtkR hnews22)⟩
   ·refine bsl bs185 h fun g20 a w h => ?_
    refine br0 ?_
    refine brl1 1 true (by kernel_rfl) (by kernel_rfl) (fun _ => h.st.sees' (by first | exact LE.rfl | assumption) (by simp)) ?_
    refine bsl bs185 h fun g14 a w h => ?_
    refine br0 ?_
    refine brl1 2 true (by kernel_rfl) (by kernel_rfl) (fun _ => h.st.sees' (by first | exact LE.rfl | assumption) (by simp)) ?_
    obtain ⟨Hl14, leHl14, h, hp14⟩ := h.fsl (α := Pt) (R := RPt) 0 (ys := [.mark [40]]) (.cons1 rfl .nil) (fun _ l _ _ _ hr => rpt_up l hr)
    have l_H_Hl14 : LE H Hl14 := leHl14
    refine cl bod94 (laid_ok [.mark [40]] _ E Hl14 _ hp14 (hL.up l_H_Hl14) (fun t ht => by simp at ht) (by decide) (by decide)) h fun r15 H15 L15 a w le15 R h => ?_
    obtain ⟨A15, c15, xs15, rfl, rfl, hr15⟩ := R
    have l_H_H15 : LE H H15 := l_H_Hl14.trans le15
    have l_Hl14_H15 : LE Hl14 H15 := le15
    refine br0 ?_
    refine brl1 4 false (by kernel_rfl) (by kernel_rfl) (fun _ => h.st.sees' (by first | exact LE.rfl | assumption) (by simp)) ?_
    refine cl bod71 (hto _ E H15 _ (hv.mono l_H_H15) (hL.up l_H_H15)) h fun r17 H17 L17 a w le17 R h => ?_
    obtain ⟨A17, c17, xs17, rfl, rfl, hr17⟩ := R
    have l_H_H17 : LE H H17 := l_H_H15.trans le17
    have l_Hl14_H17 : LE Hl14 H17 := l_Hl14_H15.trans le17
    have l_H15_H17 : LE H15 H17 := le17
    refine br0 ?_
    refine brl1 5 true (by kernel_rfl) (by kernel_rfl) (fun _ => h.st.sees' (by first | exact LE.rfl | assumption) (by simp)) ?_
    obtain ⟨Ha18, leHa18, h, hs18⟩ := h.frw 0 (n := (t.toks).length) hr17 rfl (fun _ _ _ _ _ h => h)
    have l_H_Ha18 : LE H Ha18 := l_H_H17.trans leHa18
    have l_Hl14_Ha18 : LE Hl14 Ha18 := l_Hl14_H17.trans leHa18
    have l_H15_Ha18 : LE H15 Ha18 := l_H15_H17.trans leHa18
    have l_H17_Ha18 : LE H17 Ha18 := leHa18
    refine aps 0 (L' := fun i => i :: _) row124 hs18 rtk_one h ?_ ?_ fun v18 news18 a w hone hnews18 h => ?_
    ·have := hlen; simp only [List.length_cons, List.length_append, List.length_nil, laidL, List.flatMap_cons, List.flatMap_nil, Pt.toks] at this ⊢; omega
    ·have := hlen; simp only [List.length_cons, List.length_append, List.length_nil, laidL, List.flatMap_cons, List.flatMap_nil, Pt.toks] at this ⊢; omega
    obtain ⟨Ar18, cr18, rfl⟩ := h.rowv 0
    refine br0 ?_
    refine brl1 8 true (by kernel_rfl) (by kernel_rfl) (fun _ => h.st.sees' (by first | exact LE.rfl | assumption) (by simp)) ?_
    obtain ⟨Hl20, leHl20, h, hp20⟩ := h.fsl (α := Pt) (R := RPt) 1 (ys := [.mark [41]]) (.cons1 rfl .nil) (fun _ l _ _ _ hr => rpt_up l hr)
    have l_H_Hl20 : LE H Hl20 := l_H_Ha18.trans leHl20
    have l_Hl14_Hl20 : LE Hl14 Hl20 := l_Hl14_Ha18.trans leHl20
    have l_H15_Hl20 : LE H15 Hl20 := l_H15_Ha18.trans leHl20
    have l_H17_Hl20 : LE H17 Hl20 := l_H17_Ha18.trans leHl20
    have l_Ha18_Hl20 : LE Ha18 Hl20 := leHl20
    refine cl bod94 (laid_ok [.mark [41]] _ E Hl20 _ hp20 (hL.up l_H_Hl20) (fun t ht => by simp at ht) (by decide) (by decide)) h fun r21 H21 L21 a w le21 R h => ?_
    obtain ⟨A21, c21, xs21, rfl, rfl, hr21⟩ := R
    have l_H_H21 : LE H H21 := l_H_Hl20.trans le21
    have l_Hl14_H21 : LE Hl14 H21 := l_Hl14_Hl20.trans le21
    have l_H15_H21 : LE H15 H21 := l_H15_Hl20.trans le21
    have l_H17_H21 : LE H17 H21 := l_H17_Hl20.trans le21
    have l_Ha18_H21 : LE Ha18 H21 := l_Ha18_Hl20.trans le21
    have l_Hl20_H21 : LE Hl20 H21 := le21
    refine br0 ?_
    refine brl1 9 true (by kernel_rfl) (by kernel_rfl) (fun _ => h.st.sees' (by first | exact LE.rfl | assumption) (by simp)) ?_
    obtain ⟨Ha22, leHa22, h, hs22⟩ := h.frw 0 (n := ((laidL [.mark [41]])).length) hr21 rfl (fun _ _ _ _ _ h => h)
    have l_H_Ha22 : LE H Ha22 := l_H_H21.trans leHa22
    have l_Hl14_Ha22 : LE Hl14 Ha22 := l_Hl14_H21.trans leHa22
    have l_H15_Ha22 : LE H15 Ha22 := l_H15_H21.trans leHa22
    have l_H17_Ha22 : LE H17 Ha22 := l_H17_H21.trans leHa22
    have l_Ha18_Ha22 : LE Ha18 Ha22 := l_Ha18_H21.trans leHa22
    have l_Hl20_Ha22 : LE Hl20 Ha22 := l_Hl20_H21.trans leHa22
    have l_H21_Ha22 : LE H21 Ha22 := leHa22
    refine aps 0 (L' := fun i => i :: _) row124 hs22 rtk_one h ?_ ?_ fun v22 news22 a w hone hnews22 h => ?_
    ·have := hlen; simp only [List.length_cons, List.length_append, List.length_nil, laidL, List.flatMap_cons, List.flatMap_nil, Pt.toks] at this ⊢; omega
    ·have := hlen; simp only [List.length_cons, List.length_append, List.length_nil, laidL, List.flatMap_cons, List.flatMap_nil, Pt.toks] at this ⊢; omega
    obtain ⟨Ar22, cr22, rfl⟩ := h.rowv 0
    refine au [2,7,8,10,0,6,2,6] h ?_; intro a w h
    refine en (by kernel_rfl) ?_
    refine au [1,0,1,3] h ?_
    have h := h.del 1
    have e : (laidL [.mark [40]]).length + t.toks.length + (laidL [.mark [41]]).length = (⟨4, [40], 0⟩ :: (t.toks ++ [⟨4, [41], 0⟩]) : List Tk).length := by simp [laidL, Pt.toks]; omega
    rw [e] at h
    refine fin1 2 0 h l_H_Ha22 ?_
    unfold RowTk Tm.within
    rw [if_neg (by simp only [c5, c10]; decide)]
    exact ⟨_, _, _, rfl, rfl, ((rtkR hr15).app (rtkR hnews18)).app (rtkR hnews22)⟩
end Go.Proofs.YtdabamobjciidaaGreatDoor
