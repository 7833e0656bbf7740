/- Parts of the proof: W5, Shelf, W6, W7, W8, W9, W10, W11, W12, Iter, W13. -/
import Derived.Test.YtindlieilabgfaaGreatDoorZp2
import Derived.Shelf.Strings.Builder1
import Derived.Shelf.Strings.Builder2
import Derived.Shelf.Strings.OnBuilder
import Derived.Shelf.Small.Bits
import Derived.Shelf.Strings.BuilderF
import Derived.Shelf.Strings.BuilderK
import Derived.Shelf.Strings.Builder2Cap
import Derived.Shelf.Strconv.Itoa0
import Derived.Shelf.Strconv.Itoa1
import Derived.Shelf.LaysM
import Derived.Shelf.Strconv.Itoa2
import Derived.Shelf.Strconv.Itoa3
import Derived.Shelf.Strconv.Itoa4
import Derived.Shelf.Sort.Plain
import Derived.Shelf.Strings.BuilderCap
import Derived.Shelf.Slices.Turned
import Derived.Shelf.Slices.In.SortNone
import Derived.Test.YtindlieilabgfaaGreatDoorProg
import Derived.Shelf.SlIter.Nil
import Derived.Shelf.SortM.Plain
import Derived.Shelf.SortM.SortNone
import Derived.Ground.GgzProg
import Derived.Ground.SlgmProg
import Derived.Shelf.Spec.SlicesGrow
import Derived.Ground.Names7Prog
import Derived.Maps.Own
/- Walks: words, lists asked by a function, what is wrong with a term. -/
set_option linter.unusedVariables false
set_option linter.unusedSimpArgs false
set_option linter.unusedSectionVars false
set_option autoImplicit false
set_option relaxedAutoImplicit false
set_option maxRecDepth 10000
namespace Go.Proofs.YtindlieilabgfaaGreatDoor
open Go X
theorem word_ok (s : Bs) (E : World) (H : GH) (L : List It) (hL : Laid H) (hb : s.length < 1000000000000) : Ok Tryz.prog 112 #[str s] E H L fun r H' L' => r = .bool (wordB s) ∧ H = H' ∧ L = L' := by
  refine enter (N := 10) [(0, _)] Tryz.func112 rfl rfl rfl rfl fun a w h => ?_
  refine sq ?_
  refine rg0 ?_
  refine as_ h fun a w h => ?_
  refine nl0 ?_
  refine thN ?_
  refine sq ?_
  refine rg0 ?_
  refine mv h fun a w h => ?_
  refine cl bod140 (Name_ok s E H _ (by omega)) h fun r4 H4 L4 a w le4 R h => ?_
  obtain ⟨rfl, rfl, rfl⟩ := R
  refine h.spl (fun c4 h => ?_) (fun c4 h => ?_)
  · refine mv h fun a w h => ?_
    refine mv h fun a w h => ?_
    refine cl bod141 (Keyword_ok s E H _ hL) h fun r7 H7 L7 a w le7 R h => ?_
    obtain ⟨rfl, rfl, rfl⟩ := R
    refine nt h fun a w h => ?_
    refine pkT h fun a w h => ?_
    refine as_ h fun a w h => ?_
    refine nl0 ?_
    refine thN ?_
    refine ret_ ?_
    refine fin1 2 0 h LE.rfl ?_
    exact ⟨by first | (simp only [wordB, c4]; done) | (simp only [wordB, c4]; rfl), rfl, rfl⟩
  · refine mv h fun a w h => ?_
    refine sk h (k := fun a w h => ?_)
    refine sk h (k := fun a w h => ?_)
    refine sk h (k := fun a w h => ?_)
    refine pkF h fun a w h => ?_
    refine as_ h fun a w h => ?_
    refine nl0 ?_
    refine thN ?_
    refine ret_ ?_
    refine fin1 2 0 h LE.rfl ?_
    exact ⟨by first | (simp only [wordB, c4]; done) | (simp only [wordB, c4]; rfl), rfl, rfl⟩

theorem IndexFunc_Tm_ok (xs : List Tm) (A : Option Addr) (c : Nat) (q : Tm → Bool) (f : FuncId) (caps : Array Value) (E : World) (H : GH) (L : List It) (hxs : KS H A c xs) (hb : xs.length < 1000000000000) (hf : bodT Tryz.prog f = true)
    (hq : ∀ j (hj : j < xs.length) (v : Value), VT H v xs[j] → Ok Tryz.prog f (#[] ++ [v].toArray ++ caps) E H L fun r H' L' => r = .bool (q xs[j]) ∧ H = H' ∧ L = L') :
    Ok Tryz.prog 142 #[.slice A xs.length c, .func (.func f) #[] caps] E H L fun r H' L' => r = .int .i64 (indexF q xs) ∧ H = H' ∧ L = L' := by
  refine enter (N := 19) [(0, _), (1, _)] Tryz.func142 rfl rfl rfl rfl fun a w h => ?_
  refine sq ?_
  refine rg0 ?_
  refine as_ h fun a w h => ?_
  refine nl0 ?_
  refine thN ?_
  refine sq ?_
  refine sq ?_
  refine rg0 ?_
  refine mv h fun a w h => ?_
  refine ln sli22 h fun a w h => ?_
  refine mv h fun a w h => ?_
  refine nl0 ?_
  refine thN ?_
  refine blk ?_
  refine lp (β := Nat) (fun k a w => (k ≤ xs.length ∧ ∀ j (hj : j < xs.length), j < k → q xs[j] = false) ∧ S E H 19 [] [(8, .int .i64 (k : Int)), (7, .int .i64 (xs.length : Int)), (0, .slice A xs.length c), (1, .func (.func f) #[] caps)] (L) a w)
    (fun k => xs.length - k) 0 ⟨⟨Nat.zero_le _, fun j hj h0 => absurd h0 (by omega)⟩, h.to 0 _⟩ ?_
  rintro k a w ⟨pre, h⟩
  refine sq ?_
  refine rg0 ?_
  refine lt h fun a w h => ?_
  refine nl0 ?_
  refine thN ?_
  refine sq ?_
  refine cdB h (fun c9 => ?_) (fun c9 => ?_)
  · have c9 : k < xs.length := by simpa using c9
    obtain ⟨g, off, A2, c2, rfl, hvt, hcell⟩ := KS.get hxs c9
    refine sk_ ?_
    refine thN ?_
    refine sq ?_
    refine blk ?_
    refine sq ?_
    refine rg0 ?_
    refine mv h fun a w h => ?_
    refine as_ h fun a w h => ?_
    refine nl0 ?_
    refine thN ?_
    refine sq ?_
    refine rg0 ?_
    refine mv h fun a w h => ?_
    refine mv h fun a w h => ?_
    refine mv h fun a w h => ?_
    refine ia sli22 sz24 rfl c9 h fun a w h => ?_
    refine ldHN tN24 rfl hcell h fun a w h => ?_
    refine cl hf (hq k c9 _ hvt) h fun r16 H16 L16 a w le16 R h => ?_
    obtain ⟨rfl, rfl, rfl⟩ := R
    refine nl0 ?_
    refine thN ?_
    refine cdB h (fun c16 => ?_) (fun c16 => ?_)
    · have hfact : indexF q xs = (k : Int) := indexF_at c9 (fun j hj hjk => pre.2 j hj hjk) c16
      refine sq ?_
      refine rg0 ?_
      refine mv h fun a w h => ?_
      refine as_ h fun a w h => ?_
      refine nl0 ?_
      refine thN ?_
      refine ret_ ?_
      refine ibR ?_
      refine thR ?_
      refine thR ?_
      refine ibR ?_
      refine thR ?_
      refine fin1 4 0 h LE.rfl ?_
      exact ⟨by rw [hfact], rfl, rfl⟩
    · have hne : q xs[k] = false := c16
      refine sk_ ?_
      refine ibN ?_
      refine thN ?_
      refine rg0 ?_
      refine inc ?_ h fun a w h => ?_
      · omega
      refine mv h fun a w h => ?_
      refine nl0 ?_
      refine thN ?_
      exact ⟨(k + 1), ⟨⟨by omega, fun j hj hjk => by rcases Nat.lt_succ_iff_lt_or_eq.1 hjk with h0 | rfl <;> first | exact hne | exact pre.2 j hj h0⟩, h.to 0 _⟩, by show _ - (k + 1) < _ - k; omega⟩
  · have hk : k = xs.length := by simp at c9; omega
    have hfact : indexF q xs = -1 := indexF_no fun j hj => pre.2 j hj (by omega)
    refine exit_ ?_
    refine thE ?_
    refine thE ?_
    refine ibH ?_
    refine thN ?_
    refine sq ?_
    refine rg0 ?_
    refine as_ h fun a w h => ?_
    refine nl0 ?_
    refine thN ?_
    refine ret_ ?_
    refine fin1 4 0 h LE.rfl ?_
    exact ⟨by rw [hfact], rfl, rfl⟩

theorem ContainsFunc_Tm_ok (xs : List Tm) (A : Option Addr) (c : Nat) (q : Tm → Bool) (f : FuncId) (caps : Array Value) (E : World) (H : GH) (L : List It) (hxs : KS H A c xs) (hb : xs.length < 1000000000000) (hf : bodT Tryz.prog f = true)
    (hq : ∀ j (hj : j < xs.length) (v : Value), VT H v xs[j] → Ok Tryz.prog f (#[] ++ [v].toArray ++ caps) E H L fun r H' L' => r = .bool (q xs[j]) ∧ H = H' ∧ L = L') :
    Ok Tryz.prog 116 #[.slice A xs.length c, .func (.func f) #[] caps] E H L fun r H' L' => r = .bool (xs.any q) ∧ H = H' ∧ L = L' := by
  refine enter (N := 9) [(0, _), (1, _)] Tryz.func116 rfl rfl rfl rfl fun a w h => ?_
  refine sq ?_
  refine rg0 ?_
  refine as_ h fun a w h => ?_
  refine nl0 ?_
  refine thN ?_
  refine sq ?_
  refine rg0 ?_
  refine mv h fun a w h => ?_
  refine mv h fun a w h => ?_
  refine cl bod142 (IndexFunc_Tm_ok xs A c q f caps E H _ hxs hb hf hq) h fun r7 H7 L7 a w le7 R h => ?_
  obtain ⟨rfl, rfl, rfl⟩ := R
  refine ge h fun a w h => ?_
  refine as_ h fun a w h => ?_
  refine nl0 ?_
  refine thN ?_
  refine ret_ ?_
  refine fin1 4 0 h LE.rfl ?_
  exact ⟨by rw [← indexF_ge], rfl, rfl⟩

theorem IndexFunc_Dc_ok (xs : List Dc) (A : Option Addr) (c : Nat) (q : Dc → Bool) (f : FuncId) (caps : Array Value) (E : World) (H : GH) (L : List It) (hxs : CS H A c xs) (hb : xs.length < 1000000000000) (hf : bodT Tryz.prog f = true)
    (hq : ∀ j (hj : j < xs.length) (v : Value), VDc H v xs[j] → Ok Tryz.prog f (#[] ++ [v].toArray ++ caps) E H L fun r H' L' => r = .bool (q xs[j]) ∧ H = H' ∧ L = L') :
    Ok Tryz.prog 111 #[.slice A xs.length c, .func (.func f) #[] caps] E H L fun r H' L' => r = .int .i64 (indexF q xs) ∧ H = H' ∧ L = L' := by
  refine enter (N := 19) [(0, _), (1, _)] Tryz.func111 rfl rfl rfl rfl fun a w h => ?_
  refine sq ?_
  refine rg0 ?_
  refine as_ h fun a w h => ?_
  refine nl0 ?_
  refine thN ?_
  refine sq ?_
  refine sq ?_
  refine rg0 ?_
  refine mv h fun a w h => ?_
  refine ln sli25 h fun a w h => ?_
  refine mv h fun a w h => ?_
  refine nl0 ?_
  refine thN ?_
  refine blk ?_
  refine lp (β := Nat) (fun k a w => (k ≤ xs.length ∧ ∀ j (hj : j < xs.length), j < k → q xs[j] = false) ∧ S E H 19 [] [(8, .int .i64 (k : Int)), (7, .int .i64 (xs.length : Int)), (0, .slice A xs.length c), (1, .func (.func f) #[] caps)] (L) a w)
    (fun k => xs.length - k) 0 ⟨⟨Nat.zero_le _, fun j hj h0 => absurd h0 (by omega)⟩, h.to 0 _⟩ ?_
  rintro k a w ⟨pre, h⟩
  refine sq ?_
  refine rg0 ?_
  refine lt h fun a w h => ?_
  refine nl0 ?_
  refine thN ?_
  refine sq ?_
  refine cdB h (fun c9 => ?_) (fun c9 => ?_)
  · have c9 : k < xs.length := by simpa using c9
    obtain ⟨g, off, rfl, hvt, hcell⟩ := CS.get hxs c9
    refine sk_ ?_
    refine thN ?_
    refine sq ?_
    refine blk ?_
    refine sq ?_
    refine rg0 ?_
    refine mv h fun a w h => ?_
    refine as_ h fun a w h => ?_
    refine nl0 ?_
    refine thN ?_
    refine sq ?_
    refine rg0 ?_
    refine mv h fun a w h => ?_
    refine mv h fun a w h => ?_
    refine mv h fun a w h => ?_
    refine ia sli25 sz72 rfl c9 h fun a w h => ?_
    refine ldHN tN72 rfl hcell h fun a w h => ?_
    refine cl hf (hq k c9 _ hvt) h fun r16 H16 L16 a w le16 R h => ?_
    obtain ⟨rfl, rfl, rfl⟩ := R
    refine nl0 ?_
    refine thN ?_
    refine cdB h (fun c16 => ?_) (fun c16 => ?_)
    · have hfact : indexF q xs = (k : Int) := indexF_at c9 (fun j hj hjk => pre.2 j hj hjk) c16
      refine sq ?_
      refine rg0 ?_
      refine mv h fun a w h => ?_
      refine as_ h fun a w h => ?_
      refine nl0 ?_
      refine thN ?_
      refine ret_ ?_
      refine ibR ?_
      refine thR ?_
      refine thR ?_
      refine ibR ?_
      refine thR ?_
      refine fin1 4 0 h LE.rfl ?_
      exact ⟨by rw [hfact], rfl, rfl⟩
    · have hne : q xs[k] = false := c16
      refine sk_ ?_
      refine ibN ?_
      refine thN ?_
      refine rg0 ?_
      refine inc ?_ h fun a w h => ?_
      · omega
      refine mv h fun a w h => ?_
      refine nl0 ?_
      refine thN ?_
      exact ⟨(k + 1), ⟨⟨by omega, fun j hj hjk => by rcases Nat.lt_succ_iff_lt_or_eq.1 hjk with h0 | rfl <;> first | exact hne | exact pre.2 j hj h0⟩, h.to 0 _⟩, by show _ - (k + 1) < _ - k; omega⟩
  · have hk : k = xs.length := by simp at c9; omega
    have hfact : indexF q xs = -1 := indexF_no fun j hj => pre.2 j hj (by omega)
    refine exit_ ?_
    refine thE ?_
    refine thE ?_
    refine ibH ?_
    refine thN ?_
    refine sq ?_
    refine rg0 ?_
    refine as_ h fun a w h => ?_
    refine nl0 ?_
    refine thN ?_
    refine ret_ ?_
    refine fin1 4 0 h LE.rfl ?_
    exact ⟨by rw [hfact], rfl, rfl⟩

theorem ContainsFunc_Dc_ok (xs : List Dc) (A : Option Addr) (c : Nat) (q : Dc → Bool) (f : FuncId) (caps : Array Value) (E : World) (H : GH) (L : List It) (hxs : CS H A c xs) (hb : xs.length < 1000000000000) (hf : bodT Tryz.prog f = true)
    (hq : ∀ j (hj : j < xs.length) (v : Value), VDc H v xs[j] → Ok Tryz.prog f (#[] ++ [v].toArray ++ caps) E H L fun r H' L' => r = .bool (q xs[j]) ∧ H = H' ∧ L = L') :
    Ok Tryz.prog 87 #[.slice A xs.length c, .func (.func f) #[] caps] E H L fun r H' L' => r = .bool (xs.any q) ∧ H = H' ∧ L = L' := by
  refine enter (N := 9) [(0, _), (1, _)] Tryz.func87 rfl rfl rfl rfl fun a w h => ?_
  refine sq ?_
  refine rg0 ?_
  refine as_ h fun a w h => ?_
  refine nl0 ?_
  refine thN ?_
  refine sq ?_
  refine rg0 ?_
  refine mv h fun a w h => ?_
  refine mv h fun a w h => ?_
  refine cl bod111 (IndexFunc_Dc_ok xs A c q f caps E H _ hxs hb hf hq) h fun r7 H7 L7 a w le7 R h => ?_
  obtain ⟨rfl, rfl, rfl⟩ := R
  refine ge h fun a w h => ?_
  refine as_ h fun a w h => ?_
  refine nl0 ?_
  refine thN ?_
  refine ret_ ?_
  refine fin1 4 0 h LE.rfl ?_
  exact ⟨by rw [← indexF_ge], rfl, rfl⟩

theorem IndexFunc_Df_ok (xs : List Df) (A : Option Addr) (c : Nat) (q : Df → Bool) (f : FuncId) (caps : Array Value) (E : World) (H : GH) (L : List It) (hxs : FS H A c xs) (hb : xs.length < 1000000000000) (hf : bodT Tryz.prog f = true)
    (hq : ∀ j (hj : j < xs.length) (v : Value), VDf H v xs[j] → Ok Tryz.prog f (#[] ++ [v].toArray ++ caps) E H L fun r H' L' => r = .bool (q xs[j]) ∧ H = H' ∧ L = L') :
    Ok Tryz.prog 113 #[.slice A xs.length c, .func (.func f) #[] caps] E H L fun r H' L' => r = .int .i64 (indexF q xs) ∧ H = H' ∧ L = L' := by
  refine enter (N := 19) [(0, _), (1, _)] Tryz.func113 rfl rfl rfl rfl fun a w h => ?_
  refine sq ?_
  refine rg0 ?_
  refine as_ h fun a w h => ?_
  refine nl0 ?_
  refine thN ?_
  refine sq ?_
  refine sq ?_
  refine rg0 ?_
  refine mv h fun a w h => ?_
  refine ln sli26 h fun a w h => ?_
  refine mv h fun a w h => ?_
  refine nl0 ?_
  refine thN ?_
  refine blk ?_
  refine lp (β := Nat) (fun k a w => (k ≤ xs.length ∧ ∀ j (hj : j < xs.length), j < k → q xs[j] = false) ∧ S E H 19 [] [(8, .int .i64 (k : Int)), (7, .int .i64 (xs.length : Int)), (0, .slice A xs.length c), (1, .func (.func f) #[] caps)] (L) a w)
    (fun k => xs.length - k) 0 ⟨⟨Nat.zero_le _, fun j hj h0 => absurd h0 (by omega)⟩, h.to 0 _⟩ ?_
  rintro k a w ⟨pre, h⟩
  refine sq ?_
  refine rg0 ?_
  refine lt h fun a w h => ?_
  refine nl0 ?_
  refine thN ?_
  refine sq ?_
  refine cdB h (fun c9 => ?_) (fun c9 => ?_)
  · have c9 : k < xs.length := by simpa using c9
    obtain ⟨g, off, A2, c2, rfl, hvt, hcell⟩ := FS.get hxs c9
    refine sk_ ?_
    refine thN ?_
    refine sq ?_
    refine blk ?_
    refine sq ?_
    refine rg0 ?_
    refine mv h fun a w h => ?_
    refine as_ h fun a w h => ?_
    refine nl0 ?_
    refine thN ?_
    refine sq ?_
    refine rg0 ?_
    refine mv h fun a w h => ?_
    refine mv h fun a w h => ?_
    refine mv h fun a w h => ?_
    refine ia sli26 sz68 rfl c9 h fun a w h => ?_
    refine ldHN tN68 rfl hcell h fun a w h => ?_
    refine cl hf (hq k c9 _ hvt) h fun r16 H16 L16 a w le16 R h => ?_
    obtain ⟨rfl, rfl, rfl⟩ := R
    refine nl0 ?_
    refine thN ?_
    refine cdB h (fun c16 => ?_) (fun c16 => ?_)
    · have hfact : indexF q xs = (k : Int) := indexF_at c9 (fun j hj hjk => pre.2 j hj hjk) c16
      refine sq ?_
      refine rg0 ?_
      refine mv h fun a w h => ?_
      refine as_ h fun a w h => ?_
      refine nl0 ?_
      refine thN ?_
      refine ret_ ?_
      refine ibR ?_
      refine thR ?_
      refine thR ?_
      refine ibR ?_
      refine thR ?_
      refine fin1 4 0 h LE.rfl ?_
      exact ⟨by rw [hfact], rfl, rfl⟩
    · have hne : q xs[k] = false := c16
      refine sk_ ?_
      refine ibN ?_
      refine thN ?_
      refine rg0 ?_
      refine inc ?_ h fun a w h => ?_
      · omega
      refine mv h fun a w h => ?_
      refine nl0 ?_
      refine thN ?_
      exact ⟨(k + 1), ⟨⟨by omega, fun j hj hjk => by rcases Nat.lt_succ_iff_lt_or_eq.1 hjk with h0 | rfl <;> first | exact hne | exact pre.2 j hj h0⟩, h.to 0 _⟩, by show _ - (k + 1) < _ - k; omega⟩
  · have hk : k = xs.length := by simp at c9; omega
    have hfact : indexF q xs = -1 := indexF_no fun j hj => pre.2 j hj (by omega)
    refine exit_ ?_
    refine thE ?_
    refine thE ?_
    refine ibH ?_
    refine thN ?_
    refine sq ?_
    refine rg0 ?_
    refine as_ h fun a w h => ?_
    refine nl0 ?_
    refine thN ?_
    refine ret_ ?_
    refine fin1 4 0 h LE.rfl ?_
    exact ⟨by rw [hfact], rfl, rfl⟩

theorem ContainsFunc_Df_ok (xs : List Df) (A : Option Addr) (c : Nat) (q : Df → Bool) (f : FuncId) (caps : Array Value) (E : World) (H : GH) (L : List It) (hxs : FS H A c xs) (hb : xs.length < 1000000000000) (hf : bodT Tryz.prog f = true)
    (hq : ∀ j (hj : j < xs.length) (v : Value), VDf H v xs[j] → Ok Tryz.prog f (#[] ++ [v].toArray ++ caps) E H L fun r H' L' => r = .bool (q xs[j]) ∧ H = H' ∧ L = L') :
    Ok Tryz.prog 89 #[.slice A xs.length c, .func (.func f) #[] caps] E H L fun r H' L' => r = .bool (xs.any q) ∧ H = H' ∧ L = L' := by
  refine enter (N := 9) [(0, _), (1, _)] Tryz.func89 rfl rfl rfl rfl fun a w h => ?_
  refine sq ?_
  refine rg0 ?_
  refine as_ h fun a w h => ?_
  refine nl0 ?_
  refine thN ?_
  refine sq ?_
  refine rg0 ?_
  refine mv h fun a w h => ?_
  refine mv h fun a w h => ?_
  refine cl bod113 (IndexFunc_Df_ok xs A c q f caps E H _ hxs hb hf hq) h fun r7 H7 L7 a w le7 R h => ?_
  obtain ⟨rfl, rfl, rfl⟩ := R
  refine ge h fun a w h => ?_
  refine as_ h fun a w h => ?_
  refine nl0 ?_
  refine thN ?_
  refine ret_ ?_
  refine fin1 4 0 h LE.rfl ?_
  exact ⟨by rw [← indexF_ge], rfl, rfl⟩

theorem IndexFunc_Bs_ok (xs : List Bs) (A : Option Addr) (c : Nat) (q : Bs → Bool) (f : FuncId) (caps : Array Value) (E : World) (H : GH) (L : List It) (hxs : SS H A c xs) (hb : xs.length < 1000000000000) (hf : bodT Tryz.prog f = true)
    (hq : ∀ j (hj : j < xs.length) (v : Value), v = str xs[j] → Ok Tryz.prog f (#[] ++ [v].toArray ++ caps) E H L fun r H' L' => r = .bool (q xs[j]) ∧ H = H' ∧ L = L') :
    Ok Tryz.prog 67 #[.slice A xs.length c, .func (.func f) #[] caps] E H L fun r H' L' => r = .int .i64 (indexF q xs) ∧ H = H' ∧ L = L' := by
  refine enter (N := 19) [(0, _), (1, _)] Tryz.func67 rfl rfl rfl rfl fun a w h => ?_
  refine sq ?_
  refine rg0 ?_
  refine as_ h fun a w h => ?_
  refine nl0 ?_
  refine thN ?_
  refine sq ?_
  refine sq ?_
  refine rg0 ?_
  refine mv h fun a w h => ?_
  refine ln sli58 h fun a w h => ?_
  refine mv h fun a w h => ?_
  refine nl0 ?_
  refine thN ?_
  refine blk ?_
  refine lp (β := Nat) (fun k a w => (k ≤ xs.length ∧ ∀ j (hj : j < xs.length), j < k → q xs[j] = false) ∧ S E H 19 [] [(8, .int .i64 (k : Int)), (7, .int .i64 (xs.length : Int)), (0, .slice A xs.length c), (1, .func (.func f) #[] caps)] (L) a w)
    (fun k => xs.length - k) 0 ⟨⟨Nat.zero_le _, fun j hj h0 => absurd h0 (by omega)⟩, h.to 0 _⟩ ?_
  rintro k a w ⟨pre, h⟩
  refine sq ?_
  refine rg0 ?_
  refine lt h fun a w h => ?_
  refine nl0 ?_
  refine thN ?_
  refine sq ?_
  refine cdB h (fun c9 => ?_) (fun c9 => ?_)
  · have c9 : k < xs.length := by simpa using c9
    obtain ⟨g, off, rfl, hcell⟩ := hxs.get c9
    refine sk_ ?_
    refine thN ?_
    refine sq ?_
    refine blk ?_
    refine sq ?_
    refine rg0 ?_
    refine mv h fun a w h => ?_
    refine as_ h fun a w h => ?_
    refine nl0 ?_
    refine thN ?_
    refine sq ?_
    refine rg0 ?_
    refine mv h fun a w h => ?_
    refine mv h fun a w h => ?_
    refine mv h fun a w h => ?_
    refine ia sli58 sz9 rfl c9 h fun a w h => ?_
    refine ldH t1_9 hcell h fun a w h => ?_
    refine cl hf (hq k c9 _ rfl) h fun r16 H16 L16 a w le16 R h => ?_
    obtain ⟨rfl, rfl, rfl⟩ := R
    refine nl0 ?_
    refine thN ?_
    refine cdB h (fun c16 => ?_) (fun c16 => ?_)
    · have hfact : indexF q xs = (k : Int) := indexF_at c9 (fun j hj hjk => pre.2 j hj hjk) c16
      refine sq ?_
      refine rg0 ?_
      refine mv h fun a w h => ?_
      refine as_ h fun a w h => ?_
      refine nl0 ?_
      refine thN ?_
      refine ret_ ?_
      refine ibR ?_
      refine thR ?_
      refine thR ?_
      refine ibR ?_
      refine thR ?_
      refine fin1 4 0 h LE.rfl ?_
      exact ⟨by rw [hfact], rfl, rfl⟩
    · have hne : q xs[k] = false := c16
      refine sk_ ?_
      refine ibN ?_
      refine thN ?_
      refine rg0 ?_
      refine inc ?_ h fun a w h => ?_
      · omega
      refine mv h fun a w h => ?_
      refine nl0 ?_
      refine thN ?_
      exact ⟨(k + 1), ⟨⟨by omega, fun j hj hjk => by rcases Nat.lt_succ_iff_lt_or_eq.1 hjk with h0 | rfl <;> first | exact hne | exact pre.2 j hj h0⟩, h.to 0 _⟩, by show _ - (k + 1) < _ - k; omega⟩
  · have hk : k = xs.length := by simp at c9; omega
    have hfact : indexF q xs = -1 := indexF_no fun j hj => pre.2 j hj (by omega)
    refine exit_ ?_
    refine thE ?_
    refine thE ?_
    refine ibH ?_
    refine thN ?_
    refine sq ?_
    refine rg0 ?_
    refine as_ h fun a w h => ?_
    refine nl0 ?_
    refine thN ?_
    refine ret_ ?_
    refine fin1 4 0 h LE.rfl ?_
    exact ⟨by rw [hfact], rfl, rfl⟩

theorem ContainsFunc_Bs_ok (xs : List Bs) (A : Option Addr) (c : Nat) (q : Bs → Bool) (f : FuncId) (caps : Array Value) (E : World) (H : GH) (L : List It) (hxs : SS H A c xs) (hb : xs.length < 1000000000000) (hf : bodT Tryz.prog f = true)
    (hq : ∀ j (hj : j < xs.length) (v : Value), v = str xs[j] → Ok Tryz.prog f (#[] ++ [v].toArray ++ caps) E H L fun r H' L' => r = .bool (q xs[j]) ∧ H = H' ∧ L = L') :
    Ok Tryz.prog 45 #[.slice A xs.length c, .func (.func f) #[] caps] E H L fun r H' L' => r = .bool (xs.any q) ∧ H = H' ∧ L = L' := by
  refine enter (N := 9) [(0, _), (1, _)] Tryz.func45 rfl rfl rfl rfl fun a w h => ?_
  refine sq ?_
  refine rg0 ?_
  refine as_ h fun a w h => ?_
  refine nl0 ?_
  refine thN ?_
  refine sq ?_
  refine rg0 ?_
  refine mv h fun a w h => ?_
  refine mv h fun a w h => ?_
  refine cl bod67 (IndexFunc_Bs_ok xs A c q f caps E H _ hxs hb hf hq) h fun r7 H7 L7 a w le7 R h => ?_
  obtain ⟨rfl, rfl, rfl⟩ := R
  refine ge h fun a w h => ?_
  refine as_ h fun a w h => ?_
  refine nl0 ?_
  refine thN ?_
  refine ret_ ?_
  refine fin1 4 0 h LE.rfl ?_
  exact ⟨by rw [← indexF_ge], rfl, rfl⟩

theorem wrong_ok : ∀ (t : Tm) (v : Value) (E : World) (H : GH) (L : List It) (gc : Nat), VT H v t → Laid H → Hc H gc 0 (.func (.func 114) #[] #[.pointer (some ⟨gc, 0, none⟩)]) → t.long < 1000000000000 → t.size < 1000000000000 →
    Ok Tryz.prog 114 #[v, .pointer (some ⟨gc, 0, none⟩)] E H L fun r H' L' => r = .bool t.wrong ∧ H = H' ∧ L = L' := by
  intro t
  induction t using Tm.ind with
  | h kd nm nn ks ih =>
  intro v E H L gc hv hL hcl hlg hsz
  have hv0 := hv
  obtain ⟨A, c, rfl, hks⟩ := hv
  simp only [Tm.size] at hsz
  simp only [Tm.long] at hlg
  have hks : KS H A c ks := hks
  have hlen := length_le_sizeL ks
  have hv := hv0
  have hln : (Tm.mk kd nm nn ks).name.length < 1000000000000 := by show nm.length < _; omega
  have hnw : (Tm.mk kd nm nn ks).wrong = (!(Tm.mk kd nm nn ks).node || ks.any Tm.wrong) := by simp only [Tm.wrong, wrongL_any]; rfl
  refine enter (N := 13) [(0, _), (1, _)] Tryz.func114 rfl rfl rfl rfl fun a w h => ?_
  refine sq ?_
  refine rg0 ?_
  refine bxA h fun g2 a w h => ?_
  refine as_ h fun a w h => ?_
  refine nl0 ?_
  refine thN ?_
  refine sq ?_
  refine rg0 ?_
  refine ldW 0 tN24 h fun a w h => ?_
  refine cl bod115 (node_ok _ _ E H _ hv hL hln) h fun r5 H5 L5 a w le5 R h => ?_
  obtain ⟨rfl, rfl, rfl⟩ := R
  refine nt h fun a w h => ?_
  refine h.spl (fun c6 h => ?_) (fun c6 h => ?_)
  · refine mv h fun a w h => ?_
    refine sk h (k := fun a w h => ?_)
    refine sk h (k := fun a w h => ?_)
    refine sk h (k := fun a w h => ?_)
    refine sk h (k := fun a w h => ?_)
    refine pkT h fun a w h => ?_
    refine as_ h fun a w h => ?_
    refine nl0 ?_
    refine thN ?_
    refine ret_ ?_
    refine fin1 3 1 h LE.rfl ?_
    exact ⟨by rw [hnw, c6]; rfl, rfl, rfl⟩
  · refine mv h fun a w h => ?_
    refine fa fl24_3 (r := 3) h fun a w h => ?_
    refine ld 0 t1_22 h fun a w h => ?_
    refine ldH t1_81 hcl h fun a w h => ?_
    refine cl bod116 (ContainsFunc_Tm_ok ks A c Tm.wrong 114 #[.pointer (some ⟨gc, 0, none⟩)] E H _ hks (by omega) bod114 (fun j hj v hv => ih _ (List.getElem_mem hj) v E H _ gc hv hL hcl (by have := long_get hj; omega) (by have := size_get_le hj; omega))) h fun r11 H11 L11 a w le11 R h => ?_
    obtain ⟨rfl, rfl, rfl⟩ := R
    refine pkF h fun a w h => ?_
    refine as_ h fun a w h => ?_
    refine nl0 ?_
    refine thN ?_
    refine ret_ ?_
    refine fin1 3 1 h LE.rfl ?_
    exact ⟨by rw [hnw, c6]; rfl, rfl, rfl⟩

theorem Right_ok (t : Tm) (v : Value) (E : World) (H : GH) (L : List It) (hv : VT H v t) (hL : Laid H) (hlg : t.long < 1000000000000) (hsz : t.size < 1000000000000) : Ok Tryz.prog 91 #[v] E H L fun r H' L' => r = .bool t.right ∧ H = H' ∧ L = L' := by
  have hv0 := hv
  obtain ⟨A, c, rfl, hks⟩ := hv
  have hv := hv0
  refine enter (N := 19) [(0, _)] Tryz.func91 rfl rfl rfl rfl fun a w h => ?_
  refine sq ?_
  refine rg0 ?_
  refine bxA h fun g1 a w h => ?_
  refine as_ h fun a w h => ?_
  refine nl0 ?_
  refine thN ?_
  refine sq ?_
  refine rg0 ?_
  refine al zr81 h fun g3 a w h => ?_
  refine nl0 ?_
  refine thN ?_
  refine sq ?_
  refine rg0 ?_
  refine mf h fun a w h => ?_
  refine st0 (l := [_]) t1_81 h fun a w h => ?_
  refine nl0 ?_
  refine thN ?_
  refine sq ?_
  refine rg0 ?_
  obtain ⟨H1, le1, h, hfz⟩ := h.frz 0
  have hcl : Hc H1 g3 0 (.func (.func 114) #[] #[.pointer (some ⟨g3, 0, none⟩)]) := Hc.of hfz rfl
  have hv := hv.mono le1
  have hL := hL.up le1
  have hle := H1
  refine ldW 0 tN24 h fun a w h => ?_
  refine cl bod25 (Depth_ok t _ E H1 _ hv hsz) h fun r6 H6 L6 a w le6 R h => ?_
  obtain ⟨rfl, rfl, rfl⟩ := R
  refine le h fun a w h => ?_
  refine h.spl (fun c7 h => ?_) (fun c7 h => ?_)
  · refine mv h fun a w h => ?_
    refine ldW 0 tN24 h fun a w h => ?_
    refine cl bod24 (Size_ok t _ E H1 _ hv hsz) h fun r10 H10 L10 a w le10 R h => ?_
    obtain ⟨rfl, rfl, rfl⟩ := R
    refine le h fun a w h => ?_
    refine pkT h fun a w h => ?_
    refine h.spl (fun c12 h => ?_) (fun c12 h => ?_)
    · refine mv h fun a w h => ?_
      refine ldH t1_81 hcl h fun a w h => ?_
      refine ldW 0 tN24 h fun a w h => ?_
      refine cl bod114 (wrong_ok t _ E H1 _ g3 hv hL hcl hlg hsz) h fun r16 H16 L16 a w le16 R h => ?_
      obtain ⟨rfl, rfl, rfl⟩ := R
      refine nt h fun a w h => ?_
      refine pkT h fun a w h => ?_
      refine as_ h fun a w h => ?_
      refine nl0 ?_
      refine thN ?_
      refine ret_ ?_
      refine fin1 2 1 (h.less le1) LE.rfl ?_
      exact ⟨by first | (simp only [Tm.right, c7, c12]; done) | (simp only [Tm.right, c7, c12]; rfl), rfl, rfl⟩
    · refine mv h fun a w h => ?_
      refine sk h (k := fun a w h => ?_)
      refine sk h (k := fun a w h => ?_)
      refine sk h (k := fun a w h => ?_)
      refine sk h (k := fun a w h => ?_)
      refine pkF h fun a w h => ?_
      refine as_ h fun a w h => ?_
      refine nl0 ?_
      refine thN ?_
      refine ret_ ?_
      refine fin1 2 1 (h.less le1) LE.rfl ?_
      exact ⟨by first | (simp only [Tm.right, c7, c12]; done) | (simp only [Tm.right, c7, c12]; rfl), rfl, rfl⟩
  · refine mv h fun a w h => ?_
    refine sk h (k := fun a w h => ?_)
    refine sk h (k := fun a w h => ?_)
    refine sk h (k := fun a w h => ?_)
    refine pkF h fun a w h => ?_
    refine mv h fun a w h => ?_
    refine sk h (k := fun a w h => ?_)
    refine sk h (k := fun a w h => ?_)
    refine sk h (k := fun a w h => ?_)
    refine sk h (k := fun a w h => ?_)
    refine pkF h fun a w h => ?_
    refine as_ h fun a w h => ?_
    refine nl0 ?_
    refine thN ?_
    refine ret_ ?_
    refine fin1 2 1 (h.less le1) LE.rfl ?_
    exact ⟨by first | (simp only [Tm.right, c7]; done) | (simp only [Tm.right, c7]; rfl), rfl, rfl⟩

theorem Dwrong_ok (d : Dc) (v : Value) (E : World) (H : GH) (L : List It) (hv : VDc H v d) (hL : Laid H) (h1 : d.name.length < 1000000000000) (h2 : d.label.length < 1000000000000) : Ok Tryz.prog 88 #[v] E H L fun r H' L' => r = .bool d.wrong ∧ H = H' ∧ L = L' := by
  unfold VDc at hv; subst hv
  refine enter (N := 23) [(0, _)] Tryz.func88 rfl rfl rfl rfl fun a w h => ?_
  refine sq ?_
  refine rg0 ?_
  refine bxA h fun g1 a w h => ?_
  refine as_ h fun a w h => ?_
  refine nl0 ?_
  refine thN ?_
  refine sq ?_
  refine rg0 ?_
  refine fa fl72_0 (r := 0) h fun a w h => ?_
  refine ld 0 t1_9 h fun a w h => ?_
  refine cl bod112 (word_ok d.name E H _ hL (by omega)) h fun r5 H5 L5 a w le5 R h => ?_
  obtain ⟨rfl, rfl, rfl⟩ := R
  refine nt h fun a w h => ?_
  refine h.spl (fun c6 h => ?_) (fun c6 h => ?_)
  · refine mv h fun a w h => ?_
    refine sk h (k := fun a w h => ?_)
    refine sk h (k := fun a w h => ?_)
    refine sk h (k := fun a w h => ?_)
    refine sk h (k := fun a w h => ?_)
    refine pkT h fun a w h => ?_
    refine mv h fun a w h => ?_
    refine sk h (k := fun a w h => ?_)
    refine sk h (k := fun a w h => ?_)
    refine sk h (k := fun a w h => ?_)
    refine pkT h fun a w h => ?_
    refine mv h fun a w h => ?_
    refine sk h (k := fun a w h => ?_)
    refine sk h (k := fun a w h => ?_)
    refine sk h (k := fun a w h => ?_)
    refine pkT h fun a w h => ?_
    refine as_ h fun a w h => ?_
    refine nl0 ?_
    refine thN ?_
    refine ret_ ?_
    refine fin1 2 1 h LE.rfl ?_
    exact ⟨by first | (simp only [Dc.wrong, c6]; done) | (simp only [Dc.wrong, c6]; rfl), rfl, rfl⟩
  · refine mv h fun a w h => ?_
    refine fa fl72_1 (r := 1) h fun a w h => ?_
    refine ld 0 t1_9 h fun a w h => ?_
    refine cl bod112 (word_ok d.label E H _ hL (by omega)) h fun r10 H10 L10 a w le10 R h => ?_
    obtain ⟨rfl, rfl, rfl⟩ := R
    refine nt h fun a w h => ?_
    refine pkF h fun a w h => ?_
    refine h.spl (fun c12 h => ?_) (fun c12 h => ?_)
    · refine mv h fun a w h => ?_
      refine sk h (k := fun a w h => ?_)
      refine sk h (k := fun a w h => ?_)
      refine sk h (k := fun a w h => ?_)
      refine pkT h fun a w h => ?_
      refine mv h fun a w h => ?_
      refine sk h (k := fun a w h => ?_)
      refine sk h (k := fun a w h => ?_)
      refine sk h (k := fun a w h => ?_)
      refine pkT h fun a w h => ?_
      refine as_ h fun a w h => ?_
      refine nl0 ?_
      refine thN ?_
      refine ret_ ?_
      refine fin1 2 1 h LE.rfl ?_
      exact ⟨by first | (simp only [Dc.wrong, c6, c12]; done) | (simp only [Dc.wrong, c6, c12]; rfl), rfl, rfl⟩
    · refine mv h fun a w h => ?_
      refine fa fl72_2 (r := 2) h fun a w h => ?_
      refine ld 0 t1_2 h fun a w h => ?_
      refine lt h fun a w h => ?_
      refine pkF h fun a w h => ?_
      refine h.spl (fun c17 h => ?_) (fun c17 h => ?_)
      · refine mv h fun a w h => ?_
        refine sk h (k := fun a w h => ?_)
        refine sk h (k := fun a w h => ?_)
        refine sk h (k := fun a w h => ?_)
        refine pkT h fun a w h => ?_
        refine as_ h fun a w h => ?_
        refine nl0 ?_
        refine thN ?_
        refine ret_ ?_
        refine fin1 2 1 h LE.rfl ?_
        exact ⟨by first | (simp only [Dc.wrong, c6, c12, c17]; done) | (simp only [Dc.wrong, c6, c12, c17]; rfl), rfl, rfl⟩
      · refine mv h fun a w h => ?_
        refine fa fl72_2 (r := 2) h fun a w h => ?_
        refine ld 0 t1_2 h fun a w h => ?_
        refine ge h fun a w h => ?_
        refine pkF h fun a w h => ?_
        refine as_ h fun a w h => ?_
        refine nl0 ?_
        refine thN ?_
        refine ret_ ?_
        refine fin1 2 1 h LE.rfl ?_
        exact ⟨by first | (simp only [Dc.wrong, c6, c12, c17]; done) | (simp only [Dc.wrong, c6, c12, c17]; rfl), rfl, rfl⟩

theorem set_ok (d : Dc) (v : Value) (E : World) (H : GH) (L : List It) (hv : VDc H v d) : Ok Tryz.prog 86 #[v] E H L fun r H' L' => r = .bool (d.n != 0) ∧ H = H' ∧ L = L' := by
  unfold VDc at hv; subst hv
  refine enter (N := 6) [(0, _)] Tryz.func86 rfl rfl rfl rfl fun a w h => ?_
  refine sq ?_
  refine rg0 ?_
  refine bxA h fun g1 a w h => ?_
  refine as_ h fun a w h => ?_
  refine nl0 ?_
  refine thN ?_
  refine sq ?_
  refine rg0 ?_
  refine fa fl72_2 (r := 2) h fun a w h => ?_
  refine ld 0 t1_2 h fun a w h => ?_
  refine nei h fun a w h => ?_
  refine as_ h fun a w h => ?_
  refine nl0 ?_
  refine thN ?_
  refine ret_ ?_
  refine fin1 2 1 h LE.rfl ?_
  exact ⟨rfl, rfl, rfl⟩

theorem Fwrong_ok (d : Df) (v : Value) (E : World) (H : GH) (L : List It) (hv : VDf H v d) (hL : Laid H) (h1 : d.name.length < 1000000000000) (h2 : d.t.long < 1000000000000) (h3 : d.t.size < 1000000000000) : Ok Tryz.prog 90 #[v] E H L fun r H' L' => r = .bool d.wrong ∧ H = H' ∧ L = L' := by
  obtain ⟨A, c, rfl, hks⟩ := hv
  refine enter (N := 19) [(0, _)] Tryz.func90 rfl rfl rfl rfl fun a w h => ?_
  refine sq ?_
  refine rg0 ?_
  refine bxA h fun g1 a w h => ?_
  refine as_ h fun a w h => ?_
  refine nl0 ?_
  refine thN ?_
  refine sq ?_
  refine rg0 ?_
  refine fa fl68_0 (r := 0) h fun a w h => ?_
  refine ld 0 t1_9 h fun a w h => ?_
  refine cl bod112 (word_ok d.name E H _ hL (by omega)) h fun r5 H5 L5 a w le5 R h => ?_
  obtain ⟨rfl, rfl, rfl⟩ := R
  refine nt h fun a w h => ?_
  refine h.spl (fun c6 h => ?_) (fun c6 h => ?_)
  · refine mv h fun a w h => ?_
    refine sk h (k := fun a w h => ?_)
    refine sk h (k := fun a w h => ?_)
    refine sk h (k := fun a w h => ?_)
    refine sk h (k := fun a w h => ?_)
    refine pkT h fun a w h => ?_
    refine mv h fun a w h => ?_
    refine sk h (k := fun a w h => ?_)
    refine sk h (k := fun a w h => ?_)
    refine sk h (k := fun a w h => ?_)
    refine sk h (k := fun a w h => ?_)
    refine pkT h fun a w h => ?_
    refine as_ h fun a w h => ?_
    refine nl0 ?_
    refine thN ?_
    refine ret_ ?_
    refine fin1 2 1 h LE.rfl ?_
    exact ⟨by first | (simp only [Df.wrong, c6]; done) | (simp only [Df.wrong, c6]; rfl), rfl, rfl⟩
  · refine mv h fun a w h => ?_
    refine fa fl68_1 (r := 1) h fun a w h => ?_
    refine ldN 0 tN24 h fun a w h => ?_
    refine cl bod91 (Right_ok d.t _ E H _ (VDf.t hks) hL (by omega) (by omega)) h fun r10 H10 L10 a w le10 R h => ?_
    obtain ⟨rfl, rfl, rfl⟩ := R
    refine nt h fun a w h => ?_
    refine pkF h fun a w h => ?_
    refine h.spl (fun c12 h => ?_) (fun c12 h => ?_)
    · refine mv h fun a w h => ?_
      refine sk h (k := fun a w h => ?_)
      refine sk h (k := fun a w h => ?_)
      refine sk h (k := fun a w h => ?_)
      refine sk h (k := fun a w h => ?_)
      refine pkT h fun a w h => ?_
      refine as_ h fun a w h => ?_
      refine nl0 ?_
      refine thN ?_
      refine ret_ ?_
      refine fin1 2 1 h LE.rfl ?_
      exact ⟨by first | (simp only [Df.wrong, c6, c12]; done) | (simp only [Df.wrong, c6, c12]; rfl), rfl, rfl⟩
    · refine mv h fun a w h => ?_
      refine fa fl68_1 (r := 1) h fun a w h => ?_
      refine fa fl24_0 (r := 1) h fun a w h => ?_
      refine ld 0 t1_3 h fun a w h => ?_
      refine nei h fun a w h => ?_
      refine pkF h fun a w h => ?_
      refine as_ h fun a w h => ?_
      refine nl0 ?_
      refine thN ?_
      refine ret_ ?_
      refine fin1 2 1 h LE.rfl ?_
      exact ⟨by first | (simp only [Df.wrong, c6, c12]; done) | (simp only [Df.wrong, c6, c12]; rfl), rfl, rfl⟩

theorem fits_ok (p : Pg) (v : Value) (E : World) (H : GH) (L : List It) (hv : VP H v p) (hL : Laid H) (hb : Mild p) : Ok Tryz.prog 73 #[v] E H L fun r H' L' => r = .bool p.fits ∧ H = H' ∧ L = L' := by
  obtain ⟨A1, c1, A2, c2, A3, c3, A4, c4, rfl, hi, hc, hd, hk⟩ := hv
  have b1 := hb.li
  have b2 := hb.lc
  have b3 := hb.lf
  refine enter (N := 39) [(0, _)] Tryz.func73 rfl rfl rfl rfl fun a w h => ?_
  refine sq ?_
  refine rg0 ?_
  refine bxA h fun g1 a w h => ?_
  refine as_ h fun a w h => ?_
  refine nl0 ?_
  refine thN ?_
  refine sq ?_
  refine rg0 ?_
  refine as_ h fun a w h => ?_
  refine nl0 ?_
  refine thN ?_
  refine sq ?_
  refine sq ?_
  refine rg0 ?_
  refine fa fl28_0 (r := 0) h fun a w h => ?_
  refine ld 0 t1_25 h fun a w h => ?_
  refine cl bod87 (ContainsFunc_Dc_ok p.inputs A1 c1 (Dc.wrong) 88 #[] E H _ hi (by omega) bod88 (fun j hj v hv => Dwrong_ok _ v E H _ hv hL (hb.i _ (List.getElem_mem hj)).1 (hb.i _ (List.getElem_mem hj)).2)) h fun r6 H6 L6 a w le6 R h => ?_
  obtain ⟨rfl, rfl, rfl⟩ := R
  refine h.spl (fun c6 h => ?_) (fun c6 h => ?_)
  · refine mv h fun a w h => ?_
    refine sk h (k := fun a w h => ?_)
    refine sk h (k := fun a w h => ?_)
    refine sk h (k := fun a w h => ?_)
    refine sk h (k := fun a w h => ?_)
    refine pkT h fun a w h => ?_
    refine mv h fun a w h => ?_
    refine sk h (k := fun a w h => ?_)
    refine sk h (k := fun a w h => ?_)
    refine sk h (k := fun a w h => ?_)
    refine pkT h fun a w h => ?_
    refine mv h fun a w h => ?_
    refine sk h (k := fun a w h => ?_)
    refine sk h (k := fun a w h => ?_)
    refine sk h (k := fun a w h => ?_)
    refine pkT h fun a w h => ?_
    refine nl0 ?_
    refine thN ?_
    refine cdT h ?_
    refine sq ?_
    refine rg0 ?_
    refine as_ h fun a w h => ?_
    refine nl0 ?_
    refine thN ?_
    refine ret_ ?_
    refine thR ?_
    refine fin1 2 1 h LE.rfl ?_
    exact ⟨by first | (simp only [Pg.fits, Pg.bad, c6]; done) | (simp only [Pg.fits, Pg.bad, c6]; rfl), rfl, rfl⟩
  · refine mv h fun a w h => ?_
    refine fa fl28_0 (r := 0) h fun a w h => ?_
    refine ld 0 t1_25 h fun a w h => ?_
    refine mv h fun a w h => ?_
    refine cl bod87 (ContainsFunc_Dc_ok p.inputs A1 c1 (fun d => d.n != 0) 86 #[] E H _ hi (by omega) bod86 (fun j hj v hv => set_ok _ v E H _ hv)) h fun r11 H11 L11 a w le11 R h => ?_
    obtain ⟨rfl, rfl, rfl⟩ := R
    refine pkF h fun a w h => ?_
    refine h.spl (fun c12 h => ?_) (fun c12 h => ?_)
    · refine mv h fun a w h => ?_
      refine sk h (k := fun a w h => ?_)
      refine sk h (k := fun a w h => ?_)
      refine sk h (k := fun a w h => ?_)
      refine pkT h fun a w h => ?_
      refine mv h fun a w h => ?_
      refine sk h (k := fun a w h => ?_)
      refine sk h (k := fun a w h => ?_)
      refine sk h (k := fun a w h => ?_)
      refine pkT h fun a w h => ?_
      refine nl0 ?_
      refine thN ?_
      refine cdT h ?_
      refine sq ?_
      refine rg0 ?_
      refine as_ h fun a w h => ?_
      refine nl0 ?_
      refine thN ?_
      refine ret_ ?_
      refine thR ?_
      refine fin1 2 1 h LE.rfl ?_
      exact ⟨by first | (simp only [Pg.fits, Pg.bad, c6, c12]; done) | (simp only [Pg.fits, Pg.bad, c6, c12]; rfl), rfl, rfl⟩
    · refine mv h fun a w h => ?_
      refine fa fl28_1 (r := 1) h fun a w h => ?_
      refine ld 0 t1_25 h fun a w h => ?_
      refine cl bod87 (ContainsFunc_Dc_ok p.cells A2 c2 (Dc.wrong) 88 #[] E H _ hc (by omega) bod88 (fun j hj v hv => Dwrong_ok _ v E H _ hv hL (hb.c _ (List.getElem_mem hj)).1 (hb.c _ (List.getElem_mem hj)).2)) h fun r16 H16 L16 a w le16 R h => ?_
      obtain ⟨rfl, rfl, rfl⟩ := R
      refine pkF h fun a w h => ?_
      refine h.spl (fun c17 h => ?_) (fun c17 h => ?_)
      · refine mv h fun a w h => ?_
        refine sk h (k := fun a w h => ?_)
        refine sk h (k := fun a w h => ?_)
        refine sk h (k := fun a w h => ?_)
        refine pkT h fun a w h => ?_
        refine nl0 ?_
        refine thN ?_
        refine cdT h ?_
        refine sq ?_
        refine rg0 ?_
        refine as_ h fun a w h => ?_
        refine nl0 ?_
        refine thN ?_
        refine ret_ ?_
        refine thR ?_
        refine fin1 2 1 h LE.rfl ?_
        exact ⟨by first | (simp only [Pg.fits, Pg.bad, c6, c12, c17]; done) | (simp only [Pg.fits, Pg.bad, c6, c12, c17]; rfl), rfl, rfl⟩
      · refine mv h fun a w h => ?_
        refine fa fl28_2 (r := 2) h fun a w h => ?_
        refine ld 0 t1_26 h fun a w h => ?_
        refine cl bod89 (ContainsFunc_Df_ok p.defs A3 c3 (Df.wrong) 90 #[] E H _ hd (by omega) bod90 (fun j hj v hv => Fwrong_ok _ v E H _ hv hL (hb.f _ (List.getElem_mem hj)).1 (hb.f _ (List.getElem_mem hj)).2.1 (hb.f _ (List.getElem_mem hj)).2.2)) h fun r21 H21 L21 a w le21 R h => ?_
        obtain ⟨rfl, rfl, rfl⟩ := R
        refine pkF h fun a w h => ?_
        refine nl0 ?_
        refine thN ?_
        refine cdB h (fun c22 => ?_) (fun c22 => ?_)
        · refine sq ?_
          refine rg0 ?_
          refine as_ h fun a w h => ?_
          refine nl0 ?_
          refine thN ?_
          refine ret_ ?_
          refine thR ?_
          refine fin1 2 1 h LE.rfl ?_
          exact ⟨by first | (simp only [Pg.fits, Pg.bad, c6, c12, c17, c22]; done) | (simp only [Pg.fits, Pg.bad, c6, c12, c17, c22]; rfl), rfl, rfl⟩
        · refine sk_ ?_
          refine thN ?_
          refine sq ?_
          refine rg0 ?_
          refine fa fl28_0 (r := 0) h fun a w h => ?_
          refine ld 0 t1_25 h fun a w h => ?_
          refine ln sli25 h fun a w h => ?_
          refine fa fl28_1 (r := 1) h fun a w h => ?_
          refine ld 0 t1_25 h fun a w h => ?_
          refine ln sli25 h fun a w h => ?_
          refine fa fl28_2 (r := 2) h fun a w h => ?_
          refine ld 0 t1_26 h fun a w h => ?_
          refine ln sli26 h fun a w h => ?_
          refine mxl h fun a w h => ?_
          refine le h fun a w h => ?_
          refine h.spl (fun c33 h => ?_) (fun c33 h => ?_)
          · refine mv h fun a w h => ?_
            refine fa fl28_3 (r := 3) h fun a w h => ?_
            refine ldN 0 tN24 h fun a w h => ?_
            refine cl bod91 (Right_ok p.body _ E H _ ⟨A4, c4, rfl, hk⟩ hL (hb.b1) (hb.b2)) h fun r37 H37 L37 a w le37 R h => ?_
            obtain ⟨rfl, rfl, rfl⟩ := R
            refine pkT h fun a w h => ?_
            refine as_ h fun a w h => ?_
            refine nl0 ?_
            refine thN ?_
            refine ret_ ?_
            refine fin1 2 1 h LE.rfl ?_
            exact ⟨by first | (simp only [Pg.fits, Pg.bad, c6, c12, c17, c22, c33]; done) | (simp only [Pg.fits, Pg.bad, c6, c12, c17, c22, c33]; rfl), rfl, rfl⟩
          · refine mv h fun a w h => ?_
            refine sk h (k := fun a w h => ?_)
            refine sk h (k := fun a w h => ?_)
            refine sk h (k := fun a w h => ?_)
            refine pkF h fun a w h => ?_
            refine as_ h fun a w h => ?_
            refine nl0 ?_
            refine thN ?_
            refine ret_ ?_
            refine fin1 2 1 h LE.rfl ?_
            exact ⟨by first | (simp only [Pg.fits, Pg.bad, c6, c12, c17, c22, c33]; done) | (simp only [Pg.fits, Pg.bad, c6, c12, c17, c22, c33]; rfl), rfl, rfl⟩
end Go.Proofs.YtindlieilabgfaaGreatDoor
/-
  DERIVED: THE SHELF's CONTRACTS AT THIS DUMP, IN PLAIN WORDS (tools/lay-plain.mjs out of 'TryzShelf.lean', which tools/lay-shelf.mjs wrote): THE SAME DECLARATIONS UNDER THE SAME NAMES: 'import', 'namespace', 'open', 'def', 'theorem' AND NOTHING ELSE: no command of the shelf's: FOR A HAND-IN. Each laying: the table of numbers ('.._ren') and one theorem, a field a fact of the dump's own or the kernel's comparison; each contract: ONE APPLICATION.
-/
namespace Go.Proofs
open Go.Shelf
def Tryz.lays169_ren : Go.Shelf.Ren := ⟨fun | 169 => 149 | n => n, fun | 70 => 195 | 9 => 9 | 0 => 0 | 72 => 197 | 37 => 29 | 127 => 212 | 3 => 3 | 5 => 5 | n => n, fun | n => n⟩
theorem Tryz.lays169 : Go.Proofs.Lays.n169 Tryz.prog Tryz.lays169_ren := {
  mixed := by kernel_rfl
  f169 := Tryz.func149.trans (congrArg some (by kernel_rfl))
  t0 := Tryz.underlying0
  a0 := Tryz.isAgg0
  z0 := Tryz.sizeOf0
  v0 := Tryz.zeroValue0
  t3 := Tryz.underlying3
  a3 := Tryz.isAgg3
  z3 := Tryz.sizeOf3
  v3 := Tryz.zeroValue3
  t9 := Tryz.underlying9
  a9 := Tryz.isAgg9
  z9 := Tryz.sizeOf9
  v9 := Tryz.zeroValue9
  t37 := Tryz.underlying29
  a37 := Tryz.isAgg29
  z37 := Tryz.sizeOf29
  v37 := Tryz.zeroValue29
  t70 := Tryz.underlying195
  a70 := Tryz.isAgg195
  z70 := Tryz.sizeOf195
  v70 := Tryz.zeroValue195
  t72 := Tryz.underlying197
  a72 := Tryz.isAgg197
  z72 := Tryz.sizeOf197
  v72 := Tryz.zeroValue197
  t127 := Tryz.underlying212
  a127 := Tryz.isAgg212
  z127 := Tryz.sizeOf212
  v127 := Tryz.zeroValue212 }
theorem Tryz.Builder_Extra_169 : Builder.Extra Tryz.prog Tryz.lays169_ren := {
  sizeBuilder := by kernel_rfl
  liesBuilder := by kernel_rfl
  t5 := Tryz.underlying5
  a5 := Tryz.isAgg5
  z5 := Tryz.sizeOf5
  v5 := Tryz.zeroValue5
  infoByte := by kernel_rfl
  cellsByte := by kernel_rfl
  sizeByte := by kernel_rfl
  neB5 := by decide }
open Go.RowKit in
/-- (*strings.Builder).String: "String returns the accumulated string.": OF A BUILDER THAT HOLDS AT LEAST ONE BYTE. ✋ THE MODEL FREEZES THOSE BYTES IN THE BUFFER (unsafe.String): a later write INTO them ends the model's run without an answer; a later append BEHIND them goes on. The statement's order of evaluation is drawn: one draw. (LAID: no walk: one application.) -/
theorem Tryz.Builder_String (B b : Nat) (l : List UInt8) (w : World) (h : Lib.IsBuilder 197 5 B b (Lib.byteCells l) w) (h0 : l ≠ []) :
    Calls Tryz.prog 149 #[.pointer (some ⟨b, 0, none⟩)] w fun e w' => e = .returned (.string ⟨l.toArray⟩) ∧ Below B w w' := Any.Builder_String Tryz.lays169 Tryz.Builder_Extra_169 B b l w h h0
open Go.RowKit in
/-- (*strings.Builder).String OF A BUILDER THAT HOLDS NO BYTE: the empty string. (Its buffer is nil, or a row of which it has taken nothing yet; where that row has NO capacity the model lays one new block for unsafe.SliceData's 'some address'.) One draw. (LAID: no walk: one application.) -/
theorem Tryz.Builder_String_empty (B b : Nat) (w : World) (h : Lib.IsBuilder 197 5 B b [] w) (hBw : B ≤ w.heap.size) :
    Calls Tryz.prog 149 #[.pointer (some ⟨b, 0, none⟩)] w fun e w' => e = .returned (.string ⟨#[]⟩) ∧ Below B w w' := Any.Builder_String_empty Tryz.lays169 Tryz.Builder_Extra_169 B b w h hBw
open Go.RowKit in
/-- (*strings.Builder).String: "String returns the accumulated string.": WHATEVER THE BUILDER HOLDS. (LAID: no walk: one application.) -/
theorem Tryz.Builder_String_any (B b : Nat) (l : List UInt8) (w : World) (h : Lib.IsBuilder 197 5 B b (Lib.byteCells l) w) (hBw : B ≤ w.heap.size) :
    Calls Tryz.prog 149 #[.pointer (some ⟨b, 0, none⟩)] w fun e w' => e = .returned (.string ⟨l.toArray⟩) ∧ Below B w w' := Any.Builder_String_any Tryz.lays169 Tryz.Builder_Extra_169 B b l w h hBw
def Tryz.lays241_ren : Go.Shelf.Ren := ⟨fun | 241 => 158 | 277 => 161 | n => n, fun | 70 => 195 | 3 => 3 | 0 => 0 | 72 => 197 | 37 => 29 | 5 => 5 | n => n, fun | n => n⟩
theorem Tryz.lays241 : Go.Proofs.Lays.n241 Tryz.prog Tryz.lays241_ren := {
  mixed := by kernel_rfl
  f241 := Tryz.func158.trans (congrArg some (by kernel_rfl))
  f277 := Tryz.func161.trans (congrArg some (by kernel_rfl))
  t0 := Tryz.underlying0
  a0 := Tryz.isAgg0
  z0 := Tryz.sizeOf0
  v0 := Tryz.zeroValue0
  t3 := Tryz.underlying3
  a3 := Tryz.isAgg3
  z3 := Tryz.sizeOf3
  v3 := Tryz.zeroValue3
  t37 := Tryz.underlying29
  a37 := Tryz.isAgg29
  z37 := Tryz.sizeOf29
  v37 := Tryz.zeroValue29
  t70 := Tryz.underlying195
  a70 := Tryz.isAgg195
  z70 := Tryz.sizeOf195
  v70 := Tryz.zeroValue195
  t72 := Tryz.underlying197
  a72 := Tryz.isAgg197
  z72 := Tryz.sizeOf197
  v72 := Tryz.zeroValue197 }
theorem Tryz.Builder_Extra_241 : Builder.Extra Tryz.prog Tryz.lays241_ren := {
  sizeBuilder := by kernel_rfl
  liesBuilder := by kernel_rfl
  t5 := Tryz.underlying5
  a5 := Tryz.isAgg5
  z5 := Tryz.sizeOf5
  v5 := Tryz.zeroValue5
  infoByte := by kernel_rfl
  cellsByte := by kernel_rfl
  sizeByte := by kernel_rfl
  neB5 := by decide }
open Go.RowKit in
/-- (*strings.Builder).grow (no doc but "grow copies the buffer to a new, larger buffer so that there are at least n bytes of capacity beyond len(b.buf)."): AT A BUILDER WITHOUT A BUFFER: a new row of whatever bytes for its buffer, none of them its own yet. Three draws. (LAID: no walk: one application.) -/
theorem Tryz.Builder_grow_fresh (B b n : Nat) (w : World) (hB : B ≤ b) (hbk : w.heap[b]? = some (.cells #[.pointer (some ⟨b, 0, none⟩), .slice none 0 0] 197 (0, 0))) (hBw : B ≤ w.heap.size) (hn : n ≤ 281474976710656) :
    Calls Tryz.prog 158 #[.pointer (some ⟨b, 0, none⟩), .int .i64 n] w fun e w' => e = .returned (.tuple #[]) ∧ (Lib.BuilderAt 197 5 B b (.pointer (some ⟨b, 0, none⟩)) [] w' ∧ Below B w w') := Any.Builder_grow_fresh Tryz.lays241 Tryz.Builder_Extra_241 B b n w hB hbk hBw hn
def Tryz.lays165_ren : Go.Shelf.Ren := ⟨fun | 165 => 147 | 240 => 157 | 241 => 158 | 276 => 160 | 277 => 161 | n => n, fun | 70 => 195 | 3 => 3 | 0 => 0 | 4 => 4 | 9 => 9 | 20 => 20 | 72 => 197 | 37 => 29 | 164 => 215 | 5 => 5 | n => n, fun | n => n⟩
theorem Tryz.lays165 : Go.Proofs.Lays.n165 Tryz.prog Tryz.lays165_ren := {
  mixed := by kernel_rfl
  f165 := Tryz.func147.trans (congrArg some (by kernel_rfl))
  f240 := Tryz.func157.trans (congrArg some (by kernel_rfl))
  f241 := Tryz.func158.trans (congrArg some (by kernel_rfl))
  f276 := Tryz.func160.trans (congrArg some (by kernel_rfl))
  f277 := Tryz.func161.trans (congrArg some (by kernel_rfl))
  t0 := Tryz.underlying0
  a0 := Tryz.isAgg0
  z0 := Tryz.sizeOf0
  v0 := Tryz.zeroValue0
  t3 := Tryz.underlying3
  a3 := Tryz.isAgg3
  z3 := Tryz.sizeOf3
  v3 := Tryz.zeroValue3
  t4 := Tryz.underlying4
  a4 := Tryz.isAgg4
  z4 := Tryz.sizeOf4
  v4 := Tryz.zeroValue4
  t9 := Tryz.underlying9
  a9 := Tryz.isAgg9
  z9 := Tryz.sizeOf9
  v9 := Tryz.zeroValue9
  t20 := Tryz.underlying20
  a20 := Tryz.isAgg20
  z20 := Tryz.sizeOf20
  v20 := Tryz.zeroValue20
  t37 := Tryz.underlying29
  a37 := Tryz.isAgg29
  z37 := Tryz.sizeOf29
  v37 := Tryz.zeroValue29
  t70 := Tryz.underlying195
  a70 := Tryz.isAgg195
  z70 := Tryz.sizeOf195
  v70 := Tryz.zeroValue195
  t72 := Tryz.underlying197
  a72 := Tryz.isAgg197
  z72 := Tryz.sizeOf197
  v72 := Tryz.zeroValue197
  t164 := Tryz.underlying215
  a164 := Tryz.isAgg215
  z164 := Tryz.sizeOf215
  v164 := Tryz.zeroValue215 }
theorem Tryz.Builder_Extra_165 : Builder.Extra Tryz.prog Tryz.lays165_ren := {
  sizeBuilder := by kernel_rfl
  liesBuilder := by kernel_rfl
  t5 := Tryz.underlying5
  a5 := Tryz.isAgg5
  z5 := Tryz.sizeOf5
  v5 := Tryz.zeroValue5
  infoByte := by kernel_rfl
  cellsByte := by kernel_rfl
  sizeByte := by kernel_rfl
  neB5 := by decide }
open Go.RowKit in
/-- (*strings.Builder).Grow AT A BUILDER THAT HAS NOT BEEN WRITTEN ('var b strings.Builder; b.Grow(n)'): "Grow grows b's capacity, if necessary, to guarantee space for another n bytes.": it holds no byte behind it as before it. (LAID: no walk: one application.) -/
theorem Tryz.Builder_Grow_fresh (B b n : Nat) (w : World) (hB : B ≤ b) (hbk : w.heap[b]? = some (.cells #[.pointer none, .slice none 0 0] 197 (0, 0))) (hBw : B ≤ w.heap.size) (hn : n ≤ 281474976710656) :
    Calls Tryz.prog 147 #[.pointer (some ⟨b, 0, none⟩), .int .i64 n] w fun e w' => e = .returned (.tuple #[]) ∧ (Lib.BuilderAt 197 5 B b (.pointer (some ⟨b, 0, none⟩)) [] w' ∧ Below B w w') := Any.Builder_Grow_fresh Tryz.lays165 Tryz.Builder_Extra_165 B b n w hB hbk hBw hn
def Tryz.lays156_ren : Go.Shelf.Ren := ⟨fun | 156 => 121 | 165 => 147 | 166 => 148 | 169 => 149 | 240 => 157 | 241 => 158 | 276 => 160 | 277 => 161 | n => n, fun | 31 => 58 | 9 => 9 | 3 => 3 | 4 => 4 | 0 => 0 | 20 => 20 | 72 => 197 | 76 => 201 | 70 => 195 | 37 => 29 | 75 => 200 | 127 => 212 | 164 => 215 | 5 => 5 | 80 => 203 | n => n, fun | n => n⟩
theorem Tryz.lays156 : Go.Proofs.Lays.n156 Tryz.prog Tryz.lays156_ren := {
  mixed := by kernel_rfl
  f156 := Tryz.func121.trans (congrArg some (by kernel_rfl))
  f165 := Tryz.func147.trans (congrArg some (by kernel_rfl))
  f166 := Tryz.func148.trans (congrArg some (by kernel_rfl))
  f169 := Tryz.func149.trans (congrArg some (by kernel_rfl))
  f240 := Tryz.func157.trans (congrArg some (by kernel_rfl))
  f241 := Tryz.func158.trans (congrArg some (by kernel_rfl))
  f276 := Tryz.func160.trans (congrArg some (by kernel_rfl))
  f277 := Tryz.func161.trans (congrArg some (by kernel_rfl))
  t0 := Tryz.underlying0
  a0 := Tryz.isAgg0
  z0 := Tryz.sizeOf0
  v0 := Tryz.zeroValue0
  t3 := Tryz.underlying3
  a3 := Tryz.isAgg3
  z3 := Tryz.sizeOf3
  v3 := Tryz.zeroValue3
  t4 := Tryz.underlying4
  a4 := Tryz.isAgg4
  z4 := Tryz.sizeOf4
  v4 := Tryz.zeroValue4
  t9 := Tryz.underlying9
  a9 := Tryz.isAgg9
  z9 := Tryz.sizeOf9
  v9 := Tryz.zeroValue9
  t20 := Tryz.underlying20
  a20 := Tryz.isAgg20
  z20 := Tryz.sizeOf20
  v20 := Tryz.zeroValue20
  t31 := Tryz.underlying58
  a31 := Tryz.isAgg58
  z31 := Tryz.sizeOf58
  v31 := Tryz.zeroValue58
  t37 := Tryz.underlying29
  a37 := Tryz.isAgg29
  z37 := Tryz.sizeOf29
  v37 := Tryz.zeroValue29
  t70 := Tryz.underlying195
  a70 := Tryz.isAgg195
  z70 := Tryz.sizeOf195
  v70 := Tryz.zeroValue195
  t72 := Tryz.underlying197
  a72 := Tryz.isAgg197
  z72 := Tryz.sizeOf197
  v72 := Tryz.zeroValue197
  t75 := Tryz.underlying200
  a75 := Tryz.isAgg200
  z75 := Tryz.sizeOf200
  v75 := Tryz.zeroValue200
  t76 := Tryz.underlying201
  a76 := Tryz.isAgg201
  z76 := Tryz.sizeOf201
  v76 := Tryz.zeroValue201
  t127 := Tryz.underlying212
  a127 := Tryz.isAgg212
  z127 := Tryz.sizeOf212
  v127 := Tryz.zeroValue212
  t164 := Tryz.underlying215
  a164 := Tryz.isAgg215
  z164 := Tryz.sizeOf215
  v164 := Tryz.zeroValue215 }
theorem Tryz.Builder_Extra_156 : Builder.Extra Tryz.prog Tryz.lays156_ren := {
  sizeBuilder := by kernel_rfl
  liesBuilder := by kernel_rfl
  t5 := Tryz.underlying5
  a5 := Tryz.isAgg5
  z5 := Tryz.sizeOf5
  v5 := Tryz.zeroValue5
  infoByte := by kernel_rfl
  cellsByte := by kernel_rfl
  sizeByte := by kernel_rfl
  neB5 := by decide }
open Go.RowKit in
/-- No element: the empty string; the world is as it was. (Whatever the slice's address and capacity: a nil slice too.) (LAID: no walk: one application.) -/
theorem Tryz.strings_Join_none (a : Option Addr) (c : Nat) (sep : ByteArray) (w : World) :
    Calls Tryz.prog 121 #[.slice a 0 c, .string sep] w fun e w' => e = .returned (.string ⟨#[]⟩) ∧ w' = w := Any.strings_Join_none Tryz.lays156 Tryz.Builder_Extra_156 a c sep w
open Go.RowKit in
/-- strings.Join: "Join concatenates the elements of its first argument to create a single string. The separator string sep is placed between elements in the resulting string.": HOWEVER MANY ELEMENTS. Below the heap's end the world is as it was. (LAID: no walk: one application.) -/
theorem Tryz.strings_Join (bk o c : Nat) (xs : List ByteArray) (sep : ByteArray) (w : World) (hcells : ∀ (j : Nat) x, xs[j]? = some x → w.cell? ⟨bk, o + j, none⟩ = some (.string x)) (hbk : bk < w.heap.size) (hN : xs.length ≤ 140737488355328) (hcap : xs.length ≤ c) (hlen : (Lib.join (xs.map (·.data.toList)) sep.data.toList).length ≤ 140737488355328) :
    Calls Tryz.prog 121 #[.slice (some ⟨bk, o, none⟩) xs.length c, .string sep] w fun e w' => e = .returned (.string ⟨(Lib.join (xs.map (·.data.toList)) sep.data.toList).toArray⟩) ∧ Below w.heap.size w w' := Any.strings_Join Tryz.lays156 Tryz.Builder_Extra_156 bk o c xs sep w hcells hbk hN hcap hlen
def Tryz.lays128_ren : Go.Shelf.Ren := ⟨fun | 128 => 109 | n => n, fun | 51 => 157 | 3 => 3 | 4 => 4 | 46 => 136 | 5 => 5 | 9 => 9 | n => n, fun | n => n⟩
theorem Tryz.lays128 : Go.Proofs.Lays.n128 Tryz.prog Tryz.lays128_ren := {
  mixed := by kernel_rfl
  f128 := Tryz.func109.trans (congrArg some (by kernel_rfl))
  t3 := Tryz.underlying3
  a3 := Tryz.isAgg3
  z3 := Tryz.sizeOf3
  v3 := Tryz.zeroValue3
  t4 := Tryz.underlying4
  a4 := Tryz.isAgg4
  z4 := Tryz.sizeOf4
  v4 := Tryz.zeroValue4
  t5 := Tryz.underlying5
  a5 := Tryz.isAgg5
  z5 := Tryz.sizeOf5
  v5 := Tryz.zeroValue5
  t9 := Tryz.underlying9
  a9 := Tryz.isAgg9
  z9 := Tryz.sizeOf9
  v9 := Tryz.zeroValue9
  t46 := Tryz.underlying136
  a46 := Tryz.isAgg136
  z46 := Tryz.sizeOf136
  v46 := Tryz.zeroValue136
  t51 := Tryz.underlying157
  a51 := Tryz.isAgg157
  z51 := Tryz.sizeOf157
  v51 := Tryz.zeroValue157 }
/-- bits.Len32: "Len32 returns the minimum number of bits required to represent x; the result is 0 for x == 0.": IT RETURNS 'Lib.bitLen x'; the world is as it was. ('h0', 'h1': x is a uint32.) (LAID: no walk: one application.) -/
theorem Tryz.bits_Len32 (x : Int) (w : World) (h0 : 0 ≤ x) (h1 : x ≤ 4294967295) :
    Calls Tryz.prog 109 #[.int .u32 x] w fun e w' => e = .returned (.int .i64 (Lib.bitLen x.toNat)) ∧ w' = w := Any.bits_Len32 Tryz.lays128 x w h0 h1
def Tryz.lays125_ren : Go.Shelf.Ren := ⟨fun | 125 => 85 | 128 => 109 | 129 => 110 | n => n, fun | 46 => 136 | 3 => 3 | 51 => 157 | 53 => 128 | 4 => 4 | 5 => 5 | 9 => 9 | n => n, fun | n => n⟩
theorem Tryz.lays125 : Go.Proofs.Lays.n125 Tryz.prog Tryz.lays125_ren := {
  mixed := by kernel_rfl
  f125 := Tryz.func85.trans (congrArg some (by kernel_rfl))
  f128 := Tryz.func109.trans (congrArg some (by kernel_rfl))
  f129 := Tryz.func110.trans (congrArg some (by kernel_rfl))
  t3 := Tryz.underlying3
  a3 := Tryz.isAgg3
  z3 := Tryz.sizeOf3
  v3 := Tryz.zeroValue3
  t4 := Tryz.underlying4
  a4 := Tryz.isAgg4
  z4 := Tryz.sizeOf4
  v4 := Tryz.zeroValue4
  t5 := Tryz.underlying5
  a5 := Tryz.isAgg5
  z5 := Tryz.sizeOf5
  v5 := Tryz.zeroValue5
  t9 := Tryz.underlying9
  a9 := Tryz.isAgg9
  z9 := Tryz.sizeOf9
  v9 := Tryz.zeroValue9
  t46 := Tryz.underlying136
  a46 := Tryz.isAgg136
  z46 := Tryz.sizeOf136
  v46 := Tryz.zeroValue136
  t51 := Tryz.underlying157
  a51 := Tryz.isAgg157
  z51 := Tryz.sizeOf157
  v51 := Tryz.zeroValue157
  t53 := Tryz.underlying128
  a53 := Tryz.isAgg128
  z53 := Tryz.sizeOf128
  v53 := Tryz.zeroValue128 }
/-- bits.Len: "Len returns the minimum number of bits required to represent x; the result is 0 for x == 0.": IT RETURNS 'Lib.bitLen x'; the world is as it was. (A uint has 64 bits in the model.) ITS CALLEE bits.Len64 IS MET BY ITS OWN CONTRACT OFF THE SHELF (lay that first). (LAID: no walk: one application.) -/
theorem Tryz.bits_Len (x : Int) (w : World) (h0 : 0 ≤ x) (h1 : x ≤ 18446744073709551615) :
    Calls Tryz.prog 85 #[.int .u64 x] w fun e w' => e = .returned (.int .i64 (Lib.bitLen x.toNat)) ∧ w' = w := Any.bits_Len Tryz.lays125 x w h0 h1
open Go.RowKit in
/-- (*strings.Builder).String: "String returns the accumulated string.": OF A BUILDER THAT HOLDS AT LEAST ONE BYTE. ✋ THE MODEL FREEZES THOSE BYTES IN THE BUFFER (unsafe.String): a later write INTO them ends the model's run without an answer; a later append BEHIND them goes on. The statement's order of evaluation is drawn: one draw. THE FORM '_f': IT SAYS BESIDES THAT THE BUILDER IS A BUILDER STILL ('Lib.IsBuilderF', the same bytes): SO IT CAN BE WRITTEN ON: 'b.WriteString(b.String()[:k])'. (LAID: no walk: one application.) -/
theorem Tryz.Builder_String_f (B b : Nat) (l : List UInt8) (w : World) (h : Lib.IsBuilderF 197 5 B b (Lib.byteCells l) w) (h0 : l ≠ []) :
    Calls Tryz.prog 149 #[.pointer (some ⟨b, 0, none⟩)] w fun e w' => e = .returned (.string ⟨l.toArray⟩) ∧ (Lib.IsBuilderF 197 5 B b (Lib.byteCells l) w' ∧ Below B w w') := Any.Builder_String_f Tryz.lays169 Tryz.Builder_Extra_169 B b l w h h0
open Go.RowKit in
/-- (*strings.Builder).String OF A BUILDER THAT HOLDS NO BYTE: the empty string; THE FORM '_f': a builder still. (LAID: no walk: one application.) -/
theorem Tryz.Builder_String_empty_f (B b : Nat) (w : World) (h : Lib.IsBuilderF 197 5 B b [] w) (hBw : B ≤ w.heap.size) :
    Calls Tryz.prog 149 #[.pointer (some ⟨b, 0, none⟩)] w fun e w' => e = .returned (.string ⟨#[]⟩) ∧ (Lib.IsBuilderF 197 5 B b [] w' ∧ Below B w w') := Any.Builder_String_empty_f Tryz.lays169 Tryz.Builder_Extra_169 B b w h hBw
open Go.RowKit in
/-- (*strings.Builder).String: "String returns the accumulated string.": WHATEVER THE BUILDER HOLDS; THE FORM '_f': OF A BUILDER THAT MAY HAVE BEEN READ BEFORE; AND IT IS A BUILDER STILL, holding the same bytes: it can be written on. (LAID: no walk: one application.) -/
theorem Tryz.Builder_String_any_f (B b : Nat) (l : List UInt8) (w : World) (h : Lib.IsBuilderF 197 5 B b (Lib.byteCells l) w) (hBw : B ≤ w.heap.size) :
    Calls Tryz.prog 149 #[.pointer (some ⟨b, 0, none⟩)] w fun e w' => e = .returned (.string ⟨l.toArray⟩) ∧ (Lib.IsBuilderF 197 5 B b (Lib.byteCells l) w' ∧ Below B w w') := Any.Builder_String_any_f Tryz.lays169 Tryz.Builder_Extra_169 B b l w h hBw
open Go.RowKit in
/-- (*strings.Builder).String: "String returns the accumulated string.": OF A BUILDER THAT HOLDS AT LEAST ONE BYTE. ✋ THE MODEL FREEZES THOSE BYTES IN THE BUFFER (unsafe.String): a later write INTO them ends the model's run without an answer; a later append BEHIND them goes on. The statement's order of evaluation is drawn: one draw. THE FORM '_k': OVER 'Lib.IsBuilderF' (a builder that 'String()' may have read), AND WITH THE FRAME THAT REACHES ABOVE THE BUILDER: 'Lib.OthersKept': every block that is not b and is no row of uint8's stands as it stood: the iterator of a range among them. (LAID: no walk: one application.) -/
theorem Tryz.Builder_String_k (B b : Nat) (l : List UInt8) (w : World) (h : Lib.IsBuilderF 197 5 B b (Lib.byteCells l) w) (h0 : l ≠ []) :
    Calls Tryz.prog 149 #[.pointer (some ⟨b, 0, none⟩)] w fun e w' => e = .returned (.string ⟨l.toArray⟩) ∧ (Lib.IsBuilderF 197 5 B b (Lib.byteCells l) w' ∧ Below B w w' ∧ Lib.OthersKept 5 (some b) w w') := Any.Builder_String_k Tryz.lays169 Tryz.Builder_Extra_169 B b l w h h0
open Go.RowKit in
/-- (*strings.Builder).String OF A BUILDER THAT HOLDS NO BYTE: the empty string; THE FORM '_k': OVER 'Lib.IsBuilderF' (a builder that 'String()' may have read), AND WITH THE FRAME THAT REACHES ABOVE THE BUILDER: 'Lib.OthersKept': every block that is not b and is no row of uint8's stands as it stood: the iterator of a range among them. (LAID: no walk: one application.) -/
theorem Tryz.Builder_String_empty_k (B b : Nat) (w : World) (h : Lib.IsBuilderF 197 5 B b [] w) (hBw : B ≤ w.heap.size) :
    Calls Tryz.prog 149 #[.pointer (some ⟨b, 0, none⟩)] w fun e w' => e = .returned (.string ⟨#[]⟩) ∧ (Lib.IsBuilderF 197 5 B b [] w' ∧ Below B w w' ∧ Lib.OthersKept 5 (some b) w w') := Any.Builder_String_empty_k Tryz.lays169 Tryz.Builder_Extra_169 B b w h hBw
open Go.RowKit in
/-- (*strings.Builder).String: "String returns the accumulated string.": WHATEVER THE BUILDER HOLDS; THE FORM '_k': OVER 'Lib.IsBuilderF' (a builder that 'String()' may have read), AND WITH THE FRAME THAT REACHES ABOVE THE BUILDER: 'Lib.OthersKept': every block that is not b and is no row of uint8's stands as it stood: the iterator of a range among them. (LAID: no walk: one application.) -/
theorem Tryz.Builder_String_any_k (B b : Nat) (l : List UInt8) (w : World) (h : Lib.IsBuilderF 197 5 B b (Lib.byteCells l) w) (hBw : B ≤ w.heap.size) :
    Calls Tryz.prog 149 #[.pointer (some ⟨b, 0, none⟩)] w fun e w' => e = .returned (.string ⟨l.toArray⟩) ∧ (Lib.IsBuilderF 197 5 B b (Lib.byteCells l) w' ∧ Below B w w' ∧ Lib.OthersKept 5 (some b) w w') := Any.Builder_String_any_k Tryz.lays169 Tryz.Builder_Extra_169 B b l w h hBw
open Go.RowKit in
/-- (*strings.Builder).grow (no doc but "grow copies the buffer to a new, larger buffer so that there are at least n bytes of capacity beyond len(b.buf)."): AT A BUILDER WITHOUT A BUFFER: a new row of whatever bytes for its buffer, none of them its own yet. Three draws. (LAID: no walk: one application.) -/
theorem Tryz.Builder_grow_fresh_cap (B b n : Nat) (w : World) (hB : B ≤ b) (hbk : w.heap[b]? = some (.cells #[.pointer (some ⟨b, 0, none⟩), .slice none 0 0] 197 (0, 0))) (hBw : B ≤ w.heap.size) (hn : n ≤ 281474976710656) :
    Calls Tryz.prog 158 #[.pointer (some ⟨b, 0, none⟩), .int .i64 n] w fun e w' => e = .returned (.tuple #[]) ∧ (Lib.BuilderAt 197 5 B b (.pointer (some ⟨b, 0, none⟩)) [] w' ∧ Below B w w') ∧ ∃ p cap, w'.cell? ⟨b, 1, none⟩ = some (.slice p 0 cap) ∧ n ≤ cap := Any.Builder_grow_fresh_cap Tryz.lays241 Tryz.Builder_Extra_241 B b n w hB hbk hBw hn
open Go.RowKit in
/-- (*strings.Builder).Grow AT A BUILDER THAT HAS NOT BEEN WRITTEN ('var b strings.Builder; b.Grow(n)'): "Grow grows b's capacity, if necessary, to guarantee space for another n bytes.": it holds no byte behind it as before it. (LAID: no walk: one application.) -/
theorem Tryz.Builder_Grow_fresh_cap (B b n : Nat) (w : World) (hB : B ≤ b) (hbk : w.heap[b]? = some (.cells #[.pointer none, .slice none 0 0] 197 (0, 0))) (hBw : B ≤ w.heap.size) (hn : n ≤ 281474976710656) :
    Calls Tryz.prog 147 #[.pointer (some ⟨b, 0, none⟩), .int .i64 n] w fun e w' => e = .returned (.tuple #[]) ∧ (Lib.BuilderAt 197 5 B b (.pointer (some ⟨b, 0, none⟩)) [] w' ∧ Below B w w') ∧ ∃ p cap, w'.cell? ⟨b, 1, none⟩ = some (.slice p 0 cap) ∧ n ≤ cap := Any.Builder_Grow_fresh_cap Tryz.lays165 Tryz.Builder_Extra_165 B b n w hB hbk hBw hn
def Tryz.lays129_ren : Go.Shelf.Ren := ⟨fun | 129 => 110 | n => n, fun | 53 => 128 | 3 => 3 | 4 => 4 | 46 => 136 | 5 => 5 | 9 => 9 | n => n, fun | n => n⟩
theorem Tryz.lays129 : Go.Proofs.Lays.n129 Tryz.prog Tryz.lays129_ren := {
  mixed := by kernel_rfl
  f129 := Tryz.func110.trans (congrArg some (by kernel_rfl))
  t3 := Tryz.underlying3
  a3 := Tryz.isAgg3
  z3 := Tryz.sizeOf3
  v3 := Tryz.zeroValue3
  t4 := Tryz.underlying4
  a4 := Tryz.isAgg4
  z4 := Tryz.sizeOf4
  v4 := Tryz.zeroValue4
  t5 := Tryz.underlying5
  a5 := Tryz.isAgg5
  z5 := Tryz.sizeOf5
  v5 := Tryz.zeroValue5
  t9 := Tryz.underlying9
  a9 := Tryz.isAgg9
  z9 := Tryz.sizeOf9
  v9 := Tryz.zeroValue9
  t46 := Tryz.underlying136
  a46 := Tryz.isAgg136
  z46 := Tryz.sizeOf136
  v46 := Tryz.zeroValue136
  t53 := Tryz.underlying128
  a53 := Tryz.isAgg128
  z53 := Tryz.sizeOf128
  v53 := Tryz.zeroValue128 }
/-- bits.Len64: "Len64 returns the minimum number of bits required to represent x; the result is 0 for x == 0.": IT RETURNS 'Lib.bitLen x'; the world is as it was. ('h0', 'h1': x is a uint64.) (LAID: no walk: one application.) -/
theorem Tryz.bits_Len64 (x : Int) (w : World) (h0 : 0 ≤ x) (h1 : x ≤ 18446744073709551615) :
    Calls Tryz.prog 110 #[.int .u64 x] w fun e w' => e = .returned (.int .i64 (Lib.bitLen x.toNat)) ∧ w' = w := Any.bits_Len64 Tryz.lays129 x w h0 h1
def Tryz.lays317_ren : Go.Shelf.Ren := ⟨fun | 317 => 143 | n => n, fun | 3 => 3 | 46 => 136 | n => n, fun | n => n⟩
theorem Tryz.lays317 : Go.Proofs.Lays.n317 Tryz.prog Tryz.lays317_ren := {
  mixed := by kernel_rfl
  f317 := Tryz.func143.trans (congrArg some (by kernel_rfl))
  t3 := Tryz.underlying3
  a3 := Tryz.isAgg3
  z3 := Tryz.sizeOf3
  v3 := Tryz.zeroValue3
  t46 := Tryz.underlying136
  a46 := Tryz.isAgg136
  z46 := Tryz.sizeOf136
  v46 := Tryz.zeroValue136 }
open Go.Lib in
/-- internal/strconv.log10Pow2: "log10Pow2(x) returns ⌊log₁₀ 2**x⌋ = ⌊x * log₁₀ 2⌋.": '(x * 78913) >> 18', at an x up to 64 (a length in bits). The world is as it was. (LAID: no walk: one application.) -/
theorem Tryz.internal_strconv_log10Pow2 (x : Nat) (h : x ≤ 64) (w : World) :
    Calls Tryz.prog 143 #[.int .i64 x] w fun e w' => e = .returned (.int .i64 (Lib.l10 x)) ∧ w' = w := Any.internal_strconv_log10Pow2 Tryz.lays317 x h w
def Tryz.lays318_ren : Go.Shelf.Ren := ⟨fun | 318 => 144 | n => n, fun | 3 => 3 | 4 => 4 | n => n, fun | n => n⟩
theorem Tryz.lays318 : Go.Proofs.Lays.n318 Tryz.prog Tryz.lays318_ren := {
  mixed := by kernel_rfl
  f318 := Tryz.func144.trans (congrArg some (by kernel_rfl))
  t3 := Tryz.underlying3
  a3 := Tryz.isAgg3
  z3 := Tryz.sizeOf3
  v3 := Tryz.zeroValue3
  t4 := Tryz.underlying4
  a4 := Tryz.isAgg4
  z4 := Tryz.sizeOf4
  v4 := Tryz.zeroValue4 }
open Go.Lib in
/-- internal/strconv.bool2: "bool2 converts b to an integer: 1 for true, 0 for false." The world is as it was. (LAID: no walk: one application.) -/
theorem Tryz.internal_strconv_bool2_int (b : Bool) (w : World) :
    Calls Tryz.prog 144 #[.bool b] w fun e w' => e = .returned (.int .i64 (if b then 1 else 0)) ∧ w' = w := Any.internal_strconv_bool2_int Tryz.lays318 b w
def Tryz.lays283_ren : Go.Shelf.Ren := ⟨fun | 283 => 117 | n => n, fun | 3 => 3 | 9 => 9 | 4 => 4 | n => n, fun | n => n⟩
theorem Tryz.lays283 : Go.Proofs.Lays.n283 Tryz.prog Tryz.lays283_ren := {
  mixed := by kernel_rfl
  f283 := Tryz.func117.trans (congrArg some (by kernel_rfl))
  t3 := Tryz.underlying3
  a3 := Tryz.isAgg3
  z3 := Tryz.sizeOf3
  v3 := Tryz.zeroValue3
  t4 := Tryz.underlying4
  a4 := Tryz.isAgg4
  z4 := Tryz.sizeOf4
  v4 := Tryz.zeroValue4
  t9 := Tryz.underlying9
  a9 := Tryz.isAgg9
  z9 := Tryz.sizeOf9
  v9 := Tryz.zeroValue9 }
open Go.Lib in
/-- internal/strconv.small: "small returns the string for an i with 0 <= i < nSmalls.": i's decimal numeral. The world is as it was. (LAID: no walk: one application.) -/
theorem Tryz.internal_strconv_small (i : Nat) (h : i < 100) (w : World) :
    Calls Tryz.prog 117 #[.int .i64 i] w fun e w' => e = .returned (.string ⟨(Lib.decDigits i).toArray⟩) ∧ w' = w := Any.internal_strconv_small Tryz.lays283 i h w
def Tryz.laysM284_ren : Go.Shelf.Ren := ⟨fun | 284 => 118 | 129 => 110 | 317 => 143 | 318 => 144 | n => n, fun | 53 => 128 | 3 => 3 | 212 => 192 | 0 => 0 | 4 => 4 | 46 => 136 | 5 => 5 | 9 => 9 | n => n, fun | 17 => 2 | n => n⟩
theorem Tryz.laysM284 : Go.Proofs.LaysM.n284 Tryz.prog Tryz.laysM284_ren := {
  mixed := by kernel_rfl
  f129 := Tryz.func110.trans (congrArg some (by kernel_rfl))
  f284 := Tryz.func118.trans (congrArg some (by kernel_rfl))
  f317 := Tryz.func143.trans (congrArg some (by kernel_rfl))
  f318 := Tryz.func144.trans (congrArg some (by kernel_rfl))
  t0 := Tryz.underlying0
  a0 := Tryz.isAgg0
  z0 := Tryz.sizeOf0
  v0 := Tryz.zeroValue0
  t3 := Tryz.underlying3
  a3 := Tryz.isAgg3
  z3 := Tryz.sizeOf3
  v3 := Tryz.zeroValue3
  t4 := Tryz.underlying4
  a4 := Tryz.isAgg4
  z4 := Tryz.sizeOf4
  v4 := Tryz.zeroValue4
  t5 := Tryz.underlying5
  a5 := Tryz.isAgg5
  z5 := Tryz.sizeOf5
  v5 := Tryz.zeroValue5
  t9 := Tryz.underlying9
  a9 := Tryz.isAgg9
  z9 := Tryz.sizeOf9
  v9 := Tryz.zeroValue9
  t46 := Tryz.underlying136
  a46 := Tryz.isAgg136
  z46 := Tryz.sizeOf136
  v46 := Tryz.zeroValue136
  t53 := Tryz.underlying128
  a53 := Tryz.isAgg128
  z53 := Tryz.sizeOf128
  v53 := Tryz.zeroValue128
  t212 := Tryz.underlying192
  a212 := Tryz.isAgg192
  z212 := Tryz.sizeOf192
  v212 := Tryz.zeroValue192
  g17 := by kernel_rfl
  i0 := by kernel_rfl
  i3 := by kernel_rfl
  i4 := by kernel_rfl
  i5 := by kernel_rfl
  i9 := by kernel_rfl
  i46 := by kernel_rfl
  i53 := by kernel_rfl
  i212 := by kernel_rfl
  m17 := by kernel_rfl }
open Go.Lib in
/-- internal/strconv.numDigits, at a d that is not 0: THE NUMBER OF d's DECIMAL DIGITS. The world is as it was. (LAID: no walk: one application.) -/
theorem Tryz.internal_strconv_numDigits (u : Nat) (h1 : 1 ≤ u) (h2 : u < 18446744073709551616) (w : World) (htab : Lib.TabIs Tryz.prog w "internal/strconv.uint64pow10" .u64 Lib.pow10Tab) :
    Calls Tryz.prog 118 #[.int .u64 u] w fun e w' => e = .returned (.int .i64 (Lib.nDigits u)) ∧ w' = w := Any.internal_strconv_numDigits Tryz.laysM284 u h1 h2 w htab
def Tryz.lays285_ren : Go.Shelf.Ren := ⟨fun | 285 => 119 | n => n, fun | 37 => 29 | 53 => 128 | 3 => 3 | 4 => 4 | 51 => 157 | 9 => 9 | 5 => 5 | 0 => 0 | n => n, fun | n => n⟩
theorem Tryz.lays285 : Go.Proofs.Lays.n285 Tryz.prog Tryz.lays285_ren := {
  mixed := by kernel_rfl
  f285 := Tryz.func119.trans (congrArg some (by kernel_rfl))
  t0 := Tryz.underlying0
  a0 := Tryz.isAgg0
  z0 := Tryz.sizeOf0
  v0 := Tryz.zeroValue0
  t3 := Tryz.underlying3
  a3 := Tryz.isAgg3
  z3 := Tryz.sizeOf3
  v3 := Tryz.zeroValue3
  t4 := Tryz.underlying4
  a4 := Tryz.isAgg4
  z4 := Tryz.sizeOf4
  v4 := Tryz.zeroValue4
  t5 := Tryz.underlying5
  a5 := Tryz.isAgg5
  z5 := Tryz.sizeOf5
  v5 := Tryz.zeroValue5
  t9 := Tryz.underlying9
  a9 := Tryz.isAgg9
  z9 := Tryz.sizeOf9
  v9 := Tryz.zeroValue9
  t37 := Tryz.underlying29
  a37 := Tryz.isAgg29
  z37 := Tryz.sizeOf29
  v37 := Tryz.zeroValue29
  t51 := Tryz.underlying157
  a51 := Tryz.isAgg157
  z51 := Tryz.sizeOf157
  v51 := Tryz.zeroValue157
  t53 := Tryz.underlying128
  a53 := Tryz.isAgg128
  z53 := Tryz.sizeOf128
  v53 := Tryz.zeroValue128 }
open Go.RowKit Go.Sort Go.Lib in
/-- internal/strconv.formatBase10: "formatBase10 formats the decimal representation of u into a. The caller is responsible for ensuring that a is big enough to hold u. If a is too big, leading zeros will be filled in as needed.": THE ROW HOLDS u's DIGITS ('FmtInv .. 0 ..': every place t holds 'dg u (len - 1 - t)'); all else is as it was but for the count of draws. (LAID: no walk: one application.) -/
theorem Tryz.internal_strconv_formatBase10 (blk off cap : Nat) (u : Nat) (d : Array UInt8) (w : World) (hH : Holds (fun (b : UInt8) => Value.int .u8 (b.toNat : Int)) w blk off d) (hu : u < 10 ^ d.size) (hu64 : u < 18446744073709551616) (hsz : d.size < 4611686018427387904) :
    Calls Tryz.prog 119 #[.slice (some ⟨blk, off, none⟩) d.size cap, .int .u64 u] w fun e w' =>
      e = .returned (.tuple #[]) ∧ ∃ (n v' : Nat) (dk : Array UInt8), w' = (putRow (fun (b : UInt8) => Value.int .u8 (b.toNat : Int)) w blk off dk).drewN n ∧ FmtInv d.size u 0 v' dk := Any.internal_strconv_formatBase10 Tryz.lays285 blk off cap u d w hH hu hu64 hsz
def Tryz.laysM246_ren : Go.Shelf.Ren := ⟨fun | 246 => 92 | 283 => 117 | 284 => 118 | 285 => 119 | 286 => 120 | 129 => 110 | 317 => 143 | 318 => 144 | 319 => 145 | 320 => 146 | 337 => 155 | 338 => 156 | n => n, fun | 2 => 2 | 3 => 3 | 9 => 9 | 4 => 4 | 171 => 162 | 0 => 0 | 53 => 128 | 37 => 29 | 5 => 5 | 173 => 164 | 212 => 192 | 51 => 157 | 20 => 20 | 213 => 193 | 46 => 136 | 232 => 213 | 233 => 214 | n => n, fun | 17 => 2 | 18 => 4 | 19 => 5 | n => n⟩
theorem Tryz.laysM246 : Go.Proofs.LaysM.n246 Tryz.prog Tryz.laysM246_ren := {
  mixed := by kernel_rfl
  f129 := Tryz.func110.trans (congrArg some (by kernel_rfl))
  f246 := Tryz.func92.trans (congrArg some (by kernel_rfl))
  f283 := Tryz.func117.trans (congrArg some (by kernel_rfl))
  f284 := Tryz.func118.trans (congrArg some (by kernel_rfl))
  f285 := Tryz.func119.trans (congrArg some (by kernel_rfl))
  f286 := Tryz.func120.trans (congrArg some (by kernel_rfl))
  f317 := Tryz.func143.trans (congrArg some (by kernel_rfl))
  f318 := Tryz.func144.trans (congrArg some (by kernel_rfl))
  f319 := Tryz.func145.trans (congrArg some (by kernel_rfl))
  f320 := Tryz.func146.trans (congrArg some (by kernel_rfl))
  f337 := Tryz.func155.trans (congrArg some (by kernel_rfl))
  f338 := Tryz.func156.trans (congrArg some (by kernel_rfl))
  t0 := Tryz.underlying0
  a0 := Tryz.isAgg0
  z0 := Tryz.sizeOf0
  v0 := Tryz.zeroValue0
  t2 := Tryz.underlying2
  a2 := Tryz.isAgg2
  z2 := Tryz.sizeOf2
  v2 := Tryz.zeroValue2
  t3 := Tryz.underlying3
  a3 := Tryz.isAgg3
  z3 := Tryz.sizeOf3
  v3 := Tryz.zeroValue3
  t4 := Tryz.underlying4
  a4 := Tryz.isAgg4
  z4 := Tryz.sizeOf4
  v4 := Tryz.zeroValue4
  t5 := Tryz.underlying5
  a5 := Tryz.isAgg5
  z5 := Tryz.sizeOf5
  v5 := Tryz.zeroValue5
  t9 := Tryz.underlying9
  a9 := Tryz.isAgg9
  z9 := Tryz.sizeOf9
  v9 := Tryz.zeroValue9
  t20 := Tryz.underlying20
  a20 := Tryz.isAgg20
  z20 := Tryz.sizeOf20
  v20 := Tryz.zeroValue20
  t37 := Tryz.underlying29
  a37 := Tryz.isAgg29
  z37 := Tryz.sizeOf29
  v37 := Tryz.zeroValue29
  t46 := Tryz.underlying136
  a46 := Tryz.isAgg136
  z46 := Tryz.sizeOf136
  v46 := Tryz.zeroValue136
  t51 := Tryz.underlying157
  a51 := Tryz.isAgg157
  z51 := Tryz.sizeOf157
  v51 := Tryz.zeroValue157
  t53 := Tryz.underlying128
  a53 := Tryz.isAgg128
  z53 := Tryz.sizeOf128
  v53 := Tryz.zeroValue128
  t171 := Tryz.underlying162
  a171 := Tryz.isAgg162
  z171 := Tryz.sizeOf162
  v171 := Tryz.zeroValue162
  t173 := Tryz.underlying164
  a173 := Tryz.isAgg164
  z173 := Tryz.sizeOf164
  v173 := Tryz.zeroValue164
  t212 := Tryz.underlying192
  a212 := Tryz.isAgg192
  z212 := Tryz.sizeOf192
  v212 := Tryz.zeroValue192
  t213 := Tryz.underlying193
  a213 := Tryz.isAgg193
  z213 := Tryz.sizeOf193
  t232 := Tryz.underlying213
  a232 := Tryz.isAgg213
  z232 := Tryz.sizeOf213
  v232 := Tryz.zeroValue213
  t233 := Tryz.underlying214
  a233 := Tryz.isAgg214
  z233 := Tryz.sizeOf214
  v233 := Tryz.zeroValue214
  g17 := by kernel_rfl
  g18 := by kernel_rfl
  g19 := by kernel_rfl
  i0 := by kernel_rfl
  i2 := by kernel_rfl
  i3 := by kernel_rfl
  i4 := by kernel_rfl
  i5 := by kernel_rfl
  i9 := by kernel_rfl
  i20 := by kernel_rfl
  i37 := by kernel_rfl
  i46 := by kernel_rfl
  i51 := by kernel_rfl
  i53 := by kernel_rfl
  i171 := by kernel_rfl
  i173 := by kernel_rfl
  i212 := by kernel_rfl
  i232 := by kernel_rfl
  i233 := by kernel_rfl
  m17 := by kernel_rfl
  m18 := by kernel_rfl
  m19 := by kernel_rfl }
open Go.RowKit Go.Sort Go.Lib in
/-- internal/strconv.FormatInt: "FormatInt returns the string representation of i in the given base": AT BASE 10: i's decimal numeral, for every int64. The world behind the call: the world before it, new blocks behind the heap, draws. (LAID: no walk: one application.) -/
theorem Tryz.internal_strconv_FormatInt_10 (n : Int) (h0 : -9223372036854775808 ≤ n) (h1 : n ≤ 9223372036854775807) (w : World) (htab : Lib.TabIs Tryz.prog w "internal/strconv.uint64pow10" .u64 Lib.pow10Tab) :
    Calls Tryz.prog 92 #[.int .i64 n, .int .i64 10] w fun e w' => e = .returned (.string ⟨(Lib.itoa n).toArray⟩) ∧ ∃ k os, w' = grow (w.drewN k) os := Any.internal_strconv_FormatInt_10 Tryz.laysM246 n h0 h1 w htab
def Tryz.lays246_ren : Go.Shelf.Ren := ⟨fun | 246 => 92 | 283 => 117 | 284 => 118 | 285 => 119 | 286 => 120 | 129 => 110 | 317 => 143 | 318 => 144 | 319 => 145 | 320 => 146 | 337 => 155 | 338 => 156 | n => n, fun | 2 => 2 | 3 => 3 | 9 => 9 | 4 => 4 | 171 => 162 | 0 => 0 | 53 => 128 | 37 => 29 | 5 => 5 | 173 => 164 | 212 => 192 | 51 => 157 | 20 => 20 | 213 => 193 | 46 => 136 | 232 => 213 | 233 => 214 | n => n, fun | 17 => 2 | 18 => 4 | 19 => 5 | n => n⟩
theorem Tryz.lays246 : Go.Proofs.Lays.n246 Tryz.prog Tryz.lays246_ren := {
  mixed := by kernel_rfl
  f129 := Tryz.func110.trans (congrArg some (by kernel_rfl))
  f246 := Tryz.func92.trans (congrArg some (by kernel_rfl))
  f283 := Tryz.func117.trans (congrArg some (by kernel_rfl))
  f284 := Tryz.func118.trans (congrArg some (by kernel_rfl))
  f285 := Tryz.func119.trans (congrArg some (by kernel_rfl))
  f286 := Tryz.func120.trans (congrArg some (by kernel_rfl))
  f317 := Tryz.func143.trans (congrArg some (by kernel_rfl))
  f318 := Tryz.func144.trans (congrArg some (by kernel_rfl))
  f319 := Tryz.func145.trans (congrArg some (by kernel_rfl))
  f320 := Tryz.func146.trans (congrArg some (by kernel_rfl))
  f337 := Tryz.func155.trans (congrArg some (by kernel_rfl))
  f338 := Tryz.func156.trans (congrArg some (by kernel_rfl))
  t0 := Tryz.underlying0
  a0 := Tryz.isAgg0
  z0 := Tryz.sizeOf0
  v0 := Tryz.zeroValue0
  t2 := Tryz.underlying2
  a2 := Tryz.isAgg2
  z2 := Tryz.sizeOf2
  v2 := Tryz.zeroValue2
  t3 := Tryz.underlying3
  a3 := Tryz.isAgg3
  z3 := Tryz.sizeOf3
  v3 := Tryz.zeroValue3
  t4 := Tryz.underlying4
  a4 := Tryz.isAgg4
  z4 := Tryz.sizeOf4
  v4 := Tryz.zeroValue4
  t5 := Tryz.underlying5
  a5 := Tryz.isAgg5
  z5 := Tryz.sizeOf5
  v5 := Tryz.zeroValue5
  t9 := Tryz.underlying9
  a9 := Tryz.isAgg9
  z9 := Tryz.sizeOf9
  v9 := Tryz.zeroValue9
  t20 := Tryz.underlying20
  a20 := Tryz.isAgg20
  z20 := Tryz.sizeOf20
  v20 := Tryz.zeroValue20
  t37 := Tryz.underlying29
  a37 := Tryz.isAgg29
  z37 := Tryz.sizeOf29
  v37 := Tryz.zeroValue29
  t46 := Tryz.underlying136
  a46 := Tryz.isAgg136
  z46 := Tryz.sizeOf136
  v46 := Tryz.zeroValue136
  t51 := Tryz.underlying157
  a51 := Tryz.isAgg157
  z51 := Tryz.sizeOf157
  v51 := Tryz.zeroValue157
  t53 := Tryz.underlying128
  a53 := Tryz.isAgg128
  z53 := Tryz.sizeOf128
  v53 := Tryz.zeroValue128
  t171 := Tryz.underlying162
  a171 := Tryz.isAgg162
  z171 := Tryz.sizeOf162
  v171 := Tryz.zeroValue162
  t173 := Tryz.underlying164
  a173 := Tryz.isAgg164
  z173 := Tryz.sizeOf164
  v173 := Tryz.zeroValue164
  t212 := Tryz.underlying192
  a212 := Tryz.isAgg192
  z212 := Tryz.sizeOf192
  v212 := Tryz.zeroValue192
  t213 := Tryz.underlying193
  a213 := Tryz.isAgg193
  z213 := Tryz.sizeOf193
  t232 := Tryz.underlying213
  a232 := Tryz.isAgg213
  z232 := Tryz.sizeOf213
  v232 := Tryz.zeroValue213
  t233 := Tryz.underlying214
  a233 := Tryz.isAgg214
  z233 := Tryz.sizeOf214
  v233 := Tryz.zeroValue214
  g17 := by kernel_rfl
  g18 := by kernel_rfl
  g19 := by kernel_rfl }
open Go.RowKit Go.Sort Go.Lib in
/-- THE ROAD WITHOUT THE TABLE: 0 <= i < 100: two constants are read, nothing is laid: no premise on the world, and the world is as it was. (LAID: no walk: one application.) -/
theorem Tryz.internal_strconv_FormatInt_10_small (i : Nat) (hi : i < 100) (w : World) :
    Calls Tryz.prog 92 #[.int .i64 i, .int .i64 10] w fun e w' => e = .returned (.string ⟨(Lib.decDigits i).toArray⟩) ∧ w' = w := Any.internal_strconv_FormatInt_10_small Tryz.lays246 i hi w
def Tryz.laysM243_ren : Go.Shelf.Ren := ⟨fun | 243 => 76 | 246 => 92 | 283 => 117 | 284 => 118 | 285 => 119 | 286 => 120 | 129 => 110 | 317 => 143 | 318 => 144 | 319 => 145 | 320 => 146 | 337 => 155 | 338 => 156 | n => n, fun | 3 => 3 | 9 => 9 | 2 => 2 | 4 => 4 | 171 => 162 | 0 => 0 | 53 => 128 | 37 => 29 | 5 => 5 | 173 => 164 | 212 => 192 | 51 => 157 | 20 => 20 | 213 => 193 | 46 => 136 | 232 => 213 | 233 => 214 | n => n, fun | 17 => 2 | 18 => 4 | 19 => 5 | n => n⟩
theorem Tryz.laysM243 : Go.Proofs.LaysM.n243 Tryz.prog Tryz.laysM243_ren := {
  mixed := by kernel_rfl
  f129 := Tryz.func110.trans (congrArg some (by kernel_rfl))
  f243 := Tryz.func76.trans (congrArg some (by kernel_rfl))
  f246 := Tryz.func92.trans (congrArg some (by kernel_rfl))
  f283 := Tryz.func117.trans (congrArg some (by kernel_rfl))
  f284 := Tryz.func118.trans (congrArg some (by kernel_rfl))
  f285 := Tryz.func119.trans (congrArg some (by kernel_rfl))
  f286 := Tryz.func120.trans (congrArg some (by kernel_rfl))
  f317 := Tryz.func143.trans (congrArg some (by kernel_rfl))
  f318 := Tryz.func144.trans (congrArg some (by kernel_rfl))
  f319 := Tryz.func145.trans (congrArg some (by kernel_rfl))
  f320 := Tryz.func146.trans (congrArg some (by kernel_rfl))
  f337 := Tryz.func155.trans (congrArg some (by kernel_rfl))
  f338 := Tryz.func156.trans (congrArg some (by kernel_rfl))
  t0 := Tryz.underlying0
  a0 := Tryz.isAgg0
  z0 := Tryz.sizeOf0
  v0 := Tryz.zeroValue0
  t2 := Tryz.underlying2
  a2 := Tryz.isAgg2
  z2 := Tryz.sizeOf2
  v2 := Tryz.zeroValue2
  t3 := Tryz.underlying3
  a3 := Tryz.isAgg3
  z3 := Tryz.sizeOf3
  v3 := Tryz.zeroValue3
  t4 := Tryz.underlying4
  a4 := Tryz.isAgg4
  z4 := Tryz.sizeOf4
  v4 := Tryz.zeroValue4
  t5 := Tryz.underlying5
  a5 := Tryz.isAgg5
  z5 := Tryz.sizeOf5
  v5 := Tryz.zeroValue5
  t9 := Tryz.underlying9
  a9 := Tryz.isAgg9
  z9 := Tryz.sizeOf9
  v9 := Tryz.zeroValue9
  t20 := Tryz.underlying20
  a20 := Tryz.isAgg20
  z20 := Tryz.sizeOf20
  v20 := Tryz.zeroValue20
  t37 := Tryz.underlying29
  a37 := Tryz.isAgg29
  z37 := Tryz.sizeOf29
  v37 := Tryz.zeroValue29
  t46 := Tryz.underlying136
  a46 := Tryz.isAgg136
  z46 := Tryz.sizeOf136
  v46 := Tryz.zeroValue136
  t51 := Tryz.underlying157
  a51 := Tryz.isAgg157
  z51 := Tryz.sizeOf157
  v51 := Tryz.zeroValue157
  t53 := Tryz.underlying128
  a53 := Tryz.isAgg128
  z53 := Tryz.sizeOf128
  v53 := Tryz.zeroValue128
  t171 := Tryz.underlying162
  a171 := Tryz.isAgg162
  z171 := Tryz.sizeOf162
  v171 := Tryz.zeroValue162
  t173 := Tryz.underlying164
  a173 := Tryz.isAgg164
  z173 := Tryz.sizeOf164
  v173 := Tryz.zeroValue164
  t212 := Tryz.underlying192
  a212 := Tryz.isAgg192
  z212 := Tryz.sizeOf192
  v212 := Tryz.zeroValue192
  t213 := Tryz.underlying193
  a213 := Tryz.isAgg193
  z213 := Tryz.sizeOf193
  t232 := Tryz.underlying213
  a232 := Tryz.isAgg213
  z232 := Tryz.sizeOf213
  v232 := Tryz.zeroValue213
  t233 := Tryz.underlying214
  a233 := Tryz.isAgg214
  z233 := Tryz.sizeOf214
  v233 := Tryz.zeroValue214
  g17 := by kernel_rfl
  g18 := by kernel_rfl
  g19 := by kernel_rfl
  i0 := by kernel_rfl
  i2 := by kernel_rfl
  i3 := by kernel_rfl
  i4 := by kernel_rfl
  i5 := by kernel_rfl
  i9 := by kernel_rfl
  i20 := by kernel_rfl
  i37 := by kernel_rfl
  i46 := by kernel_rfl
  i51 := by kernel_rfl
  i53 := by kernel_rfl
  i171 := by kernel_rfl
  i173 := by kernel_rfl
  i212 := by kernel_rfl
  i232 := by kernel_rfl
  i233 := by kernel_rfl
  m17 := by kernel_rfl
  m18 := by kernel_rfl
  m19 := by kernel_rfl }
open Go.RowKit Go.Sort Go.Lib in
/-- internal/strconv.Itoa: "Itoa is equivalent to FormatInt(int64(i), 10).": i's decimal numeral, for every int. (LAID: no walk: one application.) -/
theorem Tryz.internal_strconv_Itoa (n : Int) (h0 : -9223372036854775808 ≤ n) (h1 : n ≤ 9223372036854775807) (w : World) (htab : Lib.TabIs Tryz.prog w "internal/strconv.uint64pow10" .u64 Lib.pow10Tab) :
    Calls Tryz.prog 76 #[.int .i64 n] w fun e w' => e = .returned (.string ⟨(Lib.itoa n).toArray⟩) ∧ ∃ k os, w' = grow (w.drewN k) os := Any.internal_strconv_Itoa Tryz.laysM243 n h0 h1 w htab
def Tryz.lays243_ren : Go.Shelf.Ren := ⟨fun | 243 => 76 | 246 => 92 | 283 => 117 | 284 => 118 | 285 => 119 | 286 => 120 | 129 => 110 | 317 => 143 | 318 => 144 | 319 => 145 | 320 => 146 | 337 => 155 | 338 => 156 | n => n, fun | 3 => 3 | 9 => 9 | 2 => 2 | 4 => 4 | 171 => 162 | 0 => 0 | 53 => 128 | 37 => 29 | 5 => 5 | 173 => 164 | 212 => 192 | 51 => 157 | 20 => 20 | 213 => 193 | 46 => 136 | 232 => 213 | 233 => 214 | n => n, fun | 17 => 2 | 18 => 4 | 19 => 5 | n => n⟩
theorem Tryz.lays243 : Go.Proofs.Lays.n243 Tryz.prog Tryz.lays243_ren := {
  mixed := by kernel_rfl
  f129 := Tryz.func110.trans (congrArg some (by kernel_rfl))
  f243 := Tryz.func76.trans (congrArg some (by kernel_rfl))
  f246 := Tryz.func92.trans (congrArg some (by kernel_rfl))
  f283 := Tryz.func117.trans (congrArg some (by kernel_rfl))
  f284 := Tryz.func118.trans (congrArg some (by kernel_rfl))
  f285 := Tryz.func119.trans (congrArg some (by kernel_rfl))
  f286 := Tryz.func120.trans (congrArg some (by kernel_rfl))
  f317 := Tryz.func143.trans (congrArg some (by kernel_rfl))
  f318 := Tryz.func144.trans (congrArg some (by kernel_rfl))
  f319 := Tryz.func145.trans (congrArg some (by kernel_rfl))
  f320 := Tryz.func146.trans (congrArg some (by kernel_rfl))
  f337 := Tryz.func155.trans (congrArg some (by kernel_rfl))
  f338 := Tryz.func156.trans (congrArg some (by kernel_rfl))
  t0 := Tryz.underlying0
  a0 := Tryz.isAgg0
  z0 := Tryz.sizeOf0
  v0 := Tryz.zeroValue0
  t2 := Tryz.underlying2
  a2 := Tryz.isAgg2
  z2 := Tryz.sizeOf2
  v2 := Tryz.zeroValue2
  t3 := Tryz.underlying3
  a3 := Tryz.isAgg3
  z3 := Tryz.sizeOf3
  v3 := Tryz.zeroValue3
  t4 := Tryz.underlying4
  a4 := Tryz.isAgg4
  z4 := Tryz.sizeOf4
  v4 := Tryz.zeroValue4
  t5 := Tryz.underlying5
  a5 := Tryz.isAgg5
  z5 := Tryz.sizeOf5
  v5 := Tryz.zeroValue5
  t9 := Tryz.underlying9
  a9 := Tryz.isAgg9
  z9 := Tryz.sizeOf9
  v9 := Tryz.zeroValue9
  t20 := Tryz.underlying20
  a20 := Tryz.isAgg20
  z20 := Tryz.sizeOf20
  v20 := Tryz.zeroValue20
  t37 := Tryz.underlying29
  a37 := Tryz.isAgg29
  z37 := Tryz.sizeOf29
  v37 := Tryz.zeroValue29
  t46 := Tryz.underlying136
  a46 := Tryz.isAgg136
  z46 := Tryz.sizeOf136
  v46 := Tryz.zeroValue136
  t51 := Tryz.underlying157
  a51 := Tryz.isAgg157
  z51 := Tryz.sizeOf157
  v51 := Tryz.zeroValue157
  t53 := Tryz.underlying128
  a53 := Tryz.isAgg128
  z53 := Tryz.sizeOf128
  v53 := Tryz.zeroValue128
  t171 := Tryz.underlying162
  a171 := Tryz.isAgg162
  z171 := Tryz.sizeOf162
  v171 := Tryz.zeroValue162
  t173 := Tryz.underlying164
  a173 := Tryz.isAgg164
  z173 := Tryz.sizeOf164
  v173 := Tryz.zeroValue164
  t212 := Tryz.underlying192
  a212 := Tryz.isAgg192
  z212 := Tryz.sizeOf192
  v212 := Tryz.zeroValue192
  t213 := Tryz.underlying193
  a213 := Tryz.isAgg193
  z213 := Tryz.sizeOf193
  t232 := Tryz.underlying213
  a232 := Tryz.isAgg213
  z232 := Tryz.sizeOf213
  v232 := Tryz.zeroValue213
  t233 := Tryz.underlying214
  a233 := Tryz.isAgg214
  z233 := Tryz.sizeOf214
  v233 := Tryz.zeroValue214
  g17 := by kernel_rfl
  g18 := by kernel_rfl
  g19 := by kernel_rfl }
open Go.RowKit Go.Sort Go.Lib in
/-- THE ROAD WITHOUT THE TABLE: 0 <= i < 100. (LAID: no walk: one application.) -/
theorem Tryz.internal_strconv_Itoa_small (i : Nat) (hi : i < 100) (w : World) :
    Calls Tryz.prog 76 #[.int .i64 i] w fun e w' => e = .returned (.string ⟨(Lib.decDigits i).toArray⟩) ∧ w' = w := Any.internal_strconv_Itoa_small Tryz.lays243 i hi w
def Tryz.laysM171_ren : Go.Shelf.Ren := ⟨fun | 171 => 61 | 243 => 76 | 246 => 92 | 283 => 117 | 284 => 118 | 285 => 119 | 286 => 120 | 129 => 110 | 317 => 143 | 318 => 144 | 319 => 145 | 320 => 146 | 337 => 155 | 338 => 156 | n => n, fun | 3 => 3 | 9 => 9 | 2 => 2 | 4 => 4 | 171 => 162 | 0 => 0 | 53 => 128 | 37 => 29 | 5 => 5 | 173 => 164 | 212 => 192 | 51 => 157 | 20 => 20 | 213 => 193 | 46 => 136 | 232 => 213 | 233 => 214 | n => n, fun | 17 => 2 | 18 => 4 | 19 => 5 | n => n⟩
theorem Tryz.laysM171 : Go.Proofs.LaysM.n171 Tryz.prog Tryz.laysM171_ren := {
  mixed := by kernel_rfl
  f129 := Tryz.func110.trans (congrArg some (by kernel_rfl))
  f171 := Tryz.func61.trans (congrArg some (by kernel_rfl))
  f243 := Tryz.func76.trans (congrArg some (by kernel_rfl))
  f246 := Tryz.func92.trans (congrArg some (by kernel_rfl))
  f283 := Tryz.func117.trans (congrArg some (by kernel_rfl))
  f284 := Tryz.func118.trans (congrArg some (by kernel_rfl))
  f285 := Tryz.func119.trans (congrArg some (by kernel_rfl))
  f286 := Tryz.func120.trans (congrArg some (by kernel_rfl))
  f317 := Tryz.func143.trans (congrArg some (by kernel_rfl))
  f318 := Tryz.func144.trans (congrArg some (by kernel_rfl))
  f319 := Tryz.func145.trans (congrArg some (by kernel_rfl))
  f320 := Tryz.func146.trans (congrArg some (by kernel_rfl))
  f337 := Tryz.func155.trans (congrArg some (by kernel_rfl))
  f338 := Tryz.func156.trans (congrArg some (by kernel_rfl))
  t0 := Tryz.underlying0
  a0 := Tryz.isAgg0
  z0 := Tryz.sizeOf0
  v0 := Tryz.zeroValue0
  t2 := Tryz.underlying2
  a2 := Tryz.isAgg2
  z2 := Tryz.sizeOf2
  v2 := Tryz.zeroValue2
  t3 := Tryz.underlying3
  a3 := Tryz.isAgg3
  z3 := Tryz.sizeOf3
  v3 := Tryz.zeroValue3
  t4 := Tryz.underlying4
  a4 := Tryz.isAgg4
  z4 := Tryz.sizeOf4
  v4 := Tryz.zeroValue4
  t5 := Tryz.underlying5
  a5 := Tryz.isAgg5
  z5 := Tryz.sizeOf5
  v5 := Tryz.zeroValue5
  t9 := Tryz.underlying9
  a9 := Tryz.isAgg9
  z9 := Tryz.sizeOf9
  v9 := Tryz.zeroValue9
  t20 := Tryz.underlying20
  a20 := Tryz.isAgg20
  z20 := Tryz.sizeOf20
  v20 := Tryz.zeroValue20
  t37 := Tryz.underlying29
  a37 := Tryz.isAgg29
  z37 := Tryz.sizeOf29
  v37 := Tryz.zeroValue29
  t46 := Tryz.underlying136
  a46 := Tryz.isAgg136
  z46 := Tryz.sizeOf136
  v46 := Tryz.zeroValue136
  t51 := Tryz.underlying157
  a51 := Tryz.isAgg157
  z51 := Tryz.sizeOf157
  v51 := Tryz.zeroValue157
  t53 := Tryz.underlying128
  a53 := Tryz.isAgg128
  z53 := Tryz.sizeOf128
  v53 := Tryz.zeroValue128
  t171 := Tryz.underlying162
  a171 := Tryz.isAgg162
  z171 := Tryz.sizeOf162
  v171 := Tryz.zeroValue162
  t173 := Tryz.underlying164
  a173 := Tryz.isAgg164
  z173 := Tryz.sizeOf164
  v173 := Tryz.zeroValue164
  t212 := Tryz.underlying192
  a212 := Tryz.isAgg192
  z212 := Tryz.sizeOf192
  v212 := Tryz.zeroValue192
  t213 := Tryz.underlying193
  a213 := Tryz.isAgg193
  z213 := Tryz.sizeOf193
  t232 := Tryz.underlying213
  a232 := Tryz.isAgg213
  z232 := Tryz.sizeOf213
  v232 := Tryz.zeroValue213
  t233 := Tryz.underlying214
  a233 := Tryz.isAgg214
  z233 := Tryz.sizeOf214
  v233 := Tryz.zeroValue214
  g17 := by kernel_rfl
  g18 := by kernel_rfl
  g19 := by kernel_rfl
  i0 := by kernel_rfl
  i2 := by kernel_rfl
  i3 := by kernel_rfl
  i4 := by kernel_rfl
  i5 := by kernel_rfl
  i9 := by kernel_rfl
  i20 := by kernel_rfl
  i37 := by kernel_rfl
  i46 := by kernel_rfl
  i51 := by kernel_rfl
  i53 := by kernel_rfl
  i171 := by kernel_rfl
  i173 := by kernel_rfl
  i212 := by kernel_rfl
  i232 := by kernel_rfl
  i233 := by kernel_rfl
  m17 := by kernel_rfl
  m18 := by kernel_rfl
  m19 := by kernel_rfl }
open Go.RowKit Go.Sort Go.Lib in
/-- strconv.Itoa: "Itoa is equivalent to FormatInt(int64(i), 10).": i's DECIMAL NUMERAL ('Lib.itoa': a '-' where i is negative, then the digits), FOR EVERY int. The world behind the call: the world before it, new blocks behind the heap (the library's 'var a [24]byte'), draws. (LAID: no walk: one application.) -/
theorem Tryz.strconv_Itoa (n : Int) (h0 : -9223372036854775808 ≤ n) (h1 : n ≤ 9223372036854775807) (w : World) (htab : Lib.TabIs Tryz.prog w "internal/strconv.uint64pow10" .u64 Lib.pow10Tab) :
    Calls Tryz.prog 61 #[.int .i64 n] w fun e w' => e = .returned (.string ⟨(Lib.itoa n).toArray⟩) ∧ ∃ k os, w' = grow (w.drewN k) os := Any.strconv_Itoa Tryz.laysM171 n h0 h1 w htab
def Tryz.lays171_ren : Go.Shelf.Ren := ⟨fun | 171 => 61 | 243 => 76 | 246 => 92 | 283 => 117 | 284 => 118 | 285 => 119 | 286 => 120 | 129 => 110 | 317 => 143 | 318 => 144 | 319 => 145 | 320 => 146 | 337 => 155 | 338 => 156 | n => n, fun | 3 => 3 | 9 => 9 | 2 => 2 | 4 => 4 | 171 => 162 | 0 => 0 | 53 => 128 | 37 => 29 | 5 => 5 | 173 => 164 | 212 => 192 | 51 => 157 | 20 => 20 | 213 => 193 | 46 => 136 | 232 => 213 | 233 => 214 | n => n, fun | 17 => 2 | 18 => 4 | 19 => 5 | n => n⟩
theorem Tryz.lays171 : Go.Proofs.Lays.n171 Tryz.prog Tryz.lays171_ren := {
  mixed := by kernel_rfl
  f129 := Tryz.func110.trans (congrArg some (by kernel_rfl))
  f171 := Tryz.func61.trans (congrArg some (by kernel_rfl))
  f243 := Tryz.func76.trans (congrArg some (by kernel_rfl))
  f246 := Tryz.func92.trans (congrArg some (by kernel_rfl))
  f283 := Tryz.func117.trans (congrArg some (by kernel_rfl))
  f284 := Tryz.func118.trans (congrArg some (by kernel_rfl))
  f285 := Tryz.func119.trans (congrArg some (by kernel_rfl))
  f286 := Tryz.func120.trans (congrArg some (by kernel_rfl))
  f317 := Tryz.func143.trans (congrArg some (by kernel_rfl))
  f318 := Tryz.func144.trans (congrArg some (by kernel_rfl))
  f319 := Tryz.func145.trans (congrArg some (by kernel_rfl))
  f320 := Tryz.func146.trans (congrArg some (by kernel_rfl))
  f337 := Tryz.func155.trans (congrArg some (by kernel_rfl))
  f338 := Tryz.func156.trans (congrArg some (by kernel_rfl))
  t0 := Tryz.underlying0
  a0 := Tryz.isAgg0
  z0 := Tryz.sizeOf0
  v0 := Tryz.zeroValue0
  t2 := Tryz.underlying2
  a2 := Tryz.isAgg2
  z2 := Tryz.sizeOf2
  v2 := Tryz.zeroValue2
  t3 := Tryz.underlying3
  a3 := Tryz.isAgg3
  z3 := Tryz.sizeOf3
  v3 := Tryz.zeroValue3
  t4 := Tryz.underlying4
  a4 := Tryz.isAgg4
  z4 := Tryz.sizeOf4
  v4 := Tryz.zeroValue4
  t5 := Tryz.underlying5
  a5 := Tryz.isAgg5
  z5 := Tryz.sizeOf5
  v5 := Tryz.zeroValue5
  t9 := Tryz.underlying9
  a9 := Tryz.isAgg9
  z9 := Tryz.sizeOf9
  v9 := Tryz.zeroValue9
  t20 := Tryz.underlying20
  a20 := Tryz.isAgg20
  z20 := Tryz.sizeOf20
  v20 := Tryz.zeroValue20
  t37 := Tryz.underlying29
  a37 := Tryz.isAgg29
  z37 := Tryz.sizeOf29
  v37 := Tryz.zeroValue29
  t46 := Tryz.underlying136
  a46 := Tryz.isAgg136
  z46 := Tryz.sizeOf136
  v46 := Tryz.zeroValue136
  t51 := Tryz.underlying157
  a51 := Tryz.isAgg157
  z51 := Tryz.sizeOf157
  v51 := Tryz.zeroValue157
  t53 := Tryz.underlying128
  a53 := Tryz.isAgg128
  z53 := Tryz.sizeOf128
  v53 := Tryz.zeroValue128
  t171 := Tryz.underlying162
  a171 := Tryz.isAgg162
  z171 := Tryz.sizeOf162
  v171 := Tryz.zeroValue162
  t173 := Tryz.underlying164
  a173 := Tryz.isAgg164
  z173 := Tryz.sizeOf164
  v173 := Tryz.zeroValue164
  t212 := Tryz.underlying192
  a212 := Tryz.isAgg192
  z212 := Tryz.sizeOf192
  v212 := Tryz.zeroValue192
  t213 := Tryz.underlying193
  a213 := Tryz.isAgg193
  z213 := Tryz.sizeOf193
  t232 := Tryz.underlying213
  a232 := Tryz.isAgg213
  z232 := Tryz.sizeOf213
  v232 := Tryz.zeroValue213
  t233 := Tryz.underlying214
  a233 := Tryz.isAgg214
  z233 := Tryz.sizeOf214
  v233 := Tryz.zeroValue214
  g17 := by kernel_rfl
  g18 := by kernel_rfl
  g19 := by kernel_rfl }
open Go.RowKit Go.Sort Go.Lib in
/-- THE ROAD WITHOUT THE TABLE: 0 <= i < 100: NO PREMISE ON THE WORLD, AND THE WORLD IS AS IT WAS: a row that keeps its argument in that range need list no table ('laid = []'). (LAID: no walk: one application.) -/
theorem Tryz.strconv_Itoa_small (i : Nat) (hi : i < 100) (w : World) :
    Calls Tryz.prog 61 #[.int .i64 i] w fun e w' => e = .returned (.string ⟨(Lib.decDigits i).toArray⟩) ∧ w' = w := Any.strconv_Itoa_small Tryz.lays171 i hi w
def Tryz.laysM173_ren : Go.Shelf.Ren := ⟨fun | 173 => 74 | 246 => 92 | 283 => 117 | 284 => 118 | 285 => 119 | 286 => 120 | 129 => 110 | 317 => 143 | 318 => 144 | 319 => 145 | 320 => 146 | 337 => 155 | 338 => 156 | n => n, fun | 2 => 2 | 3 => 3 | 9 => 9 | 4 => 4 | 171 => 162 | 0 => 0 | 53 => 128 | 37 => 29 | 5 => 5 | 173 => 164 | 212 => 192 | 51 => 157 | 20 => 20 | 213 => 193 | 46 => 136 | 232 => 213 | 233 => 214 | n => n, fun | 17 => 2 | 18 => 4 | 19 => 5 | n => n⟩
theorem Tryz.laysM173 : Go.Proofs.LaysM.n173 Tryz.prog Tryz.laysM173_ren := {
  mixed := by kernel_rfl
  f129 := Tryz.func110.trans (congrArg some (by kernel_rfl))
  f173 := Tryz.func74.trans (congrArg some (by kernel_rfl))
  f246 := Tryz.func92.trans (congrArg some (by kernel_rfl))
  f283 := Tryz.func117.trans (congrArg some (by kernel_rfl))
  f284 := Tryz.func118.trans (congrArg some (by kernel_rfl))
  f285 := Tryz.func119.trans (congrArg some (by kernel_rfl))
  f286 := Tryz.func120.trans (congrArg some (by kernel_rfl))
  f317 := Tryz.func143.trans (congrArg some (by kernel_rfl))
  f318 := Tryz.func144.trans (congrArg some (by kernel_rfl))
  f319 := Tryz.func145.trans (congrArg some (by kernel_rfl))
  f320 := Tryz.func146.trans (congrArg some (by kernel_rfl))
  f337 := Tryz.func155.trans (congrArg some (by kernel_rfl))
  f338 := Tryz.func156.trans (congrArg some (by kernel_rfl))
  t0 := Tryz.underlying0
  a0 := Tryz.isAgg0
  z0 := Tryz.sizeOf0
  v0 := Tryz.zeroValue0
  t2 := Tryz.underlying2
  a2 := Tryz.isAgg2
  z2 := Tryz.sizeOf2
  v2 := Tryz.zeroValue2
  t3 := Tryz.underlying3
  a3 := Tryz.isAgg3
  z3 := Tryz.sizeOf3
  v3 := Tryz.zeroValue3
  t4 := Tryz.underlying4
  a4 := Tryz.isAgg4
  z4 := Tryz.sizeOf4
  v4 := Tryz.zeroValue4
  t5 := Tryz.underlying5
  a5 := Tryz.isAgg5
  z5 := Tryz.sizeOf5
  v5 := Tryz.zeroValue5
  t9 := Tryz.underlying9
  a9 := Tryz.isAgg9
  z9 := Tryz.sizeOf9
  v9 := Tryz.zeroValue9
  t20 := Tryz.underlying20
  a20 := Tryz.isAgg20
  z20 := Tryz.sizeOf20
  v20 := Tryz.zeroValue20
  t37 := Tryz.underlying29
  a37 := Tryz.isAgg29
  z37 := Tryz.sizeOf29
  v37 := Tryz.zeroValue29
  t46 := Tryz.underlying136
  a46 := Tryz.isAgg136
  z46 := Tryz.sizeOf136
  v46 := Tryz.zeroValue136
  t51 := Tryz.underlying157
  a51 := Tryz.isAgg157
  z51 := Tryz.sizeOf157
  v51 := Tryz.zeroValue157
  t53 := Tryz.underlying128
  a53 := Tryz.isAgg128
  z53 := Tryz.sizeOf128
  v53 := Tryz.zeroValue128
  t171 := Tryz.underlying162
  a171 := Tryz.isAgg162
  z171 := Tryz.sizeOf162
  v171 := Tryz.zeroValue162
  t173 := Tryz.underlying164
  a173 := Tryz.isAgg164
  z173 := Tryz.sizeOf164
  v173 := Tryz.zeroValue164
  t212 := Tryz.underlying192
  a212 := Tryz.isAgg192
  z212 := Tryz.sizeOf192
  v212 := Tryz.zeroValue192
  t213 := Tryz.underlying193
  a213 := Tryz.isAgg193
  z213 := Tryz.sizeOf193
  t232 := Tryz.underlying213
  a232 := Tryz.isAgg213
  z232 := Tryz.sizeOf213
  v232 := Tryz.zeroValue213
  t233 := Tryz.underlying214
  a233 := Tryz.isAgg214
  z233 := Tryz.sizeOf214
  v233 := Tryz.zeroValue214
  g17 := by kernel_rfl
  g18 := by kernel_rfl
  g19 := by kernel_rfl
  i0 := by kernel_rfl
  i2 := by kernel_rfl
  i3 := by kernel_rfl
  i4 := by kernel_rfl
  i5 := by kernel_rfl
  i9 := by kernel_rfl
  i20 := by kernel_rfl
  i37 := by kernel_rfl
  i46 := by kernel_rfl
  i51 := by kernel_rfl
  i53 := by kernel_rfl
  i171 := by kernel_rfl
  i173 := by kernel_rfl
  i212 := by kernel_rfl
  i232 := by kernel_rfl
  i233 := by kernel_rfl
  m17 := by kernel_rfl
  m18 := by kernel_rfl
  m19 := by kernel_rfl }
open Go.RowKit Go.Sort Go.Lib in
/-- strconv.FormatInt: "FormatInt returns the string representation of i in the given base": AT BASE 10: i's decimal numeral, for every int64. (LAID: no walk: one application.) -/
theorem Tryz.strconv_FormatInt_10 (n : Int) (h0 : -9223372036854775808 ≤ n) (h1 : n ≤ 9223372036854775807) (w : World) (htab : Lib.TabIs Tryz.prog w "internal/strconv.uint64pow10" .u64 Lib.pow10Tab) :
    Calls Tryz.prog 74 #[.int .i64 n, .int .i64 10] w fun e w' => e = .returned (.string ⟨(Lib.itoa n).toArray⟩) ∧ ∃ k os, w' = grow (w.drewN k) os := Any.strconv_FormatInt_10 Tryz.laysM173 n h0 h1 w htab
def Tryz.lays173_ren : Go.Shelf.Ren := ⟨fun | 173 => 74 | 246 => 92 | 283 => 117 | 284 => 118 | 285 => 119 | 286 => 120 | 129 => 110 | 317 => 143 | 318 => 144 | 319 => 145 | 320 => 146 | 337 => 155 | 338 => 156 | n => n, fun | 2 => 2 | 3 => 3 | 9 => 9 | 4 => 4 | 171 => 162 | 0 => 0 | 53 => 128 | 37 => 29 | 5 => 5 | 173 => 164 | 212 => 192 | 51 => 157 | 20 => 20 | 213 => 193 | 46 => 136 | 232 => 213 | 233 => 214 | n => n, fun | 17 => 2 | 18 => 4 | 19 => 5 | n => n⟩
theorem Tryz.lays173 : Go.Proofs.Lays.n173 Tryz.prog Tryz.lays173_ren := {
  mixed := by kernel_rfl
  f129 := Tryz.func110.trans (congrArg some (by kernel_rfl))
  f173 := Tryz.func74.trans (congrArg some (by kernel_rfl))
  f246 := Tryz.func92.trans (congrArg some (by kernel_rfl))
  f283 := Tryz.func117.trans (congrArg some (by kernel_rfl))
  f284 := Tryz.func118.trans (congrArg some (by kernel_rfl))
  f285 := Tryz.func119.trans (congrArg some (by kernel_rfl))
  f286 := Tryz.func120.trans (congrArg some (by kernel_rfl))
  f317 := Tryz.func143.trans (congrArg some (by kernel_rfl))
  f318 := Tryz.func144.trans (congrArg some (by kernel_rfl))
  f319 := Tryz.func145.trans (congrArg some (by kernel_rfl))
  f320 := Tryz.func146.trans (congrArg some (by kernel_rfl))
  f337 := Tryz.func155.trans (congrArg some (by kernel_rfl))
  f338 := Tryz.func156.trans (congrArg some (by kernel_rfl))
  t0 := Tryz.underlying0
  a0 := Tryz.isAgg0
  z0 := Tryz.sizeOf0
  v0 := Tryz.zeroValue0
  t2 := Tryz.underlying2
  a2 := Tryz.isAgg2
  z2 := Tryz.sizeOf2
  v2 := Tryz.zeroValue2
  t3 := Tryz.underlying3
  a3 := Tryz.isAgg3
  z3 := Tryz.sizeOf3
  v3 := Tryz.zeroValue3
  t4 := Tryz.underlying4
  a4 := Tryz.isAgg4
  z4 := Tryz.sizeOf4
  v4 := Tryz.zeroValue4
  t5 := Tryz.underlying5
  a5 := Tryz.isAgg5
  z5 := Tryz.sizeOf5
  v5 := Tryz.zeroValue5
  t9 := Tryz.underlying9
  a9 := Tryz.isAgg9
  z9 := Tryz.sizeOf9
  v9 := Tryz.zeroValue9
  t20 := Tryz.underlying20
  a20 := Tryz.isAgg20
  z20 := Tryz.sizeOf20
  v20 := Tryz.zeroValue20
  t37 := Tryz.underlying29
  a37 := Tryz.isAgg29
  z37 := Tryz.sizeOf29
  v37 := Tryz.zeroValue29
  t46 := Tryz.underlying136
  a46 := Tryz.isAgg136
  z46 := Tryz.sizeOf136
  v46 := Tryz.zeroValue136
  t51 := Tryz.underlying157
  a51 := Tryz.isAgg157
  z51 := Tryz.sizeOf157
  v51 := Tryz.zeroValue157
  t53 := Tryz.underlying128
  a53 := Tryz.isAgg128
  z53 := Tryz.sizeOf128
  v53 := Tryz.zeroValue128
  t171 := Tryz.underlying162
  a171 := Tryz.isAgg162
  z171 := Tryz.sizeOf162
  v171 := Tryz.zeroValue162
  t173 := Tryz.underlying164
  a173 := Tryz.isAgg164
  z173 := Tryz.sizeOf164
  v173 := Tryz.zeroValue164
  t212 := Tryz.underlying192
  a212 := Tryz.isAgg192
  z212 := Tryz.sizeOf192
  v212 := Tryz.zeroValue192
  t213 := Tryz.underlying193
  a213 := Tryz.isAgg193
  z213 := Tryz.sizeOf193
  t232 := Tryz.underlying213
  a232 := Tryz.isAgg213
  z232 := Tryz.sizeOf213
  v232 := Tryz.zeroValue213
  t233 := Tryz.underlying214
  a233 := Tryz.isAgg214
  z233 := Tryz.sizeOf214
  v233 := Tryz.zeroValue214
  g17 := by kernel_rfl
  g18 := by kernel_rfl
  g19 := by kernel_rfl }
open Go.RowKit Go.Sort Go.Lib in
/-- THE ROAD WITHOUT THE TABLE: 0 <= i < 100. (LAID: no walk: one application.) -/
theorem Tryz.strconv_FormatInt_10_small (i : Nat) (hi : i < 100) (w : World) :
    Calls Tryz.prog 74 #[.int .i64 i, .int .i64 10] w fun e w' => e = .returned (.string ⟨(Lib.decDigits i).toArray⟩) ∧ w' = w := Any.strconv_FormatInt_10_small Tryz.lays173 i hi w
def Tryz.lays190_ren : Go.Shelf.Ren := ⟨fun | 190 => 71 | 125 => 85 | 258 => 84 | 128 => 109 | 129 => 110 | 302 => 100 | 303 => 101 | 304 => 102 | 305 => 103 | 306 => 104 | 307 => 105 | 308 => 106 | 309 => 107 | 310 => 108 | 333 => 134 | 329 => 135 | 330 => 136 | 334 => 137 | 335 => 138 | 336 => 139 | 344 => 153 | n => n, fun | 31 => 58 | 9 => 9 | 3 => 3 | 46 => 136 | 0 => 0 | 51 => 157 | 53 => 128 | 4 => 4 | 183 => 149 | 182 => 148 | 131 => 154 | 5 => 5 | 218 => 181 | 222 => 185 | 228 => 207 | 229 => 208 | n => n, fun | n => n⟩
theorem Tryz.lays190 : Go.Proofs.Lays.n190 Tryz.prog Tryz.lays190_ren := {
  mixed := by kernel_rfl
  f125 := Tryz.func85.trans (congrArg some (by kernel_rfl))
  f128 := Tryz.func109.trans (congrArg some (by kernel_rfl))
  f129 := Tryz.func110.trans (congrArg some (by kernel_rfl))
  f190 := Tryz.func71.trans (congrArg some (by kernel_rfl))
  f258 := Tryz.func84.trans (congrArg some (by kernel_rfl))
  f302 := Tryz.func100.trans (congrArg some (by kernel_rfl))
  f303 := Tryz.func101.trans (congrArg some (by kernel_rfl))
  f304 := Tryz.func102.trans (congrArg some (by kernel_rfl))
  f305 := Tryz.func103.trans (congrArg some (by kernel_rfl))
  f306 := Tryz.func104.trans (congrArg some (by kernel_rfl))
  f307 := Tryz.func105.trans (congrArg some (by kernel_rfl))
  f308 := Tryz.func106.trans (congrArg some (by kernel_rfl))
  f309 := Tryz.func107.trans (congrArg some (by kernel_rfl))
  f310 := Tryz.func108.trans (congrArg some (by kernel_rfl))
  f329 := Tryz.func135.trans (congrArg some (by kernel_rfl))
  f330 := Tryz.func136.trans (congrArg some (by kernel_rfl))
  f333 := Tryz.func134.trans (congrArg some (by kernel_rfl))
  f334 := Tryz.func137.trans (congrArg some (by kernel_rfl))
  f335 := Tryz.func138.trans (congrArg some (by kernel_rfl))
  f336 := Tryz.func139.trans (congrArg some (by kernel_rfl))
  f344 := Tryz.func153.trans (congrArg some (by kernel_rfl))
  t0 := Tryz.underlying0
  a0 := Tryz.isAgg0
  z0 := Tryz.sizeOf0
  v0 := Tryz.zeroValue0
  t3 := Tryz.underlying3
  a3 := Tryz.isAgg3
  z3 := Tryz.sizeOf3
  v3 := Tryz.zeroValue3
  t4 := Tryz.underlying4
  a4 := Tryz.isAgg4
  z4 := Tryz.sizeOf4
  v4 := Tryz.zeroValue4
  t5 := Tryz.underlying5
  a5 := Tryz.isAgg5
  z5 := Tryz.sizeOf5
  v5 := Tryz.zeroValue5
  t9 := Tryz.underlying9
  a9 := Tryz.isAgg9
  z9 := Tryz.sizeOf9
  v9 := Tryz.zeroValue9
  t31 := Tryz.underlying58
  a31 := Tryz.isAgg58
  z31 := Tryz.sizeOf58
  v31 := Tryz.zeroValue58
  t46 := Tryz.underlying136
  a46 := Tryz.isAgg136
  z46 := Tryz.sizeOf136
  v46 := Tryz.zeroValue136
  t51 := Tryz.underlying157
  a51 := Tryz.isAgg157
  z51 := Tryz.sizeOf157
  v51 := Tryz.zeroValue157
  t53 := Tryz.underlying128
  a53 := Tryz.isAgg128
  z53 := Tryz.sizeOf128
  v53 := Tryz.zeroValue128
  t131 := Tryz.underlying154
  a131 := Tryz.isAgg154
  z131 := Tryz.sizeOf154
  v131 := Tryz.zeroValue154
  t182 := Tryz.underlying148
  a182 := Tryz.isAgg148
  z182 := Tryz.sizeOf148
  v182 := Tryz.zeroValue148
  t183 := Tryz.underlying149
  a183 := Tryz.isAgg149
  z183 := Tryz.sizeOf149
  v183 := Tryz.zeroValue149
  t218 := Tryz.underlying181
  a218 := Tryz.isAgg181
  z218 := Tryz.sizeOf181
  v218 := Tryz.zeroValue181
  t222 := Tryz.underlying185
  a222 := Tryz.isAgg185
  z222 := Tryz.sizeOf185
  v222 := Tryz.zeroValue185
  t228 := Tryz.underlying207
  a228 := Tryz.isAgg207
  z228 := Tryz.sizeOf207
  v228 := Tryz.zeroValue207
  t229 := Tryz.underlying208
  a229 := Tryz.isAgg208
  z229 := Tryz.sizeOf208
  v229 := Tryz.zeroValue208 }
open Go.Sort Go.RowKit in
theorem Tryz.slices_Sort_string (blk off cap : Nat) (ss : List (List UInt8)) (w : World) (hH : Holds encStr w blk off ss.toArray) (hblk : blk < w.heap.size) (hsz : ss.length < 4611686018427387904) :
    Calls Tryz.prog 71 #[.slice (some ⟨blk, off, none⟩) ss.length cap] w fun e w' =>
      e = .returned (.tuple #[]) ∧ ∃ n os, w' = grow (putRow encStr (Sort.ahead w n) blk off (ss.mergeSort fun x y => decide (x ≤ y)).toArray) os := Any.slices_Sort_string Tryz.lays190 blk off cap ss w hH hblk hsz
def Tryz.lays109_ren : Go.Shelf.Ren := ⟨fun | 109 => 43 | n => n, fun | 31 => 58 | 9 => 9 | 3 => 3 | 0 => 0 | 4 => 4 | n => n, fun | n => n⟩
theorem Tryz.lays109 : Go.Proofs.Lays.n109 Tryz.prog Tryz.lays109_ren := {
  mixed := by kernel_rfl
  f109 := Tryz.func43.trans (congrArg some (by kernel_rfl))
  t0 := Tryz.underlying0
  a0 := Tryz.isAgg0
  z0 := Tryz.sizeOf0
  v0 := Tryz.zeroValue0
  t3 := Tryz.underlying3
  a3 := Tryz.isAgg3
  z3 := Tryz.sizeOf3
  v3 := Tryz.zeroValue3
  t4 := Tryz.underlying4
  a4 := Tryz.isAgg4
  z4 := Tryz.sizeOf4
  v4 := Tryz.zeroValue4
  t9 := Tryz.underlying9
  a9 := Tryz.isAgg9
  z9 := Tryz.sizeOf9
  v9 := Tryz.zeroValue9
  t31 := Tryz.underlying58
  a31 := Tryz.isAgg58
  z31 := Tryz.sizeOf58
  v31 := Tryz.zeroValue58 }
open Go.Lib in
/-- slices.Index at []string: "Index returns the index of the first occurrence of v in s, or -1 if not present.": IT RETURNS 'Lib.idxOfS (the elements) v'; the world is as it was. 'zs': what the cells behind the slice's address hold (its spare capacity too, if you have it); 'zs.take n': its elements. (LAID: no walk: one application.) -/
theorem Tryz.slices_Index_string (b off n c : Nat) (zs : List ByteArray) (x : ByteArray) (w : World) (hz : n ≤ zs.length) (hbig : n ≤ 9223372036854775807) (hc : ∀ j, j < zs.length → w.cell? ⟨b, off + j, none⟩ = some (.string (zs.getD j ByteArray.empty))) :
    Calls Tryz.prog 43 #[.slice (some ⟨b, off, none⟩) n c, .string x] w fun e w' => e = .returned (.int .i64 (Lib.idxOfS (zs.take n) x)) ∧ w' = w := Any.slices_Index_string Tryz.lays109 b off n c zs x w hz hbig hc
open Go.Lib in
/-- The same at a slice of length 0, a nil one too: no cell is known, none is asked for. (LAID: no walk: one application.) -/
theorem Tryz.slices_Index_string_empty (a : Option Addr) (c : Nat) (x : ByteArray) (w : World) :
    Calls Tryz.prog 43 #[.slice a 0 c, .string x] w fun e w' => e = .returned (.int .i64 (Lib.idxOfS [] x)) ∧ w' = w := Any.slices_Index_string_empty Tryz.lays109 a c x w
def Tryz.lays110_ren : Go.Shelf.Ren := ⟨fun | 110 => 47 | 109 => 43 | n => n, fun | 31 => 58 | 9 => 9 | 4 => 4 | 3 => 3 | 0 => 0 | n => n, fun | n => n⟩
theorem Tryz.lays110 : Go.Proofs.Lays.n110 Tryz.prog Tryz.lays110_ren := {
  mixed := by kernel_rfl
  f109 := Tryz.func43.trans (congrArg some (by kernel_rfl))
  f110 := Tryz.func47.trans (congrArg some (by kernel_rfl))
  t0 := Tryz.underlying0
  a0 := Tryz.isAgg0
  z0 := Tryz.sizeOf0
  v0 := Tryz.zeroValue0
  t3 := Tryz.underlying3
  a3 := Tryz.isAgg3
  z3 := Tryz.sizeOf3
  v3 := Tryz.zeroValue3
  t4 := Tryz.underlying4
  a4 := Tryz.isAgg4
  z4 := Tryz.sizeOf4
  v4 := Tryz.zeroValue4
  t9 := Tryz.underlying9
  a9 := Tryz.isAgg9
  z9 := Tryz.sizeOf9
  v9 := Tryz.zeroValue9
  t31 := Tryz.underlying58
  a31 := Tryz.isAgg58
  z31 := Tryz.sizeOf58
  v31 := Tryz.zeroValue58 }
open Go.Lib in
/-- slices.Contains at []string: "Contains reports whether v is present in s.": IT RETURNS 'Lib.containsS (the elements) v', which is true just where v is among them ('Lib.containsS_iff'); the world is as it was. ITS CALLEE slices.Index IS MET BY ITS OWN CONTRACT OFF THE SHELF (lay that first): no loop is walked here. (LAID: no walk: one application.) -/
theorem Tryz.slices_Contains_string (b off n c : Nat) (zs : List ByteArray) (x : ByteArray) (w : World) (hz : n ≤ zs.length) (hbig : n ≤ 9223372036854775807) (hc : ∀ j, j < zs.length → w.cell? ⟨b, off + j, none⟩ = some (.string (zs.getD j ByteArray.empty))) :
    Calls Tryz.prog 47 #[.slice (some ⟨b, off, none⟩) n c, .string x] w fun e w' => e = .returned (.bool (Lib.containsS (zs.take n) x)) ∧ w' = w := Any.slices_Contains_string Tryz.lays110 b off n c zs x w hz hbig hc
open Go.Lib in
/-- The same at a slice of length 0, a nil one too. (LAID: no walk: one application.) -/
theorem Tryz.slices_Contains_string_empty (a : Option Addr) (c : Nat) (x : ByteArray) (w : World) :
    Calls Tryz.prog 47 #[.slice a 0 c, .string x] w fun e w' => e = .returned (.bool false) ∧ w' = w := Any.slices_Contains_string_empty Tryz.lays110 a c x w
open Go.RowKit Go.Sort in
/-- .. and plain. (LAID: no walk: one application.) -/
theorem Tryz.slices_Sort_string_none (p : Option Addr) (cap : Nat) (w : World) :
    Calls Tryz.prog 71 #[.slice p 0 cap] w fun e w' => e = .returned (.tuple #[]) ∧ w' = w := Any.slices_Sort_string_none Tryz.lays190 p cap w
end Go.Proofs
/- What the shelf says of texts of numbers, of texts put together. -/
set_option linter.unusedVariables false
set_option linter.unusedSimpArgs false
set_option linter.unusedSectionVars false
set_option autoImplicit false
set_option relaxedAutoImplicit false
set_option maxRecDepth 10000
namespace Go.Proofs.YtindlieilabgfaaGreatDoor
open Go X
theorem Itoa_ok (n : Int) (E : World) (H : GH) (L : List It) (hL : Laid H) (h0 : -9223372036854775808 ≤ n) (h1 : n ≤ 9223372036854775807) : Ok Tryz.prog 61 #[.int .i64 n] E H L fun r H' L' => r = str (Lib.itoa n) ∧ H = H' ∧ L = L' :=
  Ok.of_below fun w hw => (Tryz.strconv_Itoa n h0 h1 w (hL.pow w ⟨hw.fro, fun i hi => by cases hi⟩)).mono fun e w' ⟨h, k, os, hw'⟩ => ⟨h, by subst hw'; exact belowG _ _ _⟩
theorem FormatInt_ok (n : Int) (E : World) (H : GH) (L : List It) (hL : Laid H) (h0 : -9223372036854775808 ≤ n) (h1 : n ≤ 9223372036854775807) : Ok Tryz.prog 74 #[.int .i64 n, .int .i64 10] E H L fun r H' L' => r = str (Lib.itoa n) ∧ H = H' ∧ L = L' :=
  Ok.of_below fun w hw => (Tryz.strconv_FormatInt_10 n h0 h1 w (hL.pow w ⟨hw.fro, fun i hi => by cases hi⟩)).mono fun e w' ⟨h, k, os, hw'⟩ => ⟨h, by subst hw'; exact belowG _ _ _⟩
theorem Join_ok (ss : List Bs) (sep : Bs) (A : Option Addr) (c : Nat) (v : Value) (E : World) (H : GH) (L : List It) (hss : RS RStr 1 H v ss) (hb : ss.length < 1000000000000) (hlen : (Lib.join ss sep).length ≤ 140737488355328) : Ok Tryz.prog 121 #[v, str sep] E H L fun r H' L' => r = str (Lib.join ss sep) ∧ H = H' ∧ L = L' := by
  obtain ⟨A, c, rfl, hc, hat⟩ := hss
  cases ss with
  | nil => exact Ok.of_below fun w hw => (Tryz.strings_Join_none A c _ w).mono fun e w' ⟨h, hw'⟩ => ⟨h, by subst hw'; exact .refl _ _⟩
  | cons s0 ss =>
    obtain ⟨g, off, cs, rfl, hl, hr, hcell⟩ := hat 0 s0 rfl
    have hcells : ∀ w, St E H L w → ∀ (j : Nat) x, ((s0 :: ss).map fun s => (⟨s.toArray⟩ : ByteArray))[j]? = some x → w.cell? ⟨g, off + j, none⟩ = some (.string x) := by
      intro w hw j x hx
      rw [List.getElem?_map, Option.map_eq_some_iff] at hx
      obtain ⟨s, hs, rfl⟩ := hx
      obtain ⟨g', off', cs', e, hl', hr', hcell'⟩ := hat j s hs
      cases e
      unfold RStr at hr'; subst hr'
      have := (hcell' 0 _ rfl).cell hw.sees
      simpa using this
    have hmap : ((s0 :: ss).map fun s => (⟨s.toArray⟩ : ByteArray)).map (·.data.toList) = s0 :: ss := by rw [List.map_map]; exact List.map_id _
    have hgl : ∀ w, St E H L w → g < w.heap.size := fun w hw => by
      obtain ⟨c1, e1, z1, h1, _⟩ := hcell 0 (cs[0]'(by rw [hl]; exact Nat.one_pos)) (List.getElem?_eq_getElem _)
      exact hw.size_le h1
    refine Ok.of_below fun w hw => ?_
    have := Tryz.strings_Join g off c ((s0 :: ss).map fun s => (⟨s.toArray⟩ : ByteArray)) ⟨sep.toArray⟩ w (hcells w hw) (hgl w hw) (by rw [List.length_map]; omega) (by rw [List.length_map]; exact hc) (by rw [hmap]; exact hlen)
    rw [hmap, List.length_map] at this
    exact this
end Go.Proofs.YtindlieilabgfaaGreatDoor
/- Walks: lex.Print. -/
set_option linter.unusedVariables false
set_option linter.unusedSimpArgs false
set_option linter.unusedSectionVars false
set_option autoImplicit false
set_option relaxedAutoImplicit false
set_option maxRecDepth 10000
namespace Go.Proofs.YtindlieilabgfaaGreatDoor
open Go X
abbrev TS (H : GH) (A : Option Addr) (c : Nat) (ks : List Tk) : Prop := RS RTk 3 H (.slice A ks.length c) ks
theorem TS.get {H : GH} {A : Option Addr} {c : Nat} {ks : List Tk} (h : TS H A c ks) {j : Nat} (hj : j < ks.length) :
    ∃ g off, A = some ⟨g, off, none⟩ ∧ ∀ i u, [Value.int .i64 ks[j].kind, str ks[j].text, .int .i64 ks[j].n][i]? = some u → Hc H g (off + j * 3 + i) u := by
  obtain ⟨g, off, cs, hA, hl, hr, hc⟩ := RS.at_ h (List.getElem?_eq_getElem hj)
  unfold RTk at hr; subst hr
  exact ⟨g, off, hA, hc⟩
theorem Print_ok (ks : List Tk) (v : Value) (E : World) (H : GH) (L : List It) (hks : RS RTk 3 H v ks) (hb : ks.length < 1000000000000) (hlen : (Lib.join (ks.map (·.text)) [32]).length ≤ 140737488355328) : Ok Tryz.prog 93 #[v] E H L fun r H' L' => r = str (showL ks) ∧ H = H' ∧ L = L' := by
  obtain ⟨A, c, rfl, hc⟩ := id hks
  refine enter (N := 20) [(0, _)] Tryz.func93 rfl rfl rfl rfl fun a w h => ?_
  refine sq ?_
  refine rg0 ?_
  refine as_ h fun a w h => ?_
  refine nl0 ?_
  refine thN ?_
  refine sq ?_
  refine rg0 ?_
  refine as_ h fun a w h => ?_
  refine nl0 ?_
  refine thN ?_
  refine sq ?_
  refine sq ?_
  refine rg0 ?_
  have h := h.row (e := 9) (sz := 1)
  refine mv h fun a w h => ?_
  refine ln sli141 h fun a w h => ?_
  refine mv h fun a w h => ?_
  refine nl0 ?_
  refine thN ?_
  refine blk ?_
  refine lp (β := Nat × Value × List Value) (fun x a w => match x with | (k, v, xs) => (k ≤ ks.length ∧ RowR RStr 1 H xs ((ks.take k).map (·.text))) ∧ S E H 20 [] [(8, .int .i64 (k : Int)), (7, .int .i64 (ks.length : Int)), (6, .slice A ks.length c), (3, v)] (.row v 9 1 k xs :: L) a w)
    (fun x => match x with | (k, v, xs) => ks.length - k) (0, .slice none 0 0, []) ⟨⟨Nat.zero_le _, RowR.nil⟩, h.to 0 _⟩ ?_
  rintro ⟨k, v, xs⟩ a w ⟨pre, h⟩
  refine sq ?_
  refine rg0 ?_
  refine lt h fun a w h => ?_
  refine nl0 ?_
  refine thN ?_
  refine sq ?_
  refine cdB h (fun c9 => ?_) (fun c9 => ?_)
  · have c9 : k < ks.length := by simpa using c9
    obtain ⟨g, off, rfl, hcell⟩ := TS.get hks c9
    refine sk_ ?_
    refine thN ?_
    refine sq ?_
    refine blk ?_
    refine sq ?_
    refine rg0 ?_
    refine ia sli141 sz167 rfl c9 h fun a w h => ?_
    refine ldHN tN167 rfl hcell h fun a w h => ?_
    refine al zr167 h fun g5 a w h => ?_
    refine sw0 tN167 h fun a w h => ?_
    refine nl0 ?_
    refine thN ?_
    refine rg0 ?_
    refine mv h fun a w h => ?_
    refine fa fl167_1 (r := 1) h fun a w h => ?_
    refine ld 0 t1_9 h fun a w h => ?_
    refine bsl bs58 h fun g15 a w h => ?_
    refine apb 2 0 (L' := fun i => _ :: _ :: i :: _) [str ks[k].text] row58 h ?_ ?_ fun v16 a w hone16 h => ?_
    · have := pre.1; omega
    · have := pre.1; omega
    have h := h.del 1
    have h := h.del 0
    refine as_ h fun a w h => ?_
    refine nl0 ?_
    refine ibN ?_
    refine thN ?_
    refine rg0 ?_
    refine inc ?_ h fun a w h => ?_
    · omega
    refine mv h fun a w h => ?_
    refine nl0 ?_
    refine thN ?_
    exact ⟨(k + 1, v16, xs ++ [str ks[k].text]), ⟨⟨by omega, by rw [List.take_succ_eq_append_getElem c9, List.map_append]; exact pre.2.app (.one rfl rfl)⟩, h.to 0 _⟩, by show _ - (k + 1) < _ - k; omega⟩
  · have hk : k = ks.length := by simp at c9; omega
    refine exit_ ?_
    refine thE ?_
    refine thE ?_
    refine ibH ?_
    refine thN ?_
    refine sq ?_
    refine rg0 ?_
    refine mv h fun a w h => ?_
    obtain ⟨H2, le2, h, hrs⟩ := h.frw 0 (n := k) (ys := ks.map (·.text)) (by rw [hk, List.take_length] at pre; exact pre.2) (by rw [List.length_map]; exact hk) (fun _ _ _ _ _ h => h)
    have l_H_H2 : LE H H2 := le2
    refine cl bod121 (Join_ok (ks.map (·.text)) [32] none 0 _ E H2 _ hrs (by rw [List.length_map]; omega) hlen) h fun r19 H19 L19 a w le19 R h => ?_
    obtain ⟨rfl, rfl, rfl⟩ := R
    refine as_ h fun a w h => ?_
    refine nl0 ?_
    refine thN ?_
    refine ret_ ?_
    refine fin1 2 0 (h.less l_H_H2) LE.rfl ?_
    exact ⟨rfl, rfl, rfl⟩
end Go.Proofs.YtindlieilabgfaaGreatDoor
/- Walks: show.laid and what is within. -/
set_option linter.unusedVariables false
set_option linter.unusedSimpArgs false
set_option linter.unusedSectionVars false
set_option autoImplicit false
set_option relaxedAutoImplicit false
set_option maxRecDepth 10000
namespace Go.Proofs.YtindlieilabgfaaGreatDoor
open Go X
/-- How parts lie. -/
def RPt (H : GH) (cs : List Value) : Pt → Prop
  | .word s => cs = [.iface 174 (str s)]
  | .mark s => cs = [.iface 175 (str s)]
  | .name s => cs = [.iface 172 (str s)]
  | .kid t => ∃ A c, cs = [.iface 170 (.agg #[.int .i64 t.kind, str t.name, .int .i64 t.n, .slice A t.kids.length c])] ∧ KS H A c t.kids
theorem rpt_up {H H' : GH} (hl : LE H H') {cs : List Value} {p : Pt} (h : RPt H cs p) : RPt H' cs p := by
  cases p with
  | kid t => obtain ⟨A, c, h1, h2⟩ := h; exact ⟨A, c, h1, h2.up hl⟩
  | _ => exact h
/-- The answer is a row of tokens of the call's own. -/
def RowTk (ks : List Tk) (L : List It) : Value → GH → List It → Prop := fun r H' L' => ∃ A c xs, r = .slice A ks.length c ∧ L' = .row (.slice A ks.length c) 167 3 ks.length xs :: L ∧ RowR RTk 3 H' xs ks
def WithinOk (t : Tm) : Prop := ∀ (v : Value) (E : World) (H : GH) (L : List It), VT H v t → Laid H → Ok Tryz.prog 150 #[v] E H L (RowTk t.within L)
def ToksOk (t : Tm) : Prop := ∀ (v : Value) (E : World) (H : GH) (L : List It), VT H v t → Laid H → Ok Tryz.prog 94 #[v] E H L (RowTk t.toks L)
theorem rtkR {H : GH} {xs : List Value} {ks : List Tk} {H' : GH} (h : RowR RTk 3 H xs ks) : RowR RTk 3 H' xs ks := h.mono fun _ _ _ h => h

theorem kid_ok (ks : List Tm) (i : Nat) (hi : i < ks.length) (A : Option Addr) (c g : Nat) (E : World) (H : GH) (L : List It) (hks : KS H A c ks) (hcap : Hc H g 3 (.slice A ks.length c)) :
    Ok Tryz.prog 122 #[.int .i64 (i : Int), .pointer (some ⟨g, 0, none⟩)] E H L fun r H' L' => ∃ A' c', r = .agg #[.int .i64 ks[i].kind, str ks[i].name, .int .i64 ks[i].n, .slice A' ks[i].kids.length c'] ∧ KS H A' c' ks[i].kids ∧ H = H' ∧ L = L' := by
  obtain ⟨g2, off, A2, c2, rfl, hvt, hcell⟩ := KS.get hks hi
  have hvt : KS H A2 c2 ks[i].kids := by obtain ⟨A3, c3, e, h3⟩ := hvt; cases e; exact h3
  refine enter (N := 10) [(0, _), (1, _)] Tryz.func122 rfl rfl rfl rfl fun a w h => ?_
  refine sq ?_
  refine rg0 ?_
  refine al zr170 h fun g3 a w h => ?_
  refine nl0 ?_
  refine thN ?_
  refine sq ?_
  refine rg0 ?_
  refine fa fl24_3 (r := 3) h fun a w h => ?_
  refine ldH t1_22 hcap h fun a w h => ?_
  refine mv h fun a w h => ?_
  refine ia sli22 sz24 rfl hi h fun a w h => ?_
  refine ldHN tN24 rfl hcell h fun a w h => ?_
  refine bdl lay170 zr170 h fun a w h => ?_
  refine sw0 tN170 h fun a w h => ?_
  refine nl0 ?_
  refine thN ?_
  refine ret_ ?_
  exact fin (rs := [.cell 3 170]) (vs := [.agg #[.int .i64 ks[i].kind, str ks[i].name, .int .i64 ks[i].n, .slice A2 ks[i].kids.length c2]]) h rfl (.agg (k0 := 0) tN170 rfl rfl rfl .nil) rfl LE.rfl ⟨LE.rfl, h.st.drop 1⟩ ⟨A2, c2, rfl, hvt, rfl, rfl⟩

theorem laid_ok (ps : List Pt) (v : Value) (E : World) (H : GH) (L : List It) (hps : RS RPt 1 H v ps) (hL : Laid H) (hw : ∀ t, Pt.kid t ∈ ps → WithinOk t) (hb : ps.length < 1000000000000) (hbb : (laidL ps).length < 1000000000000) : Ok Tryz.prog 123 #[v] E H L (RowTk (laidL ps) L) := by
  obtain ⟨A, c, rfl, hpc⟩ := id hps
  have hL0 := hL
  have hps0 := hps
  refine enter (N := 51) [(0, _)] Tryz.func123 rfl rfl rfl rfl fun a w h => ?_
  refine sq ?_
  refine rg0 ?_
  refine as_ h fun a w h => ?_
  refine nl0 ?_
  refine thN ?_
  refine sq ?_
  refine rg0 ?_
  refine as_ h fun a w h => ?_
  refine nl0 ?_
  refine thN ?_
  refine sq ?_
  refine sq ?_
  refine rg0 ?_
  have h := h.row (e := 167) (sz := 3)
  refine mv h fun a w h => ?_
  refine ln sli204 h fun a w h => ?_
  refine mv h fun a w h => ?_
  refine nl0 ?_
  refine thN ?_
  refine blk ?_
  refine lp (β := Nat × GH × Option Addr × Nat × Nat × List Value) (fun x a w => match x with | (k, H1, B, n, cp, xs) => (k ≤ ps.length ∧ LE H H1 ∧ n = (laidL (ps.take k)).length ∧ RowR RTk 3 H1 xs (laidL (ps.take k))) ∧ S E H1 51 [] [(12, .int .i64 (k : Int)), (11, .int .i64 (ps.length : Int)), (10, .slice A ps.length c), (3, .slice B n cp)] (.row (.slice B n cp) 167 3 n xs :: L) a w)
    (fun x => match x with | (k, H1, B, n, cp, xs) => ps.length - k) (0, H, none, 0, 0, []) ⟨⟨Nat.zero_le _, LE.rfl, rfl, RowR.nil⟩, h.to 0 _⟩ ?_
  rintro ⟨k, H1, B, n, cp, xs⟩ a w ⟨pre, h⟩
  obtain ⟨hk, l_H_H1, hn, hrow⟩ := pre
  have hL := hL0.up l_H_H1
  have hps := RS.mono hps0 l_H_H1 (fun cs x _ hr => rpt_up l_H_H1 hr)
  refine sq ?_
  refine rg0 ?_
  refine lt h fun a w h => ?_
  refine nl0 ?_
  refine thN ?_
  refine sq ?_
  refine cdB h (fun c13 => ?_) (fun c13 => ?_)
  · have c13 : k < ps.length := by simpa using c13
    obtain ⟨g, off, cs, rfl, hl, hR, hcell⟩ := RS.at_ hps (List.getElem?_eq_getElem c13)
    refine sk_ ?_
    refine thN ?_
    refine sq ?_
    refine blk ?_
    refine sq ?_
    refine rg0 ?_
    refine ia sli204 sz206 rfl c13 h fun a w h => ?_
    have hltk := laid_take c13
    have hlen := laid_len_take ps (k + 1)
    have hkw : ∀ t, ps[k] = .kid t → WithinOk t := fun t e => hw t (e ▸ List.getElem_mem c13)
    generalize ps[k] = p at hR hltk hkw
    rw [hltk, List.length_append] at hlen
    cases p with
    | word s =>
      have hR : cs = [.iface 174 (str s)] := hR
      subst hR
      refine ldH t1_206 (hcell 0 _ rfl) h fun a w h => ?_
      refine as_ h fun a w h => ?_
      refine nl0 ?_
      refine thN ?_
      refine sq ?_
      refine rg0 ?_
      refine mv h fun a w h => ?_
      refine nl0 ?_
      refine thN ?_
      refine blk ?_
      refine sq ?_
      refine rg0 ?_
      refine taT cnc174 h fun a w h => ?_
      refine ex h fun a w h => ?_
      refine ex h fun a w h => ?_
      refine nl0 ?_
      refine thN ?_
      refine cdT h ?_
      refine sq ?_
      refine rg0 ?_
      refine as_ h fun a w h => ?_
      refine nl0 ?_
      refine thN ?_
      refine rg0 ?_
      refine mv h fun a w h => ?_
      refine mv h fun a w h => ?_
      refine bdl lay167 zr167 h fun a w h => ?_
      refine bsl bs141 h fun g23 a w h => ?_
      refine apb 1 0 (L' := fun i => _ :: i :: _) [.int .i64 3, str s, .int .i64 0] row141 h ?_ ?_ fun v24 a w hone h => ?_
      · have e := hlen; simp only [Pt.toks, List.length_cons, List.length_nil] at e; omega
      · have e := hlen; simp only [Pt.toks, List.length_cons, List.length_nil] at e; omega
      have h := h.del 0
      obtain ⟨B2, cp2, rfl⟩ := h.rowv 0
      have hn2 : n + 1 = (laidL (ps.take (k + 1))).length := by rw [hltk, List.length_append, ← hn]; rfl
      have hr2 : RowR RTk 3 H1 (xs ++ [.int .i64 3, str s, .int .i64 0]) (laidL (ps.take (k + 1))) := by rw [hltk]; exact hrow.app (.one rfl rfl)
      refine as_ h fun a w h => ?_
      refine nl0 ?_
      refine ibN ?_
      refine ibN ?_
      refine thN ?_
      refine rg0 ?_
      refine inc ?_ h fun a w h => ?_
      · omega
      refine mv h fun a w h => ?_
      refine nl0 ?_
      refine thN ?_
      exact ⟨(k + 1, H1, B2, _, cp2, _), ⟨⟨by omega, l_H_H1, hn2, hr2⟩, h.to 0 _⟩, by show _ - (k + 1) < _ - k; omega⟩
    | mark s =>
      have hR : cs = [.iface 175 (str s)] := hR
      subst hR
      refine ldH t1_206 (hcell 0 _ rfl) h fun a w h => ?_
      refine as_ h fun a w h => ?_
      refine nl0 ?_
      refine thN ?_
      refine sq ?_
      refine rg0 ?_
      refine mv h fun a w h => ?_
      refine nl0 ?_
      refine thN ?_
      refine blk ?_
      refine sq ?_
      refine rg0 ?_
      refine taF cnc174 zr174 h fun a w h => ?_
      refine ex h fun a w h => ?_
      refine ex h fun a w h => ?_
      refine nl0 ?_
      refine thN ?_
      refine cdF h ?_
      refine sq ?_
      refine rg0 ?_
      refine taT cnc175 h fun a w h => ?_
      refine ex h fun a w h => ?_
      refine ex h fun a w h => ?_
      refine nl0 ?_
      refine thN ?_
      refine cdT h ?_
      refine sq ?_
      refine rg0 ?_
      refine as_ h fun a w h => ?_
      refine nl0 ?_
      refine thN ?_
      refine rg0 ?_
      refine mv h fun a w h => ?_
      refine mv h fun a w h => ?_
      refine bdl lay167 zr167 h fun a w h => ?_
      refine bsl bs141 h fun g31 a w h => ?_
      refine apb 1 0 (L' := fun i => _ :: i :: _) [.int .i64 4, str s, .int .i64 0] row141 h ?_ ?_ fun v32 a w hone h => ?_
      · have e := hlen; simp only [Pt.toks, List.length_cons, List.length_nil] at e; omega
      · have e := hlen; simp only [Pt.toks, List.length_cons, List.length_nil] at e; omega
      have h := h.del 0
      obtain ⟨B2, cp2, rfl⟩ := h.rowv 0
      have hn2 : n + 1 = (laidL (ps.take (k + 1))).length := by rw [hltk, List.length_append, ← hn]; rfl
      have hr2 : RowR RTk 3 H1 (xs ++ [.int .i64 4, str s, .int .i64 0]) (laidL (ps.take (k + 1))) := by rw [hltk]; exact hrow.app (.one rfl rfl)
      refine as_ h fun a w h => ?_
      refine nl0 ?_
      refine ibN ?_
      refine ibN ?_
      refine thN ?_
      refine rg0 ?_
      refine inc ?_ h fun a w h => ?_
      · omega
      refine mv h fun a w h => ?_
      refine nl0 ?_
      refine thN ?_
      exact ⟨(k + 1, H1, B2, _, cp2, _), ⟨⟨by omega, l_H_H1, hn2, hr2⟩, h.to 0 _⟩, by show _ - (k + 1) < _ - k; omega⟩
    | name s =>
      have hR : cs = [.iface 172 (str s)] := hR
      subst hR
      refine ldH t1_206 (hcell 0 _ rfl) h fun a w h => ?_
      refine as_ h fun a w h => ?_
      refine nl0 ?_
      refine thN ?_
      refine sq ?_
      refine rg0 ?_
      refine mv h fun a w h => ?_
      refine nl0 ?_
      refine thN ?_
      refine blk ?_
      refine sq ?_
      refine rg0 ?_
      refine taF cnc174 zr174 h fun a w h => ?_
      refine ex h fun a w h => ?_
      refine ex h fun a w h => ?_
      refine nl0 ?_
      refine thN ?_
      refine cdF h ?_
      refine sq ?_
      refine rg0 ?_
      refine taF cnc175 zr175 h fun a w h => ?_
      refine ex h fun a w h => ?_
      refine ex h fun a w h => ?_
      refine nl0 ?_
      refine thN ?_
      refine cdF h ?_
      refine sq ?_
      refine rg0 ?_
      refine taT cnc172 h fun a w h => ?_
      refine ex h fun a w h => ?_
      refine ex h fun a w h => ?_
      refine nl0 ?_
      refine thN ?_
      refine cdT h ?_
      refine sq ?_
      refine rg0 ?_
      refine as_ h fun a w h => ?_
      refine nl0 ?_
      refine thN ?_
      refine rg0 ?_
      refine mv h fun a w h => ?_
      refine mv h fun a w h => ?_
      refine bdl lay167 zr167 h fun a w h => ?_
      refine bsl bs141 h fun g39 a w h => ?_
      refine apb 1 0 (L' := fun i => _ :: i :: _) [.int .i64 1, str s, .int .i64 0] row141 h ?_ ?_ fun v40 a w hone h => ?_
      · have e := hlen; simp only [Pt.toks, List.length_cons, List.length_nil] at e; omega
      · have e := hlen; simp only [Pt.toks, List.length_cons, List.length_nil] at e; omega
      have h := h.del 0
      obtain ⟨B2, cp2, rfl⟩ := h.rowv 0
      have hn2 : n + 1 = (laidL (ps.take (k + 1))).length := by rw [hltk, List.length_append, ← hn]; rfl
      have hr2 : RowR RTk 3 H1 (xs ++ [.int .i64 1, str s, .int .i64 0]) (laidL (ps.take (k + 1))) := by rw [hltk]; exact hrow.app (.one rfl rfl)
      refine as_ h fun a w h => ?_
      refine nl0 ?_
      refine ibN ?_
      refine ibN ?_
      refine thN ?_
      refine rg0 ?_
      refine inc ?_ h fun a w h => ?_
      · omega
      refine mv h fun a w h => ?_
      refine nl0 ?_
      refine thN ?_
      exact ⟨(k + 1, H1, B2, _, cp2, _), ⟨⟨by omega, l_H_H1, hn2, hr2⟩, h.to 0 _⟩, by show _ - (k + 1) < _ - k; omega⟩
    | kid t =>
      obtain ⟨A2, c2, rfl, hkt⟩ := hR
      refine ldH t1_206 (hcell 0 _ rfl) h fun a w h => ?_
      refine as_ h fun a w h => ?_
      refine nl0 ?_
      refine thN ?_
      refine sq ?_
      refine rg0 ?_
      refine mv h fun a w h => ?_
      refine nl0 ?_
      refine thN ?_
      refine blk ?_
      refine sq ?_
      refine rg0 ?_
      refine taF cnc174 zr174 h fun a w h => ?_
      refine ex h fun a w h => ?_
      refine ex h fun a w h => ?_
      refine nl0 ?_
      refine thN ?_
      refine cdF h ?_
      refine sq ?_
      refine rg0 ?_
      refine taF cnc175 zr175 h fun a w h => ?_
      refine ex h fun a w h => ?_
      refine ex h fun a w h => ?_
      refine nl0 ?_
      refine thN ?_
      refine cdF h ?_
      refine sq ?_
      refine rg0 ?_
      refine taF cnc172 zr172 h fun a w h => ?_
      refine ex h fun a w h => ?_
      refine ex h fun a w h => ?_
      refine nl0 ?_
      refine thN ?_
      refine cdF h ?_
      refine sq ?_
      refine rg0 ?_
      refine taT cnc170 h fun a w h => ?_
      refine ex h fun a w h => ?_
      refine ex h fun a w h => ?_
      refine nl0 ?_
      refine thN ?_
      refine cdT h ?_
      refine sq ?_
      refine rg0 ?_
      refine al zr170 h fun g9 a w h => ?_
      refine sw0 tN170 h fun a w h => ?_
      refine nl0 ?_
      refine thN ?_
      refine rg0 ?_
      refine mv h fun a w h => ?_
      refine fa fl170_0 (r := 0) h fun a w h => ?_
      refine ldW 0 tN24 h fun a w h => ?_
      refine cl bod150 (hkw t rfl _ E H1 _ ⟨A2, c2, rfl, hkt⟩ hL) h fun r47 H47 L47 a w le47 R h => ?_
      obtain ⟨A47, c47, xs47, rfl, rfl, hr47⟩ := R
      have l_H_H47 : LE H H47 := l_H_H1.trans le47
      have l_H1_H47 : LE H1 H47 := le47
      obtain ⟨H5, le5, h, hs5⟩ := h.frw 0 (n := t.within.length) hr47 rfl (fun _ _ _ _ _ h => h)
      have l_H_H5 : LE H H5 := l_H_H47.trans le5
      have l_H1_H5 : LE H1 H5 := l_H1_H47.trans le5
      have l_H47_H5 : LE H47 H5 := le5
      refine aps 1 (L' := fun i => _ :: i :: _) row141 hs5 rtk_one h ?_ ?_ fun v48 news a w hone hnews h => ?_
      · have e := hlen; simp only [Pt.toks] at e; omega
      · have e := hlen; simp only [Pt.toks] at e; omega
      have h := h.del 0
      obtain ⟨B2, cp2, rfl⟩ := h.rowv 0
      have hn2 : n + t.within.length = (laidL (ps.take (k + 1))).length := by rw [hltk, List.length_append, ← hn]; rfl
      have hr2 : RowR RTk 3 H5 (xs ++ news) (laidL (ps.take (k + 1))) := by rw [hltk]; exact (rtkR hrow).app (rtkR hnews)
      refine as_ h fun a w h => ?_
      refine nl0 ?_
      refine ibN ?_
      refine ibN ?_
      refine thN ?_
      refine rg0 ?_
      refine inc ?_ h fun a w h => ?_
      · omega
      refine mv h fun a w h => ?_
      refine nl0 ?_
      refine thN ?_
      exact ⟨(k + 1, H5, B2, _, cp2, _), ⟨⟨by omega, l_H_H5, hn2, hr2⟩, h.to 0 _⟩, by show _ - (k + 1) < _ - k; omega⟩
  · have hkk : k = ps.length := by simp at c13; omega
    refine exit_ ?_
    refine thE ?_
    refine thE ?_
    refine ibH ?_
    refine thN ?_
    refine sq ?_
    refine rg0 ?_
    refine mv h fun a w h => ?_
    refine as_ h fun a w h => ?_
    refine nl0 ?_
    refine thN ?_
    refine ret_ ?_
    have hk : k = ps.length := hkk
    rw [hk, List.take_length] at hn hrow
    subst hn
    refine fin1 2 0 h l_H_H1 ?_
    exact ⟨B, cp, xs, rfl, rfl, hrow⟩
end Go.Proofs.YtindlieilabgfaaGreatDoor
/- Walks: show.within. -/
set_option linter.unusedVariables false
set_option linter.unusedSimpArgs false
set_option linter.unusedSectionVars false
set_option autoImplicit false
set_option relaxedAutoImplicit false
set_option maxRecDepth 10000
namespace Go.Proofs.YtindlieilabgfaaGreatDoor
open Go X
theorem within_ok (t : Tm) (hto : ToksOk t) (hlen : t.toks.length < 100000000000) : WithinOk t := by
  intro v E H L hv hL
  have hv0 := hv
  obtain ⟨A, c, rfl, hks⟩ := hv
  have hv := hv0
  refine enter (N := 23) [(0, _)] Tryz.func150 rfl rfl rfl rfl fun a w h => ?_
  refine sq ?_
  refine rg0 ?_
  refine bxA h fun g1 a w h => ?_
  refine as_ h fun a w h => ?_
  refine nl0 ?_
  refine thN ?_
  refine sq ?_
  refine sq ?_
  refine rg0 ?_
  refine fa fl24_0 (r := 0) h fun a w h => ?_
  refine ld 0 t1_3 h fun a w h => ?_
  refine eqi h fun a w h => ?_
  refine h.spl (fun c5 h => ?_) (fun c5 h => ?_)
  · refine mv h fun a w h => ?_
    refine sk h (k := fun a w h => ?_)
    refine sk h (k := fun a w h => ?_)
    refine sk h (k := fun a w h => ?_)
    refine pkT h fun a w h => ?_
    refine nl0 ?_
    refine thN ?_
    refine cdT h ?_
    refine sq ?_
    refine rg0 ?_
    refine ldW 0 tN24 h fun a w h => ?_
    refine cl bod94 (hto _ E H _ (hv.mono LE.rfl) (hL.up LE.rfl)) h fun r12 H12 L12 a w le12 R h => ?_
    obtain ⟨A12, c12, xs12, rfl, rfl, hr12⟩ := R
    have l_H_H12 : LE H H12 := le12
    refine as_ h fun a w h => ?_
    refine nl0 ?_
    refine thN ?_
    refine ret_ ?_
    refine thR ?_
    have h := h.del 1
    refine fin1 2 0 h l_H_H12 ?_
    unfold RowTk Tm.within
    rw [if_pos (by simp only [c5]; rfl)]
    exact ⟨_, _, _, rfl, rfl, hr12⟩
  · refine mv h fun a w h => ?_
    refine fa fl24_0 (r := 0) h fun a w h => ?_
    refine ld 0 t1_3 h fun a w h => ?_
    refine eqi h fun a w h => ?_
    refine pkF h fun a w h => ?_
    refine nl0 ?_
    refine thN ?_
    refine cdB h (fun c10 => ?_) (fun c10 => ?_)
    · refine sq ?_
      refine rg0 ?_
      refine ldW 0 tN24 h fun a w h => ?_
      refine cl bod94 (hto _ E H _ (hv.mono LE.rfl) (hL.up LE.rfl)) h fun r12 H12 L12 a w le12 R h => ?_
      obtain ⟨A12, c12, xs12, rfl, rfl, hr12⟩ := R
      have l_H_H12 : LE H H12 := le12
      refine as_ h fun a w h => ?_
      refine nl0 ?_
      refine thN ?_
      refine ret_ ?_
      refine thR ?_
      have h := h.del 1
      refine fin1 2 0 h l_H_H12 ?_
      unfold RowTk Tm.within
      rw [if_pos (by simp only [c5, c10]; rfl)]
      exact ⟨_, _, _, rfl, rfl, hr12⟩
    · refine sk_ ?_
      refine thN ?_
      refine sq ?_
      refine rgx [0] [_] [3] 11 mix h (fun a w h => ?_)
      refine tkl 0 false (by kernel_rfl) ?_
      refine mi cnc175 h fun a w h => ?_
      refine tk0 ?_
      refine tkl 3 true (by kernel_rfl) ?_
      refine ldWT 0 tN24 h fun a w h => ?_
      refine tk0 ?_
      refine tkl 6 false (by kernel_rfl) ?_
      refine mi cnc175 h fun a w h => ?_
      refine tk0 ?_
      refine brl2 1 7 true true (by kernel_rfl) (by kernel_rfl) (by kernel_rfl) (fun _ => h.st.sees' (by first | exact LE.rfl | assumption) (by simp)) ?_ ?_
      · refine bsl bs204 h fun g14 a w h => ?_
        refine br0 ?_
        refine brl2 2 7 true true (by kernel_rfl) (by kernel_rfl) (by kernel_rfl) (fun _ => h.st.sees' (by first | exact LE.rfl | assumption) (by simp)) ?_ ?_
        · obtain ⟨Hl14, leHl14, h, hp14⟩ := h.fsl (α := Pt) (R := RPt) 0 (ys := [.mark [40]]) (.cons1 rfl .nil) (fun _ l _ _ _ hr => rpt_up l hr)
          have l_H_Hl14 : LE H Hl14 := leHl14
          refine cl bod123 (laid_ok [.mark [40]] _ E Hl14 _ hp14 (hL.up l_H_Hl14) (fun t ht => by simp at ht) (by decide) (by decide)) h fun r15 H15 L15 a w le15 R h => ?_
          obtain ⟨A15, c15, xs15, rfl, rfl, hr15⟩ := R
          have l_H_H15 : LE H H15 := l_H_Hl14.trans le15
          have l_Hl14_H15 : LE Hl14 H15 := le15
          refine br0 ?_
          refine brl2 4 7 false true (by kernel_rfl) (by kernel_rfl) (by kernel_rfl) (fun _ => h.st.sees' (by first | exact LE.rfl | assumption) (by simp)) ?_ ?_
          · refine cl bod94 (hto _ E H15 _ (hv.mono l_H_H15) (hL.up l_H_H15)) h fun r17 H17 L17 a w le17 R h => ?_
            obtain ⟨A17, c17, xs17, rfl, rfl, hr17⟩ := R
            have l_H_H17 : LE H H17 := l_H_H15.trans le17
            have l_Hl14_H17 : LE Hl14 H17 := l_Hl14_H15.trans le17
            have l_H15_H17 : LE H15 H17 := le17
            refine br0 ?_
            refine brl2 5 7 true true (by kernel_rfl) (by kernel_rfl) (by kernel_rfl) (fun _ => h.st.sees' (by first | exact LE.rfl | assumption) (by simp)) ?_ ?_
            · obtain ⟨Ha18, leHa18, h, hs18⟩ := h.frw 0 (n := (t.toks).length) hr17 rfl (fun _ _ _ _ _ h => h)
              have l_H_Ha18 : LE H Ha18 := l_H_H17.trans leHa18
              have l_Hl14_Ha18 : LE Hl14 Ha18 := l_Hl14_H17.trans leHa18
              have l_H15_Ha18 : LE H15 Ha18 := l_H15_H17.trans leHa18
              have l_H17_Ha18 : LE H17 Ha18 := leHa18
              refine aps 0 (L' := fun i => i :: _) row141 hs18 rtk_one h ?_ ?_ fun v18 news18 a w hone hnews18 h => ?_
              · have := hlen; simp only [List.length_cons, List.length_append, List.length_nil, laidL, List.flatMap_cons, List.flatMap_nil, Pt.toks] at this ⊢; omega
              · have := hlen; simp only [List.length_cons, List.length_append, List.length_nil, laidL, List.flatMap_cons, List.flatMap_nil, Pt.toks] at this ⊢; omega
              obtain ⟨Ar18, cr18, rfl⟩ := h.rowv 0
              refine br0 ?_
              refine brl1 7 true (by kernel_rfl) (by kernel_rfl) (fun _ => h.st.sees' (by first | exact LE.rfl | assumption) (by simp)) ?_
              refine bsl bs204 h fun g20 a w h => ?_
              refine br0 ?_
              refine brl1 8 true (by kernel_rfl) (by kernel_rfl) (fun _ => h.st.sees' (by first | exact LE.rfl | assumption) (by simp)) ?_
              obtain ⟨Hl20, leHl20, h, hp20⟩ := h.fsl (α := Pt) (R := RPt) 0 (ys := [.mark [41]]) (.cons1 rfl .nil) (fun _ l _ _ _ hr => rpt_up l hr)
              have l_H_Hl20 : LE H Hl20 := l_H_Ha18.trans leHl20
              have l_Hl14_Hl20 : LE Hl14 Hl20 := l_Hl14_Ha18.trans leHl20
              have l_H15_Hl20 : LE H15 Hl20 := l_H15_Ha18.trans leHl20
              have l_H17_Hl20 : LE H17 Hl20 := l_H17_Ha18.trans leHl20
              have l_Ha18_Hl20 : LE Ha18 Hl20 := leHl20
              refine cl bod123 (laid_ok [.mark [41]] _ E Hl20 _ hp20 (hL.up l_H_Hl20) (fun t ht => by simp at ht) (by decide) (by decide)) h fun r21 H21 L21 a w le21 R h => ?_
              obtain ⟨A21, c21, xs21, rfl, rfl, hr21⟩ := R
              have l_H_H21 : LE H H21 := l_H_Hl20.trans le21
              have l_Hl14_H21 : LE Hl14 H21 := l_Hl14_Hl20.trans le21
              have l_H15_H21 : LE H15 H21 := l_H15_Hl20.trans le21
              have l_H17_H21 : LE H17 H21 := l_H17_Hl20.trans le21
              have l_Ha18_H21 : LE Ha18 H21 := l_Ha18_Hl20.trans le21
              have l_Hl20_H21 : LE Hl20 H21 := le21
              refine br0 ?_
              refine brl1 9 true (by kernel_rfl) (by kernel_rfl) (fun _ => h.st.sees' (by first | exact LE.rfl | assumption) (by simp)) ?_
              obtain ⟨Ha22, leHa22, h, hs22⟩ := h.frw 0 (n := ((laidL [.mark [41]])).length) hr21 rfl (fun _ _ _ _ _ h => h)
              have l_H_Ha22 : LE H Ha22 := l_H_H21.trans leHa22
              have l_Hl14_Ha22 : LE Hl14 Ha22 := l_Hl14_H21.trans leHa22
              have l_H15_Ha22 : LE H15 Ha22 := l_H15_H21.trans leHa22
              have l_H17_Ha22 : LE H17 Ha22 := l_H17_H21.trans leHa22
              have l_Ha18_Ha22 : LE Ha18 Ha22 := l_Ha18_H21.trans leHa22
              have l_Hl20_Ha22 : LE Hl20 Ha22 := l_Hl20_H21.trans leHa22
              have l_H21_Ha22 : LE H21 Ha22 := leHa22
              refine aps 0 (L' := fun i => i :: _) row141 hs22 rtk_one h ?_ ?_ fun v22 news22 a w hone hnews22 h => ?_
              · have := hlen; simp only [List.length_cons, List.length_append, List.length_nil, laidL, List.flatMap_cons, List.flatMap_nil, Pt.toks] at this ⊢; omega
              · have := hlen; simp only [List.length_cons, List.length_append, List.length_nil, laidL, List.flatMap_cons, List.flatMap_nil, Pt.toks] at this ⊢; omega
              obtain ⟨Ar22, cr22, rfl⟩ := h.rowv 0
              refine br0 ?_
              refine tkl 10 false (by kernel_rfl) ?_
              refine as_ h fun a w h => ?_
              refine tk0 ?_
              refine en (by kernel_rfl) ?_
              refine thN ?_
              refine ret_ ?_
              have h := h.del 1
              have e : (laidL [.mark [40]]).length + t.toks.length + (laidL [.mark [41]]).length = (⟨4, [40], 0⟩ :: (t.toks ++ [⟨4, [41], 0⟩]) : List Tk).length := by simp [laidL, Pt.toks]; omega
              rw [e] at h
              refine fin1 2 0 h l_H_Ha22 ?_
              unfold RowTk Tm.within
              rw [if_neg (by simp only [c5, c10]; decide)]
              exact ⟨_, _, _, rfl, rfl, ((rtkR hr15).app (rtkR hnews18)).app (rtkR hnews22)⟩
            · refine bsl bs204 h fun g20 a w h => ?_
              refine br0 ?_
              refine brl1 5 true (by kernel_rfl) (by kernel_rfl) (fun _ => h.st.sees' (by first | exact LE.rfl | assumption) (by simp)) ?_
              obtain ⟨Ha18, leHa18, h, hs18⟩ := h.frw 1 (n := (t.toks).length) hr17 rfl (fun _ _ _ _ _ h => h)
              have l_H_Ha18 : LE H Ha18 := l_H_H17.trans leHa18
              have l_Hl14_Ha18 : LE Hl14 Ha18 := l_Hl14_H17.trans leHa18
              have l_H15_Ha18 : LE H15 Ha18 := l_H15_H17.trans leHa18
              have l_H17_Ha18 : LE H17 Ha18 := leHa18
              refine aps 1 (L' := fun i => _ :: i :: _) row141 hs18 rtk_one h ?_ ?_ fun v18 news18 a w hone hnews18 h => ?_
              · have := hlen; simp only [List.length_cons, List.length_append, List.length_nil, laidL, List.flatMap_cons, List.flatMap_nil, Pt.toks] at this ⊢; omega
              · have := hlen; simp only [List.length_cons, List.length_append, List.length_nil, laidL, List.flatMap_cons, List.flatMap_nil, Pt.toks] at this ⊢; omega
              obtain ⟨Ar18, cr18, rfl⟩ := h.rowv 1
              refine br0 ?_
              refine brl1 8 true (by kernel_rfl) (by kernel_rfl) (fun _ => h.st.sees' (by first | exact LE.rfl | assumption) (by simp)) ?_
              obtain ⟨Hl20, leHl20, h, hp20⟩ := h.fsl (α := Pt) (R := RPt) 0 (ys := [.mark [41]]) (.cons1 rfl .nil) (fun _ l _ _ _ hr => rpt_up l hr)
              have l_H_Hl20 : LE H Hl20 := l_H_Ha18.trans leHl20
              have l_Hl14_Hl20 : LE Hl14 Hl20 := l_Hl14_Ha18.trans leHl20
              have l_H15_Hl20 : LE H15 Hl20 := l_H15_Ha18.trans leHl20
              have l_H17_Hl20 : LE H17 Hl20 := l_H17_Ha18.trans leHl20
              have l_Ha18_Hl20 : LE Ha18 Hl20 := leHl20
              refine cl bod123 (laid_ok [.mark [41]] _ E Hl20 _ hp20 (hL.up l_H_Hl20) (fun t ht => by simp at ht) (by decide) (by decide)) h fun r21 H21 L21 a w le21 R h => ?_
              obtain ⟨A21, c21, xs21, rfl, rfl, hr21⟩ := R
              have l_H_H21 : LE H H21 := l_H_Hl20.trans le21
              have l_Hl14_H21 : LE Hl14 H21 := l_Hl14_Hl20.trans le21
              have l_H15_H21 : LE H15 H21 := l_H15_Hl20.trans le21
              have l_H17_H21 : LE H17 H21 := l_H17_Hl20.trans le21
              have l_Ha18_H21 : LE Ha18 H21 := l_Ha18_Hl20.trans le21
              have l_Hl20_H21 : LE Hl20 H21 := le21
              refine br0 ?_
              refine brl1 9 true (by kernel_rfl) (by kernel_rfl) (fun _ => h.st.sees' (by first | exact LE.rfl | assumption) (by simp)) ?_
              obtain ⟨Ha22, leHa22, h, hs22⟩ := h.frw 0 (n := ((laidL [.mark [41]])).length) hr21 rfl (fun _ _ _ _ _ h => h)
              have l_H_Ha22 : LE H Ha22 := l_H_H21.trans leHa22
              have l_Hl14_Ha22 : LE Hl14 Ha22 := l_Hl14_H21.trans leHa22
              have l_H15_Ha22 : LE H15 Ha22 := l_H15_H21.trans leHa22
              have l_H17_Ha22 : LE H17 Ha22 := l_H17_H21.trans leHa22
              have l_Ha18_Ha22 : LE Ha18 Ha22 := l_Ha18_H21.trans leHa22
              have l_Hl20_Ha22 : LE Hl20 Ha22 := l_Hl20_H21.trans leHa22
              have l_H21_Ha22 : LE H21 Ha22 := leHa22
              refine aps 0 (L' := fun i => i :: _) row141 hs22 rtk_one h ?_ ?_ fun v22 news22 a w hone hnews22 h => ?_
              · have := hlen; simp only [List.length_cons, List.length_append, List.length_nil, laidL, List.flatMap_cons, List.flatMap_nil, Pt.toks] at this ⊢; omega
              · have := hlen; simp only [List.length_cons, List.length_append, List.length_nil, laidL, List.flatMap_cons, List.flatMap_nil, Pt.toks] at this ⊢; omega
              obtain ⟨Ar22, cr22, rfl⟩ := h.rowv 0
              refine br0 ?_
              refine tkl 10 false (by kernel_rfl) ?_
              refine as_ h fun a w h => ?_
              refine tk0 ?_
              refine en (by kernel_rfl) ?_
              refine thN ?_
              refine ret_ ?_
              have h := h.del 1
              have e : (laidL [.mark [40]]).length + t.toks.length + (laidL [.mark [41]]).length = (⟨4, [40], 0⟩ :: (t.toks ++ [⟨4, [41], 0⟩]) : List Tk).length := by simp [laidL, Pt.toks]; omega
              rw [e] at h
              refine fin1 2 0 h l_H_Ha22 ?_
              unfold RowTk Tm.within
              rw [if_neg (by simp only [c5, c10]; decide)]
              exact ⟨_, _, _, rfl, rfl, ((rtkR hr15).app (rtkR hnews18)).app (rtkR hnews22)⟩
          · refine bsl bs204 h fun g20 a w h => ?_
            refine br0 ?_
            refine brl1 4 false (by kernel_rfl) (by kernel_rfl) (fun _ => h.st.sees' (by first | exact LE.rfl | assumption) (by simp)) ?_
            refine cl bod94 (hto _ E H15 _ (hv.mono l_H_H15) (hL.up l_H_H15)) h fun r17 H17 L17 a w le17 R h => ?_
            obtain ⟨A17, c17, xs17, rfl, rfl, hr17⟩ := R
            have l_H_H17 : LE H H17 := l_H_H15.trans le17
            have l_Hl14_H17 : LE Hl14 H17 := l_Hl14_H15.trans le17
            have l_H15_H17 : LE H15 H17 := le17
            refine br0 ?_
            refine brl1 5 true (by kernel_rfl) (by kernel_rfl) (fun _ => h.st.sees' (by first | exact LE.rfl | assumption) (by simp)) ?_
            obtain ⟨Ha18, leHa18, h, hs18⟩ := h.frw 0 (n := (t.toks).length) hr17 rfl (fun _ _ _ _ _ h => h)
            have l_H_Ha18 : LE H Ha18 := l_H_H17.trans leHa18
            have l_Hl14_Ha18 : LE Hl14 Ha18 := l_Hl14_H17.trans leHa18
            have l_H15_Ha18 : LE H15 Ha18 := l_H15_H17.trans leHa18
            have l_H17_Ha18 : LE H17 Ha18 := leHa18
            refine aps 1 (L' := fun i => _ :: i :: _) row141 hs18 rtk_one h ?_ ?_ fun v18 news18 a w hone hnews18 h => ?_
            · have := hlen; simp only [List.length_cons, List.length_append, List.length_nil, laidL, List.flatMap_cons, List.flatMap_nil, Pt.toks] at this ⊢; omega
            · have := hlen; simp only [List.length_cons, List.length_append, List.length_nil, laidL, List.flatMap_cons, List.flatMap_nil, Pt.toks] at this ⊢; omega
            obtain ⟨Ar18, cr18, rfl⟩ := h.rowv 1
            refine br0 ?_
            refine brl1 8 true (by kernel_rfl) (by kernel_rfl) (fun _ => h.st.sees' (by first | exact LE.rfl | assumption) (by simp)) ?_
            obtain ⟨Hl20, leHl20, h, hp20⟩ := h.fsl (α := Pt) (R := RPt) 0 (ys := [.mark [41]]) (.cons1 rfl .nil) (fun _ l _ _ _ hr => rpt_up l hr)
            have l_H_Hl20 : LE H Hl20 := l_H_Ha18.trans leHl20
            have l_Hl14_Hl20 : LE Hl14 Hl20 := l_Hl14_Ha18.trans leHl20
            have l_H15_Hl20 : LE H15 Hl20 := l_H15_Ha18.trans leHl20
            have l_H17_Hl20 : LE H17 Hl20 := l_H17_Ha18.trans leHl20
            have l_Ha18_Hl20 : LE Ha18 Hl20 := leHl20
            refine cl bod123 (laid_ok [.mark [41]] _ E Hl20 _ hp20 (hL.up l_H_Hl20) (fun t ht => by simp at ht) (by decide) (by decide)) h fun r21 H21 L21 a w le21 R h => ?_
            obtain ⟨A21, c21, xs21, rfl, rfl, hr21⟩ := R
            have l_H_H21 : LE H H21 := l_H_Hl20.trans le21
            have l_Hl14_H21 : LE Hl14 H21 := l_Hl14_Hl20.trans le21
            have l_H15_H21 : LE H15 H21 := l_H15_Hl20.trans le21
            have l_H17_H21 : LE H17 H21 := l_H17_Hl20.trans le21
            have l_Ha18_H21 : LE Ha18 H21 := l_Ha18_Hl20.trans le21
            have l_Hl20_H21 : LE Hl20 H21 := le21
            refine br0 ?_
            refine brl1 9 true (by kernel_rfl) (by kernel_rfl) (fun _ => h.st.sees' (by first | exact LE.rfl | assumption) (by simp)) ?_
            obtain ⟨Ha22, leHa22, h, hs22⟩ := h.frw 0 (n := ((laidL [.mark [41]])).length) hr21 rfl (fun _ _ _ _ _ h => h)
            have l_H_Ha22 : LE H Ha22 := l_H_H21.trans leHa22
            have l_Hl14_Ha22 : LE Hl14 Ha22 := l_Hl14_H21.trans leHa22
            have l_H15_Ha22 : LE H15 Ha22 := l_H15_H21.trans leHa22
            have l_H17_Ha22 : LE H17 Ha22 := l_H17_H21.trans leHa22
            have l_Ha18_Ha22 : LE Ha18 Ha22 := l_Ha18_H21.trans leHa22
            have l_Hl20_Ha22 : LE Hl20 Ha22 := l_Hl20_H21.trans leHa22
            have l_H21_Ha22 : LE H21 Ha22 := leHa22
            refine aps 0 (L' := fun i => i :: _) row141 hs22 rtk_one h ?_ ?_ fun v22 news22 a w hone hnews22 h => ?_
            · have := hlen; simp only [List.length_cons, List.length_append, List.length_nil, laidL, List.flatMap_cons, List.flatMap_nil, Pt.toks] at this ⊢; omega
            · have := hlen; simp only [List.length_cons, List.length_append, List.length_nil, laidL, List.flatMap_cons, List.flatMap_nil, Pt.toks] at this ⊢; omega
            obtain ⟨Ar22, cr22, rfl⟩ := h.rowv 0
            refine br0 ?_
            refine tkl 10 false (by kernel_rfl) ?_
            refine as_ h fun a w h => ?_
            refine tk0 ?_
            refine en (by kernel_rfl) ?_
            refine thN ?_
            refine ret_ ?_
            have h := h.del 1
            have e : (laidL [.mark [40]]).length + t.toks.length + (laidL [.mark [41]]).length = (⟨4, [40], 0⟩ :: (t.toks ++ [⟨4, [41], 0⟩]) : List Tk).length := by simp [laidL, Pt.toks]; omega
            rw [e] at h
            refine fin1 2 0 h l_H_Ha22 ?_
            unfold RowTk Tm.within
            rw [if_neg (by simp only [c5, c10]; decide)]
            exact ⟨_, _, _, rfl, rfl, ((rtkR hr15).app (rtkR hnews18)).app (rtkR hnews22)⟩
        · refine bsl bs204 h fun g20 a w h => ?_
          refine br0 ?_
          refine brl1 2 true (by kernel_rfl) (by kernel_rfl) (fun _ => h.st.sees' (by first | exact LE.rfl | assumption) (by simp)) ?_
          obtain ⟨Hl14, leHl14, h, hp14⟩ := h.fsl (α := Pt) (R := RPt) 1 (ys := [.mark [40]]) (.cons1 rfl .nil) (fun _ l _ _ _ hr => rpt_up l hr)
          have l_H_Hl14 : LE H Hl14 := leHl14
          refine cl bod123 (laid_ok [.mark [40]] _ E Hl14 _ hp14 (hL.up l_H_Hl14) (fun t ht => by simp at ht) (by decide) (by decide)) h fun r15 H15 L15 a w le15 R h => ?_
          obtain ⟨A15, c15, xs15, rfl, rfl, hr15⟩ := R
          have l_H_H15 : LE H H15 := l_H_Hl14.trans le15
          have l_Hl14_H15 : LE Hl14 H15 := le15
          refine br0 ?_
          refine brl1 4 false (by kernel_rfl) (by kernel_rfl) (fun _ => h.st.sees' (by first | exact LE.rfl | assumption) (by simp)) ?_
          refine cl bod94 (hto _ E H15 _ (hv.mono l_H_H15) (hL.up l_H_H15)) h fun r17 H17 L17 a w le17 R h => ?_
          obtain ⟨A17, c17, xs17, rfl, rfl, hr17⟩ := R
          have l_H_H17 : LE H H17 := l_H_H15.trans le17
          have l_Hl14_H17 : LE Hl14 H17 := l_Hl14_H15.trans le17
          have l_H15_H17 : LE H15 H17 := le17
          refine br0 ?_
          refine brl1 5 true (by kernel_rfl) (by kernel_rfl) (fun _ => h.st.sees' (by first | exact LE.rfl | assumption) (by simp)) ?_
          obtain ⟨Ha18, leHa18, h, hs18⟩ := h.frw 0 (n := (t.toks).length) hr17 rfl (fun _ _ _ _ _ h => h)
          have l_H_Ha18 : LE H Ha18 := l_H_H17.trans leHa18
          have l_Hl14_Ha18 : LE Hl14 Ha18 := l_Hl14_H17.trans leHa18
          have l_H15_Ha18 : LE H15 Ha18 := l_H15_H17.trans leHa18
          have l_H17_Ha18 : LE H17 Ha18 := leHa18
          refine aps 0 (L' := fun i => i :: _) row141 hs18 rtk_one h ?_ ?_ fun v18 news18 a w hone hnews18 h => ?_
          · have := hlen; simp only [List.length_cons, List.length_append, List.length_nil, laidL, List.flatMap_cons, List.flatMap_nil, Pt.toks] at this ⊢; omega
          · have := hlen; simp only [List.length_cons, List.length_append, List.length_nil, laidL, List.flatMap_cons, List.flatMap_nil, Pt.toks] at this ⊢; omega
          obtain ⟨Ar18, cr18, rfl⟩ := h.rowv 0
          refine br0 ?_
          refine brl1 8 true (by kernel_rfl) (by kernel_rfl) (fun _ => h.st.sees' (by first | exact LE.rfl | assumption) (by simp)) ?_
          obtain ⟨Hl20, leHl20, h, hp20⟩ := h.fsl (α := Pt) (R := RPt) 1 (ys := [.mark [41]]) (.cons1 rfl .nil) (fun _ l _ _ _ hr => rpt_up l hr)
          have l_H_Hl20 : LE H Hl20 := l_H_Ha18.trans leHl20
          have l_Hl14_Hl20 : LE Hl14 Hl20 := l_Hl14_Ha18.trans leHl20
          have l_H15_Hl20 : LE H15 Hl20 := l_H15_Ha18.trans leHl20
          have l_H17_Hl20 : LE H17 Hl20 := l_H17_Ha18.trans leHl20
          have l_Ha18_Hl20 : LE Ha18 Hl20 := leHl20
          refine cl bod123 (laid_ok [.mark [41]] _ E Hl20 _ hp20 (hL.up l_H_Hl20) (fun t ht => by simp at ht) (by decide) (by decide)) h fun r21 H21 L21 a w le21 R h => ?_
          obtain ⟨A21, c21, xs21, rfl, rfl, hr21⟩ := R
          have l_H_H21 : LE H H21 := l_H_Hl20.trans le21
          have l_Hl14_H21 : LE Hl14 H21 := l_Hl14_Hl20.trans le21
          have l_H15_H21 : LE H15 H21 := l_H15_Hl20.trans le21
          have l_H17_H21 : LE H17 H21 := l_H17_Hl20.trans le21
          have l_Ha18_H21 : LE Ha18 H21 := l_Ha18_Hl20.trans le21
          have l_Hl20_H21 : LE Hl20 H21 := le21
          refine br0 ?_
          refine brl1 9 true (by kernel_rfl) (by kernel_rfl) (fun _ => h.st.sees' (by first | exact LE.rfl | assumption) (by simp)) ?_
          obtain ⟨Ha22, leHa22, h, hs22⟩ := h.frw 0 (n := ((laidL [.mark [41]])).length) hr21 rfl (fun _ _ _ _ _ h => h)
          have l_H_Ha22 : LE H Ha22 := l_H_H21.trans leHa22
          have l_Hl14_Ha22 : LE Hl14 Ha22 := l_Hl14_H21.trans leHa22
          have l_H15_Ha22 : LE H15 Ha22 := l_H15_H21.trans leHa22
          have l_H17_Ha22 : LE H17 Ha22 := l_H17_H21.trans leHa22
          have l_Ha18_Ha22 : LE Ha18 Ha22 := l_Ha18_H21.trans leHa22
          have l_Hl20_Ha22 : LE Hl20 Ha22 := l_Hl20_H21.trans leHa22
          have l_H21_Ha22 : LE H21 Ha22 := leHa22
          refine aps 0 (L' := fun i => i :: _) row141 hs22 rtk_one h ?_ ?_ fun v22 news22 a w hone hnews22 h => ?_
          · have := hlen; simp only [List.length_cons, List.length_append, List.length_nil, laidL, List.flatMap_cons, List.flatMap_nil, Pt.toks] at this ⊢; omega
          · have := hlen; simp only [List.length_cons, List.length_append, List.length_nil, laidL, List.flatMap_cons, List.flatMap_nil, Pt.toks] at this ⊢; omega
          obtain ⟨Ar22, cr22, rfl⟩ := h.rowv 0
          refine br0 ?_
          refine tkl 10 false (by kernel_rfl) ?_
          refine as_ h fun a w h => ?_
          refine tk0 ?_
          refine en (by kernel_rfl) ?_
          refine thN ?_
          refine ret_ ?_
          have h := h.del 1
          have e : (laidL [.mark [40]]).length + t.toks.length + (laidL [.mark [41]]).length = (⟨4, [40], 0⟩ :: (t.toks ++ [⟨4, [41], 0⟩]) : List Tk).length := by simp [laidL, Pt.toks]; omega
          rw [e] at h
          refine fin1 2 0 h l_H_Ha22 ?_
          unfold RowTk Tm.within
          rw [if_neg (by simp only [c5, c10]; decide)]
          exact ⟨_, _, _, rfl, rfl, ((rtkR hr15).app (rtkR hnews18)).app (rtkR hnews22)⟩
      · refine bsl bs204 h fun g20 a w h => ?_
        refine br0 ?_
        refine brl1 1 true (by kernel_rfl) (by kernel_rfl) (fun _ => h.st.sees' (by first | exact LE.rfl | assumption) (by simp)) ?_
        refine bsl bs204 h fun g14 a w h => ?_
        refine br0 ?_
        refine brl1 2 true (by kernel_rfl) (by kernel_rfl) (fun _ => h.st.sees' (by first | exact LE.rfl | assumption) (by simp)) ?_
        obtain ⟨Hl14, leHl14, h, hp14⟩ := h.fsl (α := Pt) (R := RPt) 0 (ys := [.mark [40]]) (.cons1 rfl .nil) (fun _ l _ _ _ hr => rpt_up l hr)
        have l_H_Hl14 : LE H Hl14 := leHl14
        refine cl bod123 (laid_ok [.mark [40]] _ E Hl14 _ hp14 (hL.up l_H_Hl14) (fun t ht => by simp at ht) (by decide) (by decide)) h fun r15 H15 L15 a w le15 R h => ?_
        obtain ⟨A15, c15, xs15, rfl, rfl, hr15⟩ := R
        have l_H_H15 : LE H H15 := l_H_Hl14.trans le15
        have l_Hl14_H15 : LE Hl14 H15 := le15
        refine br0 ?_
        refine brl1 4 false (by kernel_rfl) (by kernel_rfl) (fun _ => h.st.sees' (by first | exact LE.rfl | assumption) (by simp)) ?_
        refine cl bod94 (hto _ E H15 _ (hv.mono l_H_H15) (hL.up l_H_H15)) h fun r17 H17 L17 a w le17 R h => ?_
        obtain ⟨A17, c17, xs17, rfl, rfl, hr17⟩ := R
        have l_H_H17 : LE H H17 := l_H_H15.trans le17
        have l_Hl14_H17 : LE Hl14 H17 := l_Hl14_H15.trans le17
        have l_H15_H17 : LE H15 H17 := le17
        refine br0 ?_
        refine brl1 5 true (by kernel_rfl) (by kernel_rfl) (fun _ => h.st.sees' (by first | exact LE.rfl | assumption) (by simp)) ?_
        obtain ⟨Ha18, leHa18, h, hs18⟩ := h.frw 0 (n := (t.toks).length) hr17 rfl (fun _ _ _ _ _ h => h)
        have l_H_Ha18 : LE H Ha18 := l_H_H17.trans leHa18
        have l_Hl14_Ha18 : LE Hl14 Ha18 := l_Hl14_H17.trans leHa18
        have l_H15_Ha18 : LE H15 Ha18 := l_H15_H17.trans leHa18
        have l_H17_Ha18 : LE H17 Ha18 := leHa18
        refine aps 0 (L' := fun i => i :: _) row141 hs18 rtk_one h ?_ ?_ fun v18 news18 a w hone hnews18 h => ?_
        · have := hlen; simp only [List.length_cons, List.length_append, List.length_nil, laidL, List.flatMap_cons, List.flatMap_nil, Pt.toks] at this ⊢; omega
        · have := hlen; simp only [List.length_cons, List.length_append, List.length_nil, laidL, List.flatMap_cons, List.flatMap_nil, Pt.toks] at this ⊢; omega
        obtain ⟨Ar18, cr18, rfl⟩ := h.rowv 0
        refine br0 ?_
        refine brl1 8 true (by kernel_rfl) (by kernel_rfl) (fun _ => h.st.sees' (by first | exact LE.rfl | assumption) (by simp)) ?_
        obtain ⟨Hl20, leHl20, h, hp20⟩ := h.fsl (α := Pt) (R := RPt) 1 (ys := [.mark [41]]) (.cons1 rfl .nil) (fun _ l _ _ _ hr => rpt_up l hr)
        have l_H_Hl20 : LE H Hl20 := l_H_Ha18.trans leHl20
        have l_Hl14_Hl20 : LE Hl14 Hl20 := l_Hl14_Ha18.trans leHl20
        have l_H15_Hl20 : LE H15 Hl20 := l_H15_Ha18.trans leHl20
        have l_H17_Hl20 : LE H17 Hl20 := l_H17_Ha18.trans leHl20
        have l_Ha18_Hl20 : LE Ha18 Hl20 := leHl20
        refine cl bod123 (laid_ok [.mark [41]] _ E Hl20 _ hp20 (hL.up l_H_Hl20) (fun t ht => by simp at ht) (by decide) (by decide)) h fun r21 H21 L21 a w le21 R h => ?_
        obtain ⟨A21, c21, xs21, rfl, rfl, hr21⟩ := R
        have l_H_H21 : LE H H21 := l_H_Hl20.trans le21
        have l_Hl14_H21 : LE Hl14 H21 := l_Hl14_Hl20.trans le21
        have l_H15_H21 : LE H15 H21 := l_H15_Hl20.trans le21
        have l_H17_H21 : LE H17 H21 := l_H17_Hl20.trans le21
        have l_Ha18_H21 : LE Ha18 H21 := l_Ha18_Hl20.trans le21
        have l_Hl20_H21 : LE Hl20 H21 := le21
        refine br0 ?_
        refine brl1 9 true (by kernel_rfl) (by kernel_rfl) (fun _ => h.st.sees' (by first | exact LE.rfl | assumption) (by simp)) ?_
        obtain ⟨Ha22, leHa22, h, hs22⟩ := h.frw 0 (n := ((laidL [.mark [41]])).length) hr21 rfl (fun _ _ _ _ _ h => h)
        have l_H_Ha22 : LE H Ha22 := l_H_H21.trans leHa22
        have l_Hl14_Ha22 : LE Hl14 Ha22 := l_Hl14_H21.trans leHa22
        have l_H15_Ha22 : LE H15 Ha22 := l_H15_H21.trans leHa22
        have l_H17_Ha22 : LE H17 Ha22 := l_H17_H21.trans leHa22
        have l_Ha18_Ha22 : LE Ha18 Ha22 := l_Ha18_H21.trans leHa22
        have l_Hl20_Ha22 : LE Hl20 Ha22 := l_Hl20_H21.trans leHa22
        have l_H21_Ha22 : LE H21 Ha22 := leHa22
        refine aps 0 (L' := fun i => i :: _) row141 hs22 rtk_one h ?_ ?_ fun v22 news22 a w hone hnews22 h => ?_
        · have := hlen; simp only [List.length_cons, List.length_append, List.length_nil, laidL, List.flatMap_cons, List.flatMap_nil, Pt.toks] at this ⊢; omega
        · have := hlen; simp only [List.length_cons, List.length_append, List.length_nil, laidL, List.flatMap_cons, List.flatMap_nil, Pt.toks] at this ⊢; omega
        obtain ⟨Ar22, cr22, rfl⟩ := h.rowv 0
        refine br0 ?_
        refine tkl 10 false (by kernel_rfl) ?_
        refine as_ h fun a w h => ?_
        refine tk0 ?_
        refine en (by kernel_rfl) ?_
        refine thN ?_
        refine ret_ ?_
        have h := h.del 1
        have e : (laidL [.mark [40]]).length + t.toks.length + (laidL [.mark [41]]).length = (⟨4, [40], 0⟩ :: (t.toks ++ [⟨4, [41], 0⟩]) : List Tk).length := by simp [laidL, Pt.toks]; omega
        rw [e] at h
        refine fin1 2 0 h l_H_Ha22 ?_
        unfold RowTk Tm.within
        rw [if_neg (by simp only [c5, c10]; decide)]
        exact ⟨_, _, _, rfl, rfl, ((rtkR hr15).app (rtkR hnews18)).app (rtkR hnews22)⟩
end Go.Proofs.YtindlieilabgfaaGreatDoor
/- Walks: show.toks. -/
set_option linter.unusedVariables false
set_option linter.unusedSimpArgs false
set_option linter.unusedSectionVars false
set_option autoImplicit false
set_option relaxedAutoImplicit false
set_option maxRecDepth 10000
namespace Go.Proofs.YtindlieilabgfaaGreatDoor
open Go X
theorem toks_ok : ∀ (t : Tm), t.wrong = false → t.size ≤ 100000 → ToksOk t := by
  intro t
  induction t using Tm.ind with
  | h kd nm nn ks ih =>
  intro hwr hsz v E H L hv hL
  obtain ⟨A, c, rfl, hks⟩ := hv
  obtain ⟨hnode, hkw⟩ := right_of hwr
  obtain ⟨_, _, _, hn0, hn1⟩ := kids_of_node hnode
  have htl := toks_len (.mk kd nm nn ks)
  simp only [Tm.size] at hsz htl
  have hwi : ∀ x ∈ ks, WithinOk x := fun x hx => within_ok x (ih x hx (hkw x hx) (by have := size_le_sizeL hx; omega)) (by have := toks_len x; have := size_le_sizeL hx; omega)
  have hks : KS H A c ks := hks
  refine enter (N := 153) [(0, _)] Tryz.func94 rfl rfl rfl rfl fun a w h => ?_
  refine sq ?_
  refine rg0 ?_
  refine bxA h fun g1 a w h => ?_
  refine as_ h fun a w h => ?_
  refine nl0 ?_
  refine thN ?_
  refine sq ?_
  refine rg0 ?_
  obtain ⟨Hf, leHf, h, hf1⟩ := h.frz 0
  have l_H_Hf : LE H Hf := leHf
  refine mf h fun a w h => ?_
  refine as_ h fun a w h => ?_
  refine nl0 ?_
  refine thN ?_
  refine sq ?_
  refine rg0 ?_
  refine fa fl24_1 (r := 1) h fun a w h => ?_
  refine ldH t1_9 (Hc.of (LE.rfl _ _ hf1) rfl) h fun a w h => ?_
  refine as_ h fun a w h => ?_
  refine nl0 ?_
  refine thN ?_
  refine sq ?_
  refine sq ?_
  refine rg0 ?_
  refine fa fl24_0 (r := 0) h fun a w h => ?_
  refine ldH t1_3 (Hc.of (LE.rfl _ _ hf1) rfl) h fun a w h => ?_
  refine nl0 ?_
  refine thN ?_
  refine blk ?_
  refine sq ?_
  refine rg0 ?_
  refine eqi h fun a w h => ?_
  refine as_ h fun a w h => ?_
  refine nl0 ?_
  refine thN ?_
  refine cdB h (fun c10 => ?_) (fun c10 => ?_)
  · have ek : kd = 1 := eq_of_beq c10
    have etk := (toks_k hnode).1 ek
    refine sq ?_
    refine rgx [] [] [1, 4] 8 mix h (fun a w h => ?_)
    refine tkl 0 false (by kernel_rfl) ?_
    refine fa fl24_2 (r := 2) h fun a w h => ?_
    refine tk0 ?_
    refine tkl 1 true (by kernel_rfl) ?_
    refine ldHT t1_2 (Hc.of (LE.rfl _ _ hf1) rfl) h fun a w h => ?_
    refine tk0 ?_
    refine tkl 3 false (by kernel_rfl) ?_
    refine fa fl24_2 (r := 2) h fun a w h => ?_
    refine tk0 ?_
    refine tkl 4 true (by kernel_rfl) ?_
    refine ldHT t1_2 (Hc.of (LE.rfl _ _ hf1) rfl) h fun a w h => ?_
    refine tk0 ?_
    refine brl1 2 true (by kernel_rfl) (by kernel_rfl) (fun _ => h.st.sees' (by first | exact LE.rfl | assumption) (by simp)) ?_
    refine cl bod74 (FormatInt_ok nn E Hf _ (hL.up l_H_Hf) (by omega) (by omega)) h fun r14 H14 L14 a w le14 R h => ?_
    obtain ⟨rfl, rfl, rfl⟩ := R
    refine br0 ?_
    refine tkl 5 false (by kernel_rfl) ?_
    refine bdl lay167 zr167 h fun a w h => ?_
    refine tk0 ?_
    refine brl1 6 true (by kernel_rfl) (by kernel_rfl) (fun _ => h.st.sees' (by first | exact LE.rfl | assumption) (by simp)) ?_
    refine bsl bs141 h fun g18 a w h => ?_
    refine br0 ?_
    refine tkl 7 false (by kernel_rfl) ?_
    refine as_ h fun a w h => ?_
    refine tk0 ?_
    refine en (by kernel_rfl) ?_
    refine thN ?_
    refine ret_ ?_
    refine ibR ?_
    refine thR ?_
    have h := h.asRow (sz := 3) (n := 1)
    refine fin1 2 0 h l_H_Hf ?_
    unfold RowTk
    rw [etk]
    exact ⟨_, _, _, rfl, rfl, .one rfl rfl⟩
  · have ne1 : kd ≠ 1 := ne_of_beq_false c10
    refine sq ?_
    refine rg0 ?_
    refine eqi h fun a w h => ?_
    refine as_ h fun a w h => ?_
    refine nl0 ?_
    refine thN ?_
    refine cdB h (fun c19 => ?_) (fun c19 => ?_)
    · have ek : kd = 2 := eq_of_beq c19
      have etk := (toks_k hnode).2.1 ek
      refine sq ?_
      refine rg0 ?_
      refine mv h fun a w h => ?_
      refine mi cnc172 h fun a w h => ?_
      refine bsl bs204 h fun g23 a w h => ?_
      obtain ⟨Hl23, leHl23, h, hp23⟩ := h.fsl (α := Pt) (R := RPt) 0 (ys := [.name nm]) (.cons1 rfl .nil) (fun _ l _ _ _ hr => rpt_up l hr)
      have l_H_Hl23 : LE H Hl23 := l_H_Hf.trans leHl23
      have l_Hf_Hl23 : LE Hf Hl23 := leHl23
      refine cl bod123 (laid_ok [.name nm] _ E Hl23 _ hp23 (hL.up l_H_Hl23) (fun t ht => by simp at ht) (by simp only [List.length_cons, List.length_nil]; omega) (by rw [← etk]; omega)) h fun r24 H24 L24 a w le24 R h => ?_
      obtain ⟨A24, c24, xs24, rfl, rfl, hr24⟩ := R
      have l_H_H24 : LE H H24 := l_H_Hl23.trans le24
      have l_Hf_H24 : LE Hf H24 := l_Hf_Hl23.trans le24
      have l_Hl23_H24 : LE Hl23 H24 := le24
      refine as_ h fun a w h => ?_
      refine nl0 ?_
      refine thN ?_
      refine ret_ ?_
      refine ibR ?_
      refine thR ?_
      refine fin1 2 0 h l_H_H24 ?_
      unfold RowTk
      rw [etk]
      exact ⟨_, _, _, rfl, rfl, hr24⟩
    · have ne2 : kd ≠ 2 := ne_of_beq_false c19
      refine sq ?_
      refine rg0 ?_
      refine eqi h fun a w h => ?_
      refine as_ h fun a w h => ?_
      refine nl0 ?_
      refine thN ?_
      refine cdB h (fun c25 => ?_) (fun c25 => ?_)
      · have ek : kd = 3 := eq_of_beq c25
        obtain ⟨hkl, etk⟩ := (toks_k hnode).2.2.1 ek
        refine sq ?_
        refine rg0 ?_
        refine mi cnc174 h fun a w h => ?_
        refine mv h fun a w h => ?_
        refine mi cnc172 h fun a w h => ?_
        refine mi cnc175 h fun a w h => ?_
        refine mv h fun a w h => ?_
        refine cl bod122 (kid_ok ks 0 (by omega) A c g1 E Hf _ (hks.up l_H_Hf) ((Hc.of hf1 rfl).mono LE.rfl)) h (fun r32 H32 L32 a w le32 R h => ?_)
        obtain ⟨A32, c32, rfl, hk32, rfl, rfl⟩ := R
        refine mi cnc170 h fun a w h => ?_
        refine bsl bs204 h fun g34 a w h => ?_
        obtain ⟨Hl34, leHl34, h, hp34⟩ := h.fsl (α := Pt) (R := RPt) 0 (ys := [.word [102, 117, 110], .name nm, .mark [61, 62], .kid (ks[0]'(by omega))]) (.cons1 rfl (.cons1 rfl (.cons1 rfl (.cons1 ⟨A32, c32, rfl, hk32.up LE.rfl⟩ .nil)))) (fun _ l _ _ _ hr => rpt_up l hr)
        have l_H_Hl34 : LE H Hl34 := l_H_Hf.trans leHl34
        have l_Hf_Hl34 : LE Hf Hl34 := leHl34
        refine cl bod123 (laid_ok [.word [102, 117, 110], .name nm, .mark [61, 62], .kid (ks[0]'(by omega))] _ E Hl34 _ hp34 (hL.up l_H_Hl34) (fun t ht => by simp at ht; subst ht; exact hwi _ (List.getElem_mem _)) (by simp only [List.length_cons, List.length_nil]; omega) (by rw [← etk]; omega)) h fun r35 H35 L35 a w le35 R h => ?_
        obtain ⟨A35, c35, xs35, rfl, rfl, hr35⟩ := R
        have l_H_H35 : LE H H35 := l_H_Hl34.trans le35
        have l_Hf_H35 : LE Hf H35 := l_Hf_Hl34.trans le35
        have l_Hl34_H35 : LE Hl34 H35 := le35
        refine as_ h fun a w h => ?_
        refine nl0 ?_
        refine thN ?_
        refine ret_ ?_
        refine ibR ?_
        refine thR ?_
        refine fin1 2 0 h l_H_H35 ?_
        unfold RowTk
        rw [etk]
        exact ⟨_, _, _, rfl, rfl, hr35⟩
      · have ne3 : kd ≠ 3 := ne_of_beq_false c25
        refine sq ?_
        refine rg0 ?_
        refine eqi h fun a w h => ?_
        refine as_ h fun a w h => ?_
        refine nl0 ?_
        refine thN ?_
        refine cdB h (fun c36 => ?_) (fun c36 => ?_)
        · have ek : kd = 4 := eq_of_beq c36
          obtain ⟨hkl, etk⟩ := (toks_k hnode).2.2.2.1 ek
          refine sq ?_
          refine rg0 ?_
          refine mv h fun a w h => ?_
          refine cl bod122 (kid_ok ks 0 (by omega) A c g1 E Hf _ (hks.up l_H_Hf) ((Hc.of hf1 rfl).mono LE.rfl)) h (fun r39 H39 L39 a w le39 R h => ?_)
          obtain ⟨A39, c39, rfl, hk39, rfl, rfl⟩ := R
          refine mi cnc170 h fun a w h => ?_
          refine mv h fun a w h => ?_
          refine cl bod122 (kid_ok ks 1 (by omega) A c g1 E Hf _ (hks.up l_H_Hf) ((Hc.of hf1 rfl).mono LE.rfl)) h (fun r42 H42 L42 a w le42 R h => ?_)
          obtain ⟨A42, c42, rfl, hk42, rfl, rfl⟩ := R
          refine mi cnc170 h fun a w h => ?_
          refine bsl bs204 h fun g44 a w h => ?_
          obtain ⟨Hl44, leHl44, h, hp44⟩ := h.fsl (α := Pt) (R := RPt) 0 (ys := [.kid (ks[0]'(by omega)), .kid (ks[1]'(by omega))]) (.cons1 ⟨A39, c39, rfl, hk39.up LE.rfl⟩ (.cons1 ⟨A42, c42, rfl, hk42.up LE.rfl⟩ .nil)) (fun _ l _ _ _ hr => rpt_up l hr)
          have l_H_Hl44 : LE H Hl44 := l_H_Hf.trans leHl44
          have l_Hf_Hl44 : LE Hf Hl44 := leHl44
          refine cl bod123 (laid_ok [.kid (ks[0]'(by omega)), .kid (ks[1]'(by omega))] _ E Hl44 _ hp44 (hL.up l_H_Hl44) (fun t ht => by simp at ht; rcases ht with rfl | rfl <;> exact hwi _ (List.getElem_mem _)) (by simp only [List.length_cons, List.length_nil]; omega) (by rw [← etk]; omega)) h fun r45 H45 L45 a w le45 R h => ?_
          obtain ⟨A45, c45, xs45, rfl, rfl, hr45⟩ := R
          have l_H_H45 : LE H H45 := l_H_Hl44.trans le45
          have l_Hf_H45 : LE Hf H45 := l_Hf_Hl44.trans le45
          have l_Hl44_H45 : LE Hl44 H45 := le45
          refine as_ h fun a w h => ?_
          refine nl0 ?_
          refine thN ?_
          refine ret_ ?_
          refine ibR ?_
          refine thR ?_
          refine fin1 2 0 h l_H_H45 ?_
          unfold RowTk
          rw [etk]
          exact ⟨_, _, _, rfl, rfl, hr45⟩
        · have ne4 : kd ≠ 4 := ne_of_beq_false c36
          refine sq ?_
          refine rg0 ?_
          refine eqi h fun a w h => ?_
          refine as_ h fun a w h => ?_
          refine nl0 ?_
          refine thN ?_
          refine cdB h (fun c46 => ?_) (fun c46 => ?_)
          · have ek : kd = 5 := eq_of_beq c46
            obtain ⟨hkl, etk⟩ := (toks_k hnode).2.2.2.2.1 ek
            refine sq ?_
            refine rg0 ?_
            refine mi cnc174 h fun a w h => ?_
            refine mv h fun a w h => ?_
            refine mi cnc172 h fun a w h => ?_
            refine mi cnc175 h fun a w h => ?_
            refine mv h fun a w h => ?_
            refine cl bod122 (kid_ok ks 0 (by omega) A c g1 E Hf _ (hks.up l_H_Hf) ((Hc.of hf1 rfl).mono LE.rfl)) h (fun r53 H53 L53 a w le53 R h => ?_)
            obtain ⟨A53, c53, rfl, hk53, rfl, rfl⟩ := R
            refine mi cnc170 h fun a w h => ?_
            refine mi cnc174 h fun a w h => ?_
            refine mv h fun a w h => ?_
            refine cl bod122 (kid_ok ks 1 (by omega) A c g1 E Hf _ (hks.up l_H_Hf) ((Hc.of hf1 rfl).mono LE.rfl)) h (fun r57 H57 L57 a w le57 R h => ?_)
            obtain ⟨A57, c57, rfl, hk57, rfl, rfl⟩ := R
            refine mi cnc170 h fun a w h => ?_
            refine bsl bs204 h fun g59 a w h => ?_
            obtain ⟨Hl59, leHl59, h, hp59⟩ := h.fsl (α := Pt) (R := RPt) 0 (ys := [.word [108, 101, 116], .name nm, .mark [61], .kid (ks[0]'(by omega)), .word [105, 110], .kid (ks[1]'(by omega))]) (.cons1 rfl (.cons1 rfl (.cons1 rfl (.cons1 ⟨A53, c53, rfl, hk53.up LE.rfl⟩ (.cons1 rfl (.cons1 ⟨A57, c57, rfl, hk57.up LE.rfl⟩ .nil)))))) (fun _ l _ _ _ hr => rpt_up l hr)
            have l_H_Hl59 : LE H Hl59 := l_H_Hf.trans leHl59
            have l_Hf_Hl59 : LE Hf Hl59 := leHl59
            refine cl bod123 (laid_ok [.word [108, 101, 116], .name nm, .mark [61], .kid (ks[0]'(by omega)), .word [105, 110], .kid (ks[1]'(by omega))] _ E Hl59 _ hp59 (hL.up l_H_Hl59) (fun t ht => by simp at ht; rcases ht with rfl | rfl <;> exact hwi _ (List.getElem_mem _)) (by simp only [List.length_cons, List.length_nil]; omega) (by rw [← etk]; omega)) h fun r60 H60 L60 a w le60 R h => ?_
            obtain ⟨A60, c60, xs60, rfl, rfl, hr60⟩ := R
            have l_H_H60 : LE H H60 := l_H_Hl59.trans le60
            have l_Hf_H60 : LE Hf H60 := l_Hf_Hl59.trans le60
            have l_Hl59_H60 : LE Hl59 H60 := le60
            refine as_ h fun a w h => ?_
            refine nl0 ?_
            refine thN ?_
            refine ret_ ?_
            refine ibR ?_
            refine thR ?_
            refine fin1 2 0 h l_H_H60 ?_
            unfold RowTk
            rw [etk]
            exact ⟨_, _, _, rfl, rfl, hr60⟩
          · have ne5 : kd ≠ 5 := ne_of_beq_false c46
            refine sq ?_
            refine rg0 ?_
            refine eqi h fun a w h => ?_
            refine as_ h fun a w h => ?_
            refine nl0 ?_
            refine thN ?_
            refine cdB h (fun c61 => ?_) (fun c61 => ?_)
            · have ek : kd = 6 := eq_of_beq c61
              obtain ⟨hkl, etk⟩ := (toks_k hnode).2.2.2.2.2.1 ek
              refine sq ?_
              refine rg0 ?_
              refine mi cnc174 h fun a w h => ?_
              refine mv h fun a w h => ?_
              refine cl bod122 (kid_ok ks 0 (by omega) A c g1 E Hf _ (hks.up l_H_Hf) ((Hc.of hf1 rfl).mono LE.rfl)) h (fun r65 H65 L65 a w le65 R h => ?_)
              obtain ⟨A65, c65, rfl, hk65, rfl, rfl⟩ := R
              refine mi cnc170 h fun a w h => ?_
              refine mi cnc174 h fun a w h => ?_
              refine mv h fun a w h => ?_
              refine cl bod122 (kid_ok ks 1 (by omega) A c g1 E Hf _ (hks.up l_H_Hf) ((Hc.of hf1 rfl).mono LE.rfl)) h (fun r69 H69 L69 a w le69 R h => ?_)
              obtain ⟨A69, c69, rfl, hk69, rfl, rfl⟩ := R
              refine mi cnc170 h fun a w h => ?_
              refine mi cnc174 h fun a w h => ?_
              refine mv h fun a w h => ?_
              refine cl bod122 (kid_ok ks 2 (by omega) A c g1 E Hf _ (hks.up l_H_Hf) ((Hc.of hf1 rfl).mono LE.rfl)) h (fun r73 H73 L73 a w le73 R h => ?_)
              obtain ⟨A73, c73, rfl, hk73, rfl, rfl⟩ := R
              refine mi cnc170 h fun a w h => ?_
              refine bsl bs204 h fun g75 a w h => ?_
              obtain ⟨Hl75, leHl75, h, hp75⟩ := h.fsl (α := Pt) (R := RPt) 0 (ys := [.word [105, 102], .kid (ks[0]'(by omega)), .word [116, 104, 101, 110], .kid (ks[1]'(by omega)), .word [101, 108, 115, 101], .kid (ks[2]'(by omega))]) (.cons1 rfl (.cons1 ⟨A65, c65, rfl, hk65.up LE.rfl⟩ (.cons1 rfl (.cons1 ⟨A69, c69, rfl, hk69.up LE.rfl⟩ (.cons1 rfl (.cons1 ⟨A73, c73, rfl, hk73.up LE.rfl⟩ .nil)))))) (fun _ l _ _ _ hr => rpt_up l hr)
              have l_H_Hl75 : LE H Hl75 := l_H_Hf.trans leHl75
              have l_Hf_Hl75 : LE Hf Hl75 := leHl75
              refine cl bod123 (laid_ok [.word [105, 102], .kid (ks[0]'(by omega)), .word [116, 104, 101, 110], .kid (ks[1]'(by omega)), .word [101, 108, 115, 101], .kid (ks[2]'(by omega))] _ E Hl75 _ hp75 (hL.up l_H_Hl75) (fun t ht => by simp at ht; rcases ht with rfl | rfl | rfl <;> exact hwi _ (List.getElem_mem _)) (by simp only [List.length_cons, List.length_nil]; omega) (by rw [← etk]; omega)) h fun r76 H76 L76 a w le76 R h => ?_
              obtain ⟨A76, c76, xs76, rfl, rfl, hr76⟩ := R
              have l_H_H76 : LE H H76 := l_H_Hl75.trans le76
              have l_Hf_H76 : LE Hf H76 := l_Hf_Hl75.trans le76
              have l_Hl75_H76 : LE Hl75 H76 := le76
              refine as_ h fun a w h => ?_
              refine nl0 ?_
              refine thN ?_
              refine ret_ ?_
              refine ibR ?_
              refine thR ?_
              refine fin1 2 0 h l_H_H76 ?_
              unfold RowTk
              rw [etk]
              exact ⟨_, _, _, rfl, rfl, hr76⟩
            · have ne6 : kd ≠ 6 := ne_of_beq_false c61
              refine sq ?_
              refine rg0 ?_
              refine eqi h fun a w h => ?_
              refine as_ h fun a w h => ?_
              refine nl0 ?_
              refine thN ?_
              refine cdB h (fun c77 => ?_) (fun c77 => ?_)
              · have ek : kd = 7 := eq_of_beq c77
                obtain ⟨hkl, etk⟩ := (toks_k hnode).2.2.2.2.2.2.1 ek
                refine sq ?_
                refine rg0 ?_
                refine mi cnc174 h fun a w h => ?_
                refine mv h fun a w h => ?_
                refine cl bod122 (kid_ok ks 0 (by omega) A c g1 E Hf _ (hks.up l_H_Hf) ((Hc.of hf1 rfl).mono LE.rfl)) h (fun r81 H81 L81 a w le81 R h => ?_)
                obtain ⟨A81, c81, rfl, hk81, rfl, rfl⟩ := R
                refine mi cnc170 h fun a w h => ?_
                refine mi cnc174 h fun a w h => ?_
                refine mv h fun a w h => ?_
                refine cl bod122 (kid_ok ks 1 (by omega) A c g1 E Hf _ (hks.up l_H_Hf) ((Hc.of hf1 rfl).mono LE.rfl)) h (fun r85 H85 L85 a w le85 R h => ?_)
                obtain ⟨A85, c85, rfl, hk85, rfl, rfl⟩ := R
                refine mi cnc170 h fun a w h => ?_
                refine bsl bs204 h fun g87 a w h => ?_
                obtain ⟨Hl87, leHl87, h, hp87⟩ := h.fsl (α := Pt) (R := RPt) 0 (ys := [.word [119, 104, 105, 108, 101], .kid (ks[0]'(by omega)), .word [100, 111], .kid (ks[1]'(by omega))]) (.cons1 rfl (.cons1 ⟨A81, c81, rfl, hk81.up LE.rfl⟩ (.cons1 rfl (.cons1 ⟨A85, c85, rfl, hk85.up LE.rfl⟩ .nil)))) (fun _ l _ _ _ hr => rpt_up l hr)
                have l_H_Hl87 : LE H Hl87 := l_H_Hf.trans leHl87
                have l_Hf_Hl87 : LE Hf Hl87 := leHl87
                refine cl bod123 (laid_ok [.word [119, 104, 105, 108, 101], .kid (ks[0]'(by omega)), .word [100, 111], .kid (ks[1]'(by omega))] _ E Hl87 _ hp87 (hL.up l_H_Hl87) (fun t ht => by simp at ht; rcases ht with rfl | rfl <;> exact hwi _ (List.getElem_mem _)) (by simp only [List.length_cons, List.length_nil]; omega) (by rw [← etk]; omega)) h fun r88 H88 L88 a w le88 R h => ?_
                obtain ⟨A88, c88, xs88, rfl, rfl, hr88⟩ := R
                have l_H_H88 : LE H H88 := l_H_Hl87.trans le88
                have l_Hf_H88 : LE Hf H88 := l_Hf_Hl87.trans le88
                have l_Hl87_H88 : LE Hl87 H88 := le88
                refine as_ h fun a w h => ?_
                refine nl0 ?_
                refine thN ?_
                refine ret_ ?_
                refine ibR ?_
                refine thR ?_
                refine fin1 2 0 h l_H_H88 ?_
                unfold RowTk
                rw [etk]
                exact ⟨_, _, _, rfl, rfl, hr88⟩
              · have ne7 : kd ≠ 7 := ne_of_beq_false c77
                refine sq ?_
                refine rg0 ?_
                refine eqi h fun a w h => ?_
                refine as_ h fun a w h => ?_
                refine nl0 ?_
                refine thN ?_
                refine cdB h (fun c89 => ?_) (fun c89 => ?_)
                · have ek : kd = 8 := eq_of_beq c89
                  obtain ⟨hkl, etk⟩ := (toks_k hnode).2.2.2.2.2.2.2.1 ek
                  refine sq ?_
                  refine rg0 ?_
                  refine mi cnc174 h fun a w h => ?_
                  refine mv h fun a w h => ?_
                  refine cl bod122 (kid_ok ks 0 (by omega) A c g1 E Hf _ (hks.up l_H_Hf) ((Hc.of hf1 rfl).mono LE.rfl)) h (fun r93 H93 L93 a w le93 R h => ?_)
                  obtain ⟨A93, c93, rfl, hk93, rfl, rfl⟩ := R
                  refine mi cnc170 h fun a w h => ?_
                  refine bsl bs204 h fun g95 a w h => ?_
                  obtain ⟨Hl95, leHl95, h, hp95⟩ := h.fsl (α := Pt) (R := RPt) 0 (ys := [.word [114, 97, 105, 115, 101], .kid (ks[0]'(by omega))]) (.cons1 rfl (.cons1 ⟨A93, c93, rfl, hk93.up LE.rfl⟩ .nil)) (fun _ l _ _ _ hr => rpt_up l hr)
                  have l_H_Hl95 : LE H Hl95 := l_H_Hf.trans leHl95
                  have l_Hf_Hl95 : LE Hf Hl95 := leHl95
                  refine cl bod123 (laid_ok [.word [114, 97, 105, 115, 101], .kid (ks[0]'(by omega))] _ E Hl95 _ hp95 (hL.up l_H_Hl95) (fun t ht => by simp at ht; subst ht; exact hwi _ (List.getElem_mem _)) (by simp only [List.length_cons, List.length_nil]; omega) (by rw [← etk]; omega)) h fun r96 H96 L96 a w le96 R h => ?_
                  obtain ⟨A96, c96, xs96, rfl, rfl, hr96⟩ := R
                  have l_H_H96 : LE H H96 := l_H_Hl95.trans le96
                  have l_Hf_H96 : LE Hf H96 := l_Hf_Hl95.trans le96
                  have l_Hl95_H96 : LE Hl95 H96 := le96
                  refine as_ h fun a w h => ?_
                  refine nl0 ?_
                  refine thN ?_
                  refine ret_ ?_
                  refine ibR ?_
                  refine thR ?_
                  refine fin1 2 0 h l_H_H96 ?_
                  unfold RowTk
                  rw [etk]
                  exact ⟨_, _, _, rfl, rfl, hr96⟩
                · have ne8 : kd ≠ 8 := ne_of_beq_false c89
                  refine sq ?_
                  refine rg0 ?_
                  refine eqi h fun a w h => ?_
                  refine as_ h fun a w h => ?_
                  refine nl0 ?_
                  refine thN ?_
                  refine cdB h (fun c97 => ?_) (fun c97 => ?_)
                  · have ek : kd = 9 := eq_of_beq c97
                    obtain ⟨hkl, etk⟩ := (toks_k hnode).2.2.2.2.2.2.2.2.1 ek
                    refine sq ?_
                    refine rg0 ?_
                    refine mi cnc174 h fun a w h => ?_
                    refine mv h fun a w h => ?_
                    refine cl bod122 (kid_ok ks 0 (by omega) A c g1 E Hf _ (hks.up l_H_Hf) ((Hc.of hf1 rfl).mono LE.rfl)) h (fun r101 H101 L101 a w le101 R h => ?_)
                    obtain ⟨A101, c101, rfl, hk101, rfl, rfl⟩ := R
                    refine mi cnc170 h fun a w h => ?_
                    refine mi cnc174 h fun a w h => ?_
                    refine mv h fun a w h => ?_
                    refine mi cnc172 h fun a w h => ?_
                    refine mi cnc175 h fun a w h => ?_
                    refine mv h fun a w h => ?_
                    refine cl bod122 (kid_ok ks 1 (by omega) A c g1 E Hf _ (hks.up l_H_Hf) ((Hc.of hf1 rfl).mono LE.rfl)) h (fun r108 H108 L108 a w le108 R h => ?_)
                    obtain ⟨A108, c108, rfl, hk108, rfl, rfl⟩ := R
                    refine mi cnc170 h fun a w h => ?_
                    refine bsl bs204 h fun g110 a w h => ?_
                    obtain ⟨Hl110, leHl110, h, hp110⟩ := h.fsl (α := Pt) (R := RPt) 0 (ys := [.word [116, 114, 121], .kid (ks[0]'(by omega)), .word [119, 105, 116, 104], .name nm, .mark [61, 62], .kid (ks[1]'(by omega))]) (.cons1 rfl (.cons1 ⟨A101, c101, rfl, hk101.up LE.rfl⟩ (.cons1 rfl (.cons1 rfl (.cons1 rfl (.cons1 ⟨A108, c108, rfl, hk108.up LE.rfl⟩ .nil)))))) (fun _ l _ _ _ hr => rpt_up l hr)
                    have l_H_Hl110 : LE H Hl110 := l_H_Hf.trans leHl110
                    have l_Hf_Hl110 : LE Hf Hl110 := leHl110
                    refine cl bod123 (laid_ok [.word [116, 114, 121], .kid (ks[0]'(by omega)), .word [119, 105, 116, 104], .name nm, .mark [61, 62], .kid (ks[1]'(by omega))] _ E Hl110 _ hp110 (hL.up l_H_Hl110) (fun t ht => by simp at ht; rcases ht with rfl | rfl <;> exact hwi _ (List.getElem_mem _)) (by simp only [List.length_cons, List.length_nil]; omega) (by rw [← etk]; omega)) h fun r111 H111 L111 a w le111 R h => ?_
                    obtain ⟨A111, c111, xs111, rfl, rfl, hr111⟩ := R
                    have l_H_H111 : LE H H111 := l_H_Hl110.trans le111
                    have l_Hf_H111 : LE Hf H111 := l_Hf_Hl110.trans le111
                    have l_Hl110_H111 : LE Hl110 H111 := le111
                    refine as_ h fun a w h => ?_
                    refine nl0 ?_
                    refine thN ?_
                    refine ret_ ?_
                    refine ibR ?_
                    refine thR ?_
                    refine fin1 2 0 h l_H_H111 ?_
                    unfold RowTk
                    rw [etk]
                    exact ⟨_, _, _, rfl, rfl, hr111⟩
                  · have ne9 : kd ≠ 9 := ne_of_beq_false c97
                    refine sq ?_
                    refine rg0 ?_
                    refine eqi h fun a w h => ?_
                    refine as_ h fun a w h => ?_
                    refine nl0 ?_
                    refine thN ?_
                    refine cdB h (fun c112 => ?_) (fun c112 => ?_)
                    · have ek : kd = 10 := eq_of_beq c112
                      obtain ⟨hkl, etk⟩ := (toks_k hnode).2.2.2.2.2.2.2.2.2.1 ek
                      refine sq ?_
                      refine rg0 ?_
                      refine mi cnc175 h fun a w h => ?_
                      refine mv h fun a w h => ?_
                      refine cl bod122 (kid_ok ks 0 (by omega) A c g1 E Hf _ (hks.up l_H_Hf) ((Hc.of hf1 rfl).mono LE.rfl)) h (fun r116 H116 L116 a w le116 R h => ?_)
                      obtain ⟨A116, c116, rfl, hk116, rfl, rfl⟩ := R
                      refine mi cnc170 h fun a w h => ?_
                      refine bsl bs204 h fun g118 a w h => ?_
                      obtain ⟨Hl118, leHl118, h, hp118⟩ := h.fsl (α := Pt) (R := RPt) 0 (ys := [.mark [33], .kid (ks[0]'(by omega))]) (.cons1 rfl (.cons1 ⟨A116, c116, rfl, hk116.up LE.rfl⟩ .nil)) (fun _ l _ _ _ hr => rpt_up l hr)
                      have l_H_Hl118 : LE H Hl118 := l_H_Hf.trans leHl118
                      have l_Hf_Hl118 : LE Hf Hl118 := leHl118
                      refine cl bod123 (laid_ok [.mark [33], .kid (ks[0]'(by omega))] _ E Hl118 _ hp118 (hL.up l_H_Hl118) (fun t ht => by simp at ht; subst ht; exact hwi _ (List.getElem_mem _)) (by simp only [List.length_cons, List.length_nil]; omega) (by rw [← etk]; omega)) h fun r119 H119 L119 a w le119 R h => ?_
                      obtain ⟨A119, c119, xs119, rfl, rfl, hr119⟩ := R
                      have l_H_H119 : LE H H119 := l_H_Hl118.trans le119
                      have l_Hf_H119 : LE Hf H119 := l_Hf_Hl118.trans le119
                      have l_Hl118_H119 : LE Hl118 H119 := le119
                      refine as_ h fun a w h => ?_
                      refine nl0 ?_
                      refine thN ?_
                      refine ret_ ?_
                      refine ibR ?_
                      refine thR ?_
                      refine fin1 2 0 h l_H_H119 ?_
                      unfold RowTk
                      rw [etk]
                      exact ⟨_, _, _, rfl, rfl, hr119⟩
                    · have ne10 : kd ≠ 10 := ne_of_beq_false c112
                      refine sq ?_
                      refine rg0 ?_
                      refine eqi h fun a w h => ?_
                      refine as_ h fun a w h => ?_
                      refine nl0 ?_
                      refine thN ?_
                      refine cdB h (fun c120 => ?_) (fun c120 => ?_)
                      · have ek : kd = 11 := eq_of_beq c120
                        obtain ⟨hkl, etk⟩ := (toks_k hnode).2.2.2.2.2.2.2.2.2.2.1 ek
                        refine sq ?_
                        refine rg0 ?_
                        refine mv h fun a w h => ?_
                        refine cl bod122 (kid_ok ks 0 (by omega) A c g1 E Hf _ (hks.up l_H_Hf) ((Hc.of hf1 rfl).mono LE.rfl)) h (fun r123 H123 L123 a w le123 R h => ?_)
                        obtain ⟨A123, c123, rfl, hk123, rfl, rfl⟩ := R
                        refine mi cnc170 h fun a w h => ?_
                        refine mi cnc175 h fun a w h => ?_
                        refine mv h fun a w h => ?_
                        refine cl bod122 (kid_ok ks 1 (by omega) A c g1 E Hf _ (hks.up l_H_Hf) ((Hc.of hf1 rfl).mono LE.rfl)) h (fun r127 H127 L127 a w le127 R h => ?_)
                        obtain ⟨A127, c127, rfl, hk127, rfl, rfl⟩ := R
                        refine mi cnc170 h fun a w h => ?_
                        refine bsl bs204 h fun g129 a w h => ?_
                        obtain ⟨Hl129, leHl129, h, hp129⟩ := h.fsl (α := Pt) (R := RPt) 0 (ys := [.kid (ks[0]'(by omega)), .mark [58, 61], .kid (ks[1]'(by omega))]) (.cons1 ⟨A123, c123, rfl, hk123.up LE.rfl⟩ (.cons1 rfl (.cons1 ⟨A127, c127, rfl, hk127.up LE.rfl⟩ .nil))) (fun _ l _ _ _ hr => rpt_up l hr)
                        have l_H_Hl129 : LE H Hl129 := l_H_Hf.trans leHl129
                        have l_Hf_Hl129 : LE Hf Hl129 := leHl129
                        refine cl bod123 (laid_ok [.kid (ks[0]'(by omega)), .mark [58, 61], .kid (ks[1]'(by omega))] _ E Hl129 _ hp129 (hL.up l_H_Hl129) (fun t ht => by simp at ht; rcases ht with rfl | rfl <;> exact hwi _ (List.getElem_mem _)) (by simp only [List.length_cons, List.length_nil]; omega) (by rw [← etk]; omega)) h fun r130 H130 L130 a w le130 R h => ?_
                        obtain ⟨A130, c130, xs130, rfl, rfl, hr130⟩ := R
                        have l_H_H130 : LE H H130 := l_H_Hl129.trans le130
                        have l_Hf_H130 : LE Hf H130 := l_Hf_Hl129.trans le130
                        have l_Hl129_H130 : LE Hl129 H130 := le130
                        refine as_ h fun a w h => ?_
                        refine nl0 ?_
                        refine thN ?_
                        refine ret_ ?_
                        refine ibR ?_
                        refine thR ?_
                        refine fin1 2 0 h l_H_H130 ?_
                        unfold RowTk
                        rw [etk]
                        exact ⟨_, _, _, rfl, rfl, hr130⟩
                      · have ne11 : kd ≠ 11 := ne_of_beq_false c120
                        refine sq ?_
                        refine rg0 ?_
                        refine eqi h fun a w h => ?_
                        refine as_ h fun a w h => ?_
                        refine nl0 ?_
                        refine thN ?_
                        refine cdB h (fun c131 => ?_) (fun c131 => ?_)
                        · have ek : kd = 12 := eq_of_beq c131
                          obtain ⟨hkl, etk⟩ := (toks_k hnode).2.2.2.2.2.2.2.2.2.2.2.1 ek
                          refine sq ?_
                          refine rgx [] [] [4] 12 mix h (fun a w h => ?_)
                          refine tkl 0 false (by kernel_rfl) ?_
                          refine mv h fun a w h => ?_
                          refine tk0 ?_
                          refine tkl 3 false (by kernel_rfl) ?_
                          refine fa fl24_1 (r := 1) h fun a w h => ?_
                          refine tk0 ?_
                          refine tkl 4 true (by kernel_rfl) ?_
                          refine ldHT t1_9 (Hc.of (LE.rfl _ _ hf1) rfl) h fun a w h => ?_
                          refine tk0 ?_
                          refine tkl 5 false (by kernel_rfl) ?_
                          refine mi cnc175 h fun a w h => ?_
                          refine tk0 ?_
                          refine tkl 6 false (by kernel_rfl) ?_
                          refine mv h fun a w h => ?_
                          refine tk0 ?_
                          refine brl1 1 true (by kernel_rfl) (by kernel_rfl) (fun _ => h.st.sees' (by first | exact LE.rfl | assumption) (by simp)) ?_
                          refine cl bod122 (kid_ok ks 0 (by omega) A c g1 E Hf _ (hks.up l_H_Hf) ((Hc.of hf1 rfl).mono LE.rfl)) h (fun r134 H134 L134 a w le134 R h => ?_) (hS := fun _ _ _ _ _ le R hw => by obtain ⟨_, _, _, _, rfl, rfl⟩ := R; exact hw.sees' (by first | exact le | exact LE.trans (by assumption) le) (by simp))
                          obtain ⟨A134, c134, rfl, hk134, rfl, rfl⟩ := R
                          refine br0 ?_
                          refine tkl 2 false (by kernel_rfl) ?_
                          refine mi cnc170 h fun a w h => ?_
                          refine tk0 ?_
                          refine brl1 7 true (by kernel_rfl) (by kernel_rfl) (fun _ => h.st.sees' (by first | exact LE.rfl | assumption) (by simp)) ?_
                          refine cl bod122 (kid_ok ks 1 (by omega) A c g1 E Hf _ (hks.up l_H_Hf) ((Hc.of hf1 rfl).mono LE.rfl)) h (fun r140 H140 L140 a w le140 R h => ?_) (hS := fun _ _ _ _ _ le R hw => by obtain ⟨_, _, _, _, rfl, rfl⟩ := R; exact hw.sees' (by first | exact le | exact LE.trans (by assumption) le) (by simp))
                          obtain ⟨A140, c140, rfl, hk140, rfl, rfl⟩ := R
                          refine br0 ?_
                          refine tkl 8 false (by kernel_rfl) ?_
                          refine mi cnc170 h fun a w h => ?_
                          refine tk0 ?_
                          refine brl1 9 true (by kernel_rfl) (by kernel_rfl) (fun _ => h.st.sees' (by first | exact LE.rfl | assumption) (by simp)) ?_
                          refine bsl bs204 h fun g142 a w h => ?_
                          refine br0 ?_
                          refine brl1 10 true (by kernel_rfl) (by kernel_rfl) (fun _ => h.st.sees' (by first | exact LE.rfl | assumption) (by simp)) ?_
                          obtain ⟨Hl142, leHl142, h, hp142⟩ := h.fsl (α := Pt) (R := RPt) 0 (ys := [.kid (ks[0]'(by omega)), .mark nm, .kid (ks[1]'(by omega))]) (.cons1 ⟨A134, c134, rfl, hk134.up LE.rfl⟩ (.cons1 rfl (.cons1 ⟨A140, c140, rfl, hk140.up LE.rfl⟩ .nil))) (fun _ l _ _ _ hr => rpt_up l hr)
                          have l_H_Hl142 : LE H Hl142 := l_H_Hf.trans leHl142
                          have l_Hf_Hl142 : LE Hf Hl142 := leHl142
                          refine cl bod123 (laid_ok [.kid (ks[0]'(by omega)), .mark nm, .kid (ks[1]'(by omega))] _ E Hl142 _ hp142 (hL.up l_H_Hl142) (fun t ht => by simp at ht; rcases ht with rfl | rfl <;> exact hwi _ (List.getElem_mem _)) (by simp only [List.length_cons, List.length_nil]; omega) (by rw [← etk]; omega)) h fun r143 H143 L143 a w le143 R h => ?_
                          obtain ⟨A143, c143, xs143, rfl, rfl, hr143⟩ := R
                          have l_H_H143 : LE H H143 := l_H_Hl142.trans le143
                          have l_Hf_H143 : LE Hf H143 := l_Hf_Hl142.trans le143
                          have l_Hl142_H143 : LE Hl142 H143 := le143
                          refine br0 ?_
                          refine tkl 11 false (by kernel_rfl) ?_
                          refine as_ h fun a w h => ?_
                          refine tk0 ?_
                          refine en (by kernel_rfl) ?_
                          refine thN ?_
                          refine ret_ ?_
                          refine ibR ?_
                          refine thR ?_
                          refine fin1 2 0 h l_H_H143 ?_
                          unfold RowTk
                          rw [etk]
                          exact ⟨_, _, _, rfl, rfl, hr143⟩
                        · have ne12 : kd ≠ 12 := ne_of_beq_false c131
                          refine sk_ ?_
                          refine ibN ?_
                          refine thN ?_
                          refine sq ?_
                          refine rg0 ?_
                          obtain ⟨hkl, etk⟩ := (toks_k hnode).2.2.2.2.2.2.2.2.2.2.2.2 ne1 ne2 ne3 ne4 ne5 ne6 ne7 ne8 ne9 ne10 ne11 ne12
                          refine mv h fun a w h => ?_
                          refine cl bod122 (kid_ok ks 0 (by omega) A c g1 E Hf _ (hks.up l_H_Hf) ((Hc.of hf1 rfl).mono LE.rfl)) h (fun r145 H145 L145 a w le145 R h => ?_)
                          obtain ⟨A145, c145, rfl, hk145, rfl, rfl⟩ := R
                          refine mi cnc170 h fun a w h => ?_
                          refine mi cnc175 h fun a w h => ?_
                          refine mv h fun a w h => ?_
                          refine cl bod122 (kid_ok ks 1 (by omega) A c g1 E Hf _ (hks.up l_H_Hf) ((Hc.of hf1 rfl).mono LE.rfl)) h (fun r149 H149 L149 a w le149 R h => ?_)
                          obtain ⟨A149, c149, rfl, hk149, rfl, rfl⟩ := R
                          refine mi cnc170 h fun a w h => ?_
                          refine bsl bs204 h fun g151 a w h => ?_
                          obtain ⟨Hl151, leHl151, h, hp151⟩ := h.fsl (α := Pt) (R := RPt) 0 (ys := [.kid (ks[0]'(by omega)), .mark [59], .kid (ks[1]'(by omega))]) (.cons1 ⟨A145, c145, rfl, hk145.up LE.rfl⟩ (.cons1 rfl (.cons1 ⟨A149, c149, rfl, hk149.up LE.rfl⟩ .nil))) (fun _ l _ _ _ hr => rpt_up l hr)
                          have l_H_Hl151 : LE H Hl151 := l_H_Hf.trans leHl151
                          have l_Hf_Hl151 : LE Hf Hl151 := leHl151
                          refine cl bod123 (laid_ok [.kid (ks[0]'(by omega)), .mark [59], .kid (ks[1]'(by omega))] _ E Hl151 _ hp151 (hL.up l_H_Hl151) (fun t ht => by simp at ht; rcases ht with rfl | rfl <;> exact hwi _ (List.getElem_mem _)) (by simp only [List.length_cons, List.length_nil]; omega) (by rw [← etk]; omega)) h fun r152 H152 L152 a w le152 R h => ?_
                          obtain ⟨A152, c152, xs152, rfl, rfl, hr152⟩ := R
                          have l_H_H152 : LE H H152 := l_H_Hl151.trans le152
                          have l_Hf_H152 : LE Hf H152 := l_Hf_Hl151.trans le152
                          have l_Hl151_H152 : LE Hl151 H152 := le152
                          refine as_ h fun a w h => ?_
                          refine nl0 ?_
                          refine thN ?_
                          refine ret_ ?_
                          refine fin1 2 0 h l_H_H152 ?_
                          unfold RowTk
                          rw [etk]
                          exact ⟨_, _, _, rfl, rfl, hr152⟩
end Go.Proofs.YtindlieilabgfaaGreatDoor
/- Walks: show.Show. -/
set_option linter.unusedVariables false
set_option linter.unusedSimpArgs false
set_option linter.unusedSectionVars false
set_option autoImplicit false
set_option relaxedAutoImplicit false
set_option maxRecDepth 10000
namespace Go.Proofs.YtindlieilabgfaaGreatDoor
open Go X
theorem right_iff {t : Tm} (h : t.right = true) : t.depth ≤ 200 ∧ t.size ≤ 10000 ∧ t.wrong = false := by
  unfold Tm.right at h
  simp only [Bool.and_eq_true, decide_eq_true_eq, Bool.not_eq_true'] at h
  exact ⟨by omega, by omega, h.2.2⟩
theorem Show_ok (t : Tm) (v : Value) (E : World) (H : GH) (L : List It) (hv : VT H v t) (hL : Laid H) (hlg : t.long < 1000000000000) (hsz : t.size < 1000000000000) (hjoin : t.right = true → (Lib.join (t.toks.map (·.text)) [32]).length ≤ 140737488355328) : Ok Tryz.prog 75 #[v] E H L fun r H' L' => r = str t.show' ∧ H = H' ∧ L = L' := by
  have hv0 := hv
  obtain ⟨A, c, rfl, hks⟩ := hv
  have hv := hv0
  refine enter (N := 9) [(0, _)] Tryz.func75 rfl rfl rfl rfl fun a w h => ?_
  refine sq ?_
  refine rg0 ?_
  refine bxA h fun g1 a w h => ?_
  refine as_ h fun a w h => ?_
  refine nl0 ?_
  refine thN ?_
  refine sq ?_
  refine sq ?_
  refine rg0 ?_
  refine ldW 0 tN24 h fun a w h => ?_
  refine cl bod91 (Right_ok t _ E H _ hv hL hlg hsz) h fun r4 H4 L4 a w le4 R h => ?_
  obtain ⟨rfl, rfl, rfl⟩ := R
  refine nt h fun a w h => ?_
  refine nl0 ?_
  refine thN ?_
  refine cdB h (fun c5 => ?_) (fun c5 => ?_)
  · have c4 : t.right = false := by simpa using c5
    refine sq ?_
    refine rg0 ?_
    refine as_ h fun a w h => ?_
    refine nl0 ?_
    refine thN ?_
    refine ret_ ?_
    refine thR ?_
    have h := h.del 0
    refine fin1 2 0 (h.less LE.rfl) LE.rfl ?_
    unfold Tm.show'
    exact ⟨by rw [c4]; rfl, rfl, rfl⟩
  · have c4 : t.right = true := by simpa using c5
    obtain ⟨hs1, hs2, hs3⟩ := right_iff c4
    have htl := toks_len t
    have hjl := hjoin c4
    refine sk_ ?_
    refine thN ?_
    refine sq ?_
    refine rg0 ?_
    refine ldW 0 tN24 h fun a w h => ?_
    refine cl bod94 (toks_ok t hs3 (by omega) _ E H _ (hv.mono LE.rfl) (hL.up LE.rfl)) h fun r7 H7 L7 a w le7 R h => ?_
    obtain ⟨A7, c7, xs7, rfl, rfl, hr7⟩ := R
    have l_H_H7 : LE H H7 := le7
    obtain ⟨Hs, leHs, h, hrs⟩ := h.frw 0 (n := t.toks.length) hr7 rfl (fun _ _ _ _ _ h => h)
    have l_H_Hs : LE H Hs := l_H_H7.trans leHs
    have l_H7_Hs : LE H7 Hs := leHs
    refine cl bod93 (Print_ok t.toks _ E Hs _ hrs (by omega) hjl) h fun r8 H8 L8 a w le8 R h => ?_
    obtain ⟨rfl, rfl, rfl⟩ := R
    refine as_ h fun a w h => ?_
    refine nl0 ?_
    refine thN ?_
    refine ret_ ?_
    have h := h.del 0
    refine fin1 2 0 (h.less l_H_Hs) LE.rfl ?_
    unfold Tm.show'
    exact ⟨by rw [c4]; rfl, rfl, rfl⟩
end Go.Proofs.YtindlieilabgfaaGreatDoor
/- Walks: prog.Print, Right. -/
set_option linter.unusedVariables false
set_option linter.unusedSimpArgs false
set_option linter.unusedSectionVars false
set_option autoImplicit false
set_option relaxedAutoImplicit false
set_option maxRecDepth 10000
namespace Go.Proofs.YtindlieilabgfaaGreatDoor
open Go X
def apd (a b : Bs) : Bs := match b with
  | [] => a
  | _ => a ++ b
theorem apd_eq (a b : Bs) : apd a b = a ++ b := by cases b <;> simp [apd]
theorem catB {P : Program} {ops : Array Oper} {Q : Exit → Act → World → Prop} {γ : Gd P ops Q} {rest : List Oper} {o : Oper} {E w : World} {H : GH} {N : Nat} {D : List Deferred} {F : List (Nat × Value)} {L : List It} {a : Act}
    {t u : TypeId} {x y : Operand} {d : Nat} {s s' : List UInt8} (h : S E H N D F L a w) (hl : s.length + s'.length ≤ 100000000000000) (k : ∀ a w, S E H N D ((d, .string ⟨(s ++ s').toArray⟩) :: F) L a w → γ.G rest a w)
    (ho : o.op = .binOp .add t x y u := by rfl) (hx : ev F x = some (.string ⟨s.toArray⟩) := by rfl) (hy : ev F y = some (.string ⟨s'.toArray⟩) := by rfl)
    (hw : wn ops F o = some true := by rfl) (hd : o.dst = some d := by rfl) (hN : Nat.blt d N = true := by rfl) : γ.G (o :: rest) a w := cat h k hl ho hx hy hw hd hN
theorem PrintP_ok (p : Pg) (v : Value) (E : World) (H : GH) (L : List It) (hv : VP H v p) (hL : Laid H) (hb : Mild p) : Ok Tryz.prog 57 #[v] E H L fun r H' L' => r = str p.print ∧ H = H' ∧ L = L' := by
  have hv0 := hv
  obtain ⟨A1, c1, A2, c2, A3, c3, A4, c4, rfl, hi, hc, hd, hk⟩ := hv
  have hv := hv0
  refine enter (N := 83) [(0, _)] Tryz.func57 rfl rfl rfl rfl fun a w h => ?_
  refine sq ?_
  refine rg0 ?_
  refine bxA h fun g1 a w h => ?_
  refine as_ h fun a w h => ?_
  refine nl0 ?_
  refine thN ?_
  refine sq ?_
  refine sq ?_
  refine rg0 ?_
  obtain ⟨Hf, leHf, h, hf1⟩ := h.frz 0
  have l_H_Hf : LE H Hf := leHf
  have hL := hL.up l_H_Hf
  have hv := hv.mono l_H_Hf
  have hi := hi.up l_H_Hf
  have hc := hc.up l_H_Hf
  have hd := hd.up l_H_Hf
  have hk := hk.up l_H_Hf
  refine ldHN tN28 rfl (Hc.all (LE.rfl _ _ hf1)) h fun a w h => ?_
  refine cl bod73 (fits_ok p _ E Hf _ hv hL hb) h fun r11 H11 L11 a w le11 R h => ?_
  obtain ⟨rfl, rfl, rfl⟩ := R
  refine nt h fun a w h => ?_
  refine nl0 ?_
  refine thN ?_
  refine cdB h (fun c12 => ?_) (fun c12 => ?_)
  · have hfit : p.fits = false := by simpa using c12
    have e0 : p.print = [] := by unfold Pg.print; rw [if_neg (by rw [hfit]; simp)]
    refine sq ?_
    refine rg0 ?_
    refine as_ h fun a w h => ?_
    refine nl0 ?_
    refine thN ?_
    refine ret_ ?_
    refine thR ?_
    refine fin1 2 0 (h.less l_H_Hf) LE.rfl ?_
    exact ⟨by first | (rw [e0]; done) | (rw [e0]; rfl), rfl, rfl⟩
  · have hfit : p.fits = true := by simpa using c12
    obtain ⟨hl1, hl2, hl3, hw1, hw2, hw3, hbr⟩ := fits_of hfit
    have q1 := flat_take_len (f := Dc.inL) (fun d hd => inL_len (hw1 d hd).1) hl1
    have q2 := flat_take_len (f := Dc.cellL) (fun d hd => cellL_len (hw2 d hd)) hl2
    have q3 := flat_take_len (f := Df.line) (fun d hd => line_len (hw3 d hd)) hl3
    have q1a := q1 p.inputs.length
    have q2a := q2 p.cells.length
    have q3a := q3 p.defs.length
    rw [List.take_length] at q1a q2a q3a
    have q4 := show'_le p.body
    refine sk_ ?_
    refine thN ?_
    refine sq ?_
    refine rg0 ?_
    refine as_ h fun a w h => ?_
    refine nl0 ?_
    refine thN ?_
    refine sq ?_
    refine sq ?_
    refine rg0 ?_
    refine fa fl28_0 (r := 0) h fun a w h => ?_
    refine ldH t1_25 (Hc.of (LE.rfl _ _ hf1) rfl) h fun a w h => ?_
    refine ln sli25 h fun a w h => ?_
    refine mv h fun a w h => ?_
    refine nl0 ?_
    refine thN ?_
    refine blk ?_
    refine lp (β := Nat) (fun k a w => (k ≤ p.inputs.length) ∧ S E Hf 83 [] [(16, .int .i64 (k : Int)), (15, .int .i64 (p.inputs.length : Int)), (14, .slice A1 p.inputs.length c1), (3, str (apd [] ((p.inputs.take k).flatMap Dc.inL))), (1, .pointer (some ⟨g1, 0, none⟩))] (L) a w)
      (fun k => p.inputs.length - k) 0 ⟨Nat.zero_le _, h.to 0 _⟩ ?_
    rintro k a w ⟨pre, h⟩
    refine sq ?_
    refine rg0 ?_
    refine lt h fun a w h => ?_
    refine nl0 ?_
    refine thN ?_
    refine sq ?_
    refine cdB h (fun c17 => ?_) (fun c17 => ?_)
    · have c17 : k < p.inputs.length := by simpa using c17
      obtain ⟨g, off, rfl, hvt, hcell⟩ := CS.get hi c17
      obtain ⟨d1, d2, _, _⟩ := dc_len (hw1 _ (List.getElem_mem c17)).1
      have qk := q1 k
      rw [apd_eq] at h
      refine sk_ ?_
      refine thN ?_
      refine sq ?_
      refine blk ?_
      refine sq ?_
      refine rg0 ?_
      refine ia sli25 sz72 rfl c17 h fun a w h => ?_
      refine ldHN tN72 rfl hcell h fun a w h => ?_
      refine al zr72 h fun g5 a w h => ?_
      refine sw0 tN72 h fun a w h => ?_
      refine nl0 ?_
      refine thN ?_
      refine rg0 ?_
      refine mv h fun a w h => ?_
      refine fa fl72_0 (r := 0) h fun a w h => ?_
      refine ld 0 t1_9 h fun a w h => ?_
      refine catB h ?_ fun a w h => ?_
      · (try simp only [List.length_append, List.length_cons, List.length_nil]); omega
      refine catB h ?_ fun a w h => ?_
      · (try simp only [List.length_append, List.length_cons, List.length_nil]); omega
      refine fa fl72_1 (r := 1) h fun a w h => ?_
      refine ld 0 t1_9 h fun a w h => ?_
      refine catB h ?_ fun a w h => ?_
      · (try simp only [List.length_append, List.length_cons, List.length_nil]); omega
      refine catB h ?_ fun a w h => ?_
      · (try simp only [List.length_append, List.length_cons, List.length_nil]); omega
      refine catB h ?_ fun a w h => ?_
      · (try simp only [List.length_append, List.length_cons, List.length_nil]); omega
      have ea : ∀ z, z = Dc.inL p.inputs[k] → ([] ++ (p.inputs.take k).flatMap Dc.inL) ++ z = apd [] ((p.inputs.take (k + 1)).flatMap Dc.inL) := by intro z hz; rw [hz, apd_eq, flat_take c17, List.append_assoc]
      rw [ea _ ?hz] at h
      case hz => rfl
      refine as_ h fun a w h => ?_
      refine nl0 ?_
      refine ibN ?_
      refine thN ?_
      refine rg0 ?_
      refine inc ?_ h fun a w h => ?_
      · omega
      refine mv h fun a w h => ?_
      refine nl0 ?_
      refine thN ?_
      exact ⟨(k + 1), ⟨by omega, h.to 1 _⟩, by show _ - (k + 1) < _ - k; omega⟩
    · have hk0 : k = p.inputs.length := by simp at c17; omega
      rw [apd_eq, hk0, List.take_length] at h
      rw [List.nil_append] at h
      refine exit_ ?_
      refine thE ?_
      refine thE ?_
      refine ibH ?_
      refine thN ?_
      refine sq ?_
      refine sq ?_
      refine rg0 ?_
      refine fa fl28_1 (r := 1) h fun a w h => ?_
      refine ldH t1_25 (Hc.of (LE.rfl _ _ hf1) rfl) h fun a w h => ?_
      refine ln sli25 h fun a w h => ?_
      refine mv h fun a w h => ?_
      refine nl0 ?_
      refine thN ?_
      refine blk ?_
      refine lp (β := Nat) (fun k a w => (k ≤ p.cells.length) ∧ S E Hf 83 [] [(34, .int .i64 (k : Int)), (33, .int .i64 (p.cells.length : Int)), (32, .slice A2 p.cells.length c2), (3, str (apd (p.inputs.flatMap Dc.inL) ((p.cells.take k).flatMap Dc.cellL))), (1, .pointer (some ⟨g1, 0, none⟩))] (L) a w)
        (fun k => p.cells.length - k) 0 ⟨Nat.zero_le _, h.to 0 _⟩ ?_
      rintro k a w ⟨pre, h⟩
      refine sq ?_
      refine rg0 ?_
      refine lt h fun a w h => ?_
      refine nl0 ?_
      refine thN ?_
      refine sq ?_
      refine cdB h (fun c35 => ?_) (fun c35 => ?_)
      · have c35 : k < p.cells.length := by simpa using c35
        obtain ⟨g, off, rfl, hvt, hcell⟩ := CS.get hc c35
        obtain ⟨d1, d2, d3, d4⟩ := dc_len (hw2 _ (List.getElem_mem c35))
        have qk := q2 k
        rw [apd_eq] at h
        have d5 := Lib.itoa_length_le p.cells[k].n (by omega) (by omega)
        refine sk_ ?_
        refine thN ?_
        refine sq ?_
        refine blk ?_
        refine sq ?_
        refine rg0 ?_
        refine ia sli25 sz72 rfl c35 h fun a w h => ?_
        refine ldHN tN72 rfl hcell h fun a w h => ?_
        refine al zr72 h fun g7 a w h => ?_
        refine sw0 tN72 h fun a w h => ?_
        refine nl0 ?_
        refine thN ?_
        refine rgd [0] [_] [4] [2, 6, 10] 1 mix (by kernel_rfl) h (fun a w h => ?_)
        refine mv h fun a w h => ?_
        refine fa fl72_0 (r := 0) h fun a w h => ?_
        refine ldD 0 t1_9 h fun a w h => ?_
        refine catB h ?_ fun a w h => ?_
        · (try simp only [List.length_append, List.length_cons, List.length_nil]); omega
        refine catB h ?_ fun a w h => ?_
        · (try simp only [List.length_append, List.length_cons, List.length_nil]); omega
        refine fa fl72_1 (r := 1) h fun a w h => ?_
        refine ldD 0 t1_9 h fun a w h => ?_
        refine catB h ?_ fun a w h => ?_
        · (try simp only [List.length_append, List.length_cons, List.length_nil]); omega
        refine catB h ?_ fun a w h => ?_
        · (try simp only [List.length_append, List.length_cons, List.length_nil]); omega
        refine fa fl72_2 (r := 2) h fun a w h => ?_
        refine ldD 0 t1_2 h fun a w h => ?_
        refine cl bod74 (FormatInt_ok p.cells[k].n E Hf _ hL (by omega) (by omega)) h fun r49 H49 L49 a w le49 R h => ?_
        obtain ⟨rfl, rfl, rfl⟩ := R
        refine catB h ?_ fun a w h => ?_
        · (try simp only [List.length_append, List.length_cons, List.length_nil]); omega
        refine catB h ?_ fun a w h => ?_
        · (try simp only [List.length_append, List.length_cons, List.length_nil]); omega
        refine catB h ?_ fun a w h => ?_
        · (try simp only [List.length_append, List.length_cons, List.length_nil]); omega
        have ea : ∀ z, z = Dc.cellL p.cells[k] → ((p.inputs.flatMap Dc.inL) ++ (p.cells.take k).flatMap Dc.cellL) ++ z = apd (p.inputs.flatMap Dc.inL) ((p.cells.take (k + 1)).flatMap Dc.cellL) := by intro z hz; rw [hz, apd_eq, flat_take c35, List.append_assoc]
        rw [ea _ ?hz] at h
        case hz => rfl
        refine as_ h fun a w h => ?_
        refine nl0 ?_
        refine ibN ?_
        refine thN ?_
        refine rg0 ?_
        refine inc ?_ h fun a w h => ?_
        · omega
        refine mv h fun a w h => ?_
        refine nl0 ?_
        refine thN ?_
        exact ⟨(k + 1), ⟨by omega, h.to 1 _⟩, by show _ - (k + 1) < _ - k; omega⟩
      · have hk0 : k = p.cells.length := by simp at c35; omega
        rw [apd_eq, hk0, List.take_length] at h
        refine exit_ ?_
        refine thE ?_
        refine thE ?_
        refine ibH ?_
        refine thN ?_
        refine sq ?_
        refine sq ?_
        refine rg0 ?_
        refine fa fl28_2 (r := 2) h fun a w h => ?_
        refine ldH t1_26 (Hc.of (LE.rfl _ _ hf1) rfl) h fun a w h => ?_
        refine ln sli26 h fun a w h => ?_
        refine mv h fun a w h => ?_
        refine nl0 ?_
        refine thN ?_
        refine blk ?_
        refine lp (β := Nat) (fun k a w => (k ≤ p.defs.length) ∧ S E Hf 83 [] [(57, .int .i64 (k : Int)), (56, .int .i64 (p.defs.length : Int)), (55, .slice A3 p.defs.length c3), (3, str (apd ((p.inputs.flatMap Dc.inL) ++ p.cells.flatMap Dc.cellL) ((p.defs.take k).flatMap Df.line))), (1, .pointer (some ⟨g1, 0, none⟩))] (L) a w)
          (fun k => p.defs.length - k) 0 ⟨Nat.zero_le _, h.to 0 _⟩ ?_
        rintro k a w ⟨pre, h⟩
        refine sq ?_
        refine rg0 ?_
        refine lt h fun a w h => ?_
        refine nl0 ?_
        refine thN ?_
        refine sq ?_
        refine cdB h (fun c58 => ?_) (fun c58 => ?_)
        · have c58 : k < p.defs.length := by simpa using c58
          obtain ⟨g, off, A5, c5, rfl, hvt, hcell⟩ := FS.get hd c58
          obtain ⟨d1, d2⟩ := df_len (hw3 _ (List.getElem_mem c58))
          have d3 := show'_le p.defs[k].t
          have qk := q3 k
          rw [apd_eq] at h
          obtain ⟨A6, c6, e6, hkt⟩ := hvt
          cases e6
          refine sk_ ?_
          refine thN ?_
          refine sq ?_
          refine blk ?_
          refine sq ?_
          refine rg0 ?_
          refine ia sli26 sz68 rfl c58 h fun a w h => ?_
          refine ldHN tN68 rfl hcell h fun a w h => ?_
          refine al zr68 h fun g9 a w h => ?_
          refine sw0 tN68 h fun a w h => ?_
          refine nl0 ?_
          refine thN ?_
          refine rgd [0] [_] [4] [2, 6] 1 mix (by kernel_rfl) h (fun a w h => ?_)
          refine mv h fun a w h => ?_
          refine fa fl68_0 (r := 0) h fun a w h => ?_
          refine ldD 0 t1_9 h fun a w h => ?_
          refine catB h ?_ fun a w h => ?_
          · (try simp only [List.length_append, List.length_cons, List.length_nil]); omega
          refine catB h ?_ fun a w h => ?_
          · (try simp only [List.length_append, List.length_cons, List.length_nil]); omega
          refine fa fl68_1 (r := 1) h fun a w h => ?_
          refine ldND 0 tN24 h fun a w h => ?_
          refine cl bod75 (Show_ok p.defs[k].t _ E Hf _ (VDf.t hkt) hL (hb.f _ (List.getElem_mem c58)).2.1 (hb.f _ (List.getElem_mem c58)).2.2 (fun hr => by have := show_le hr; unfold showL at this; omega)) h fun r68 H68 L68 a w le68 R h => ?_
          obtain ⟨rfl, rfl, rfl⟩ := R
          refine catB h ?_ fun a w h => ?_
          · (try simp only [List.length_append, List.length_cons, List.length_nil]); omega
          refine catB h ?_ fun a w h => ?_
          · (try simp only [List.length_append, List.length_cons, List.length_nil]); omega
          refine catB h ?_ fun a w h => ?_
          · (try simp only [List.length_append, List.length_cons, List.length_nil]); omega
          have ea : ∀ z, z = Df.line p.defs[k] → (((p.inputs.flatMap Dc.inL) ++ p.cells.flatMap Dc.cellL) ++ (p.defs.take k).flatMap Df.line) ++ z = apd ((p.inputs.flatMap Dc.inL) ++ p.cells.flatMap Dc.cellL) ((p.defs.take (k + 1)).flatMap Df.line) := by intro z hz; rw [hz, apd_eq, flat_take c58, List.append_assoc]
          rw [ea _ ?hz] at h
          case hz => rfl
          refine as_ h fun a w h => ?_
          refine nl0 ?_
          refine ibN ?_
          refine thN ?_
          refine rg0 ?_
          refine inc ?_ h fun a w h => ?_
          · omega
          refine mv h fun a w h => ?_
          refine nl0 ?_
          refine thN ?_
          exact ⟨(k + 1), ⟨by omega, h.to 1 _⟩, by show _ - (k + 1) < _ - k; omega⟩
        · have hk0 : k = p.defs.length := by simp at c58; omega
          rw [apd_eq, hk0, List.take_length] at h
          refine exit_ ?_
          refine thE ?_
          refine thE ?_
          refine ibH ?_
          refine thN ?_
          refine sq ?_
          refine rg0 ?_
          refine mv h fun a w h => ?_
          refine fa fl28_3 (r := 3) h fun a w h => ?_
          refine ldHN (l := [_, _, _, _]) tN24 rfl (Hc.sub 3 4 (LE.rfl _ _ hf1)) h fun a w h => ?_
          refine cl bod75 (Show_ok p.body _ E Hf _ ⟨A4, c4, rfl, hk⟩ hL hb.b1 hb.b2 (fun hr => by have := show_le hr; unfold showL at this; omega)) h fun r76 H76 L76 a w le76 R h => ?_
          obtain ⟨rfl, rfl, rfl⟩ := R
          refine catB h ?_ fun a w h => ?_
          · (try simp only [List.length_append, List.length_cons, List.length_nil]); omega
          refine catB h ?_ fun a w h => ?_
          · (try simp only [List.length_append, List.length_cons, List.length_nil]); omega
          refine as_ h fun a w h => ?_
          refine nl0 ?_
          refine thN ?_
          refine sq ?_
          refine sq ?_
          refine rg0 ?_
          refine mv h fun a w h => ?_
          refine lnb str9 h fun a w h => ?_
          refine gt h fun a w h => ?_
          refine nl0 ?_
          refine thN ?_
          refine cdB h (fun c81 => ?_) (fun c81 => ?_)
          · have e0 : p.print = [] := by unfold Pg.print; rw [if_pos hfit, if_pos (show decide (65536 < (p.text.length : Int)) = true from c81)]
            refine sq ?_
            refine rg0 ?_
            refine as_ h fun a w h => ?_
            refine nl0 ?_
            refine thN ?_
            refine ret_ ?_
            refine thR ?_
            refine fin1 2 0 (h.less l_H_Hf) LE.rfl ?_
            exact ⟨by first | (rw [e0]; done) | (rw [e0]; rfl), rfl, rfl⟩
          · have e0 : p.print = p.text := by unfold Pg.print; rw [if_pos hfit, if_neg (by rw [show decide (65536 < (p.text.length : Int)) = false from c81]; simp)]
            refine sk_ ?_
            refine thN ?_
            refine sq ?_
            refine rg0 ?_
            refine mv h fun a w h => ?_
            refine as_ h fun a w h => ?_
            refine nl0 ?_
            refine thN ?_
            refine ret_ ?_
            refine fin1 2 0 (h.less l_H_Hf) LE.rfl ?_
            exact ⟨by first | (rw [e0]; done) | (rw [e0]; rfl), rfl, rfl⟩

theorem RightP_ok (p : Pg) (v : Value) (E : World) (H : GH) (L : List It) (hv : VP H v p) (hL : Laid H) (hb : Mild p) : Ok Tryz.prog 31 #[v] E H L fun r H' L' => r = .bool p.right ∧ H = H' ∧ L = L' := by
  have hv0 := hv
  obtain ⟨A1, c1, A2, c2, A3, c3, A4, c4, rfl, hi, hc, hd, hk⟩ := hv
  have hv := hv0
  refine enter (N := 6) [(0, _)] Tryz.func31 rfl rfl rfl rfl fun a w h => ?_
  refine sq ?_
  refine rg0 ?_
  refine bxA h fun g1 a w h => ?_
  refine as_ h fun a w h => ?_
  refine nl0 ?_
  refine thN ?_
  refine sq ?_
  refine rg0 ?_
  refine ldW 0 tN28 h fun a w h => ?_
  refine cl bod57 (PrintP_ok p _ E H _ hv hL hb) h fun r4 H4 L4 a w le4 R h => ?_
  obtain ⟨rfl, rfl, rfl⟩ := R
  refine neb h fun a w h => ?_
  refine as_ h fun a w h => ?_
  refine nl0 ?_
  refine thN ?_
  refine ret_ ?_
  refine fin1 2 1 h LE.rfl ?_
  exact ⟨rfl, rfl, rfl⟩
end Go.Proofs.YtindlieilabgfaaGreatDoor
/- The shelf's contracts on slices.Sorted(maps.Keys(m)) and on slices.Grow, laid at this dump, in plain words (made by the kit's lay-plain.mjs). -/
namespace Go.Proofs
open Go.Shelf
def Tryz.keys55_ren : Go.Shelf.Ren := ⟨fun | 7 => 55 | 10 => 72 | n => n, fun | 23 => 99 | 26 => 9 | 3 => 3 | 28 => 103 | 0 => 0 | 27 => 102 | 33 => 91 | 4 => 4 | n => n, fun | n => n⟩
theorem Tryz.keys55 : Go.Proofs.SlLaysZ.n7 Tryz.prog Tryz.keys55_ren := {
  mixed := by kernel_rfl
  f7 := ⟨Tryz.f55.name, by decide, Tryz.func55.trans (congrArg some (by kernel_rfl))⟩
  f10 := ⟨Tryz.f72.name, by decide, Tryz.func72.trans (congrArg some (by kernel_rfl))⟩
  t0 := Tryz.underlying0
  a0 := Tryz.isAgg0
  z0 := Tryz.sizeOf0
  v0 := Tryz.zeroValue0
  t4 := Tryz.underlying4
  a4 := Tryz.isAgg4
  z4 := Tryz.sizeOf4
  v4 := Tryz.zeroValue4
  t23 := Tryz.underlying99
  a23 := Tryz.isAgg99
  z23 := Tryz.sizeOf99
  v23 := Tryz.zeroValue99
  t26 := Tryz.underlying9
  a26 := Tryz.isAgg9
  z26 := Tryz.sizeOf9
  v26 := Tryz.zeroValue9
  t27 := Tryz.underlying102
  a27 := Tryz.isAgg102
  z27 := Tryz.sizeOf102
  v27 := Tryz.zeroValue102
  t28 := Tryz.underlying103
  a28 := Tryz.isAgg103
  z28 := Tryz.sizeOf103
  v28 := Tryz.zeroValue103
  t33 := Tryz.underlying91
  a33 := Tryz.isAgg91
  z33 := Tryz.sizeOf91
  v33 := Tryz.zeroValue91 }
def Tryz.sorted54_ren : Go.Shelf.Ren := ⟨fun | 6 => 54 | 8 => 70 | 9 => 71 | 11 => 83 | 13 => 85 | 12 => 84 | 23 => 109 | 24 => 110 | 14 => 100 | 15 => 101 | 16 => 102 | 17 => 103 | 18 => 104 | 19 => 105 | 20 => 106 | 21 => 107 | 22 => 108 | 25 => 134 | 26 => 135 | 27 => 136 | 28 => 137 | 29 => 138 | 30 => 139 | 31 => 153 | n => n, fun | 26 => 9 | 28 => 103 | 24 => 58 | 0 => 0 | 3 => 3 | 37 => 136 | 48 => 157 | 50 => 128 | 4 => 4 | 40 => 149 | 39 => 148 | 45 => 154 | 5 => 5 | 9 => 9 | 51 => 181 | 55 => 185 | 57 => 207 | 58 => 208 | 33 => 91 | n => n, fun | n => n⟩
theorem Tryz.sorted54 : Go.Proofs.SlLaysZ.n6 Tryz.prog Tryz.sorted54_ren := {
  mixed := by kernel_rfl
  f6 := ⟨Tryz.f54.name, by decide, Tryz.func54.trans (congrArg some (by kernel_rfl))⟩
  f8 := ⟨Tryz.f70.name, by decide, Tryz.func70.trans (congrArg some (by kernel_rfl))⟩
  f11 := ⟨Tryz.f83.name, by decide, Tryz.func83.trans (congrArg some (by kernel_rfl))⟩
  t0 := Tryz.underlying0
  a0 := Tryz.isAgg0
  z0 := Tryz.sizeOf0
  v0 := Tryz.zeroValue0
  t24 := Tryz.underlying58
  a24 := Tryz.isAgg58
  z24 := Tryz.sizeOf58
  v24 := Tryz.zeroValue58
  t26 := Tryz.underlying9
  a26 := Tryz.isAgg9
  z26 := Tryz.sizeOf9
  v26 := Tryz.zeroValue9
  t28 := Tryz.underlying103
  a28 := Tryz.isAgg103
  z28 := Tryz.sizeOf103
  v28 := Tryz.zeroValue103
  i26 := by kernel_rfl }
def Tryz.sort71_ren : Go.Shelf.Ren := ⟨fun | 6 => 71 | 8 => 85 | 9 => 84 | 19 => 109 | 20 => 110 | 21 => 100 | 22 => 101 | 23 => 102 | 24 => 103 | 25 => 104 | 26 => 105 | 27 => 106 | 28 => 107 | 29 => 108 | 36 => 134 | 31 => 135 | 32 => 136 | 37 => 137 | 38 => 138 | 39 => 139 | 41 => 153 | n => n, fun | 27 => 58 | 29 => 9 | 3 => 3 | 32 => 136 | 26 => 58 | 0 => 0 | 44 => 157 | 46 => 128 | 4 => 4 | 36 => 149 | 35 => 148 | 41 => 154 | 5 => 5 | 9 => 9 | 53 => 181 | 57 => 185 | 63 => 207 | 64 => 208 | n => n, fun | n => n⟩
theorem Tryz.sort71 : Go.Proofs.SlLaysM.n6 Tryz.prog Tryz.sort71_ren := {
  mixed := by kernel_rfl
  f6 := ⟨Tryz.f71.name, by decide, Tryz.func71.trans (congrArg some (by kernel_rfl))⟩
  f8 := Tryz.func85.trans (congrArg some (by kernel_rfl))
  f9 := ⟨Tryz.f84.name, by decide, Tryz.func84.trans (congrArg some (by kernel_rfl))⟩
  f19 := Tryz.func109.trans (congrArg some (by kernel_rfl))
  f20 := Tryz.func110.trans (congrArg some (by kernel_rfl))
  f21 := ⟨Tryz.f100.name, by decide, Tryz.func100.trans (congrArg some (by kernel_rfl))⟩
  f22 := ⟨Tryz.f101.name, by decide, Tryz.func101.trans (congrArg some (by kernel_rfl))⟩
  f23 := ⟨Tryz.f102.name, by decide, Tryz.func102.trans (congrArg some (by kernel_rfl))⟩
  f24 := ⟨Tryz.f103.name, by decide, Tryz.func103.trans (congrArg some (by kernel_rfl))⟩
  f25 := ⟨Tryz.f104.name, by decide, Tryz.func104.trans (congrArg some (by kernel_rfl))⟩
  f26 := ⟨Tryz.f105.name, by decide, Tryz.func105.trans (congrArg some (by kernel_rfl))⟩
  f27 := ⟨Tryz.f106.name, by decide, Tryz.func106.trans (congrArg some (by kernel_rfl))⟩
  f28 := ⟨Tryz.f107.name, by decide, Tryz.func107.trans (congrArg some (by kernel_rfl))⟩
  f29 := ⟨Tryz.f108.name, by decide, Tryz.func108.trans (congrArg some (by kernel_rfl))⟩
  f31 := Tryz.func135.trans (congrArg some (by kernel_rfl))
  f32 := Tryz.func136.trans (congrArg some (by kernel_rfl))
  f36 := ⟨Tryz.f134.name, by decide, Tryz.func134.trans (congrArg some (by kernel_rfl))⟩
  f37 := ⟨Tryz.f137.name, by decide, Tryz.func137.trans (congrArg some (by kernel_rfl))⟩
  f38 := ⟨Tryz.f138.name, by decide, Tryz.func138.trans (congrArg some (by kernel_rfl))⟩
  f39 := ⟨Tryz.f139.name, by decide, Tryz.func139.trans (congrArg some (by kernel_rfl))⟩
  f41 := ⟨Tryz.f153.name, by decide, Tryz.func153.trans (congrArg some (by kernel_rfl))⟩
  t0 := Tryz.underlying0
  a0 := Tryz.isAgg0
  z0 := Tryz.sizeOf0
  v0 := Tryz.zeroValue0
  t3 := Tryz.underlying3
  a3 := Tryz.isAgg3
  z3 := Tryz.sizeOf3
  v3 := Tryz.zeroValue3
  t4 := Tryz.underlying4
  a4 := Tryz.isAgg4
  z4 := Tryz.sizeOf4
  v4 := Tryz.zeroValue4
  t5 := Tryz.underlying5
  a5 := Tryz.isAgg5
  z5 := Tryz.sizeOf5
  v5 := Tryz.zeroValue5
  t9 := Tryz.underlying9
  a9 := Tryz.isAgg9
  z9 := Tryz.sizeOf9
  v9 := Tryz.zeroValue9
  t26 := Tryz.underlying58
  a26 := Tryz.isAgg58
  z26 := Tryz.sizeOf58
  v26 := Tryz.zeroValue58
  t27 := Tryz.underlying58
  a27 := Tryz.isAgg58
  z27 := Tryz.sizeOf58
  v27 := Tryz.zeroValue58
  t29 := Tryz.underlying9
  a29 := Tryz.isAgg9
  z29 := Tryz.sizeOf9
  v29 := Tryz.zeroValue9
  t32 := Tryz.underlying136
  a32 := Tryz.isAgg136
  z32 := Tryz.sizeOf136
  v32 := Tryz.zeroValue136
  t35 := Tryz.underlying148
  a35 := Tryz.isAgg148
  z35 := Tryz.sizeOf148
  v35 := Tryz.zeroValue148
  t36 := Tryz.underlying149
  a36 := Tryz.isAgg149
  z36 := Tryz.sizeOf149
  v36 := Tryz.zeroValue149
  t41 := Tryz.underlying154
  a41 := Tryz.isAgg154
  z41 := Tryz.sizeOf154
  v41 := Tryz.zeroValue154
  t44 := Tryz.underlying157
  a44 := Tryz.isAgg157
  z44 := Tryz.sizeOf157
  v44 := Tryz.zeroValue157
  t46 := Tryz.underlying128
  a46 := Tryz.isAgg128
  z46 := Tryz.sizeOf128
  v46 := Tryz.zeroValue128
  t53 := Tryz.underlying181
  a53 := Tryz.isAgg181
  z53 := Tryz.sizeOf181
  v53 := Tryz.zeroValue181
  t57 := Tryz.underlying185
  a57 := Tryz.isAgg185
  z57 := Tryz.sizeOf185
  v57 := Tryz.zeroValue185
  t63 := Tryz.underlying207
  a63 := Tryz.isAgg207
  z63 := Tryz.sizeOf207
  v63 := Tryz.zeroValue207
  t64 := Tryz.underlying208
  a64 := Tryz.isAgg208
  z64 := Tryz.sizeOf208
  v64 := Tryz.zeroValue208 }
def Tryz.grow66_ren : Go.Shelf.Ren := ⟨fun | 4 => 66 | n => n, fun | 22 => 25 | 25 => 72 | 3 => 3 | 4 => 4 | 9 => 9 | 20 => 20 | 0 => 0 | n => n, fun | n => n⟩
theorem Tryz.grow66 : Go.Proofs.Lays8.n4 Tryz.prog Tryz.grow66_ren := {
  mixed := by kernel_rfl
  f4 := ⟨Tryz.f66.name, by decide, Tryz.func66.trans (congrArg some (by kernel_rfl))⟩
  t0 := Tryz.underlying0
  a0 := Tryz.isAgg0
  z0 := Tryz.sizeOf0
  v0 := Tryz.zeroValue0
  t3 := Tryz.underlying3
  a3 := Tryz.isAgg3
  z3 := Tryz.sizeOf3
  v3 := Tryz.zeroValue3
  t4 := Tryz.underlying4
  a4 := Tryz.isAgg4
  z4 := Tryz.sizeOf4
  v4 := Tryz.zeroValue4
  t9 := Tryz.underlying9
  a9 := Tryz.isAgg9
  z9 := Tryz.sizeOf9
  v9 := Tryz.zeroValue9
  t20 := Tryz.underlying20
  a20 := Tryz.isAgg20
  z20 := Tryz.sizeOf20
  v20 := Tryz.zeroValue20
  t22 := Tryz.underlying25
  a22 := Tryz.isAgg25
  z22 := Tryz.sizeOf25
  v22 := Tryz.zeroValue25 }
end Go.Proofs
/- slices.Sorted(maps.Keys(m)), off the shelf. -/
set_option linter.unusedVariables false
set_option linter.unusedSimpArgs false
set_option linter.unusedSectionVars false
set_option autoImplicit false
set_option relaxedAutoImplicit false
set_option maxRecDepth 10000
namespace Go.Proofs.YtindlieilabgfaaGreatDoor
open Go X
open Go.Proofs Go.RowKit Go.Shelf Go.Sort
abbrev encS : Bs → Value := fun s => str s
theorem keyS : KeyLaw Tryz.prog 9 encS .string := keyStr (und_str str9)
theorem mapSI : mapT Tryz.prog 99 = some (9, 3) := by kernel_rfl
theorem St.belowRow {E w w' : World} {H : GH} {L : List It} {v : Value} {e : TypeId} {sz n : Nat} {xs : List Value} (h : St E H L w) (hb : Below w.heap.size w w') (hrow : w'.ownsRow w.heap.size e sz v n xs) : St E H (.row v e sz n xs :: L) w' := by
  have h' := h.below hb
  have h0 : w'.ownsRow 0 e sz v n xs := ⟨hrow.1, hrow.2.imp id fun ⟨g, cap, cur, h1, h2, h3⟩ => ⟨g, cap, cur, h1, Nat.zero_le _, h3⟩⟩
  have hge : ∀ g ∈ (It.row v e sz n xs).own, w.heap.size ≤ g := by
    intro g hg
    rcases hrow.2 with ⟨rfl, _⟩ | ⟨g', cap, cur, rfl, h2, _⟩
    · simp [It.own, Value.ownBlock] at hg
    · simp [It.own, Value.ownBlock] at hg; omega
  refine ⟨h'.os, h'.tape, h'.output, h'.fro, fun i hi => ?_, fun i hi g hg => ?_, List.pairwise_cons.2 ⟨fun i hi g hg hgi => ?_, h'.apart⟩⟩
  · cases hi with
    | head => exact h0
    | tail _ hi => exact h'.holds i hi
  · cases hi with
    | head =>
      cases hH : H g with
      | none => rfl
      | some o => exact absurd (h.size_le hH) (by have := hge g hg; omega)
    | tail _ hi => exact h'.off i hi g hg
  · have := hge g hg
    have := It.lt (h.holds i hi) hgi
    omega
theorem keys_ok (b : Nat) (E : World) (H : GH) (L : List It) : Ok Tryz.prog 55 #[.map (some b)] E H L fun r H' L' => ∃ g, r = .func (.func 72) #[] #[.pointer (some ⟨g, 0, none⟩)] ∧ H = H' ∧ L' = .obj g (.cells #[.map (some b)] 99 (0, 0)) :: L := fun w hw =>
  (callsIn_wide.1 (AnyZ.keys_in Tryz.keys55 Fence.wide 5 trivial rfl (some b) w)).mono fun e w' ⟨he, hw'⟩ => ⟨_, H, _, he, LE.rfl, by subst hw'; exact hw.alloc _, _, rfl, rfl, rfl⟩
theorem sortsK (m : Nat) : AnyZ.SortsIn Tryz.prog Tryz.sorted54_ren Fence.wide m :=
  ⟨fun blk off cap ss W hH hblk hsz => callsIn_wide.2 (AnyM.slices_Sort_string Tryz.sort71 blk off cap ss W hH hblk hsz), fun p cap W => callsIn_wide.2 (AnyM.slices_Sort_string_none Tryz.sort71 p cap W)⟩
theorem sub_len : ∀ {l m : List Bs}, l.Nodup → (∀ x ∈ l, x ∈ m) → l.length ≤ m.length
  | [], _, _, _ => Nat.zero_le _
  | a :: l, m, hd, hs => by
    rw [List.nodup_cons] at hd
    have hm := hs a (List.mem_cons_self ..)
    have := sub_len (l := l) (m := m.erase a) hd.2 fun x hx => (List.mem_erase_of_ne (fun e => by subst e; exact hd.1 hx)).2 (hs x (List.mem_cons_of_mem _ hx))
    rw [List.length_erase_of_mem hm] at this
    have := List.length_pos_of_mem hm
    simp only [List.length_cons]; omega
theorem lk_some {κ : Type} [DecidableEq κ] (k : κ) : ∀ m : List (κ × Value), (m.lookup k).isSome = true ↔ k ∈ m.map (·.1)
  | [] => by simp [List.lookup]
  | (a, v) :: l => by
    simp only [List.lookup, List.map_cons, List.mem_cons]
    by_cases e : k = a
    · subst e; simp
    · have : (k == a) = false := by simpa using e
      simp only [this, e, false_or]
      exact lk_some k l
theorem sorted_ok (b g : Nat) (f : Bs → Option Value) (k0 : Nat) (E : World) (H : GH) (L : List It) (hg : L[0]? = some (.obj g (.cells #[.map (some b)] 99 (0, 0)))) (hb : L[k0]? = some (.blk b (IsMap encS f)))
    (hlen : ∀ x, (f x).isSome = true → x.length < 1000000000000) (hcnt : ∀ l : List Bs, l.Nodup → (∀ x ∈ l, (f x).isSome = true) → l.length < 1000000000000) :
    Ok Tryz.prog 54 #[.func (.func 72) #[] #[.pointer (some ⟨g, 0, none⟩)]] E H L fun r H' L' => ∃ A c ss, r = .slice A ss.length c ∧ H = H' ∧ L' = .row (.slice A ss.length c) 9 1 ss.length (ss.map encS) :: L ∧ IsSet ss (fun x => (f x).isSome) := fun w hw => by
  obtain ⟨o, ho, es, clock, m, rfl, hst, h1, h2, h3⟩ := item_at hw.sees hb
  have hcell : w.heap[g]? = some (.cells #[.map (some b)] 99 (0, 0)) := item_at hw.sees hg
  have hmem : ∀ k, (k ∈ m.map (·.1)) ↔ (f k).isSome = true := fun k => by
    rw [← h3 k]; exact (lk_some k m).symm
  have hml : m.length < 1000000000000 := by
    have := hcnt (m.map (·.1)) h2 (fun x hx => (hmem x).1 hx)
    simpa using this
  have hel : es.size = m.length := by simpa using congrArg List.length h1
  let R : Value → Option (DataW Unit × List MemPlace) := fun _ => some (.nil, [])
  have hkey : ∀ (s : Bs) , s.length < 1000000000000 → keyOf Tryz.prog 9 (str s) = some (.string s) := fun s hs => by
    unfold keyOf
    rw [und_str str9]
    have hsz : (⟨s.toArray⟩ : ByteArray).size = s.length := by simp [ByteArray.size]
    simp [mapKey, und_str str9, hsz, maxLen]
    try omega
  have hread : ∀ x ∈ es.toList, ∃ s : Bs, s ∈ m.map (·.1) ∧ x.key = str s ∧ WideElems.rd Tryz.prog 9 R x = some (.string s, .nil) := fun x hx => by
    have : (x.key, x.val) ∈ m.map (fun p => (encS p.1, p.2)) := by rw [← h1]; exact List.mem_map.2 ⟨x, hx, rfl⟩
    obtain ⟨p, hp, hpe⟩ := List.mem_map.1 this
    have he : x.key = str p.1 := (congrArg Prod.fst hpe).symm
    have hpm : p.1 ∈ m.map (·.1) := List.mem_map.2 ⟨p, hp, rfl⟩
    refine ⟨p.1, hpm, he, ?_⟩
    have hk := hkey p.1 (hlen _ ((hmem _).1 hpm))
    unfold WideElems.rd
    rw [he, hk]; rfl
  have hown : w.ownsMap Tryz.prog 9 R b es.size (.map ((es.toList.map (WideElems.rg Tryz.prog 9 R)).foldr DataW.insert [])) :=
    ⟨es, clock, ho, ⟨by rw [hel]; simp only [maxLen]; omega, hst, fun x hx => let ⟨s, _, _, h⟩ := hread x hx; ⟨_, h⟩⟩, Nat.le_refl _, rfl⟩
  have hD : strKeys (.map ((es.toList.map (WideElems.rg Tryz.prog 9 R)).foldr DataW.insert []) : DataW Unit) = (((es.toList.map (WideElems.rg Tryz.prog 9 R)).foldr DataW.insert [])).map fun p => strOf p.1 := rfl
  have hperm : (strKeys (.map ((es.toList.map (WideElems.rg Tryz.prog 9 R)).foldr DataW.insert []) : DataW Unit)).Perm (m.map (·.1)) := by
    rw [hD]
    refine ((WideShapes.sorted_perm _).map _).trans (.of_eq ?_)
    rw [List.map_map]
    have e2 : m.map (·.1) = es.toList.map (fun x => match x.key with | .string s => s.data.toList | _ => []) := by
      have := congrArg (List.map (fun q : Value × Value => match q.1 with | .string s => s.data.toList | _ => [])) h1
      rw [List.map_map, List.map_map] at this
      rw [show m.map (·.1) = m.map ((fun q : Value × Value => match q.1 with | .string s => s.data.toList | _ => []) ∘ fun p => (encS p.1, p.2)) from List.map_congr_left fun p _ => by simp, ← this]
      rfl
    rw [e2]
    refine List.map_congr_left fun x hx => ?_
    obtain ⟨s, _, hk, hr⟩ := hread x hx
    simp only [Function.comp, WideElems.rg_of hr, hk]
    simp [strOf]
  have hseq : SeqGives Fence.wide 2 Tryz.prog 72 #[.pointer (some ⟨g, 0, none⟩)] encStr (fun ss => ss.Perm (strKeys (.map ((es.toList.map (WideElems.rg Tryz.prog 9 R)).foldr DataW.insert []) : DataW Unit))) _ w :=
    AnyZ.keys_gives (ρ := Tryz.keys55_ren) { Tryz.keys55 with } Fence.wide _ trivial rfl (by omega) g b es.size _ w (Array.getElem?_eq_some_iff.1 hcell).1 (by simp [World.cell?, hcell]) hown
  have hsz : Maps.size (.map ((es.toList.map (WideElems.rg Tryz.prog 9 R)).foldr DataW.insert []) : DataW Unit) = m.length := by
    have := hperm.length_eq
    rw [hD, List.length_map, List.length_map] at this
    exact this
  refine (callsIn_wide.1 (AnyZ.sorted_in Tryz.sorted54 Fence.wide 5 trivial trivial trivial trivial rfl (by omega) (sortsK _) (enters_of Tryz.func71 (by kernel_rfl) rfl) 72 #[.pointer (some ⟨g, 0, none⟩)] trivial (enters_of Tryz.func72 (by kernel_rfl) rfl) _ _ (by rw [hsz]; simp only [maxLen]; omega) (by rw [hsz]; omega) w hseq)).mono ?_
  rintro e w' ⟨v, ss, he, hS, hrow, hnil, hbel⟩
  have hlen' : (ss.mergeSort fun x y => decide (x ≤ y)).length = ss.length := List.length_mergeSort ..
  have hpm : (ss.mergeSort fun x y => decide (x ≤ y)).Perm (m.map (·.1)) := (List.mergeSort_perm ..).trans (hS.trans hperm)
  have hv : ∃ A c, v = .slice A (ss.mergeSort fun x y => decide (x ≤ y)).length c := by
    rw [hlen']
    rcases hrow.2 with ⟨rfl, e⟩ | ⟨_, cap, _, rfl, _⟩
    · exact ⟨none, 0, by rw [e]⟩
    · exact ⟨_, _, rfl⟩
  obtain ⟨Ad, c, rfl⟩ := hv
  rw [← hlen'] at hrow
  refine ⟨_, H, _, he, LE.rfl, St.belowRow hw hbel hrow, Ad, c, ss.mergeSort fun x y => decide (x ≤ y), rfl, rfl, rfl, hpm.nodup_iff.2 h2, fun x => (hpm.mem_iff).trans (hmem x), ?_⟩
  have hsorted := List.pairwise_mergeSort (le := fun x y : Bs => decide (x ≤ y)) (fun a b c h1 h2 => by simp at *; exact List.le_trans h1 h2) (fun a b => by simp; exact List.le_total a b) ss
  exact hsorted.imp fun h => by simpa using h
end Go.Proofs.YtindlieilabgfaaGreatDoor
