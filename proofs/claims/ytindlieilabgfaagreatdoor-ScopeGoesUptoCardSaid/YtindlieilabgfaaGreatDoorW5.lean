/- Walks: words, lists asked by a function, what is wrong with a term. -/
import Derived.Test.YtindlieilabgfaaGreatDoorW4
set_option linter.unusedVariables false
set_option linter.unusedSimpArgs false
set_option linter.unusedSectionVars false
set_option autoImplicit false
set_option relaxedAutoImplicit false
set_option maxRecDepth 10000
namespace Go.Proofs.YtindlieilabgfaaGreatDoor
open Go X
theorem word_ok (s : Bs) (E : World) (H : GH) (L : List It) (hL : Laid H) (hb : s.length < 1000000000000) : Ok Tryz.prog 112 #[str s] E H L fun r H' L' => r = .bool (wordB s) ∧ H = H' ∧ L = L' := by
  refine enter (N := 10) [(0, _)] Tryz.func112 rfl rfl rfl rfl fun a w h => ?_
  refine sq ?_
  refine rg0 ?_
  refine as_ h fun a w h => ?_
  refine nl0 ?_
  refine thN ?_
  refine sq ?_
  refine rg0 ?_
  refine mv h fun a w h => ?_
  refine cl bod140 (Name_ok s E H _ (by omega)) h fun r4 H4 L4 a w le4 R h => ?_
  obtain ⟨rfl, rfl, rfl⟩ := R
  refine h.spl (fun c4 h => ?_) (fun c4 h => ?_)
  · refine mv h fun a w h => ?_
    refine mv h fun a w h => ?_
    refine cl bod141 (Keyword_ok s E H _ hL) h fun r7 H7 L7 a w le7 R h => ?_
    obtain ⟨rfl, rfl, rfl⟩ := R
    refine nt h fun a w h => ?_
    refine pkT h fun a w h => ?_
    refine as_ h fun a w h => ?_
    refine nl0 ?_
    refine thN ?_
    refine ret_ ?_
    refine fin1 2 0 h LE.rfl ?_
    exact ⟨by first | (simp only [wordB, c4]; done) | (simp only [wordB, c4]; rfl), rfl, rfl⟩
  · refine mv h fun a w h => ?_
    refine sk h (k := fun a w h => ?_)
    refine sk h (k := fun a w h => ?_)
    refine sk h (k := fun a w h => ?_)
    refine pkF h fun a w h => ?_
    refine as_ h fun a w h => ?_
    refine nl0 ?_
    refine thN ?_
    refine ret_ ?_
    refine fin1 2 0 h LE.rfl ?_
    exact ⟨by first | (simp only [wordB, c4]; done) | (simp only [wordB, c4]; rfl), rfl, rfl⟩

theorem IndexFunc_Tm_ok (xs : List Tm) (A : Option Addr) (c : Nat) (q : Tm → Bool) (f : FuncId) (caps : Array Value) (E : World) (H : GH) (L : List It) (hxs : KS H A c xs) (hb : xs.length < 1000000000000) (hf : bodT Tryz.prog f = true)
    (hq : ∀ j (hj : j < xs.length) (v : Value), VT H v xs[j] → Ok Tryz.prog f (#[] ++ [v].toArray ++ caps) E H L fun r H' L' => r = .bool (q xs[j]) ∧ H = H' ∧ L = L') :
    Ok Tryz.prog 142 #[.slice A xs.length c, .func (.func f) #[] caps] E H L fun r H' L' => r = .int .i64 (indexF q xs) ∧ H = H' ∧ L = L' := by
  refine enter (N := 19) [(0, _), (1, _)] Tryz.func142 rfl rfl rfl rfl fun a w h => ?_
  refine sq ?_
  refine rg0 ?_
  refine as_ h fun a w h => ?_
  refine nl0 ?_
  refine thN ?_
  refine sq ?_
  refine sq ?_
  refine rg0 ?_
  refine mv h fun a w h => ?_
  refine ln sli22 h fun a w h => ?_
  refine mv h fun a w h => ?_
  refine nl0 ?_
  refine thN ?_
  refine blk ?_
  refine lp (β := Nat) (fun k a w => (k ≤ xs.length ∧ ∀ j (hj : j < xs.length), j < k → q xs[j] = false) ∧ S E H 19 [] [(8, .int .i64 (k : Int)), (7, .int .i64 (xs.length : Int)), (0, .slice A xs.length c), (1, .func (.func f) #[] caps)] (L) a w)
    (fun k => xs.length - k) 0 ⟨⟨Nat.zero_le _, fun j hj h0 => absurd h0 (by omega)⟩, h.to 0 _⟩ ?_
  rintro k a w ⟨pre, h⟩
  refine sq ?_
  refine rg0 ?_
  refine lt h fun a w h => ?_
  refine nl0 ?_
  refine thN ?_
  refine sq ?_
  refine cdB h (fun c9 => ?_) (fun c9 => ?_)
  · have c9 : k < xs.length := by simpa using c9
    obtain ⟨g, off, A2, c2, rfl, hvt, hcell⟩ := KS.get hxs c9
    refine sk_ ?_
    refine thN ?_
    refine sq ?_
    refine blk ?_
    refine sq ?_
    refine rg0 ?_
    refine mv h fun a w h => ?_
    refine as_ h fun a w h => ?_
    refine nl0 ?_
    refine thN ?_
    refine sq ?_
    refine rg0 ?_
    refine mv h fun a w h => ?_
    refine mv h fun a w h => ?_
    refine mv h fun a w h => ?_
    refine ia sli22 sz24 rfl c9 h fun a w h => ?_
    refine ldHN tN24 rfl hcell h fun a w h => ?_
    refine cl hf (hq k c9 _ hvt) h fun r16 H16 L16 a w le16 R h => ?_
    obtain ⟨rfl, rfl, rfl⟩ := R
    refine nl0 ?_
    refine thN ?_
    refine cdB h (fun c16 => ?_) (fun c16 => ?_)
    · have hfact : indexF q xs = (k : Int) := indexF_at c9 (fun j hj hjk => pre.2 j hj hjk) c16
      refine sq ?_
      refine rg0 ?_
      refine mv h fun a w h => ?_
      refine as_ h fun a w h => ?_
      refine nl0 ?_
      refine thN ?_
      refine ret_ ?_
      refine ibR ?_
      refine thR ?_
      refine thR ?_
      refine ibR ?_
      refine thR ?_
      refine fin1 4 0 h LE.rfl ?_
      exact ⟨by rw [hfact], rfl, rfl⟩
    · have hne : q xs[k] = false := c16
      refine sk_ ?_
      refine ibN ?_
      refine thN ?_
      refine rg0 ?_
      refine inc ?_ h fun a w h => ?_
      · omega
      refine mv h fun a w h => ?_
      refine nl0 ?_
      refine thN ?_
      exact ⟨(k + 1), ⟨⟨by omega, fun j hj hjk => by rcases Nat.lt_succ_iff_lt_or_eq.1 hjk with h0 | rfl <;> first | exact hne | exact pre.2 j hj h0⟩, h.to 0 _⟩, by show _ - (k + 1) < _ - k; omega⟩
  · have hk : k = xs.length := by simp at c9; omega
    have hfact : indexF q xs = -1 := indexF_no fun j hj => pre.2 j hj (by omega)
    refine exit_ ?_
    refine thE ?_
    refine thE ?_
    refine ibH ?_
    refine thN ?_
    refine sq ?_
    refine rg0 ?_
    refine as_ h fun a w h => ?_
    refine nl0 ?_
    refine thN ?_
    refine ret_ ?_
    refine fin1 4 0 h LE.rfl ?_
    exact ⟨by rw [hfact], rfl, rfl⟩

theorem ContainsFunc_Tm_ok (xs : List Tm) (A : Option Addr) (c : Nat) (q : Tm → Bool) (f : FuncId) (caps : Array Value) (E : World) (H : GH) (L : List It) (hxs : KS H A c xs) (hb : xs.length < 1000000000000) (hf : bodT Tryz.prog f = true)
    (hq : ∀ j (hj : j < xs.length) (v : Value), VT H v xs[j] → Ok Tryz.prog f (#[] ++ [v].toArray ++ caps) E H L fun r H' L' => r = .bool (q xs[j]) ∧ H = H' ∧ L = L') :
    Ok Tryz.prog 116 #[.slice A xs.length c, .func (.func f) #[] caps] E H L fun r H' L' => r = .bool (xs.any q) ∧ H = H' ∧ L = L' := by
  refine enter (N := 9) [(0, _), (1, _)] Tryz.func116 rfl rfl rfl rfl fun a w h => ?_
  refine sq ?_
  refine rg0 ?_
  refine as_ h fun a w h => ?_
  refine nl0 ?_
  refine thN ?_
  refine sq ?_
  refine rg0 ?_
  refine mv h fun a w h => ?_
  refine mv h fun a w h => ?_
  refine cl bod142 (IndexFunc_Tm_ok xs A c q f caps E H _ hxs hb hf hq) h fun r7 H7 L7 a w le7 R h => ?_
  obtain ⟨rfl, rfl, rfl⟩ := R
  refine ge h fun a w h => ?_
  refine as_ h fun a w h => ?_
  refine nl0 ?_
  refine thN ?_
  refine ret_ ?_
  refine fin1 4 0 h LE.rfl ?_
  exact ⟨by rw [← indexF_ge], rfl, rfl⟩

theorem IndexFunc_Dc_ok (xs : List Dc) (A : Option Addr) (c : Nat) (q : Dc → Bool) (f : FuncId) (caps : Array Value) (E : World) (H : GH) (L : List It) (hxs : CS H A c xs) (hb : xs.length < 1000000000000) (hf : bodT Tryz.prog f = true)
    (hq : ∀ j (hj : j < xs.length) (v : Value), VDc H v xs[j] → Ok Tryz.prog f (#[] ++ [v].toArray ++ caps) E H L fun r H' L' => r = .bool (q xs[j]) ∧ H = H' ∧ L = L') :
    Ok Tryz.prog 111 #[.slice A xs.length c, .func (.func f) #[] caps] E H L fun r H' L' => r = .int .i64 (indexF q xs) ∧ H = H' ∧ L = L' := by
  refine enter (N := 19) [(0, _), (1, _)] Tryz.func111 rfl rfl rfl rfl fun a w h => ?_
  refine sq ?_
  refine rg0 ?_
  refine as_ h fun a w h => ?_
  refine nl0 ?_
  refine thN ?_
  refine sq ?_
  refine sq ?_
  refine rg0 ?_
  refine mv h fun a w h => ?_
  refine ln sli25 h fun a w h => ?_
  refine mv h fun a w h => ?_
  refine nl0 ?_
  refine thN ?_
  refine blk ?_
  refine lp (β := Nat) (fun k a w => (k ≤ xs.length ∧ ∀ j (hj : j < xs.length), j < k → q xs[j] = false) ∧ S E H 19 [] [(8, .int .i64 (k : Int)), (7, .int .i64 (xs.length : Int)), (0, .slice A xs.length c), (1, .func (.func f) #[] caps)] (L) a w)
    (fun k => xs.length - k) 0 ⟨⟨Nat.zero_le _, fun j hj h0 => absurd h0 (by omega)⟩, h.to 0 _⟩ ?_
  rintro k a w ⟨pre, h⟩
  refine sq ?_
  refine rg0 ?_
  refine lt h fun a w h => ?_
  refine nl0 ?_
  refine thN ?_
  refine sq ?_
  refine cdB h (fun c9 => ?_) (fun c9 => ?_)
  · have c9 : k < xs.length := by simpa using c9
    obtain ⟨g, off, rfl, hvt, hcell⟩ := CS.get hxs c9
    refine sk_ ?_
    refine thN ?_
    refine sq ?_
    refine blk ?_
    refine sq ?_
    refine rg0 ?_
    refine mv h fun a w h => ?_
    refine as_ h fun a w h => ?_
    refine nl0 ?_
    refine thN ?_
    refine sq ?_
    refine rg0 ?_
    refine mv h fun a w h => ?_
    refine mv h fun a w h => ?_
    refine mv h fun a w h => ?_
    refine ia sli25 sz72 rfl c9 h fun a w h => ?_
    refine ldHN tN72 rfl hcell h fun a w h => ?_
    refine cl hf (hq k c9 _ hvt) h fun r16 H16 L16 a w le16 R h => ?_
    obtain ⟨rfl, rfl, rfl⟩ := R
    refine nl0 ?_
    refine thN ?_
    refine cdB h (fun c16 => ?_) (fun c16 => ?_)
    · have hfact : indexF q xs = (k : Int) := indexF_at c9 (fun j hj hjk => pre.2 j hj hjk) c16
      refine sq ?_
      refine rg0 ?_
      refine mv h fun a w h => ?_
      refine as_ h fun a w h => ?_
      refine nl0 ?_
      refine thN ?_
      refine ret_ ?_
      refine ibR ?_
      refine thR ?_
      refine thR ?_
      refine ibR ?_
      refine thR ?_
      refine fin1 4 0 h LE.rfl ?_
      exact ⟨by rw [hfact], rfl, rfl⟩
    · have hne : q xs[k] = false := c16
      refine sk_ ?_
      refine ibN ?_
      refine thN ?_
      refine rg0 ?_
      refine inc ?_ h fun a w h => ?_
      · omega
      refine mv h fun a w h => ?_
      refine nl0 ?_
      refine thN ?_
      exact ⟨(k + 1), ⟨⟨by omega, fun j hj hjk => by rcases Nat.lt_succ_iff_lt_or_eq.1 hjk with h0 | rfl <;> first | exact hne | exact pre.2 j hj h0⟩, h.to 0 _⟩, by show _ - (k + 1) < _ - k; omega⟩
  · have hk : k = xs.length := by simp at c9; omega
    have hfact : indexF q xs = -1 := indexF_no fun j hj => pre.2 j hj (by omega)
    refine exit_ ?_
    refine thE ?_
    refine thE ?_
    refine ibH ?_
    refine thN ?_
    refine sq ?_
    refine rg0 ?_
    refine as_ h fun a w h => ?_
    refine nl0 ?_
    refine thN ?_
    refine ret_ ?_
    refine fin1 4 0 h LE.rfl ?_
    exact ⟨by rw [hfact], rfl, rfl⟩

theorem ContainsFunc_Dc_ok (xs : List Dc) (A : Option Addr) (c : Nat) (q : Dc → Bool) (f : FuncId) (caps : Array Value) (E : World) (H : GH) (L : List It) (hxs : CS H A c xs) (hb : xs.length < 1000000000000) (hf : bodT Tryz.prog f = true)
    (hq : ∀ j (hj : j < xs.length) (v : Value), VDc H v xs[j] → Ok Tryz.prog f (#[] ++ [v].toArray ++ caps) E H L fun r H' L' => r = .bool (q xs[j]) ∧ H = H' ∧ L = L') :
    Ok Tryz.prog 87 #[.slice A xs.length c, .func (.func f) #[] caps] E H L fun r H' L' => r = .bool (xs.any q) ∧ H = H' ∧ L = L' := by
  refine enter (N := 9) [(0, _), (1, _)] Tryz.func87 rfl rfl rfl rfl fun a w h => ?_
  refine sq ?_
  refine rg0 ?_
  refine as_ h fun a w h => ?_
  refine nl0 ?_
  refine thN ?_
  refine sq ?_
  refine rg0 ?_
  refine mv h fun a w h => ?_
  refine mv h fun a w h => ?_
  refine cl bod111 (IndexFunc_Dc_ok xs A c q f caps E H _ hxs hb hf hq) h fun r7 H7 L7 a w le7 R h => ?_
  obtain ⟨rfl, rfl, rfl⟩ := R
  refine ge h fun a w h => ?_
  refine as_ h fun a w h => ?_
  refine nl0 ?_
  refine thN ?_
  refine ret_ ?_
  refine fin1 4 0 h LE.rfl ?_
  exact ⟨by rw [← indexF_ge], rfl, rfl⟩

theorem IndexFunc_Df_ok (xs : List Df) (A : Option Addr) (c : Nat) (q : Df → Bool) (f : FuncId) (caps : Array Value) (E : World) (H : GH) (L : List It) (hxs : FS H A c xs) (hb : xs.length < 1000000000000) (hf : bodT Tryz.prog f = true)
    (hq : ∀ j (hj : j < xs.length) (v : Value), VDf H v xs[j] → Ok Tryz.prog f (#[] ++ [v].toArray ++ caps) E H L fun r H' L' => r = .bool (q xs[j]) ∧ H = H' ∧ L = L') :
    Ok Tryz.prog 113 #[.slice A xs.length c, .func (.func f) #[] caps] E H L fun r H' L' => r = .int .i64 (indexF q xs) ∧ H = H' ∧ L = L' := by
  refine enter (N := 19) [(0, _), (1, _)] Tryz.func113 rfl rfl rfl rfl fun a w h => ?_
  refine sq ?_
  refine rg0 ?_
  refine as_ h fun a w h => ?_
  refine nl0 ?_
  refine thN ?_
  refine sq ?_
  refine sq ?_
  refine rg0 ?_
  refine mv h fun a w h => ?_
  refine ln sli26 h fun a w h => ?_
  refine mv h fun a w h => ?_
  refine nl0 ?_
  refine thN ?_
  refine blk ?_
  refine lp (β := Nat) (fun k a w => (k ≤ xs.length ∧ ∀ j (hj : j < xs.length), j < k → q xs[j] = false) ∧ S E H 19 [] [(8, .int .i64 (k : Int)), (7, .int .i64 (xs.length : Int)), (0, .slice A xs.length c), (1, .func (.func f) #[] caps)] (L) a w)
    (fun k => xs.length - k) 0 ⟨⟨Nat.zero_le _, fun j hj h0 => absurd h0 (by omega)⟩, h.to 0 _⟩ ?_
  rintro k a w ⟨pre, h⟩
  refine sq ?_
  refine rg0 ?_
  refine lt h fun a w h => ?_
  refine nl0 ?_
  refine thN ?_
  refine sq ?_
  refine cdB h (fun c9 => ?_) (fun c9 => ?_)
  · have c9 : k < xs.length := by simpa using c9
    obtain ⟨g, off, A2, c2, rfl, hvt, hcell⟩ := FS.get hxs c9
    refine sk_ ?_
    refine thN ?_
    refine sq ?_
    refine blk ?_
    refine sq ?_
    refine rg0 ?_
    refine mv h fun a w h => ?_
    refine as_ h fun a w h => ?_
    refine nl0 ?_
    refine thN ?_
    refine sq ?_
    refine rg0 ?_
    refine mv h fun a w h => ?_
    refine mv h fun a w h => ?_
    refine mv h fun a w h => ?_
    refine ia sli26 sz68 rfl c9 h fun a w h => ?_
    refine ldHN tN68 rfl hcell h fun a w h => ?_
    refine cl hf (hq k c9 _ hvt) h fun r16 H16 L16 a w le16 R h => ?_
    obtain ⟨rfl, rfl, rfl⟩ := R
    refine nl0 ?_
    refine thN ?_
    refine cdB h (fun c16 => ?_) (fun c16 => ?_)
    · have hfact : indexF q xs = (k : Int) := indexF_at c9 (fun j hj hjk => pre.2 j hj hjk) c16
      refine sq ?_
      refine rg0 ?_
      refine mv h fun a w h => ?_
      refine as_ h fun a w h => ?_
      refine nl0 ?_
      refine thN ?_
      refine ret_ ?_
      refine ibR ?_
      refine thR ?_
      refine thR ?_
      refine ibR ?_
      refine thR ?_
      refine fin1 4 0 h LE.rfl ?_
      exact ⟨by rw [hfact], rfl, rfl⟩
    · have hne : q xs[k] = false := c16
      refine sk_ ?_
      refine ibN ?_
      refine thN ?_
      refine rg0 ?_
      refine inc ?_ h fun a w h => ?_
      · omega
      refine mv h fun a w h => ?_
      refine nl0 ?_
      refine thN ?_
      exact ⟨(k + 1), ⟨⟨by omega, fun j hj hjk => by rcases Nat.lt_succ_iff_lt_or_eq.1 hjk with h0 | rfl <;> first | exact hne | exact pre.2 j hj h0⟩, h.to 0 _⟩, by show _ - (k + 1) < _ - k; omega⟩
  · have hk : k = xs.length := by simp at c9; omega
    have hfact : indexF q xs = -1 := indexF_no fun j hj => pre.2 j hj (by omega)
    refine exit_ ?_
    refine thE ?_
    refine thE ?_
    refine ibH ?_
    refine thN ?_
    refine sq ?_
    refine rg0 ?_
    refine as_ h fun a w h => ?_
    refine nl0 ?_
    refine thN ?_
    refine ret_ ?_
    refine fin1 4 0 h LE.rfl ?_
    exact ⟨by rw [hfact], rfl, rfl⟩

theorem ContainsFunc_Df_ok (xs : List Df) (A : Option Addr) (c : Nat) (q : Df → Bool) (f : FuncId) (caps : Array Value) (E : World) (H : GH) (L : List It) (hxs : FS H A c xs) (hb : xs.length < 1000000000000) (hf : bodT Tryz.prog f = true)
    (hq : ∀ j (hj : j < xs.length) (v : Value), VDf H v xs[j] → Ok Tryz.prog f (#[] ++ [v].toArray ++ caps) E H L fun r H' L' => r = .bool (q xs[j]) ∧ H = H' ∧ L = L') :
    Ok Tryz.prog 89 #[.slice A xs.length c, .func (.func f) #[] caps] E H L fun r H' L' => r = .bool (xs.any q) ∧ H = H' ∧ L = L' := by
  refine enter (N := 9) [(0, _), (1, _)] Tryz.func89 rfl rfl rfl rfl fun a w h => ?_
  refine sq ?_
  refine rg0 ?_
  refine as_ h fun a w h => ?_
  refine nl0 ?_
  refine thN ?_
  refine sq ?_
  refine rg0 ?_
  refine mv h fun a w h => ?_
  refine mv h fun a w h => ?_
  refine cl bod113 (IndexFunc_Df_ok xs A c q f caps E H _ hxs hb hf hq) h fun r7 H7 L7 a w le7 R h => ?_
  obtain ⟨rfl, rfl, rfl⟩ := R
  refine ge h fun a w h => ?_
  refine as_ h fun a w h => ?_
  refine nl0 ?_
  refine thN ?_
  refine ret_ ?_
  refine fin1 4 0 h LE.rfl ?_
  exact ⟨by rw [← indexF_ge], rfl, rfl⟩

theorem IndexFunc_Bs_ok (xs : List Bs) (A : Option Addr) (c : Nat) (q : Bs → Bool) (f : FuncId) (caps : Array Value) (E : World) (H : GH) (L : List It) (hxs : SS H A c xs) (hb : xs.length < 1000000000000) (hf : bodT Tryz.prog f = true)
    (hq : ∀ j (hj : j < xs.length) (v : Value), v = str xs[j] → Ok Tryz.prog f (#[] ++ [v].toArray ++ caps) E H L fun r H' L' => r = .bool (q xs[j]) ∧ H = H' ∧ L = L') :
    Ok Tryz.prog 67 #[.slice A xs.length c, .func (.func f) #[] caps] E H L fun r H' L' => r = .int .i64 (indexF q xs) ∧ H = H' ∧ L = L' := by
  refine enter (N := 19) [(0, _), (1, _)] Tryz.func67 rfl rfl rfl rfl fun a w h => ?_
  refine sq ?_
  refine rg0 ?_
  refine as_ h fun a w h => ?_
  refine nl0 ?_
  refine thN ?_
  refine sq ?_
  refine sq ?_
  refine rg0 ?_
  refine mv h fun a w h => ?_
  refine ln sli58 h fun a w h => ?_
  refine mv h fun a w h => ?_
  refine nl0 ?_
  refine thN ?_
  refine blk ?_
  refine lp (β := Nat) (fun k a w => (k ≤ xs.length ∧ ∀ j (hj : j < xs.length), j < k → q xs[j] = false) ∧ S E H 19 [] [(8, .int .i64 (k : Int)), (7, .int .i64 (xs.length : Int)), (0, .slice A xs.length c), (1, .func (.func f) #[] caps)] (L) a w)
    (fun k => xs.length - k) 0 ⟨⟨Nat.zero_le _, fun j hj h0 => absurd h0 (by omega)⟩, h.to 0 _⟩ ?_
  rintro k a w ⟨pre, h⟩
  refine sq ?_
  refine rg0 ?_
  refine lt h fun a w h => ?_
  refine nl0 ?_
  refine thN ?_
  refine sq ?_
  refine cdB h (fun c9 => ?_) (fun c9 => ?_)
  · have c9 : k < xs.length := by simpa using c9
    obtain ⟨g, off, rfl, hcell⟩ := hxs.get c9
    refine sk_ ?_
    refine thN ?_
    refine sq ?_
    refine blk ?_
    refine sq ?_
    refine rg0 ?_
    refine mv h fun a w h => ?_
    refine as_ h fun a w h => ?_
    refine nl0 ?_
    refine thN ?_
    refine sq ?_
    refine rg0 ?_
    refine mv h fun a w h => ?_
    refine mv h fun a w h => ?_
    refine mv h fun a w h => ?_
    refine ia sli58 sz9 rfl c9 h fun a w h => ?_
    refine ldH t1_9 hcell h fun a w h => ?_
    refine cl hf (hq k c9 _ rfl) h fun r16 H16 L16 a w le16 R h => ?_
    obtain ⟨rfl, rfl, rfl⟩ := R
    refine nl0 ?_
    refine thN ?_
    refine cdB h (fun c16 => ?_) (fun c16 => ?_)
    · have hfact : indexF q xs = (k : Int) := indexF_at c9 (fun j hj hjk => pre.2 j hj hjk) c16
      refine sq ?_
      refine rg0 ?_
      refine mv h fun a w h => ?_
      refine as_ h fun a w h => ?_
      refine nl0 ?_
      refine thN ?_
      refine ret_ ?_
      refine ibR ?_
      refine thR ?_
      refine thR ?_
      refine ibR ?_
      refine thR ?_
      refine fin1 4 0 h LE.rfl ?_
      exact ⟨by rw [hfact], rfl, rfl⟩
    · have hne : q xs[k] = false := c16
      refine sk_ ?_
      refine ibN ?_
      refine thN ?_
      refine rg0 ?_
      refine inc ?_ h fun a w h => ?_
      · omega
      refine mv h fun a w h => ?_
      refine nl0 ?_
      refine thN ?_
      exact ⟨(k + 1), ⟨⟨by omega, fun j hj hjk => by rcases Nat.lt_succ_iff_lt_or_eq.1 hjk with h0 | rfl <;> first | exact hne | exact pre.2 j hj h0⟩, h.to 0 _⟩, by show _ - (k + 1) < _ - k; omega⟩
  · have hk : k = xs.length := by simp at c9; omega
    have hfact : indexF q xs = -1 := indexF_no fun j hj => pre.2 j hj (by omega)
    refine exit_ ?_
    refine thE ?_
    refine thE ?_
    refine ibH ?_
    refine thN ?_
    refine sq ?_
    refine rg0 ?_
    refine as_ h fun a w h => ?_
    refine nl0 ?_
    refine thN ?_
    refine ret_ ?_
    refine fin1 4 0 h LE.rfl ?_
    exact ⟨by rw [hfact], rfl, rfl⟩

theorem ContainsFunc_Bs_ok (xs : List Bs) (A : Option Addr) (c : Nat) (q : Bs → Bool) (f : FuncId) (caps : Array Value) (E : World) (H : GH) (L : List It) (hxs : SS H A c xs) (hb : xs.length < 1000000000000) (hf : bodT Tryz.prog f = true)
    (hq : ∀ j (hj : j < xs.length) (v : Value), v = str xs[j] → Ok Tryz.prog f (#[] ++ [v].toArray ++ caps) E H L fun r H' L' => r = .bool (q xs[j]) ∧ H = H' ∧ L = L') :
    Ok Tryz.prog 45 #[.slice A xs.length c, .func (.func f) #[] caps] E H L fun r H' L' => r = .bool (xs.any q) ∧ H = H' ∧ L = L' := by
  refine enter (N := 9) [(0, _), (1, _)] Tryz.func45 rfl rfl rfl rfl fun a w h => ?_
  refine sq ?_
  refine rg0 ?_
  refine as_ h fun a w h => ?_
  refine nl0 ?_
  refine thN ?_
  refine sq ?_
  refine rg0 ?_
  refine mv h fun a w h => ?_
  refine mv h fun a w h => ?_
  refine cl bod67 (IndexFunc_Bs_ok xs A c q f caps E H _ hxs hb hf hq) h fun r7 H7 L7 a w le7 R h => ?_
  obtain ⟨rfl, rfl, rfl⟩ := R
  refine ge h fun a w h => ?_
  refine as_ h fun a w h => ?_
  refine nl0 ?_
  refine thN ?_
  refine ret_ ?_
  refine fin1 4 0 h LE.rfl ?_
  exact ⟨by rw [← indexF_ge], rfl, rfl⟩

theorem wrong_ok : ∀ (t : Tm) (v : Value) (E : World) (H : GH) (L : List It) (gc : Nat), VT H v t → Laid H → Hc H gc 0 (.func (.func 114) #[] #[.pointer (some ⟨gc, 0, none⟩)]) → t.long < 1000000000000 → t.size < 1000000000000 →
    Ok Tryz.prog 114 #[v, .pointer (some ⟨gc, 0, none⟩)] E H L fun r H' L' => r = .bool t.wrong ∧ H = H' ∧ L = L' := by
  intro t
  induction t using Tm.ind with
  | h kd nm nn ks ih =>
  intro v E H L gc hv hL hcl hlg hsz
  have hv0 := hv
  obtain ⟨A, c, rfl, hks⟩ := hv
  simp only [Tm.size] at hsz
  simp only [Tm.long] at hlg
  have hks : KS H A c ks := hks
  have hlen := length_le_sizeL ks
  have hv := hv0
  have hln : (Tm.mk kd nm nn ks).name.length < 1000000000000 := by show nm.length < _; omega
  have hnw : (Tm.mk kd nm nn ks).wrong = (!(Tm.mk kd nm nn ks).node || ks.any Tm.wrong) := by simp only [Tm.wrong, wrongL_any]; rfl
  refine enter (N := 13) [(0, _), (1, _)] Tryz.func114 rfl rfl rfl rfl fun a w h => ?_
  refine sq ?_
  refine rg0 ?_
  refine bxA h fun g2 a w h => ?_
  refine as_ h fun a w h => ?_
  refine nl0 ?_
  refine thN ?_
  refine sq ?_
  refine rg0 ?_
  refine ldW 0 tN24 h fun a w h => ?_
  refine cl bod115 (node_ok _ _ E H _ hv hL hln) h fun r5 H5 L5 a w le5 R h => ?_
  obtain ⟨rfl, rfl, rfl⟩ := R
  refine nt h fun a w h => ?_
  refine h.spl (fun c6 h => ?_) (fun c6 h => ?_)
  · refine mv h fun a w h => ?_
    refine sk h (k := fun a w h => ?_)
    refine sk h (k := fun a w h => ?_)
    refine sk h (k := fun a w h => ?_)
    refine sk h (k := fun a w h => ?_)
    refine pkT h fun a w h => ?_
    refine as_ h fun a w h => ?_
    refine nl0 ?_
    refine thN ?_
    refine ret_ ?_
    refine fin1 3 1 h LE.rfl ?_
    exact ⟨by rw [hnw, c6]; rfl, rfl, rfl⟩
  · refine mv h fun a w h => ?_
    refine fa fl24_3 (r := 3) h fun a w h => ?_
    refine ld 0 t1_22 h fun a w h => ?_
    refine ldH t1_81 hcl h fun a w h => ?_
    refine cl bod116 (ContainsFunc_Tm_ok ks A c Tm.wrong 114 #[.pointer (some ⟨gc, 0, none⟩)] E H _ hks (by omega) bod114 (fun j hj v hv => ih _ (List.getElem_mem hj) v E H _ gc hv hL hcl (by have := long_get hj; omega) (by have := size_get_le hj; omega))) h fun r11 H11 L11 a w le11 R h => ?_
    obtain ⟨rfl, rfl, rfl⟩ := R
    refine pkF h fun a w h => ?_
    refine as_ h fun a w h => ?_
    refine nl0 ?_
    refine thN ?_
    refine ret_ ?_
    refine fin1 3 1 h LE.rfl ?_
    exact ⟨by rw [hnw, c6]; rfl, rfl, rfl⟩

theorem Right_ok (t : Tm) (v : Value) (E : World) (H : GH) (L : List It) (hv : VT H v t) (hL : Laid H) (hlg : t.long < 1000000000000) (hsz : t.size < 1000000000000) : Ok Tryz.prog 91 #[v] E H L fun r H' L' => r = .bool t.right ∧ H = H' ∧ L = L' := by
  have hv0 := hv
  obtain ⟨A, c, rfl, hks⟩ := hv
  have hv := hv0
  refine enter (N := 19) [(0, _)] Tryz.func91 rfl rfl rfl rfl fun a w h => ?_
  refine sq ?_
  refine rg0 ?_
  refine bxA h fun g1 a w h => ?_
  refine as_ h fun a w h => ?_
  refine nl0 ?_
  refine thN ?_
  refine sq ?_
  refine rg0 ?_
  refine al zr81 h fun g3 a w h => ?_
  refine nl0 ?_
  refine thN ?_
  refine sq ?_
  refine rg0 ?_
  refine mf h fun a w h => ?_
  refine st0 (l := [_]) t1_81 h fun a w h => ?_
  refine nl0 ?_
  refine thN ?_
  refine sq ?_
  refine rg0 ?_
  obtain ⟨H1, le1, h, hfz⟩ := h.frz 0
  have hcl : Hc H1 g3 0 (.func (.func 114) #[] #[.pointer (some ⟨g3, 0, none⟩)]) := Hc.of hfz rfl
  have hv := hv.mono le1
  have hL := hL.up le1
  have hle := H1
  refine ldW 0 tN24 h fun a w h => ?_
  refine cl bod25 (Depth_ok t _ E H1 _ hv hsz) h fun r6 H6 L6 a w le6 R h => ?_
  obtain ⟨rfl, rfl, rfl⟩ := R
  refine le h fun a w h => ?_
  refine h.spl (fun c7 h => ?_) (fun c7 h => ?_)
  · refine mv h fun a w h => ?_
    refine ldW 0 tN24 h fun a w h => ?_
    refine cl bod24 (Size_ok t _ E H1 _ hv hsz) h fun r10 H10 L10 a w le10 R h => ?_
    obtain ⟨rfl, rfl, rfl⟩ := R
    refine le h fun a w h => ?_
    refine pkT h fun a w h => ?_
    refine h.spl (fun c12 h => ?_) (fun c12 h => ?_)
    · refine mv h fun a w h => ?_
      refine ldH t1_81 hcl h fun a w h => ?_
      refine ldW 0 tN24 h fun a w h => ?_
      refine cl bod114 (wrong_ok t _ E H1 _ g3 hv hL hcl hlg hsz) h fun r16 H16 L16 a w le16 R h => ?_
      obtain ⟨rfl, rfl, rfl⟩ := R
      refine nt h fun a w h => ?_
      refine pkT h fun a w h => ?_
      refine as_ h fun a w h => ?_
      refine nl0 ?_
      refine thN ?_
      refine ret_ ?_
      refine fin1 2 1 (h.less le1) LE.rfl ?_
      exact ⟨by first | (simp only [Tm.right, c7, c12]; done) | (simp only [Tm.right, c7, c12]; rfl), rfl, rfl⟩
    · refine mv h fun a w h => ?_
      refine sk h (k := fun a w h => ?_)
      refine sk h (k := fun a w h => ?_)
      refine sk h (k := fun a w h => ?_)
      refine sk h (k := fun a w h => ?_)
      refine pkF h fun a w h => ?_
      refine as_ h fun a w h => ?_
      refine nl0 ?_
      refine thN ?_
      refine ret_ ?_
      refine fin1 2 1 (h.less le1) LE.rfl ?_
      exact ⟨by first | (simp only [Tm.right, c7, c12]; done) | (simp only [Tm.right, c7, c12]; rfl), rfl, rfl⟩
  · refine mv h fun a w h => ?_
    refine sk h (k := fun a w h => ?_)
    refine sk h (k := fun a w h => ?_)
    refine sk h (k := fun a w h => ?_)
    refine pkF h fun a w h => ?_
    refine mv h fun a w h => ?_
    refine sk h (k := fun a w h => ?_)
    refine sk h (k := fun a w h => ?_)
    refine sk h (k := fun a w h => ?_)
    refine sk h (k := fun a w h => ?_)
    refine pkF h fun a w h => ?_
    refine as_ h fun a w h => ?_
    refine nl0 ?_
    refine thN ?_
    refine ret_ ?_
    refine fin1 2 1 (h.less le1) LE.rfl ?_
    exact ⟨by first | (simp only [Tm.right, c7]; done) | (simp only [Tm.right, c7]; rfl), rfl, rfl⟩

theorem Dwrong_ok (d : Dc) (v : Value) (E : World) (H : GH) (L : List It) (hv : VDc H v d) (hL : Laid H) (h1 : d.name.length < 1000000000000) (h2 : d.label.length < 1000000000000) : Ok Tryz.prog 88 #[v] E H L fun r H' L' => r = .bool d.wrong ∧ H = H' ∧ L = L' := by
  unfold VDc at hv; subst hv
  refine enter (N := 23) [(0, _)] Tryz.func88 rfl rfl rfl rfl fun a w h => ?_
  refine sq ?_
  refine rg0 ?_
  refine bxA h fun g1 a w h => ?_
  refine as_ h fun a w h => ?_
  refine nl0 ?_
  refine thN ?_
  refine sq ?_
  refine rg0 ?_
  refine fa fl72_0 (r := 0) h fun a w h => ?_
  refine ld 0 t1_9 h fun a w h => ?_
  refine cl bod112 (word_ok d.name E H _ hL (by omega)) h fun r5 H5 L5 a w le5 R h => ?_
  obtain ⟨rfl, rfl, rfl⟩ := R
  refine nt h fun a w h => ?_
  refine h.spl (fun c6 h => ?_) (fun c6 h => ?_)
  · refine mv h fun a w h => ?_
    refine sk h (k := fun a w h => ?_)
    refine sk h (k := fun a w h => ?_)
    refine sk h (k := fun a w h => ?_)
    refine sk h (k := fun a w h => ?_)
    refine pkT h fun a w h => ?_
    refine mv h fun a w h => ?_
    refine sk h (k := fun a w h => ?_)
    refine sk h (k := fun a w h => ?_)
    refine sk h (k := fun a w h => ?_)
    refine pkT h fun a w h => ?_
    refine mv h fun a w h => ?_
    refine sk h (k := fun a w h => ?_)
    refine sk h (k := fun a w h => ?_)
    refine sk h (k := fun a w h => ?_)
    refine pkT h fun a w h => ?_
    refine as_ h fun a w h => ?_
    refine nl0 ?_
    refine thN ?_
    refine ret_ ?_
    refine fin1 2 1 h LE.rfl ?_
    exact ⟨by first | (simp only [Dc.wrong, c6]; done) | (simp only [Dc.wrong, c6]; rfl), rfl, rfl⟩
  · refine mv h fun a w h => ?_
    refine fa fl72_1 (r := 1) h fun a w h => ?_
    refine ld 0 t1_9 h fun a w h => ?_
    refine cl bod112 (word_ok d.label E H _ hL (by omega)) h fun r10 H10 L10 a w le10 R h => ?_
    obtain ⟨rfl, rfl, rfl⟩ := R
    refine nt h fun a w h => ?_
    refine pkF h fun a w h => ?_
    refine h.spl (fun c12 h => ?_) (fun c12 h => ?_)
    · refine mv h fun a w h => ?_
      refine sk h (k := fun a w h => ?_)
      refine sk h (k := fun a w h => ?_)
      refine sk h (k := fun a w h => ?_)
      refine pkT h fun a w h => ?_
      refine mv h fun a w h => ?_
      refine sk h (k := fun a w h => ?_)
      refine sk h (k := fun a w h => ?_)
      refine sk h (k := fun a w h => ?_)
      refine pkT h fun a w h => ?_
      refine as_ h fun a w h => ?_
      refine nl0 ?_
      refine thN ?_
      refine ret_ ?_
      refine fin1 2 1 h LE.rfl ?_
      exact ⟨by first | (simp only [Dc.wrong, c6, c12]; done) | (simp only [Dc.wrong, c6, c12]; rfl), rfl, rfl⟩
    · refine mv h fun a w h => ?_
      refine fa fl72_2 (r := 2) h fun a w h => ?_
      refine ld 0 t1_2 h fun a w h => ?_
      refine lt h fun a w h => ?_
      refine pkF h fun a w h => ?_
      refine h.spl (fun c17 h => ?_) (fun c17 h => ?_)
      · refine mv h fun a w h => ?_
        refine sk h (k := fun a w h => ?_)
        refine sk h (k := fun a w h => ?_)
        refine sk h (k := fun a w h => ?_)
        refine pkT h fun a w h => ?_
        refine as_ h fun a w h => ?_
        refine nl0 ?_
        refine thN ?_
        refine ret_ ?_
        refine fin1 2 1 h LE.rfl ?_
        exact ⟨by first | (simp only [Dc.wrong, c6, c12, c17]; done) | (simp only [Dc.wrong, c6, c12, c17]; rfl), rfl, rfl⟩
      · refine mv h fun a w h => ?_
        refine fa fl72_2 (r := 2) h fun a w h => ?_
        refine ld 0 t1_2 h fun a w h => ?_
        refine ge h fun a w h => ?_
        refine pkF h fun a w h => ?_
        refine as_ h fun a w h => ?_
        refine nl0 ?_
        refine thN ?_
        refine ret_ ?_
        refine fin1 2 1 h LE.rfl ?_
        exact ⟨by first | (simp only [Dc.wrong, c6, c12, c17]; done) | (simp only [Dc.wrong, c6, c12, c17]; rfl), rfl, rfl⟩

theorem set_ok (d : Dc) (v : Value) (E : World) (H : GH) (L : List It) (hv : VDc H v d) : Ok Tryz.prog 86 #[v] E H L fun r H' L' => r = .bool (d.n != 0) ∧ H = H' ∧ L = L' := by
  unfold VDc at hv; subst hv
  refine enter (N := 6) [(0, _)] Tryz.func86 rfl rfl rfl rfl fun a w h => ?_
  refine sq ?_
  refine rg0 ?_
  refine bxA h fun g1 a w h => ?_
  refine as_ h fun a w h => ?_
  refine nl0 ?_
  refine thN ?_
  refine sq ?_
  refine rg0 ?_
  refine fa fl72_2 (r := 2) h fun a w h => ?_
  refine ld 0 t1_2 h fun a w h => ?_
  refine nei h fun a w h => ?_
  refine as_ h fun a w h => ?_
  refine nl0 ?_
  refine thN ?_
  refine ret_ ?_
  refine fin1 2 1 h LE.rfl ?_
  exact ⟨rfl, rfl, rfl⟩

theorem Fwrong_ok (d : Df) (v : Value) (E : World) (H : GH) (L : List It) (hv : VDf H v d) (hL : Laid H) (h1 : d.name.length < 1000000000000) (h2 : d.t.long < 1000000000000) (h3 : d.t.size < 1000000000000) : Ok Tryz.prog 90 #[v] E H L fun r H' L' => r = .bool d.wrong ∧ H = H' ∧ L = L' := by
  obtain ⟨A, c, rfl, hks⟩ := hv
  refine enter (N := 19) [(0, _)] Tryz.func90 rfl rfl rfl rfl fun a w h => ?_
  refine sq ?_
  refine rg0 ?_
  refine bxA h fun g1 a w h => ?_
  refine as_ h fun a w h => ?_
  refine nl0 ?_
  refine thN ?_
  refine sq ?_
  refine rg0 ?_
  refine fa fl68_0 (r := 0) h fun a w h => ?_
  refine ld 0 t1_9 h fun a w h => ?_
  refine cl bod112 (word_ok d.name E H _ hL (by omega)) h fun r5 H5 L5 a w le5 R h => ?_
  obtain ⟨rfl, rfl, rfl⟩ := R
  refine nt h fun a w h => ?_
  refine h.spl (fun c6 h => ?_) (fun c6 h => ?_)
  · refine mv h fun a w h => ?_
    refine sk h (k := fun a w h => ?_)
    refine sk h (k := fun a w h => ?_)
    refine sk h (k := fun a w h => ?_)
    refine sk h (k := fun a w h => ?_)
    refine pkT h fun a w h => ?_
    refine mv h fun a w h => ?_
    refine sk h (k := fun a w h => ?_)
    refine sk h (k := fun a w h => ?_)
    refine sk h (k := fun a w h => ?_)
    refine sk h (k := fun a w h => ?_)
    refine pkT h fun a w h => ?_
    refine as_ h fun a w h => ?_
    refine nl0 ?_
    refine thN ?_
    refine ret_ ?_
    refine fin1 2 1 h LE.rfl ?_
    exact ⟨by first | (simp only [Df.wrong, c6]; done) | (simp only [Df.wrong, c6]; rfl), rfl, rfl⟩
  · refine mv h fun a w h => ?_
    refine fa fl68_1 (r := 1) h fun a w h => ?_
    refine ldN 0 tN24 h fun a w h => ?_
    refine cl bod91 (Right_ok d.t _ E H _ (VDf.t hks) hL (by omega) (by omega)) h fun r10 H10 L10 a w le10 R h => ?_
    obtain ⟨rfl, rfl, rfl⟩ := R
    refine nt h fun a w h => ?_
    refine pkF h fun a w h => ?_
    refine h.spl (fun c12 h => ?_) (fun c12 h => ?_)
    · refine mv h fun a w h => ?_
      refine sk h (k := fun a w h => ?_)
      refine sk h (k := fun a w h => ?_)
      refine sk h (k := fun a w h => ?_)
      refine sk h (k := fun a w h => ?_)
      refine pkT h fun a w h => ?_
      refine as_ h fun a w h => ?_
      refine nl0 ?_
      refine thN ?_
      refine ret_ ?_
      refine fin1 2 1 h LE.rfl ?_
      exact ⟨by first | (simp only [Df.wrong, c6, c12]; done) | (simp only [Df.wrong, c6, c12]; rfl), rfl, rfl⟩
    · refine mv h fun a w h => ?_
      refine fa fl68_1 (r := 1) h fun a w h => ?_
      refine fa fl24_0 (r := 1) h fun a w h => ?_
      refine ld 0 t1_3 h fun a w h => ?_
      refine nei h fun a w h => ?_
      refine pkF h fun a w h => ?_
      refine as_ h fun a w h => ?_
      refine nl0 ?_
      refine thN ?_
      refine ret_ ?_
      refine fin1 2 1 h LE.rfl ?_
      exact ⟨by first | (simp only [Df.wrong, c6, c12]; done) | (simp only [Df.wrong, c6, c12]; rfl), rfl, rfl⟩

theorem fits_ok (p : Pg) (v : Value) (E : World) (H : GH) (L : List It) (hv : VP H v p) (hL : Laid H) (hb : Mild p) : Ok Tryz.prog 73 #[v] E H L fun r H' L' => r = .bool p.fits ∧ H = H' ∧ L = L' := by
  obtain ⟨A1, c1, A2, c2, A3, c3, A4, c4, rfl, hi, hc, hd, hk⟩ := hv
  have b1 := hb.li
  have b2 := hb.lc
  have b3 := hb.lf
  refine enter (N := 39) [(0, _)] Tryz.func73 rfl rfl rfl rfl fun a w h => ?_
  refine sq ?_
  refine rg0 ?_
  refine bxA h fun g1 a w h => ?_
  refine as_ h fun a w h => ?_
  refine nl0 ?_
  refine thN ?_
  refine sq ?_
  refine rg0 ?_
  refine as_ h fun a w h => ?_
  refine nl0 ?_
  refine thN ?_
  refine sq ?_
  refine sq ?_
  refine rg0 ?_
  refine fa fl28_0 (r := 0) h fun a w h => ?_
  refine ld 0 t1_25 h fun a w h => ?_
  refine cl bod87 (ContainsFunc_Dc_ok p.inputs A1 c1 (Dc.wrong) 88 #[] E H _ hi (by omega) bod88 (fun j hj v hv => Dwrong_ok _ v E H _ hv hL (hb.i _ (List.getElem_mem hj)).1 (hb.i _ (List.getElem_mem hj)).2)) h fun r6 H6 L6 a w le6 R h => ?_
  obtain ⟨rfl, rfl, rfl⟩ := R
  refine h.spl (fun c6 h => ?_) (fun c6 h => ?_)
  · refine mv h fun a w h => ?_
    refine sk h (k := fun a w h => ?_)
    refine sk h (k := fun a w h => ?_)
    refine sk h (k := fun a w h => ?_)
    refine sk h (k := fun a w h => ?_)
    refine pkT h fun a w h => ?_
    refine mv h fun a w h => ?_
    refine sk h (k := fun a w h => ?_)
    refine sk h (k := fun a w h => ?_)
    refine sk h (k := fun a w h => ?_)
    refine pkT h fun a w h => ?_
    refine mv h fun a w h => ?_
    refine sk h (k := fun a w h => ?_)
    refine sk h (k := fun a w h => ?_)
    refine sk h (k := fun a w h => ?_)
    refine pkT h fun a w h => ?_
    refine nl0 ?_
    refine thN ?_
    refine cdT h ?_
    refine sq ?_
    refine rg0 ?_
    refine as_ h fun a w h => ?_
    refine nl0 ?_
    refine thN ?_
    refine ret_ ?_
    refine thR ?_
    refine fin1 2 1 h LE.rfl ?_
    exact ⟨by first | (simp only [Pg.fits, Pg.bad, c6]; done) | (simp only [Pg.fits, Pg.bad, c6]; rfl), rfl, rfl⟩
  · refine mv h fun a w h => ?_
    refine fa fl28_0 (r := 0) h fun a w h => ?_
    refine ld 0 t1_25 h fun a w h => ?_
    refine mv h fun a w h => ?_
    refine cl bod87 (ContainsFunc_Dc_ok p.inputs A1 c1 (fun d => d.n != 0) 86 #[] E H _ hi (by omega) bod86 (fun j hj v hv => set_ok _ v E H _ hv)) h fun r11 H11 L11 a w le11 R h => ?_
    obtain ⟨rfl, rfl, rfl⟩ := R
    refine pkF h fun a w h => ?_
    refine h.spl (fun c12 h => ?_) (fun c12 h => ?_)
    · refine mv h fun a w h => ?_
      refine sk h (k := fun a w h => ?_)
      refine sk h (k := fun a w h => ?_)
      refine sk h (k := fun a w h => ?_)
      refine pkT h fun a w h => ?_
      refine mv h fun a w h => ?_
      refine sk h (k := fun a w h => ?_)
      refine sk h (k := fun a w h => ?_)
      refine sk h (k := fun a w h => ?_)
      refine pkT h fun a w h => ?_
      refine nl0 ?_
      refine thN ?_
      refine cdT h ?_
      refine sq ?_
      refine rg0 ?_
      refine as_ h fun a w h => ?_
      refine nl0 ?_
      refine thN ?_
      refine ret_ ?_
      refine thR ?_
      refine fin1 2 1 h LE.rfl ?_
      exact ⟨by first | (simp only [Pg.fits, Pg.bad, c6, c12]; done) | (simp only [Pg.fits, Pg.bad, c6, c12]; rfl), rfl, rfl⟩
    · refine mv h fun a w h => ?_
      refine fa fl28_1 (r := 1) h fun a w h => ?_
      refine ld 0 t1_25 h fun a w h => ?_
      refine cl bod87 (ContainsFunc_Dc_ok p.cells A2 c2 (Dc.wrong) 88 #[] E H _ hc (by omega) bod88 (fun j hj v hv => Dwrong_ok _ v E H _ hv hL (hb.c _ (List.getElem_mem hj)).1 (hb.c _ (List.getElem_mem hj)).2)) h fun r16 H16 L16 a w le16 R h => ?_
      obtain ⟨rfl, rfl, rfl⟩ := R
      refine pkF h fun a w h => ?_
      refine h.spl (fun c17 h => ?_) (fun c17 h => ?_)
      · refine mv h fun a w h => ?_
        refine sk h (k := fun a w h => ?_)
        refine sk h (k := fun a w h => ?_)
        refine sk h (k := fun a w h => ?_)
        refine pkT h fun a w h => ?_
        refine nl0 ?_
        refine thN ?_
        refine cdT h ?_
        refine sq ?_
        refine rg0 ?_
        refine as_ h fun a w h => ?_
        refine nl0 ?_
        refine thN ?_
        refine ret_ ?_
        refine thR ?_
        refine fin1 2 1 h LE.rfl ?_
        exact ⟨by first | (simp only [Pg.fits, Pg.bad, c6, c12, c17]; done) | (simp only [Pg.fits, Pg.bad, c6, c12, c17]; rfl), rfl, rfl⟩
      · refine mv h fun a w h => ?_
        refine fa fl28_2 (r := 2) h fun a w h => ?_
        refine ld 0 t1_26 h fun a w h => ?_
        refine cl bod89 (ContainsFunc_Df_ok p.defs A3 c3 (Df.wrong) 90 #[] E H _ hd (by omega) bod90 (fun j hj v hv => Fwrong_ok _ v E H _ hv hL (hb.f _ (List.getElem_mem hj)).1 (hb.f _ (List.getElem_mem hj)).2.1 (hb.f _ (List.getElem_mem hj)).2.2)) h fun r21 H21 L21 a w le21 R h => ?_
        obtain ⟨rfl, rfl, rfl⟩ := R
        refine pkF h fun a w h => ?_
        refine nl0 ?_
        refine thN ?_
        refine cdB h (fun c22 => ?_) (fun c22 => ?_)
        · refine sq ?_
          refine rg0 ?_
          refine as_ h fun a w h => ?_
          refine nl0 ?_
          refine thN ?_
          refine ret_ ?_
          refine thR ?_
          refine fin1 2 1 h LE.rfl ?_
          exact ⟨by first | (simp only [Pg.fits, Pg.bad, c6, c12, c17, c22]; done) | (simp only [Pg.fits, Pg.bad, c6, c12, c17, c22]; rfl), rfl, rfl⟩
        · refine sk_ ?_
          refine thN ?_
          refine sq ?_
          refine rg0 ?_
          refine fa fl28_0 (r := 0) h fun a w h => ?_
          refine ld 0 t1_25 h fun a w h => ?_
          refine ln sli25 h fun a w h => ?_
          refine fa fl28_1 (r := 1) h fun a w h => ?_
          refine ld 0 t1_25 h fun a w h => ?_
          refine ln sli25 h fun a w h => ?_
          refine fa fl28_2 (r := 2) h fun a w h => ?_
          refine ld 0 t1_26 h fun a w h => ?_
          refine ln sli26 h fun a w h => ?_
          refine mxl h fun a w h => ?_
          refine le h fun a w h => ?_
          refine h.spl (fun c33 h => ?_) (fun c33 h => ?_)
          · refine mv h fun a w h => ?_
            refine fa fl28_3 (r := 3) h fun a w h => ?_
            refine ldN 0 tN24 h fun a w h => ?_
            refine cl bod91 (Right_ok p.body _ E H _ ⟨A4, c4, rfl, hk⟩ hL (hb.b1) (hb.b2)) h fun r37 H37 L37 a w le37 R h => ?_
            obtain ⟨rfl, rfl, rfl⟩ := R
            refine pkT h fun a w h => ?_
            refine as_ h fun a w h => ?_
            refine nl0 ?_
            refine thN ?_
            refine ret_ ?_
            refine fin1 2 1 h LE.rfl ?_
            exact ⟨by first | (simp only [Pg.fits, Pg.bad, c6, c12, c17, c22, c33]; done) | (simp only [Pg.fits, Pg.bad, c6, c12, c17, c22, c33]; rfl), rfl, rfl⟩
          · refine mv h fun a w h => ?_
            refine sk h (k := fun a w h => ?_)
            refine sk h (k := fun a w h => ?_)
            refine sk h (k := fun a w h => ?_)
            refine pkF h fun a w h => ?_
            refine as_ h fun a w h => ?_
            refine nl0 ?_
            refine thN ?_
            refine ret_ ?_
            refine fin1 2 1 h LE.rfl ?_
            exact ⟨by first | (simp only [Pg.fits, Pg.bad, c6, c12, c17, c22, c33]; done) | (simp only [Pg.fits, Pg.bad, c6, c12, c17, c22, c33]; rfl), rfl, rfl⟩
end Go.Proofs.YtindlieilabgfaaGreatDoor
