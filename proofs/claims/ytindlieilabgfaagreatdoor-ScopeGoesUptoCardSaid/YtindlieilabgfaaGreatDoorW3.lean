/- Walks: names, keywords; slices.Index and Contains at texts. -/
import Derived.Test.YtindlieilabgfaaGreatDoorW1
import Derived.Test.YtindlieilabgfaaGreatDoorP1
import Derived.Test.YtindlieilabgfaaGreatDoorX8
import Derived.Shelf.Strconv.Itoa4
set_option linter.unusedVariables false
set_option linter.unusedSimpArgs false
set_option linter.unusedSectionVars false
set_option autoImplicit false
set_option relaxedAutoImplicit false
set_option maxRecDepth 10000
namespace Go.Proofs.YtindlieilabgfaaGreatDoor
open Go X
/-- What the package-level tables hold. -/
structure Laid (H : GH) : Prop where
  keys : SS H (some ⟨3, 0, none⟩) 14 keysL
  ops : SS H (some ⟨1, 0, none⟩) 5 opsL
  kids : ∀ (j : Nat) (k : Int), kidsL[j]? = some k → Hc H 0 j (.int .i64 k)
  pow : ∀ w, Sees H [] w → Lib.TabIs Tryz.prog w "internal/strconv.uint64pow10" .u64 Lib.pow10Tab
theorem Laid.up {H H' : GH} (h : Laid H) (hl : LE H H') : Laid H' := ⟨h.keys.up hl, h.ops.up hl, fun j k e => (h.kids j k e).mono hl, fun w hw => h.pow w ⟨fun b o e => hw.fro b o (hl b o e), fun i hi => by cases hi⟩⟩
theorem arrK : arrT Tryz.prog 211 = some (14, 9) := by kernel_rfl
theorem arrO : arrT Tryz.prog 188 = some (5, 9) := by kernel_rfl
theorem arrN : arrT Tryz.prog 187 = some (14, 3) := by kernel_rfl

theorem letter_ok (c : UInt8) (E : World) (H : GH) (L : List It) : Ok Tryz.prog 154 #[.int .u8 (c.toNat : Int)] E H L fun r H' L' => r = .bool (letterB c) ∧ H = H' ∧ L = L' := by
  refine enter (N := 11) [(0, _)] Tryz.func154 rfl rfl rfl rfl fun a w h => ?_
  refine sq ?_
  refine rg0 ?_
  refine as_ h fun a w h => ?_
  refine nl0 ?_
  refine thN ?_
  refine sq ?_
  refine rg0 ?_
  refine mv h fun a w h => ?_
  refine orb (c := c) (c' := 32) h fun a w h => ?_
  refine ge h fun a w h => ?_
  refine h.spl (fun c5 h => ?_) (fun c5 h => ?_)
  · refine mv h fun a w h => ?_
    refine mv h fun a w h => ?_
    refine orb (c := c) (c' := 32) h fun a w h => ?_
    refine le h fun a w h => ?_
    refine pkT h fun a w h => ?_
    refine as_ h fun a w h => ?_
    refine nl0 ?_
    refine thN ?_
    refine ret_ ?_
    refine fin1 2 0 h LE.rfl ?_
    exact ⟨by unfold letterB; rw [c5]; first | done | rfl, rfl, rfl⟩
  · refine mv h fun a w h => ?_
    refine sk h (k := fun a w h => ?_)
    refine sk h (k := fun a w h => ?_)
    refine sk h (k := fun a w h => ?_)
    refine pkF h fun a w h => ?_
    refine as_ h fun a w h => ?_
    refine nl0 ?_
    refine thN ?_
    refine ret_ ?_
    refine fin1 2 0 h LE.rfl ?_
    exact ⟨by unfold letterB; rw [c5]; first | done | rfl, rfl, rfl⟩

theorem Name_ok (s : Bs) (E : World) (H : GH) (L : List It) (hb : s.length < 1000000000000) : Ok Tryz.prog 140 #[str s] E H L fun r H' L' => r = .bool (nameB s) ∧ H = H' ∧ L = L' := by
  refine enter (N := 42) [(0, _)] Tryz.func140 rfl rfl rfl rfl fun a w h => ?_
  refine sq ?_
  refine rg0 ?_
  refine as_ h fun a w h => ?_
  refine nl0 ?_
  refine thN ?_
  refine sq ?_
  refine sq ?_
  refine rg0 ?_
  refine mv h fun a w h => ?_
  refine lnb str9 h fun a w h => ?_
  refine mv h fun a w h => ?_
  refine nl0 ?_
  refine thN ?_
  refine blk ?_
  refine lp (β := Nat) (fun k a w => (k ≤ s.length ∧ ∀ j, j < k → okAt s j = true) ∧ S E H 42 [] [(7, .int .i64 (k : Int)), (6, .int .i64 (s.length : Int)), (0, str s)] (L) a w)
    (fun k => s.length - k) 0 ⟨⟨Nat.zero_le _, fun j hj => absurd hj (by omega)⟩, h.to 0 _⟩ ?_
  rintro k a w ⟨pre, h⟩
  refine sq ?_
  refine rg0 ?_
  refine lt h fun a w h => ?_
  refine nl0 ?_
  refine thN ?_
  refine sq ?_
  refine cdB h (fun c8 => ?_) (fun c8 => ?_)
  · have c8 : k < s.length := by simpa using c8
    obtain ⟨c, hc⟩ : ∃ c, s[k]? = some c := ⟨s[k], List.getElem?_eq_getElem c8⟩
    have hgd : s.getD k 0 = c := by simp [List.getD, hc]
    have hoc : okAt s k = (letterB c || (k != 0 && digitB c)) := by unfold okAt; rw [hgd]
    refine sk_ ?_
    refine thN ?_
    refine sq ?_
    refine blk ?_
    refine sq ?_
    refine rg0 ?_
    refine mv h fun a w h => ?_
    refine as_ h fun a w h => ?_
    refine nl0 ?_
    refine thN ?_
    refine sq ?_
    refine rg0 ?_
    refine mv h fun a w h => ?_
    refine mv h fun a w h => ?_
    refine ix str9 rfl hc h fun a w h => ?_
    refine ge h fun a w h => ?_
    refine h.spl (fun c13 h => ?_) (fun c13 h => ?_)
    · refine mv h fun a w h => ?_
      refine mv h fun a w h => ?_
      refine mv h fun a w h => ?_
      refine ix str9 rfl hc h fun a w h => ?_
      refine le h fun a w h => ?_
      refine pkT h fun a w h => ?_
      refine as_ h fun a w h => ?_
      refine nl0 ?_
      refine thN ?_
      refine sq ?_
      refine rg0 ?_
      refine mv h fun a w h => ?_
      refine mv h fun a w h => ?_
      refine ix str9 rfl hc h fun a w h => ?_
      refine cl bod154 (letter_ok c E H _) h fun r23 H23 L23 a w le23 R h => ?_
      obtain ⟨rfl, rfl, rfl⟩ := R
      refine nt h fun a w h => ?_
      refine h.spl (fun c24 h => ?_) (fun c24 h => ?_)
      · refine mv h fun a w h => ?_
        refine mv h fun a w h => ?_
        refine eqi h fun a w h => ?_
        refine h.spl (fun c27 h => ?_) (fun c27 h => ?_)
        · refine mv h fun a w h => ?_
          refine sk h (k := fun a w h => ?_)
          refine sk h (k := fun a w h => ?_)
          refine pkT h fun a w h => ?_
          refine pkT h fun a w h => ?_
          refine nl0 ?_
          refine thN ?_
          have hno : okAt s k = false := by rw [hoc]; (try simp at c8 c13 c24 c27); (try simp [digitB, c8, c13, c24, c27]); (try omega)
          refine cdT h ?_
          refine sq ?_
          refine rg0 ?_
          refine as_ h fun a w h => ?_
          refine nl0 ?_
          refine thN ?_
          refine ret_ ?_
          refine ibR ?_
          refine thR ?_
          refine thR ?_
          refine ibR ?_
          refine thR ?_
          refine fin1 2 0 h LE.rfl ?_
          exact ⟨by rw [nameB_no c8 hno], rfl, rfl⟩
        · refine mv h fun a w h => ?_
          refine mv h fun a w h => ?_
          refine nt h fun a w h => ?_
          refine pkF h fun a w h => ?_
          refine pkT h fun a w h => ?_
          refine nl0 ?_
          refine thN ?_
          refine cdB h (fun c32 => ?_) (fun c32 => ?_)
          · have hno : okAt s k = false := by rw [hoc]; (try simp at c8 c13 c24 c27 c32); (try simp [digitB, c8, c13, c24, c27, c32]); (try omega)
            refine sq ?_
            refine rg0 ?_
            refine as_ h fun a w h => ?_
            refine nl0 ?_
            refine thN ?_
            refine ret_ ?_
            refine ibR ?_
            refine thR ?_
            refine thR ?_
            refine ibR ?_
            refine thR ?_
            refine fin1 2 0 h LE.rfl ?_
            exact ⟨by rw [nameB_no c8 hno], rfl, rfl⟩
          · have hok : okAt s k = true := by rw [hoc]; (try simp at c8 c13 c24 c27 c32); (try simp [digitB, c8, c13, c24, c27, c32]); (try omega)
            refine sk_ ?_
            refine ibN ?_
            refine thN ?_
            refine rg0 ?_
            refine inc ?_ h fun a w h => ?_
            · omega
            refine mv h fun a w h => ?_
            refine nl0 ?_
            refine thN ?_
            exact ⟨(k + 1), ⟨⟨by omega, fun j hj => by rcases Nat.lt_succ_iff_lt_or_eq.1 hj with hj | rfl <;> first | exact hok | exact pre.2 _ hj⟩, h.to 0 _⟩, by show _ - (k + 1) < _ - k; omega⟩
      · refine mv h fun a w h => ?_
        refine sk h (k := fun a w h => ?_)
        refine sk h (k := fun a w h => ?_)
        refine sk h (k := fun a w h => ?_)
        refine sk h (k := fun a w h => ?_)
        refine sk h (k := fun a w h => ?_)
        refine sk h (k := fun a w h => ?_)
        refine pkF h fun a w h => ?_
        refine nl0 ?_
        refine thN ?_
        have hok : okAt s k = true := by rw [hoc]; (try simp at c8 c13 c24); (try simp [digitB, c8, c13, c24]); (try omega)
        refine cdF h ?_
        refine sk_ ?_
        refine ibN ?_
        refine thN ?_
        refine rg0 ?_
        refine inc ?_ h fun a w h => ?_
        · omega
        refine mv h fun a w h => ?_
        refine nl0 ?_
        refine thN ?_
        exact ⟨(k + 1), ⟨⟨by omega, fun j hj => by rcases Nat.lt_succ_iff_lt_or_eq.1 hj with hj | rfl <;> first | exact hok | exact pre.2 _ hj⟩, h.to 0 _⟩, by show _ - (k + 1) < _ - k; omega⟩
    · refine mv h fun a w h => ?_
      refine sk h (k := fun a w h => ?_)
      refine sk h (k := fun a w h => ?_)
      refine sk h (k := fun a w h => ?_)
      refine sk h (k := fun a w h => ?_)
      refine pkF h fun a w h => ?_
      refine as_ h fun a w h => ?_
      refine nl0 ?_
      refine thN ?_
      refine sq ?_
      refine rg0 ?_
      refine mv h fun a w h => ?_
      refine mv h fun a w h => ?_
      refine ix str9 rfl hc h fun a w h => ?_
      refine cl bod154 (letter_ok c E H _) h fun r23 H23 L23 a w le23 R h => ?_
      obtain ⟨rfl, rfl, rfl⟩ := R
      refine nt h fun a w h => ?_
      refine h.spl (fun c24 h => ?_) (fun c24 h => ?_)
      · refine mv h fun a w h => ?_
        refine mv h fun a w h => ?_
        refine eqi h fun a w h => ?_
        refine h.spl (fun c27 h => ?_) (fun c27 h => ?_)
        · refine mv h fun a w h => ?_
          refine sk h (k := fun a w h => ?_)
          refine sk h (k := fun a w h => ?_)
          refine pkT h fun a w h => ?_
          refine pkT h fun a w h => ?_
          refine nl0 ?_
          refine thN ?_
          have hno : okAt s k = false := by rw [hoc]; (try simp at c8 c13 c24 c27); (try simp [digitB, c8, c13, c24, c27]); (try omega)
          refine cdT h ?_
          refine sq ?_
          refine rg0 ?_
          refine as_ h fun a w h => ?_
          refine nl0 ?_
          refine thN ?_
          refine ret_ ?_
          refine ibR ?_
          refine thR ?_
          refine thR ?_
          refine ibR ?_
          refine thR ?_
          refine fin1 2 0 h LE.rfl ?_
          exact ⟨by rw [nameB_no c8 hno], rfl, rfl⟩
        · refine mv h fun a w h => ?_
          refine mv h fun a w h => ?_
          refine nt h fun a w h => ?_
          refine pkF h fun a w h => ?_
          refine pkT h fun a w h => ?_
          refine nl0 ?_
          refine thN ?_
          refine cdB h (fun c32 => ?_) (fun c32 => ?_)
          · have hno : okAt s k = false := by rw [hoc]; (try simp at c8 c13 c24 c27 c32); (try simp [digitB, c8, c13, c24, c27, c32]); (try omega)
            refine sq ?_
            refine rg0 ?_
            refine as_ h fun a w h => ?_
            refine nl0 ?_
            refine thN ?_
            refine ret_ ?_
            refine ibR ?_
            refine thR ?_
            refine thR ?_
            refine ibR ?_
            refine thR ?_
            refine fin1 2 0 h LE.rfl ?_
            exact ⟨by rw [nameB_no c8 hno], rfl, rfl⟩
          · have hok : okAt s k = true := by rw [hoc]; (try simp at c8 c13 c24 c27 c32); (try simp [digitB, c8, c13, c24, c27, c32]); (try omega)
            refine sk_ ?_
            refine ibN ?_
            refine thN ?_
            refine rg0 ?_
            refine inc ?_ h fun a w h => ?_
            · omega
            refine mv h fun a w h => ?_
            refine nl0 ?_
            refine thN ?_
            exact ⟨(k + 1), ⟨⟨by omega, fun j hj => by rcases Nat.lt_succ_iff_lt_or_eq.1 hj with hj | rfl <;> first | exact hok | exact pre.2 _ hj⟩, h.to 0 _⟩, by show _ - (k + 1) < _ - k; omega⟩
      · refine mv h fun a w h => ?_
        refine sk h (k := fun a w h => ?_)
        refine sk h (k := fun a w h => ?_)
        refine sk h (k := fun a w h => ?_)
        refine sk h (k := fun a w h => ?_)
        refine sk h (k := fun a w h => ?_)
        refine sk h (k := fun a w h => ?_)
        refine pkF h fun a w h => ?_
        refine nl0 ?_
        refine thN ?_
        have hok : okAt s k = true := by rw [hoc]; (try simp at c8 c13 c24); (try simp [digitB, c8, c13, c24]); (try omega)
        refine cdF h ?_
        refine sk_ ?_
        refine ibN ?_
        refine thN ?_
        refine rg0 ?_
        refine inc ?_ h fun a w h => ?_
        · omega
        refine mv h fun a w h => ?_
        refine nl0 ?_
        refine thN ?_
        exact ⟨(k + 1), ⟨⟨by omega, fun j hj => by rcases Nat.lt_succ_iff_lt_or_eq.1 hj with hj | rfl <;> first | exact hok | exact pre.2 _ hj⟩, h.to 0 _⟩, by show _ - (k + 1) < _ - k; omega⟩
  · have hk : k = s.length := by simp at c8; omega
    have hall : ∀ j, j < s.length → okAt s j = true := by rw [← hk]; exact pre.2
    refine exit_ ?_
    refine thE ?_
    refine thE ?_
    refine ibH ?_
    refine thN ?_
    refine sq ?_
    refine rg0 ?_
    refine mv h fun a w h => ?_
    refine lnb str9 h fun a w h => ?_
    refine gt h fun a w h => ?_
    refine h.spl (fun c36 h => ?_) (fun c36 h => ?_)
    · refine mv h fun a w h => ?_
      refine mv h fun a w h => ?_
      refine lnb str9 h fun a w h => ?_
      refine le h fun a w h => ?_
      refine pkT h fun a w h => ?_
      refine as_ h fun a w h => ?_
      refine nl0 ?_
      refine thN ?_
      refine ret_ ?_
      refine fin1 2 0 h LE.rfl ?_
      exact ⟨by rw [nameB_yes hall, c36]; first | done | rfl, rfl, rfl⟩
    · refine mv h fun a w h => ?_
      refine sk h (k := fun a w h => ?_)
      refine sk h (k := fun a w h => ?_)
      refine sk h (k := fun a w h => ?_)
      refine pkF h fun a w h => ?_
      refine as_ h fun a w h => ?_
      refine nl0 ?_
      refine thN ?_
      refine ret_ ?_
      refine fin1 2 0 h LE.rfl ?_
      exact ⟨by rw [nameB_yes hall, c36]; first | done | rfl, rfl, rfl⟩

theorem Index_ok (ss : List Bs) (s : Bs) (A : Option Addr) (c : Nat) (E : World) (H : GH) (L : List It) (hss : SS H A c ss) (hb : ss.length < 1000000000000) :
    Ok Tryz.prog 43 #[.slice A ss.length c, str s] E H L fun r H' L' => r = .int .i64 (indexL ss s) ∧ H = H' ∧ L = L' := by
  refine enter (N := 19) [(0, _), (1, _)] Tryz.func43 rfl rfl rfl rfl fun a w h => ?_
  refine sq ?_
  refine rg0 ?_
  refine as_ h fun a w h => ?_
  refine nl0 ?_
  refine thN ?_
  refine sq ?_
  refine sq ?_
  refine rg0 ?_
  refine mv h fun a w h => ?_
  refine ln sli58 h fun a w h => ?_
  refine mv h fun a w h => ?_
  refine nl0 ?_
  refine thN ?_
  refine blk ?_
  refine lp (β := Nat) (fun k a w => (k ≤ ss.length ∧ ∀ j (hj : j < ss.length), j < k → ss[j] ≠ s) ∧ S E H 19 [] [(8, .int .i64 (k : Int)), (6, .slice A ss.length c), (7, .int .i64 (ss.length : Int)), (0, .slice A ss.length c), (1, str s)] (L) a w)
    (fun k => ss.length - k) 0 ⟨⟨Nat.zero_le _, fun j hj h0 => absurd h0 (by omega)⟩, h.to 0 _⟩ ?_
  rintro k a w ⟨pre, h⟩
  refine sq ?_
  refine rg0 ?_
  refine lt h fun a w h => ?_
  refine nl0 ?_
  refine thN ?_
  refine sq ?_
  refine cdB h (fun c9 => ?_) (fun c9 => ?_)
  · have c9 : k < ss.length := by simpa using c9
    obtain ⟨g, off, rfl, hcell⟩ := hss.get c9
    refine sk_ ?_
    refine thN ?_
    refine sq ?_
    refine blk ?_
    refine sq ?_
    refine rg0 ?_
    refine mv h fun a w h => ?_
    refine as_ h fun a w h => ?_
    refine nl0 ?_
    refine thN ?_
    refine sq ?_
    refine rg0 ?_
    refine mv h fun a w h => ?_
    refine mv h fun a w h => ?_
    refine mv h fun a w h => ?_
    refine ia sli58 sz9 rfl c9 h fun a w h => ?_
    refine ldH t1_9 hcell h fun a w h => ?_
    refine eqb h fun a w h => ?_
    refine nl0 ?_
    refine thN ?_
    refine cdB h (fun c16 => ?_) (fun c16 => ?_)
    · have hfact : indexL ss s = (k : Int) := indexL_at c9 (fun j hj hjk => pre.2 j hj hjk) (of_decide_eq_true c16).symm
      refine sq ?_
      refine rg0 ?_
      refine mv h fun a w h => ?_
      refine as_ h fun a w h => ?_
      refine nl0 ?_
      refine thN ?_
      refine ret_ ?_
      refine ibR ?_
      refine thR ?_
      refine thR ?_
      refine ibR ?_
      refine thR ?_
      refine fin1 4 0 h LE.rfl ?_
      exact ⟨by rw [hfact], rfl, rfl⟩
    · have hne : ss[k] ≠ s := fun e => of_decide_eq_false c16 e.symm
      refine sk_ ?_
      refine ibN ?_
      refine thN ?_
      refine rg0 ?_
      refine inc ?_ h fun a w h => ?_
      · omega
      refine mv h fun a w h => ?_
      refine nl0 ?_
      refine thN ?_
      exact ⟨(k + 1), ⟨⟨by omega, fun j hj hjk => by rcases Nat.lt_succ_iff_lt_or_eq.1 hjk with h0 | rfl <;> first | exact hne | exact pre.2 j hj h0⟩, h.to 0 _⟩, by show _ - (k + 1) < _ - k; omega⟩
  · have hk : k = ss.length := by simp at c9; omega
    have hfact : indexL ss s = -1 := indexL_no fun j hj => pre.2 j hj (by omega)
    refine exit_ ?_
    refine thE ?_
    refine thE ?_
    refine ibH ?_
    refine thN ?_
    refine sq ?_
    refine rg0 ?_
    refine as_ h fun a w h => ?_
    refine nl0 ?_
    refine thN ?_
    refine ret_ ?_
    refine fin1 4 0 h LE.rfl ?_
    exact ⟨by rw [hfact], rfl, rfl⟩

theorem Contains_ok (ss : List Bs) (s : Bs) (A : Option Addr) (c : Nat) (E : World) (H : GH) (L : List It) (hss : SS H A c ss) (hb : ss.length < 1000000000000) :
    Ok Tryz.prog 47 #[.slice A ss.length c, str s] E H L fun r H' L' => r = .bool (ss.contains s) ∧ H = H' ∧ L = L' := by
  refine enter (N := 9) [(0, _), (1, _)] Tryz.func47 rfl rfl rfl rfl fun a w h => ?_
  refine sq ?_
  refine rg0 ?_
  refine as_ h fun a w h => ?_
  refine nl0 ?_
  refine thN ?_
  refine sq ?_
  refine rg0 ?_
  refine mv h fun a w h => ?_
  refine mv h fun a w h => ?_
  refine cl bod43 (Index_ok ss s A c E H _ hss hb) h fun r7 H7 L7 a w le7 R h => ?_
  obtain ⟨rfl, rfl, rfl⟩ := R
  refine ge h fun a w h => ?_
  refine as_ h fun a w h => ?_
  refine nl0 ?_
  refine thN ?_
  refine ret_ ?_
  refine fin1 4 0 h LE.rfl ?_
  exact ⟨by rw [← indexL_ge], rfl, rfl⟩

theorem Keyword_ok (s : Bs) (E : World) (H : GH) (L : List It) (hL : Laid H) :
    Ok Tryz.prog 141 #[str s] E H L fun r H' L' => r = .bool (keywordB s) ∧ H = H' ∧ L = L' := by
  refine enter (N := 6) [(0, _)] Tryz.func141 rfl rfl rfl rfl fun a w h => ?_
  refine sq ?_
  refine rg0 ?_
  refine as_ h fun a w h => ?_
  refine nl0 ?_
  refine thN ?_
  refine sq ?_
  refine rg0 ?_
  refine sla arrK sz9 h fun a w h => ?_
  refine mv h fun a w h => ?_
  refine cl bod47 (Contains_ok keysL s _ 14 E H _ hL.keys (by decide)) h fun r5 H5 L5 a w le5 R h => ?_
  obtain ⟨rfl, rfl, rfl⟩ := R
  refine as_ h fun a w h => ?_
  refine nl0 ?_
  refine thN ?_
  refine ret_ ?_
  refine fin1 2 0 h LE.rfl ?_
  exact ⟨rfl, rfl, rfl⟩
end Go.Proofs.YtindlieilabgfaaGreatDoor
