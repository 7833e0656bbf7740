/- Walks: slices.Clip. -/
import Derived.Test.YtindlieilabgfaaGreatDoorW19
import Derived.Test.YtindlieilabgfaaGreatDoorT7
set_option linter.unusedVariables false
set_option linter.unusedSimpArgs false
set_option linter.unusedSectionVars false
set_option autoImplicit false
set_option relaxedAutoImplicit false
set_option maxRecDepth 10000
namespace Go.Proofs.YtindlieilabgfaaGreatDoor
open Go X
theorem Clip_ok (A : Option Addr) (n c : Nat) (hc : n ≤ c) (E : World) (H : GH) (L : List It) :
    Ok Tryz.prog 42 #[.slice A n c] E H L fun r H' L' => r = .slice A n n ∧ H = H' ∧ L = L' := by
  refine enter (N := 9) [(0, _)] Tryz.func42 rfl rfl rfl rfl fun a w h => ?_
  refine sq ?_
  refine rg0 ?_
  refine as_ h fun a w h => ?_
  refine nl0 ?_
  refine thN ?_
  refine sq ?_
  refine rg0 ?_
  refine mv h fun a w h => ?_
  refine mv h fun a w h => ?_
  refine ln sli58 h fun a w h => ?_
  refine mv h fun a w h => ?_
  refine ln sli58 h fun a w h => ?_
  refine sl (l := 0) (h' := n) (m := n) sli58 sz9 (fun w => ?_) h fun a w h => ?_
  · simp [Instr.sliceBounds, h.ag.ev (x := .tmp 5) rfl, h.ag.ev (x := .tmp 7) rfl, asIntOf, Instr.sliceBound, hc]
  refine as_ h fun a w h => ?_
  refine nl0 ?_
  refine thN ?_
  refine ret_ ?_
  refine fin1 2 0 h LE.rfl ?_
  have e : (if n = 0 then A else A.map (·.add (0 * 1))) = A := by
    split; rfl
    cases A with
    | none => rfl
    | some q => simp [Addr.add]
  exact ⟨by rw [e]; rfl, rfl, rfl⟩

theorem isnew_ok (known : List Bs) (s : Bs) (B : Option Addr) (cp gk : Nat) (E : World) (H : GH) (L : List It) (hk : SS H B cp known) (hc : Hc H gk 0 (.slice B known.length cp)) (hb : known.length < 1000000000000) :
    Ok Tryz.prog 46 #[str s, .pointer (some ⟨gk, 0, none⟩)] E H L fun r H' L' => r = .bool (!known.contains s) ∧ H = H' ∧ L = L' := by
  refine enter (N := 8) [(0, _), (1, _)] Tryz.func46 rfl rfl rfl rfl fun a w h => ?_
  refine sq ?_
  refine rg0 ?_
  refine as_ h fun a w h => ?_
  refine nl0 ?_
  refine thN ?_
  refine sq ?_
  refine rg0 ?_
  refine ldH t1_58 hc h fun a w h => ?_
  refine mv h fun a w h => ?_
  refine cl bod47 (Contains_ok known s B cp E H _ hk hb) h fun r6 H6 L6 a w le6 R h => ?_
  obtain ⟨rfl, rfl, rfl⟩ := R
  refine nt h fun a w h => ?_
  refine as_ h fun a w h => ?_
  refine nl0 ?_
  refine thN ?_
  refine ret_ ?_
  refine fin1 3 0 h LE.rfl ?_
  exact ⟨rfl, rfl, rfl⟩

theorem rowS {H : GH} : ∀ ss : List Bs, RowR RStr 1 H (ss.map encS) ss
  | [] => RowR.nil
  | s :: l => RowR.cons1 rfl (rowS l)
theorem strange_ok (t : Tm) (v : Value) (known : List Bs) (B : Option Addr) (cp gk : Nat) (E : World) (H : GH) (L : List It) (hv : VT H v t) (hlg : t.long < 1000000000000) (hsz : t.size < 1000000000000) (hk : SS H B cp known) (hc : Hc H gk 0 (.slice B known.length cp)) (hb : known.length < 1000000000000) :
    Ok Tryz.prog 44 #[v, .pointer (some ⟨gk, 0, none⟩)] E H L fun r H' L' => r = .bool (t.strange known) ∧ H = H' ∧ L = L' := by
  have hv0 := hv
  obtain ⟨A, c, rfl, hks⟩ := hv
  have hv := hv0
  refine enter (N := 8) [(0, _), (1, _)] Tryz.func44 rfl rfl rfl rfl fun a w h => ?_
  refine sq ?_
  refine rg0 ?_
  refine bxA h fun g2 a w h => ?_
  refine as_ h fun a w h => ?_
  refine nl0 ?_
  refine thN ?_
  refine sq ?_
  refine rg0 ?_
  refine ldW 0 tN24 h fun a w h => ?_
  refine cl bod23 (Free_ok t _ E H _ hv hlg hsz) h fun r5 H5 L5 a w le5 R h => ?_
  obtain ⟨A5, c5, ss, rfl, rfl, rfl, hset⟩ := R
  refine mf h fun a w h => ?_
  obtain ⟨H2, le2, h, hrs⟩ := h.frw 0 (rowS ss) rfl (fun _ _ _ _ _ h => h)
  have l_H_H2 : LE H H2 := le2
  have hsl : ss.length < 1000000000000 := by have := sub_len (m := t.names) hset.1 (fun x hx => fr_names t _ x ((hset.2.1 x).1 hx)); rw [names_len] at this; omega
  refine cl bod45 (ContainsFunc_Bs_ok ss A5 c5 (fun s => !known.contains s) 46 #[.pointer (some ⟨gk, 0, none⟩)] E H2 _ hrs hsl bod46 (fun j hj v hvj => by subst hvj; exact isnew_ok known _ B cp gk E H2 _ (hk.up le2) (hc.mono le2) hb)) h fun r7 H7 L7 a w le7 R h => ?_
  obtain ⟨rfl, rfl, rfl⟩ := R
  refine as_ h fun a w h => ?_
  refine nl0 ?_
  refine thN ?_
  refine ret_ ?_
  have h := h.del 0
  refine fin1 3 0 (h.less le2) LE.rfl ?_
  exact ⟨by rw [strange_of hset], rfl, rfl⟩
end Go.Proofs.YtindlieilabgfaaGreatDoor
