/- Walks: show.toks. -/
import Derived.Test.YtindlieilabgfaaGreatDoorW9
set_option linter.unusedVariables false
set_option linter.unusedSimpArgs false
set_option linter.unusedSectionVars false
set_option autoImplicit false
set_option relaxedAutoImplicit false
set_option maxRecDepth 10000
namespace Go.Proofs.YtindlieilabgfaaGreatDoor
open Go X
theorem toks_ok : ∀ (t : Tm), t.wrong = false → t.size ≤ 100000 → ToksOk t := by
  intro t
  induction t using Tm.ind with
  | h kd nm nn ks ih =>
  intro hwr hsz v E H L hv hL
  obtain ⟨A, c, rfl, hks⟩ := hv
  obtain ⟨hnode, hkw⟩ := right_of hwr
  obtain ⟨_, _, _, hn0, hn1⟩ := kids_of_node hnode
  have htl := toks_len (.mk kd nm nn ks)
  simp only [Tm.size] at hsz htl
  have hwi : ∀ x ∈ ks, WithinOk x := fun x hx => within_ok x (ih x hx (hkw x hx) (by have := size_le_sizeL hx; omega)) (by have := toks_len x; have := size_le_sizeL hx; omega)
  have hks : KS H A c ks := hks
  refine enter (N := 153) [(0, _)] Tryz.func94 rfl rfl rfl rfl fun a w h => ?_
  refine sq ?_
  refine rg0 ?_
  refine bxA h fun g1 a w h => ?_
  refine as_ h fun a w h => ?_
  refine nl0 ?_
  refine thN ?_
  refine sq ?_
  refine rg0 ?_
  obtain ⟨Hf, leHf, h, hf1⟩ := h.frz 0
  have l_H_Hf : LE H Hf := leHf
  refine mf h fun a w h => ?_
  refine as_ h fun a w h => ?_
  refine nl0 ?_
  refine thN ?_
  refine sq ?_
  refine rg0 ?_
  refine fa fl24_1 (r := 1) h fun a w h => ?_
  refine ldH t1_9 (Hc.of (LE.rfl _ _ hf1) rfl) h fun a w h => ?_
  refine as_ h fun a w h => ?_
  refine nl0 ?_
  refine thN ?_
  refine sq ?_
  refine sq ?_
  refine rg0 ?_
  refine fa fl24_0 (r := 0) h fun a w h => ?_
  refine ldH t1_3 (Hc.of (LE.rfl _ _ hf1) rfl) h fun a w h => ?_
  refine nl0 ?_
  refine thN ?_
  refine blk ?_
  refine sq ?_
  refine rg0 ?_
  refine eqi h fun a w h => ?_
  refine as_ h fun a w h => ?_
  refine nl0 ?_
  refine thN ?_
  refine cdB h (fun c10 => ?_) (fun c10 => ?_)
  · have ek : kd = 1 := eq_of_beq c10
    have etk := (toks_k hnode).1 ek
    refine sq ?_
    refine rgx [] [] [1, 4] 8 mix h (fun a w h => ?_)
    refine tkl 0 false (by kernel_rfl) ?_
    refine fa fl24_2 (r := 2) h fun a w h => ?_
    refine tk0 ?_
    refine tkl 1 true (by kernel_rfl) ?_
    refine ldHT t1_2 (Hc.of (LE.rfl _ _ hf1) rfl) h fun a w h => ?_
    refine tk0 ?_
    refine tkl 3 false (by kernel_rfl) ?_
    refine fa fl24_2 (r := 2) h fun a w h => ?_
    refine tk0 ?_
    refine tkl 4 true (by kernel_rfl) ?_
    refine ldHT t1_2 (Hc.of (LE.rfl _ _ hf1) rfl) h fun a w h => ?_
    refine tk0 ?_
    refine brl1 2 true (by kernel_rfl) (by kernel_rfl) (fun _ => h.st.sees' (by first | exact LE.rfl | assumption) (by simp)) ?_
    refine cl bod74 (FormatInt_ok nn E Hf _ (hL.up l_H_Hf) (by omega) (by omega)) h fun r14 H14 L14 a w le14 R h => ?_
    obtain ⟨rfl, rfl, rfl⟩ := R
    refine br0 ?_
    refine tkl 5 false (by kernel_rfl) ?_
    refine bdl lay167 zr167 h fun a w h => ?_
    refine tk0 ?_
    refine brl1 6 true (by kernel_rfl) (by kernel_rfl) (fun _ => h.st.sees' (by first | exact LE.rfl | assumption) (by simp)) ?_
    refine bsl bs141 h fun g18 a w h => ?_
    refine br0 ?_
    refine tkl 7 false (by kernel_rfl) ?_
    refine as_ h fun a w h => ?_
    refine tk0 ?_
    refine en (by kernel_rfl) ?_
    refine thN ?_
    refine ret_ ?_
    refine ibR ?_
    refine thR ?_
    have h := h.asRow (sz := 3) (n := 1)
    refine fin1 2 0 h l_H_Hf ?_
    unfold RowTk
    rw [etk]
    exact ⟨_, _, _, rfl, rfl, .one rfl rfl⟩
  · have ne1 : kd ≠ 1 := ne_of_beq_false c10
    refine sq ?_
    refine rg0 ?_
    refine eqi h fun a w h => ?_
    refine as_ h fun a w h => ?_
    refine nl0 ?_
    refine thN ?_
    refine cdB h (fun c19 => ?_) (fun c19 => ?_)
    · have ek : kd = 2 := eq_of_beq c19
      have etk := (toks_k hnode).2.1 ek
      refine sq ?_
      refine rg0 ?_
      refine mv h fun a w h => ?_
      refine mi cnc172 h fun a w h => ?_
      refine bsl bs204 h fun g23 a w h => ?_
      obtain ⟨Hl23, leHl23, h, hp23⟩ := h.fsl (α := Pt) (R := RPt) 0 (ys := [.name nm]) (.cons1 rfl .nil) (fun _ l _ _ _ hr => rpt_up l hr)
      have l_H_Hl23 : LE H Hl23 := l_H_Hf.trans leHl23
      have l_Hf_Hl23 : LE Hf Hl23 := leHl23
      refine cl bod123 (laid_ok [.name nm] _ E Hl23 _ hp23 (hL.up l_H_Hl23) (fun t ht => by simp at ht) (by simp only [List.length_cons, List.length_nil]; omega) (by rw [← etk]; omega)) h fun r24 H24 L24 a w le24 R h => ?_
      obtain ⟨A24, c24, xs24, rfl, rfl, hr24⟩ := R
      have l_H_H24 : LE H H24 := l_H_Hl23.trans le24
      have l_Hf_H24 : LE Hf H24 := l_Hf_Hl23.trans le24
      have l_Hl23_H24 : LE Hl23 H24 := le24
      refine as_ h fun a w h => ?_
      refine nl0 ?_
      refine thN ?_
      refine ret_ ?_
      refine ibR ?_
      refine thR ?_
      refine fin1 2 0 h l_H_H24 ?_
      unfold RowTk
      rw [etk]
      exact ⟨_, _, _, rfl, rfl, hr24⟩
    · have ne2 : kd ≠ 2 := ne_of_beq_false c19
      refine sq ?_
      refine rg0 ?_
      refine eqi h fun a w h => ?_
      refine as_ h fun a w h => ?_
      refine nl0 ?_
      refine thN ?_
      refine cdB h (fun c25 => ?_) (fun c25 => ?_)
      · have ek : kd = 3 := eq_of_beq c25
        obtain ⟨hkl, etk⟩ := (toks_k hnode).2.2.1 ek
        refine sq ?_
        refine rg0 ?_
        refine mi cnc174 h fun a w h => ?_
        refine mv h fun a w h => ?_
        refine mi cnc172 h fun a w h => ?_
        refine mi cnc175 h fun a w h => ?_
        refine mv h fun a w h => ?_
        refine cl bod122 (kid_ok ks 0 (by omega) A c g1 E Hf _ (hks.up l_H_Hf) ((Hc.of hf1 rfl).mono LE.rfl)) h (fun r32 H32 L32 a w le32 R h => ?_)
        obtain ⟨A32, c32, rfl, hk32, rfl, rfl⟩ := R
        refine mi cnc170 h fun a w h => ?_
        refine bsl bs204 h fun g34 a w h => ?_
        obtain ⟨Hl34, leHl34, h, hp34⟩ := h.fsl (α := Pt) (R := RPt) 0 (ys := [.word [102, 117, 110], .name nm, .mark [61, 62], .kid (ks[0]'(by omega))]) (.cons1 rfl (.cons1 rfl (.cons1 rfl (.cons1 ⟨A32, c32, rfl, hk32.up LE.rfl⟩ .nil)))) (fun _ l _ _ _ hr => rpt_up l hr)
        have l_H_Hl34 : LE H Hl34 := l_H_Hf.trans leHl34
        have l_Hf_Hl34 : LE Hf Hl34 := leHl34
        refine cl bod123 (laid_ok [.word [102, 117, 110], .name nm, .mark [61, 62], .kid (ks[0]'(by omega))] _ E Hl34 _ hp34 (hL.up l_H_Hl34) (fun t ht => by simp at ht; subst ht; exact hwi _ (List.getElem_mem _)) (by simp only [List.length_cons, List.length_nil]; omega) (by rw [← etk]; omega)) h fun r35 H35 L35 a w le35 R h => ?_
        obtain ⟨A35, c35, xs35, rfl, rfl, hr35⟩ := R
        have l_H_H35 : LE H H35 := l_H_Hl34.trans le35
        have l_Hf_H35 : LE Hf H35 := l_Hf_Hl34.trans le35
        have l_Hl34_H35 : LE Hl34 H35 := le35
        refine as_ h fun a w h => ?_
        refine nl0 ?_
        refine thN ?_
        refine ret_ ?_
        refine ibR ?_
        refine thR ?_
        refine fin1 2 0 h l_H_H35 ?_
        unfold RowTk
        rw [etk]
        exact ⟨_, _, _, rfl, rfl, hr35⟩
      · have ne3 : kd ≠ 3 := ne_of_beq_false c25
        refine sq ?_
        refine rg0 ?_
        refine eqi h fun a w h => ?_
        refine as_ h fun a w h => ?_
        refine nl0 ?_
        refine thN ?_
        refine cdB h (fun c36 => ?_) (fun c36 => ?_)
        · have ek : kd = 4 := eq_of_beq c36
          obtain ⟨hkl, etk⟩ := (toks_k hnode).2.2.2.1 ek
          refine sq ?_
          refine rg0 ?_
          refine mv h fun a w h => ?_
          refine cl bod122 (kid_ok ks 0 (by omega) A c g1 E Hf _ (hks.up l_H_Hf) ((Hc.of hf1 rfl).mono LE.rfl)) h (fun r39 H39 L39 a w le39 R h => ?_)
          obtain ⟨A39, c39, rfl, hk39, rfl, rfl⟩ := R
          refine mi cnc170 h fun a w h => ?_
          refine mv h fun a w h => ?_
          refine cl bod122 (kid_ok ks 1 (by omega) A c g1 E Hf _ (hks.up l_H_Hf) ((Hc.of hf1 rfl).mono LE.rfl)) h (fun r42 H42 L42 a w le42 R h => ?_)
          obtain ⟨A42, c42, rfl, hk42, rfl, rfl⟩ := R
          refine mi cnc170 h fun a w h => ?_
          refine bsl bs204 h fun g44 a w h => ?_
          obtain ⟨Hl44, leHl44, h, hp44⟩ := h.fsl (α := Pt) (R := RPt) 0 (ys := [.kid (ks[0]'(by omega)), .kid (ks[1]'(by omega))]) (.cons1 ⟨A39, c39, rfl, hk39.up LE.rfl⟩ (.cons1 ⟨A42, c42, rfl, hk42.up LE.rfl⟩ .nil)) (fun _ l _ _ _ hr => rpt_up l hr)
          have l_H_Hl44 : LE H Hl44 := l_H_Hf.trans leHl44
          have l_Hf_Hl44 : LE Hf Hl44 := leHl44
          refine cl bod123 (laid_ok [.kid (ks[0]'(by omega)), .kid (ks[1]'(by omega))] _ E Hl44 _ hp44 (hL.up l_H_Hl44) (fun t ht => by simp at ht; rcases ht with rfl | rfl <;> exact hwi _ (List.getElem_mem _)) (by simp only [List.length_cons, List.length_nil]; omega) (by rw [← etk]; omega)) h fun r45 H45 L45 a w le45 R h => ?_
          obtain ⟨A45, c45, xs45, rfl, rfl, hr45⟩ := R
          have l_H_H45 : LE H H45 := l_H_Hl44.trans le45
          have l_Hf_H45 : LE Hf H45 := l_Hf_Hl44.trans le45
          have l_Hl44_H45 : LE Hl44 H45 := le45
          refine as_ h fun a w h => ?_
          refine nl0 ?_
          refine thN ?_
          refine ret_ ?_
          refine ibR ?_
          refine thR ?_
          refine fin1 2 0 h l_H_H45 ?_
          unfold RowTk
          rw [etk]
          exact ⟨_, _, _, rfl, rfl, hr45⟩
        · have ne4 : kd ≠ 4 := ne_of_beq_false c36
          refine sq ?_
          refine rg0 ?_
          refine eqi h fun a w h => ?_
          refine as_ h fun a w h => ?_
          refine nl0 ?_
          refine thN ?_
          refine cdB h (fun c46 => ?_) (fun c46 => ?_)
          · have ek : kd = 5 := eq_of_beq c46
            obtain ⟨hkl, etk⟩ := (toks_k hnode).2.2.2.2.1 ek
            refine sq ?_
            refine rg0 ?_
            refine mi cnc174 h fun a w h => ?_
            refine mv h fun a w h => ?_
            refine mi cnc172 h fun a w h => ?_
            refine mi cnc175 h fun a w h => ?_
            refine mv h fun a w h => ?_
            refine cl bod122 (kid_ok ks 0 (by omega) A c g1 E Hf _ (hks.up l_H_Hf) ((Hc.of hf1 rfl).mono LE.rfl)) h (fun r53 H53 L53 a w le53 R h => ?_)
            obtain ⟨A53, c53, rfl, hk53, rfl, rfl⟩ := R
            refine mi cnc170 h fun a w h => ?_
            refine mi cnc174 h fun a w h => ?_
            refine mv h fun a w h => ?_
            refine cl bod122 (kid_ok ks 1 (by omega) A c g1 E Hf _ (hks.up l_H_Hf) ((Hc.of hf1 rfl).mono LE.rfl)) h (fun r57 H57 L57 a w le57 R h => ?_)
            obtain ⟨A57, c57, rfl, hk57, rfl, rfl⟩ := R
            refine mi cnc170 h fun a w h => ?_
            refine bsl bs204 h fun g59 a w h => ?_
            obtain ⟨Hl59, leHl59, h, hp59⟩ := h.fsl (α := Pt) (R := RPt) 0 (ys := [.word [108, 101, 116], .name nm, .mark [61], .kid (ks[0]'(by omega)), .word [105, 110], .kid (ks[1]'(by omega))]) (.cons1 rfl (.cons1 rfl (.cons1 rfl (.cons1 ⟨A53, c53, rfl, hk53.up LE.rfl⟩ (.cons1 rfl (.cons1 ⟨A57, c57, rfl, hk57.up LE.rfl⟩ .nil)))))) (fun _ l _ _ _ hr => rpt_up l hr)
            have l_H_Hl59 : LE H Hl59 := l_H_Hf.trans leHl59
            have l_Hf_Hl59 : LE Hf Hl59 := leHl59
            refine cl bod123 (laid_ok [.word [108, 101, 116], .name nm, .mark [61], .kid (ks[0]'(by omega)), .word [105, 110], .kid (ks[1]'(by omega))] _ E Hl59 _ hp59 (hL.up l_H_Hl59) (fun t ht => by simp at ht; rcases ht with rfl | rfl <;> exact hwi _ (List.getElem_mem _)) (by simp only [List.length_cons, List.length_nil]; omega) (by rw [← etk]; omega)) h fun r60 H60 L60 a w le60 R h => ?_
            obtain ⟨A60, c60, xs60, rfl, rfl, hr60⟩ := R
            have l_H_H60 : LE H H60 := l_H_Hl59.trans le60
            have l_Hf_H60 : LE Hf H60 := l_Hf_Hl59.trans le60
            have l_Hl59_H60 : LE Hl59 H60 := le60
            refine as_ h fun a w h => ?_
            refine nl0 ?_
            refine thN ?_
            refine ret_ ?_
            refine ibR ?_
            refine thR ?_
            refine fin1 2 0 h l_H_H60 ?_
            unfold RowTk
            rw [etk]
            exact ⟨_, _, _, rfl, rfl, hr60⟩
          · have ne5 : kd ≠ 5 := ne_of_beq_false c46
            refine sq ?_
            refine rg0 ?_
            refine eqi h fun a w h => ?_
            refine as_ h fun a w h => ?_
            refine nl0 ?_
            refine thN ?_
            refine cdB h (fun c61 => ?_) (fun c61 => ?_)
            · have ek : kd = 6 := eq_of_beq c61
              obtain ⟨hkl, etk⟩ := (toks_k hnode).2.2.2.2.2.1 ek
              refine sq ?_
              refine rg0 ?_
              refine mi cnc174 h fun a w h => ?_
              refine mv h fun a w h => ?_
              refine cl bod122 (kid_ok ks 0 (by omega) A c g1 E Hf _ (hks.up l_H_Hf) ((Hc.of hf1 rfl).mono LE.rfl)) h (fun r65 H65 L65 a w le65 R h => ?_)
              obtain ⟨A65, c65, rfl, hk65, rfl, rfl⟩ := R
              refine mi cnc170 h fun a w h => ?_
              refine mi cnc174 h fun a w h => ?_
              refine mv h fun a w h => ?_
              refine cl bod122 (kid_ok ks 1 (by omega) A c g1 E Hf _ (hks.up l_H_Hf) ((Hc.of hf1 rfl).mono LE.rfl)) h (fun r69 H69 L69 a w le69 R h => ?_)
              obtain ⟨A69, c69, rfl, hk69, rfl, rfl⟩ := R
              refine mi cnc170 h fun a w h => ?_
              refine mi cnc174 h fun a w h => ?_
              refine mv h fun a w h => ?_
              refine cl bod122 (kid_ok ks 2 (by omega) A c g1 E Hf _ (hks.up l_H_Hf) ((Hc.of hf1 rfl).mono LE.rfl)) h (fun r73 H73 L73 a w le73 R h => ?_)
              obtain ⟨A73, c73, rfl, hk73, rfl, rfl⟩ := R
              refine mi cnc170 h fun a w h => ?_
              refine bsl bs204 h fun g75 a w h => ?_
              obtain ⟨Hl75, leHl75, h, hp75⟩ := h.fsl (α := Pt) (R := RPt) 0 (ys := [.word [105, 102], .kid (ks[0]'(by omega)), .word [116, 104, 101, 110], .kid (ks[1]'(by omega)), .word [101, 108, 115, 101], .kid (ks[2]'(by omega))]) (.cons1 rfl (.cons1 ⟨A65, c65, rfl, hk65.up LE.rfl⟩ (.cons1 rfl (.cons1 ⟨A69, c69, rfl, hk69.up LE.rfl⟩ (.cons1 rfl (.cons1 ⟨A73, c73, rfl, hk73.up LE.rfl⟩ .nil)))))) (fun _ l _ _ _ hr => rpt_up l hr)
              have l_H_Hl75 : LE H Hl75 := l_H_Hf.trans leHl75
              have l_Hf_Hl75 : LE Hf Hl75 := leHl75
              refine cl bod123 (laid_ok [.word [105, 102], .kid (ks[0]'(by omega)), .word [116, 104, 101, 110], .kid (ks[1]'(by omega)), .word [101, 108, 115, 101], .kid (ks[2]'(by omega))] _ E Hl75 _ hp75 (hL.up l_H_Hl75) (fun t ht => by simp at ht; rcases ht with rfl | rfl | rfl <;> exact hwi _ (List.getElem_mem _)) (by simp only [List.length_cons, List.length_nil]; omega) (by rw [← etk]; omega)) h fun r76 H76 L76 a w le76 R h => ?_
              obtain ⟨A76, c76, xs76, rfl, rfl, hr76⟩ := R
              have l_H_H76 : LE H H76 := l_H_Hl75.trans le76
              have l_Hf_H76 : LE Hf H76 := l_Hf_Hl75.trans le76
              have l_Hl75_H76 : LE Hl75 H76 := le76
              refine as_ h fun a w h => ?_
              refine nl0 ?_
              refine thN ?_
              refine ret_ ?_
              refine ibR ?_
              refine thR ?_
              refine fin1 2 0 h l_H_H76 ?_
              unfold RowTk
              rw [etk]
              exact ⟨_, _, _, rfl, rfl, hr76⟩
            · have ne6 : kd ≠ 6 := ne_of_beq_false c61
              refine sq ?_
              refine rg0 ?_
              refine eqi h fun a w h => ?_
              refine as_ h fun a w h => ?_
              refine nl0 ?_
              refine thN ?_
              refine cdB h (fun c77 => ?_) (fun c77 => ?_)
              · have ek : kd = 7 := eq_of_beq c77
                obtain ⟨hkl, etk⟩ := (toks_k hnode).2.2.2.2.2.2.1 ek
                refine sq ?_
                refine rg0 ?_
                refine mi cnc174 h fun a w h => ?_
                refine mv h fun a w h => ?_
                refine cl bod122 (kid_ok ks 0 (by omega) A c g1 E Hf _ (hks.up l_H_Hf) ((Hc.of hf1 rfl).mono LE.rfl)) h (fun r81 H81 L81 a w le81 R h => ?_)
                obtain ⟨A81, c81, rfl, hk81, rfl, rfl⟩ := R
                refine mi cnc170 h fun a w h => ?_
                refine mi cnc174 h fun a w h => ?_
                refine mv h fun a w h => ?_
                refine cl bod122 (kid_ok ks 1 (by omega) A c g1 E Hf _ (hks.up l_H_Hf) ((Hc.of hf1 rfl).mono LE.rfl)) h (fun r85 H85 L85 a w le85 R h => ?_)
                obtain ⟨A85, c85, rfl, hk85, rfl, rfl⟩ := R
                refine mi cnc170 h fun a w h => ?_
                refine bsl bs204 h fun g87 a w h => ?_
                obtain ⟨Hl87, leHl87, h, hp87⟩ := h.fsl (α := Pt) (R := RPt) 0 (ys := [.word [119, 104, 105, 108, 101], .kid (ks[0]'(by omega)), .word [100, 111], .kid (ks[1]'(by omega))]) (.cons1 rfl (.cons1 ⟨A81, c81, rfl, hk81.up LE.rfl⟩ (.cons1 rfl (.cons1 ⟨A85, c85, rfl, hk85.up LE.rfl⟩ .nil)))) (fun _ l _ _ _ hr => rpt_up l hr)
                have l_H_Hl87 : LE H Hl87 := l_H_Hf.trans leHl87
                have l_Hf_Hl87 : LE Hf Hl87 := leHl87
                refine cl bod123 (laid_ok [.word [119, 104, 105, 108, 101], .kid (ks[0]'(by omega)), .word [100, 111], .kid (ks[1]'(by omega))] _ E Hl87 _ hp87 (hL.up l_H_Hl87) (fun t ht => by simp at ht; rcases ht with rfl | rfl <;> exact hwi _ (List.getElem_mem _)) (by simp only [List.length_cons, List.length_nil]; omega) (by rw [← etk]; omega)) h fun r88 H88 L88 a w le88 R h => ?_
                obtain ⟨A88, c88, xs88, rfl, rfl, hr88⟩ := R
                have l_H_H88 : LE H H88 := l_H_Hl87.trans le88
                have l_Hf_H88 : LE Hf H88 := l_Hf_Hl87.trans le88
                have l_Hl87_H88 : LE Hl87 H88 := le88
                refine as_ h fun a w h => ?_
                refine nl0 ?_
                refine thN ?_
                refine ret_ ?_
                refine ibR ?_
                refine thR ?_
                refine fin1 2 0 h l_H_H88 ?_
                unfold RowTk
                rw [etk]
                exact ⟨_, _, _, rfl, rfl, hr88⟩
              · have ne7 : kd ≠ 7 := ne_of_beq_false c77
                refine sq ?_
                refine rg0 ?_
                refine eqi h fun a w h => ?_
                refine as_ h fun a w h => ?_
                refine nl0 ?_
                refine thN ?_
                refine cdB h (fun c89 => ?_) (fun c89 => ?_)
                · have ek : kd = 8 := eq_of_beq c89
                  obtain ⟨hkl, etk⟩ := (toks_k hnode).2.2.2.2.2.2.2.1 ek
                  refine sq ?_
                  refine rg0 ?_
                  refine mi cnc174 h fun a w h => ?_
                  refine mv h fun a w h => ?_
                  refine cl bod122 (kid_ok ks 0 (by omega) A c g1 E Hf _ (hks.up l_H_Hf) ((Hc.of hf1 rfl).mono LE.rfl)) h (fun r93 H93 L93 a w le93 R h => ?_)
                  obtain ⟨A93, c93, rfl, hk93, rfl, rfl⟩ := R
                  refine mi cnc170 h fun a w h => ?_
                  refine bsl bs204 h fun g95 a w h => ?_
                  obtain ⟨Hl95, leHl95, h, hp95⟩ := h.fsl (α := Pt) (R := RPt) 0 (ys := [.word [114, 97, 105, 115, 101], .kid (ks[0]'(by omega))]) (.cons1 rfl (.cons1 ⟨A93, c93, rfl, hk93.up LE.rfl⟩ .nil)) (fun _ l _ _ _ hr => rpt_up l hr)
                  have l_H_Hl95 : LE H Hl95 := l_H_Hf.trans leHl95
                  have l_Hf_Hl95 : LE Hf Hl95 := leHl95
                  refine cl bod123 (laid_ok [.word [114, 97, 105, 115, 101], .kid (ks[0]'(by omega))] _ E Hl95 _ hp95 (hL.up l_H_Hl95) (fun t ht => by simp at ht; subst ht; exact hwi _ (List.getElem_mem _)) (by simp only [List.length_cons, List.length_nil]; omega) (by rw [← etk]; omega)) h fun r96 H96 L96 a w le96 R h => ?_
                  obtain ⟨A96, c96, xs96, rfl, rfl, hr96⟩ := R
                  have l_H_H96 : LE H H96 := l_H_Hl95.trans le96
                  have l_Hf_H96 : LE Hf H96 := l_Hf_Hl95.trans le96
                  have l_Hl95_H96 : LE Hl95 H96 := le96
                  refine as_ h fun a w h => ?_
                  refine nl0 ?_
                  refine thN ?_
                  refine ret_ ?_
                  refine ibR ?_
                  refine thR ?_
                  refine fin1 2 0 h l_H_H96 ?_
                  unfold RowTk
                  rw [etk]
                  exact ⟨_, _, _, rfl, rfl, hr96⟩
                · have ne8 : kd ≠ 8 := ne_of_beq_false c89
                  refine sq ?_
                  refine rg0 ?_
                  refine eqi h fun a w h => ?_
                  refine as_ h fun a w h => ?_
                  refine nl0 ?_
                  refine thN ?_
                  refine cdB h (fun c97 => ?_) (fun c97 => ?_)
                  · have ek : kd = 9 := eq_of_beq c97
                    obtain ⟨hkl, etk⟩ := (toks_k hnode).2.2.2.2.2.2.2.2.1 ek
                    refine sq ?_
                    refine rg0 ?_
                    refine mi cnc174 h fun a w h => ?_
                    refine mv h fun a w h => ?_
                    refine cl bod122 (kid_ok ks 0 (by omega) A c g1 E Hf _ (hks.up l_H_Hf) ((Hc.of hf1 rfl).mono LE.rfl)) h (fun r101 H101 L101 a w le101 R h => ?_)
                    obtain ⟨A101, c101, rfl, hk101, rfl, rfl⟩ := R
                    refine mi cnc170 h fun a w h => ?_
                    refine mi cnc174 h fun a w h => ?_
                    refine mv h fun a w h => ?_
                    refine mi cnc172 h fun a w h => ?_
                    refine mi cnc175 h fun a w h => ?_
                    refine mv h fun a w h => ?_
                    refine cl bod122 (kid_ok ks 1 (by omega) A c g1 E Hf _ (hks.up l_H_Hf) ((Hc.of hf1 rfl).mono LE.rfl)) h (fun r108 H108 L108 a w le108 R h => ?_)
                    obtain ⟨A108, c108, rfl, hk108, rfl, rfl⟩ := R
                    refine mi cnc170 h fun a w h => ?_
                    refine bsl bs204 h fun g110 a w h => ?_
                    obtain ⟨Hl110, leHl110, h, hp110⟩ := h.fsl (α := Pt) (R := RPt) 0 (ys := [.word [116, 114, 121], .kid (ks[0]'(by omega)), .word [119, 105, 116, 104], .name nm, .mark [61, 62], .kid (ks[1]'(by omega))]) (.cons1 rfl (.cons1 ⟨A101, c101, rfl, hk101.up LE.rfl⟩ (.cons1 rfl (.cons1 rfl (.cons1 rfl (.cons1 ⟨A108, c108, rfl, hk108.up LE.rfl⟩ .nil)))))) (fun _ l _ _ _ hr => rpt_up l hr)
                    have l_H_Hl110 : LE H Hl110 := l_H_Hf.trans leHl110
                    have l_Hf_Hl110 : LE Hf Hl110 := leHl110
                    refine cl bod123 (laid_ok [.word [116, 114, 121], .kid (ks[0]'(by omega)), .word [119, 105, 116, 104], .name nm, .mark [61, 62], .kid (ks[1]'(by omega))] _ E Hl110 _ hp110 (hL.up l_H_Hl110) (fun t ht => by simp at ht; rcases ht with rfl | rfl <;> exact hwi _ (List.getElem_mem _)) (by simp only [List.length_cons, List.length_nil]; omega) (by rw [← etk]; omega)) h fun r111 H111 L111 a w le111 R h => ?_
                    obtain ⟨A111, c111, xs111, rfl, rfl, hr111⟩ := R
                    have l_H_H111 : LE H H111 := l_H_Hl110.trans le111
                    have l_Hf_H111 : LE Hf H111 := l_Hf_Hl110.trans le111
                    have l_Hl110_H111 : LE Hl110 H111 := le111
                    refine as_ h fun a w h => ?_
                    refine nl0 ?_
                    refine thN ?_
                    refine ret_ ?_
                    refine ibR ?_
                    refine thR ?_
                    refine fin1 2 0 h l_H_H111 ?_
                    unfold RowTk
                    rw [etk]
                    exact ⟨_, _, _, rfl, rfl, hr111⟩
                  · have ne9 : kd ≠ 9 := ne_of_beq_false c97
                    refine sq ?_
                    refine rg0 ?_
                    refine eqi h fun a w h => ?_
                    refine as_ h fun a w h => ?_
                    refine nl0 ?_
                    refine thN ?_
                    refine cdB h (fun c112 => ?_) (fun c112 => ?_)
                    · have ek : kd = 10 := eq_of_beq c112
                      obtain ⟨hkl, etk⟩ := (toks_k hnode).2.2.2.2.2.2.2.2.2.1 ek
                      refine sq ?_
                      refine rg0 ?_
                      refine mi cnc175 h fun a w h => ?_
                      refine mv h fun a w h => ?_
                      refine cl bod122 (kid_ok ks 0 (by omega) A c g1 E Hf _ (hks.up l_H_Hf) ((Hc.of hf1 rfl).mono LE.rfl)) h (fun r116 H116 L116 a w le116 R h => ?_)
                      obtain ⟨A116, c116, rfl, hk116, rfl, rfl⟩ := R
                      refine mi cnc170 h fun a w h => ?_
                      refine bsl bs204 h fun g118 a w h => ?_
                      obtain ⟨Hl118, leHl118, h, hp118⟩ := h.fsl (α := Pt) (R := RPt) 0 (ys := [.mark [33], .kid (ks[0]'(by omega))]) (.cons1 rfl (.cons1 ⟨A116, c116, rfl, hk116.up LE.rfl⟩ .nil)) (fun _ l _ _ _ hr => rpt_up l hr)
                      have l_H_Hl118 : LE H Hl118 := l_H_Hf.trans leHl118
                      have l_Hf_Hl118 : LE Hf Hl118 := leHl118
                      refine cl bod123 (laid_ok [.mark [33], .kid (ks[0]'(by omega))] _ E Hl118 _ hp118 (hL.up l_H_Hl118) (fun t ht => by simp at ht; subst ht; exact hwi _ (List.getElem_mem _)) (by simp only [List.length_cons, List.length_nil]; omega) (by rw [← etk]; omega)) h fun r119 H119 L119 a w le119 R h => ?_
                      obtain ⟨A119, c119, xs119, rfl, rfl, hr119⟩ := R
                      have l_H_H119 : LE H H119 := l_H_Hl118.trans le119
                      have l_Hf_H119 : LE Hf H119 := l_Hf_Hl118.trans le119
                      have l_Hl118_H119 : LE Hl118 H119 := le119
                      refine as_ h fun a w h => ?_
                      refine nl0 ?_
                      refine thN ?_
                      refine ret_ ?_
                      refine ibR ?_
                      refine thR ?_
                      refine fin1 2 0 h l_H_H119 ?_
                      unfold RowTk
                      rw [etk]
                      exact ⟨_, _, _, rfl, rfl, hr119⟩
                    · have ne10 : kd ≠ 10 := ne_of_beq_false c112
                      refine sq ?_
                      refine rg0 ?_
                      refine eqi h fun a w h => ?_
                      refine as_ h fun a w h => ?_
                      refine nl0 ?_
                      refine thN ?_
                      refine cdB h (fun c120 => ?_) (fun c120 => ?_)
                      · have ek : kd = 11 := eq_of_beq c120
                        obtain ⟨hkl, etk⟩ := (toks_k hnode).2.2.2.2.2.2.2.2.2.2.1 ek
                        refine sq ?_
                        refine rg0 ?_
                        refine mv h fun a w h => ?_
                        refine cl bod122 (kid_ok ks 0 (by omega) A c g1 E Hf _ (hks.up l_H_Hf) ((Hc.of hf1 rfl).mono LE.rfl)) h (fun r123 H123 L123 a w le123 R h => ?_)
                        obtain ⟨A123, c123, rfl, hk123, rfl, rfl⟩ := R
                        refine mi cnc170 h fun a w h => ?_
                        refine mi cnc175 h fun a w h => ?_
                        refine mv h fun a w h => ?_
                        refine cl bod122 (kid_ok ks 1 (by omega) A c g1 E Hf _ (hks.up l_H_Hf) ((Hc.of hf1 rfl).mono LE.rfl)) h (fun r127 H127 L127 a w le127 R h => ?_)
                        obtain ⟨A127, c127, rfl, hk127, rfl, rfl⟩ := R
                        refine mi cnc170 h fun a w h => ?_
                        refine bsl bs204 h fun g129 a w h => ?_
                        obtain ⟨Hl129, leHl129, h, hp129⟩ := h.fsl (α := Pt) (R := RPt) 0 (ys := [.kid (ks[0]'(by omega)), .mark [58, 61], .kid (ks[1]'(by omega))]) (.cons1 ⟨A123, c123, rfl, hk123.up LE.rfl⟩ (.cons1 rfl (.cons1 ⟨A127, c127, rfl, hk127.up LE.rfl⟩ .nil))) (fun _ l _ _ _ hr => rpt_up l hr)
                        have l_H_Hl129 : LE H Hl129 := l_H_Hf.trans leHl129
                        have l_Hf_Hl129 : LE Hf Hl129 := leHl129
                        refine cl bod123 (laid_ok [.kid (ks[0]'(by omega)), .mark [58, 61], .kid (ks[1]'(by omega))] _ E Hl129 _ hp129 (hL.up l_H_Hl129) (fun t ht => by simp at ht; rcases ht with rfl | rfl <;> exact hwi _ (List.getElem_mem _)) (by simp only [List.length_cons, List.length_nil]; omega) (by rw [← etk]; omega)) h fun r130 H130 L130 a w le130 R h => ?_
                        obtain ⟨A130, c130, xs130, rfl, rfl, hr130⟩ := R
                        have l_H_H130 : LE H H130 := l_H_Hl129.trans le130
                        have l_Hf_H130 : LE Hf H130 := l_Hf_Hl129.trans le130
                        have l_Hl129_H130 : LE Hl129 H130 := le130
                        refine as_ h fun a w h => ?_
                        refine nl0 ?_
                        refine thN ?_
                        refine ret_ ?_
                        refine ibR ?_
                        refine thR ?_
                        refine fin1 2 0 h l_H_H130 ?_
                        unfold RowTk
                        rw [etk]
                        exact ⟨_, _, _, rfl, rfl, hr130⟩
                      · have ne11 : kd ≠ 11 := ne_of_beq_false c120
                        refine sq ?_
                        refine rg0 ?_
                        refine eqi h fun a w h => ?_
                        refine as_ h fun a w h => ?_
                        refine nl0 ?_
                        refine thN ?_
                        refine cdB h (fun c131 => ?_) (fun c131 => ?_)
                        · have ek : kd = 12 := eq_of_beq c131
                          obtain ⟨hkl, etk⟩ := (toks_k hnode).2.2.2.2.2.2.2.2.2.2.2.1 ek
                          refine sq ?_
                          refine rgx [] [] [4] 12 mix h (fun a w h => ?_)
                          refine tkl 0 false (by kernel_rfl) ?_
                          refine mv h fun a w h => ?_
                          refine tk0 ?_
                          refine tkl 3 false (by kernel_rfl) ?_
                          refine fa fl24_1 (r := 1) h fun a w h => ?_
                          refine tk0 ?_
                          refine tkl 4 true (by kernel_rfl) ?_
                          refine ldHT t1_9 (Hc.of (LE.rfl _ _ hf1) rfl) h fun a w h => ?_
                          refine tk0 ?_
                          refine tkl 5 false (by kernel_rfl) ?_
                          refine mi cnc175 h fun a w h => ?_
                          refine tk0 ?_
                          refine tkl 6 false (by kernel_rfl) ?_
                          refine mv h fun a w h => ?_
                          refine tk0 ?_
                          refine brl1 1 true (by kernel_rfl) (by kernel_rfl) (fun _ => h.st.sees' (by first | exact LE.rfl | assumption) (by simp)) ?_
                          refine cl bod122 (kid_ok ks 0 (by omega) A c g1 E Hf _ (hks.up l_H_Hf) ((Hc.of hf1 rfl).mono LE.rfl)) h (fun r134 H134 L134 a w le134 R h => ?_) (hS := fun _ _ _ _ _ le R hw => by obtain ⟨_, _, _, _, rfl, rfl⟩ := R; exact hw.sees' (by first | exact le | exact LE.trans (by assumption) le) (by simp))
                          obtain ⟨A134, c134, rfl, hk134, rfl, rfl⟩ := R
                          refine br0 ?_
                          refine tkl 2 false (by kernel_rfl) ?_
                          refine mi cnc170 h fun a w h => ?_
                          refine tk0 ?_
                          refine brl1 7 true (by kernel_rfl) (by kernel_rfl) (fun _ => h.st.sees' (by first | exact LE.rfl | assumption) (by simp)) ?_
                          refine cl bod122 (kid_ok ks 1 (by omega) A c g1 E Hf _ (hks.up l_H_Hf) ((Hc.of hf1 rfl).mono LE.rfl)) h (fun r140 H140 L140 a w le140 R h => ?_) (hS := fun _ _ _ _ _ le R hw => by obtain ⟨_, _, _, _, rfl, rfl⟩ := R; exact hw.sees' (by first | exact le | exact LE.trans (by assumption) le) (by simp))
                          obtain ⟨A140, c140, rfl, hk140, rfl, rfl⟩ := R
                          refine br0 ?_
                          refine tkl 8 false (by kernel_rfl) ?_
                          refine mi cnc170 h fun a w h => ?_
                          refine tk0 ?_
                          refine brl1 9 true (by kernel_rfl) (by kernel_rfl) (fun _ => h.st.sees' (by first | exact LE.rfl | assumption) (by simp)) ?_
                          refine bsl bs204 h fun g142 a w h => ?_
                          refine br0 ?_
                          refine brl1 10 true (by kernel_rfl) (by kernel_rfl) (fun _ => h.st.sees' (by first | exact LE.rfl | assumption) (by simp)) ?_
                          obtain ⟨Hl142, leHl142, h, hp142⟩ := h.fsl (α := Pt) (R := RPt) 0 (ys := [.kid (ks[0]'(by omega)), .mark nm, .kid (ks[1]'(by omega))]) (.cons1 ⟨A134, c134, rfl, hk134.up LE.rfl⟩ (.cons1 rfl (.cons1 ⟨A140, c140, rfl, hk140.up LE.rfl⟩ .nil))) (fun _ l _ _ _ hr => rpt_up l hr)
                          have l_H_Hl142 : LE H Hl142 := l_H_Hf.trans leHl142
                          have l_Hf_Hl142 : LE Hf Hl142 := leHl142
                          refine cl bod123 (laid_ok [.kid (ks[0]'(by omega)), .mark nm, .kid (ks[1]'(by omega))] _ E Hl142 _ hp142 (hL.up l_H_Hl142) (fun t ht => by simp at ht; rcases ht with rfl | rfl <;> exact hwi _ (List.getElem_mem _)) (by simp only [List.length_cons, List.length_nil]; omega) (by rw [← etk]; omega)) h fun r143 H143 L143 a w le143 R h => ?_
                          obtain ⟨A143, c143, xs143, rfl, rfl, hr143⟩ := R
                          have l_H_H143 : LE H H143 := l_H_Hl142.trans le143
                          have l_Hf_H143 : LE Hf H143 := l_Hf_Hl142.trans le143
                          have l_Hl142_H143 : LE Hl142 H143 := le143
                          refine br0 ?_
                          refine tkl 11 false (by kernel_rfl) ?_
                          refine as_ h fun a w h => ?_
                          refine tk0 ?_
                          refine en (by kernel_rfl) ?_
                          refine thN ?_
                          refine ret_ ?_
                          refine ibR ?_
                          refine thR ?_
                          refine fin1 2 0 h l_H_H143 ?_
                          unfold RowTk
                          rw [etk]
                          exact ⟨_, _, _, rfl, rfl, hr143⟩
                        · have ne12 : kd ≠ 12 := ne_of_beq_false c131
                          refine sk_ ?_
                          refine ibN ?_
                          refine thN ?_
                          refine sq ?_
                          refine rg0 ?_
                          obtain ⟨hkl, etk⟩ := (toks_k hnode).2.2.2.2.2.2.2.2.2.2.2.2 ne1 ne2 ne3 ne4 ne5 ne6 ne7 ne8 ne9 ne10 ne11 ne12
                          refine mv h fun a w h => ?_
                          refine cl bod122 (kid_ok ks 0 (by omega) A c g1 E Hf _ (hks.up l_H_Hf) ((Hc.of hf1 rfl).mono LE.rfl)) h (fun r145 H145 L145 a w le145 R h => ?_)
                          obtain ⟨A145, c145, rfl, hk145, rfl, rfl⟩ := R
                          refine mi cnc170 h fun a w h => ?_
                          refine mi cnc175 h fun a w h => ?_
                          refine mv h fun a w h => ?_
                          refine cl bod122 (kid_ok ks 1 (by omega) A c g1 E Hf _ (hks.up l_H_Hf) ((Hc.of hf1 rfl).mono LE.rfl)) h (fun r149 H149 L149 a w le149 R h => ?_)
                          obtain ⟨A149, c149, rfl, hk149, rfl, rfl⟩ := R
                          refine mi cnc170 h fun a w h => ?_
                          refine bsl bs204 h fun g151 a w h => ?_
                          obtain ⟨Hl151, leHl151, h, hp151⟩ := h.fsl (α := Pt) (R := RPt) 0 (ys := [.kid (ks[0]'(by omega)), .mark [59], .kid (ks[1]'(by omega))]) (.cons1 ⟨A145, c145, rfl, hk145.up LE.rfl⟩ (.cons1 rfl (.cons1 ⟨A149, c149, rfl, hk149.up LE.rfl⟩ .nil))) (fun _ l _ _ _ hr => rpt_up l hr)
                          have l_H_Hl151 : LE H Hl151 := l_H_Hf.trans leHl151
                          have l_Hf_Hl151 : LE Hf Hl151 := leHl151
                          refine cl bod123 (laid_ok [.kid (ks[0]'(by omega)), .mark [59], .kid (ks[1]'(by omega))] _ E Hl151 _ hp151 (hL.up l_H_Hl151) (fun t ht => by simp at ht; rcases ht with rfl | rfl <;> exact hwi _ (List.getElem_mem _)) (by simp only [List.length_cons, List.length_nil]; omega) (by rw [← etk]; omega)) h fun r152 H152 L152 a w le152 R h => ?_
                          obtain ⟨A152, c152, xs152, rfl, rfl, hr152⟩ := R
                          have l_H_H152 : LE H H152 := l_H_Hl151.trans le152
                          have l_Hf_H152 : LE Hf H152 := l_Hf_Hl151.trans le152
                          have l_Hl151_H152 : LE Hl151 H152 := le152
                          refine as_ h fun a w h => ?_
                          refine nl0 ?_
                          refine thN ?_
                          refine ret_ ?_
                          refine fin1 2 0 h l_H_H152 ?_
                          unfold RowTk
                          rw [etk]
                          exact ⟨_, _, _, rfl, rfl, hr152⟩
end Go.Proofs.YtindlieilabgfaaGreatDoor
