/- What a walk gives, as the row says it: true, and the arguments read as before. -/
import Derived.Test.YtindlieilabgfaaGreatDoorG3
import Derived.WideKeyArgs
import Derived.ChangeSame
import Derived.Deep.DeepHandedRow
import Derived.Below
set_option linter.unusedVariables false
set_option linter.unusedSectionVars false
set_option linter.unusedSimpArgs false
set_option autoImplicit false
set_option relaxedAutoImplicit false
namespace Go.Proofs.YtindlieilabgfaaGreatDoor
open Go X Go.ChangeShapes Go.WideShapes Go.ChangeAt

theorem below_of {W W' : World} {H' : GH} {L' : List It} (hl : LE (HW W) H') (h : St W H' L' W') : RowKit.Below W.heap.size W W' where
  os := h.os
  tape := h.tape
  output := h.output
  size := by
    rcases Nat.eq_zero_or_pos W.heap.size with h0 | h0
    · omega
    · have := h.size_le (b := W.heap.size - 1) (o := W.heap[W.heap.size - 1]'(by omega)) (hl _ _ (by unfold HW; exact Array.getElem?_eq_getElem _))
      omega
  block := fun k hk => by
    have h1 : HW W k = some (W.heap[k]'hk) := Array.getElem?_eq_getElem _
    rw [h.fro k _ (hl _ _ h1)]; exact h1.symm
theorem kept_of {W W' : World} {may : MemPlace → Prop} (h : RowKit.Below W.heap.size W W') : W.keptBut W' may := by
  refine ⟨h.os, h.output, fun i hi => ?_⟩
  rw [h.block i hi]
  cases hx : W.heap[i]? with
  | none => rfl
  | some o => cases o <;> first | exact ⟨rfl, rfl, rfl, fun _ _ => rfl⟩ | exact .inr ⟨rfl, rfl⟩ | rfl
theorem post_true {H : Type} {enc : TypeId × Value → H} {P : Program} {f : Func} {s : ChangeSpec} {apart fresh handsOn again : Bool} {W W' : World} {args : Array Value} {ds gs : List (DataW H)} {before : List MemPlace}
    (hW : DataW.Whole enc P f.params.toList s.vars apart W args.toList ds gs before) (hv : s.vars = []) (hfn : (s.fn H (ds ++ gs)).results = [.lit (.bool true)]) (hfa : (s.fn H (ds ++ gs)).args = ds) (hfv : (s.fn H (ds ++ gs)).vars = [])
    (hb : RowKit.Below W.heap.size W W') (hlo : laidOutB P = true) (hrd : ∀ t ∈ f.params.toList, P.readableRec t = true ∧ t < P.types.size) (hrt : f.resultTypes = #[4]) (hu4 : P.underlying 4 = some .bool) : s.post enc P f apart fresh handsOn again W args (.bool true) W' := by
  have hW' := hW
  obtain ⟨p, q, hA, hV, rfl, hz, hn⟩ := hW
  have hq : q = [] := by
    rw [hv] at hV
    cases gs with
    | nil => exact hV
    | cons g gs => exact hV.elim
  subst hq
  have hlt : ∀ x ∈ p, x.block < W.heap.size := fun x hx => hW'.lt x (by simpa using hx)
  have hargs : ∀ sp : Nat → Bool, (∀ x ∈ p, sp x.block = true) → DataW.TrodAll enc P W' 0 sp true f.params.toList args.toList ds p := by
    intro sp hsp
    clear hW' hz hn hfa hfn hfv
    generalize f.params.toList = ts at hA hrd
    generalize args.toList = vs at hA
    induction ts generalizing vs ds p with
    | nil => cases vs <;> cases ds <;> first | exact hA | exact hA.elim
    | cons t ts ih =>
      cases vs with
      | nil => exact hA.elim
      | cons v vs =>
        cases ds with
        | nil => exact hA.elim
        | cons d ds =>
          obtain ⟨p1, p2, h1, h2, rfl⟩ := hA
          refine ⟨p1, p2, WideElems.Trod_stays hlo (hrd t (List.mem_cons_self ..)).1 (hrd t (List.mem_cons_self ..)).2 h1 (fun x hx => hb.same (hlt x (by simp [hx]))) (fun x hx => hsp x (by simp [hx])), ?_, rfl⟩
          exact ih p2 (fun x hx => hlt x (by simp [hx])) (fun x hx => hsp x (by simp [hx])) (fun t ht => hrd t (List.mem_cons_of_mem _ ht)) vs h2
  have hres : ∀ (b : Nat) (sp : Nat → Bool) (hd : Bool), DataW.TrodAll enc P W' b sp hd f.resultTypes.toList ((Value.bool true).resultList f.resultTypes.size) [.lit (.bool true)] [] := by
    intro b sp hd
    rw [hrt]
    exact ⟨[], [], ⟨1, by simp [DataW.trod, hu4, Value.cells]⟩, rfl, rfl⟩
  refine ⟨ds, gs, p ++ [], [], p, [], hW', ?_, ?_, ?_, World.keptBut_mono (fun x hx => ⟨hx, .inr (.inl (by simpa using hx))⟩) (kept_of (may := (· ∈ p ++ [])) hb), fun _ => ?_⟩
  · rw [hfn]; exact hres _ _ _
  · rw [hfa]; exact hargs _ (fun x hx => by simpa using hlt x hx)
  · rw [hv, hfv]; exact rfl
  · refine ⟨fun j t r h1 h2 => ?_, [.lit (.bool true)] ++ ds, [], [] ++ p, ⟨[] ++ p, [], trodAll_append (hargs _ (fun _ _ => rfl)) (hres _ _ _), by rw [hv]; exact rfl, by simp, fun b off hx => ?_, fun ha => by have := hn ha; simpa using this⟩, fun x hx _ => by simpa using hx⟩
    · rw [hrt] at h1 h2
      cases j with
      | zero =>
        simp at h1 h2
        subst h1
        have h3 : r = .bool true := by
          have : ((Value.bool true).resultList 1)[0]? = some r := h2
          simp [Value.resultList] at this; exact this.symm
        subst h3
        simp [Value.okWide, hu4, Cell.okWide, Cell.ok]
      | succ j => simp at h1
    · have hx' : MemPlace.cell b off ∈ p := by simpa using hx
      have h4 := hz b off (by simpa using hx')
      have h5 : b < W.heap.size := hlt _ hx'
      unfold World.frozen? at h4 ⊢
      simp only at h4 ⊢
      rw [hb.block b h5]; exact h4
end Go.Proofs.YtindlieilabgfaaGreatDoor
