/- slices.Sorted(maps.Keys(m)), off the shelf. -/
import Derived.Test.YtindlieilabgfaaGreatDoorW12
import Derived.Test.YtindlieilabgfaaGreatDoorT5
import Derived.Test.YtindlieilabgfaaGreatDoorIter
import Derived.Maps.Own
set_option linter.unusedVariables false
set_option linter.unusedSimpArgs false
set_option linter.unusedSectionVars false
set_option autoImplicit false
set_option relaxedAutoImplicit false
set_option maxRecDepth 10000
namespace Go.Proofs.YtindlieilabgfaaGreatDoor
open Go X
open Go.Proofs Go.RowKit Go.Shelf Go.Sort
abbrev encS : Bs → Value := fun s => str s
theorem keyS : KeyLaw Tryz.prog 9 encS .string := keyStr (und_str str9)
theorem mapSI : mapT Tryz.prog 99 = some (9, 3) := by kernel_rfl
theorem St.belowRow {E w w' : World} {H : GH} {L : List It} {v : Value} {e : TypeId} {sz n : Nat} {xs : List Value} (h : St E H L w) (hb : Below w.heap.size w w') (hrow : w'.ownsRow w.heap.size e sz v n xs) : St E H (.row v e sz n xs :: L) w' := by
  have h' := h.below hb
  have h0 : w'.ownsRow 0 e sz v n xs := ⟨hrow.1, hrow.2.imp id fun ⟨g, cap, cur, h1, h2, h3⟩ => ⟨g, cap, cur, h1, Nat.zero_le _, h3⟩⟩
  have hge : ∀ g ∈ (It.row v e sz n xs).own, w.heap.size ≤ g := by
    intro g hg
    rcases hrow.2 with ⟨rfl, _⟩ | ⟨g', cap, cur, rfl, h2, _⟩
    · simp [It.own, Value.ownBlock] at hg
    · simp [It.own, Value.ownBlock] at hg; omega
  refine ⟨h'.os, h'.tape, h'.output, h'.fro, fun i hi => ?_, fun i hi g hg => ?_, List.pairwise_cons.2 ⟨fun i hi g hg hgi => ?_, h'.apart⟩⟩
  · cases hi with
    | head => exact h0
    | tail _ hi => exact h'.holds i hi
  · cases hi with
    | head =>
      cases hH : H g with
      | none => rfl
      | some o => exact absurd (h.size_le hH) (by have := hge g hg; omega)
    | tail _ hi => exact h'.off i hi g hg
  · have := hge g hg
    have := It.lt (h.holds i hi) hgi
    omega
theorem keys_ok (b : Nat) (E : World) (H : GH) (L : List It) : Ok Tryz.prog 55 #[.map (some b)] E H L fun r H' L' => ∃ g, r = .func (.func 72) #[] #[.pointer (some ⟨g, 0, none⟩)] ∧ H = H' ∧ L' = .obj g (.cells #[.map (some b)] 99 (0, 0)) :: L := fun w hw =>
  (callsIn_wide.1 (AnyZ.keys_in Tryz.keys55 Fence.wide 5 trivial rfl (some b) w)).mono fun e w' ⟨he, hw'⟩ => ⟨_, H, _, he, LE.rfl, by subst hw'; exact hw.alloc _, _, rfl, rfl, rfl⟩
theorem sortsK (m : Nat) : AnyZ.SortsIn Tryz.prog Tryz.sorted54_ren Fence.wide m :=
  ⟨fun blk off cap ss W hH hblk hsz => callsIn_wide.2 (AnyM.slices_Sort_string Tryz.sort71 blk off cap ss W hH hblk hsz), fun p cap W => callsIn_wide.2 (AnyM.slices_Sort_string_none Tryz.sort71 p cap W)⟩
theorem sub_len : ∀ {l m : List Bs}, l.Nodup → (∀ x ∈ l, x ∈ m) → l.length ≤ m.length
  | [], _, _, _ => Nat.zero_le _
  | a :: l, m, hd, hs => by
    rw [List.nodup_cons] at hd
    have hm := hs a (List.mem_cons_self ..)
    have := sub_len (l := l) (m := m.erase a) hd.2 fun x hx => (List.mem_erase_of_ne (fun e => by subst e; exact hd.1 hx)).2 (hs x (List.mem_cons_of_mem _ hx))
    rw [List.length_erase_of_mem hm] at this
    have := List.length_pos_of_mem hm
    simp only [List.length_cons]; omega
theorem lk_some {κ : Type} [DecidableEq κ] (k : κ) : ∀ m : List (κ × Value), (m.lookup k).isSome = true ↔ k ∈ m.map (·.1)
  | [] => by simp [List.lookup]
  | (a, v) :: l => by
    simp only [List.lookup, List.map_cons, List.mem_cons]
    by_cases e : k = a
    · subst e; simp
    · have : (k == a) = false := by simpa using e
      simp only [this, e, false_or]
      exact lk_some k l
theorem sorted_ok (b g : Nat) (f : Bs → Option Value) (k0 : Nat) (E : World) (H : GH) (L : List It) (hg : L[0]? = some (.obj g (.cells #[.map (some b)] 99 (0, 0)))) (hb : L[k0]? = some (.blk b (IsMap encS f)))
    (hlen : ∀ x, (f x).isSome = true → x.length < 1000000000000) (hcnt : ∀ l : List Bs, l.Nodup → (∀ x ∈ l, (f x).isSome = true) → l.length < 1000000000000) :
    Ok Tryz.prog 54 #[.func (.func 72) #[] #[.pointer (some ⟨g, 0, none⟩)]] E H L fun r H' L' => ∃ A c ss, r = .slice A ss.length c ∧ H = H' ∧ L' = .row (.slice A ss.length c) 9 1 ss.length (ss.map encS) :: L ∧ IsSet ss (fun x => (f x).isSome) := fun w hw => by
  obtain ⟨o, ho, es, clock, m, rfl, hst, h1, h2, h3⟩ := item_at hw.sees hb
  have hcell : w.heap[g]? = some (.cells #[.map (some b)] 99 (0, 0)) := item_at hw.sees hg
  have hmem : ∀ k, (k ∈ m.map (·.1)) ↔ (f k).isSome = true := fun k => by
    rw [← h3 k]; exact (lk_some k m).symm
  have hml : m.length < 1000000000000 := by
    have := hcnt (m.map (·.1)) h2 (fun x hx => (hmem x).1 hx)
    simpa using this
  have hel : es.size = m.length := by simpa using congrArg List.length h1
  let R : Value → Option (DataW Unit × List MemPlace) := fun _ => some (.nil, [])
  have hkey : ∀ (s : Bs) , s.length < 1000000000000 → keyOf Tryz.prog 9 (str s) = some (.string s) := fun s hs => by
    unfold keyOf
    rw [und_str str9]
    have hsz : (⟨s.toArray⟩ : ByteArray).size = s.length := by simp [ByteArray.size]
    simp [mapKey, und_str str9, hsz, maxLen]
    try omega
  have hread : ∀ x ∈ es.toList, ∃ s : Bs, s ∈ m.map (·.1) ∧ x.key = str s ∧ WideElems.rd Tryz.prog 9 R x = some (.string s, .nil) := fun x hx => by
    have : (x.key, x.val) ∈ m.map (fun p => (encS p.1, p.2)) := by rw [← h1]; exact List.mem_map.2 ⟨x, hx, rfl⟩
    obtain ⟨p, hp, hpe⟩ := List.mem_map.1 this
    have he : x.key = str p.1 := (congrArg Prod.fst hpe).symm
    have hpm : p.1 ∈ m.map (·.1) := List.mem_map.2 ⟨p, hp, rfl⟩
    refine ⟨p.1, hpm, he, ?_⟩
    have hk := hkey p.1 (hlen _ ((hmem _).1 hpm))
    unfold WideElems.rd
    rw [he, hk]; rfl
  have hown : w.ownsMap Tryz.prog 9 R b es.size (.map ((es.toList.map (WideElems.rg Tryz.prog 9 R)).foldr DataW.insert [])) :=
    ⟨es, clock, ho, ⟨by rw [hel]; simp only [maxLen]; omega, hst, fun x hx => let ⟨s, _, _, h⟩ := hread x hx; ⟨_, h⟩⟩, Nat.le_refl _, rfl⟩
  have hD : strKeys (.map ((es.toList.map (WideElems.rg Tryz.prog 9 R)).foldr DataW.insert []) : DataW Unit) = (((es.toList.map (WideElems.rg Tryz.prog 9 R)).foldr DataW.insert [])).map fun p => strOf p.1 := rfl
  have hperm : (strKeys (.map ((es.toList.map (WideElems.rg Tryz.prog 9 R)).foldr DataW.insert []) : DataW Unit)).Perm (m.map (·.1)) := by
    rw [hD]
    refine ((WideShapes.sorted_perm _).map _).trans (.of_eq ?_)
    rw [List.map_map]
    have e2 : m.map (·.1) = es.toList.map (fun x => match x.key with | .string s => s.data.toList | _ => []) := by
      have := congrArg (List.map (fun q : Value × Value => match q.1 with | .string s => s.data.toList | _ => [])) h1
      rw [List.map_map, List.map_map] at this
      rw [show m.map (·.1) = m.map ((fun q : Value × Value => match q.1 with | .string s => s.data.toList | _ => []) ∘ fun p => (encS p.1, p.2)) from List.map_congr_left fun p _ => by simp, ← this]
      rfl
    rw [e2]
    refine List.map_congr_left fun x hx => ?_
    obtain ⟨s, _, hk, hr⟩ := hread x hx
    simp only [Function.comp, WideElems.rg_of hr, hk]
    simp [strOf]
  have hseq : SeqGives Fence.wide 2 Tryz.prog 72 #[.pointer (some ⟨g, 0, none⟩)] encStr (fun ss => ss.Perm (strKeys (.map ((es.toList.map (WideElems.rg Tryz.prog 9 R)).foldr DataW.insert []) : DataW Unit))) _ w :=
    AnyZ.keys_gives (ρ := Tryz.keys55_ren) { Tryz.keys55 with } Fence.wide _ trivial rfl (by omega) g b es.size _ w (Array.getElem?_eq_some_iff.1 hcell).1 (by simp [World.cell?, hcell]) hown
  have hsz : Maps.size (.map ((es.toList.map (WideElems.rg Tryz.prog 9 R)).foldr DataW.insert []) : DataW Unit) = m.length := by
    have := hperm.length_eq
    rw [hD, List.length_map, List.length_map] at this
    exact this
  refine (callsIn_wide.1 (AnyZ.sorted_in Tryz.sorted54 Fence.wide 5 trivial trivial trivial trivial rfl (by omega) (sortsK _) (enters_of Tryz.func71 (by kernel_rfl) rfl) 72 #[.pointer (some ⟨g, 0, none⟩)] trivial (enters_of Tryz.func72 (by kernel_rfl) rfl) _ _ (by rw [hsz]; simp only [maxLen]; omega) (by rw [hsz]; omega) w hseq)).mono ?_
  rintro e w' ⟨v, ss, he, hS, hrow, hnil, hbel⟩
  have hlen' : (ss.mergeSort fun x y => decide (x ≤ y)).length = ss.length := List.length_mergeSort ..
  have hpm : (ss.mergeSort fun x y => decide (x ≤ y)).Perm (m.map (·.1)) := (List.mergeSort_perm ..).trans (hS.trans hperm)
  have hv : ∃ A c, v = .slice A (ss.mergeSort fun x y => decide (x ≤ y)).length c := by
    rw [hlen']
    rcases hrow.2 with ⟨rfl, e⟩ | ⟨_, cap, _, rfl, _⟩
    · exact ⟨none, 0, by rw [e]⟩
    · exact ⟨_, _, rfl⟩
  obtain ⟨Ad, c, rfl⟩ := hv
  rw [← hlen'] at hrow
  refine ⟨_, H, _, he, LE.rfl, St.belowRow hw hbel hrow, Ad, c, ss.mergeSort fun x y => decide (x ≤ y), rfl, rfl, rfl, hpm.nodup_iff.2 h2, fun x => (hpm.mem_iff).trans (hmem x), ?_⟩
  have hsorted := List.pairwise_mergeSort (le := fun x y : Bs => decide (x ≤ y)) (fun a b c h1 h2 => by simp at *; exact List.le_trans h1 h2) (fun a b => by simp; exact List.le_total a b) ss
  exact hsorted.imp fun h => by simpa using h
end Go.Proofs.YtindlieilabgfaaGreatDoor
