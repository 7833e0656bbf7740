/- Walks: the renamer's closures. -/
import Derived.Test.YtindlieilabgfaaGreatDoorW14
import Derived.Test.YtindlieilabgfaaGreatDoorT6
set_option linter.unusedVariables false
set_option linter.unusedSimpArgs false
set_option linter.unusedSectionVars false
set_option autoImplicit false
set_option relaxedAutoImplicit false
set_option maxRecDepth 10000
namespace Go.Proofs.YtindlieilabgfaaGreatDoor
open Go X
open Go.Proofs
theorem mapSS : mapT Tryz.prog 76 = some (9, 9) := by kernel_rfl
def RenOk (t : Tm) : Prop := ∀ (v : Value) (E : World) (H : GH) (L : List It) (gr gt : Nat) (σ : Bs → Option Bs) (f : Bs → Option Value) (n : Int), VT H v t → Laid H → (∀ x, f x = (σ x).map encS) → In64 n →
    Ok Tryz.prog 36 #[.pointer (some ⟨gr, 0, none⟩), v] E H (.obj gr (.cells #[.map (some gt), .int .i64 n] 78 (0, 0)) :: .blk gt (IsMap encS f) :: L) fun r H' L' => VT H' r (t.ren σ n).1 ∧ L' = .obj gr (.cells #[.map (some gt), .int .i64 (t.ren σ n).2] 78 (0, 0)) :: .blk gt (IsMap encS f) :: L

theorem kidr_ok (ks : List Tm) (k : Nat) (hk : k < ks.length) (hr : RenOk ks[k]) (A : Option Addr) (c p2 p3 p9 gr gt : Nat) (σ : Bs → Option Bs) (f : Bs → Option Value) (n : Int) (E : World) (H : GH) (L : List It) (hks : KS H A c ks) (h2 : Hc H p2 0 (.pointer (some ⟨gr, 0, none⟩)))
    (h3 : Hc H p3 3 (.slice A ks.length c)) (h9 : Hc H p9 0 (.int .i64 (k : Int))) (hL : Laid H) (hf : ∀ x, f x = (σ x).map encS) (hn : In64 n) : Ok Tryz.prog 62 #[.pointer (some ⟨p2, 0, none⟩), .pointer (some ⟨p3, 0, none⟩), .pointer (some ⟨p9, 0, none⟩)] E H (.obj gr (.cells #[.map (some gt), .int .i64 n] 78 (0, 0)) :: .blk gt (IsMap encS f) :: L)
      fun r H' L' => VT H' r (ks[k].ren σ n).1 ∧ L' = .obj gr (.cells #[.map (some gt), .int .i64 (ks[k].ren σ n).2] 78 (0, 0)) :: .blk gt (IsMap encS f) :: L := by
  obtain ⟨g, off, A2, c2, rfl, hvt, hcell⟩ := KS.get hks hk
  refine enter (N := 11) [(0, _), (1, _), (2, _)] Tryz.func62 rfl rfl rfl rfl fun a w h => ?_
  refine sq ?_
  refine rg0 ?_
  refine al zr24 h fun g3 a w h => ?_
  refine nl0 ?_
  refine thN ?_
  refine sq ?_
  refine rgd [] [] [1, 0] [0, 2, 3, 5] 1 mix (by kernel_rfl) h (fun a w h => ?_)
  refine ldHD t1_75 (h2) h fun a w h => ?_
  refine fa fl24_3 (r := 3) h fun a w h => ?_
  refine ldHD t1_22 (h3) h fun a w h => ?_
  refine ldHD t1_3 (h9) h fun a w h => ?_
  refine ia sli22 sz24 rfl hk h fun a w h => ?_
  refine ldHND tN24 rfl hcell h fun a w h => ?_
  have h := h.pull 2 rfl rfl
  have h := h.pull 2 rfl rfl
  refine cl bod36 (hr _ E H _ gr gt σ f n hvt hL hf hn) h fun r10 H10 L10 a w le10 R h => ?_
  obtain ⟨⟨A10, c10, rfl, hk10⟩, rfl⟩ := R
  have l_H_H10 : LE H H10 := le10
  refine sw2 tN24 h fun a w h => ?_
  refine nl0 ?_
  refine thN ?_
  refine ret_ ?_
  exact fin (rs := [.cell 3 24]) (vs := [.agg #[_, _, _, _]]) h rfl (.agg (k0 := 2) tN24 rfl rfl rfl .nil) rfl le10 ⟨LE.rfl, (h.del 2).st⟩ ⟨⟨A10, c10, rfl, hk10⟩, rfl⟩

theorem dfr_ok (hd : Bool) (old nm : Bs) (p10 p9 p4 p5 gr gt : Nat) (f : Bs → Option Value) (n : Int) (E : World) (H : GH) (L : List It) (h10 : Hc H p10 0 (.bool hd)) (h9 : Hc H p9 0 (str old)) (h4 : Hc H p4 0 (.pointer (some ⟨gr, 0, none⟩))) (h5 : Hc H p5 0 (str nm)) :
    OkD Tryz.prog 77 #[.pointer (some ⟨p10, 0, none⟩), .pointer (some ⟨p9, 0, none⟩), .pointer (some ⟨p4, 0, none⟩), .pointer (some ⟨p5, 0, none⟩)] E H (.obj gr (.cells #[.map (some gt), .int .i64 n] 78 (0, 0)) :: .blk gt (IsMap encS f) :: L) fun r H' L' => H = H' ∧ L' = .obj gr (.cells #[.map (some gt), .int .i64 n] 78 (0, 0)) :: .blk gt (IsMap encS (upd f nm (if hd then some (str old) else none))) :: L := by
  refine enterR (N := 16) [(0, _), (1, _), (2, _), (3, _)] Tryz.func77 rfl rfl rfl rfl fun a w h => ?_
  refine sq ?_
  refine rg0 ?_
  refine ldH t1_4 (h10) h fun a w h => ?_
  refine nl0 ?_
  refine thN ?_
  refine cdB h (fun c4 => ?_) (fun c4 => ?_)
  · refine rgd [0] [_] [0] [0, 3, 4, 5] 1 mix (by kernel_rfl) h (fun a w h => ?_)
    refine ldHD t1_75 (h4) h fun a w h => ?_
    refine nc h fun a w h => ?_
    refine fa fl78_0 (r := 0) h fun a w h => ?_
    refine ldD 0 t1_76 h fun a w h => ?_
    refine ldHD t1_9 (h5) h fun a w h => ?_
    refine ldHD t1_9 (h9) h fun a w h => ?_
    have h := h.pull 1 rfl rfl
    refine mu 0 keyS mapSS h fun a w h => ?_
    refine nl0 ?_
    have h := h.pull 1 rfl rfl
    refine finN0 0 h LE.rfl ?_
    exact ⟨rfl, by rw [show hd = true from c4]; rfl⟩
  · refine rgd [0] [_] [0] [0, 3, 4] 0 mix (by kernel_rfl) h (fun a w h => ?_)
    refine ldHD t1_75 (h4) h fun a w h => ?_
    refine nc h fun a w h => ?_
    refine fa fl78_0 (r := 0) h fun a w h => ?_
    refine ldD 0 t1_76 h fun a w h => ?_
    refine ldHD t1_9 (h5) h fun a w h => ?_
    have h := h.pull 1 rfl rfl
    refine dl 0 keyS mapSS h fun a w h => ?_
    refine nl0 ?_
    have h := h.pull 1 rfl rfl
    refine finN0 0 h LE.rfl ?_
    exact ⟨rfl, by rw [show hd = false from c4]; rfl⟩
end Go.Proofs.YtindlieilabgfaaGreatDoor
