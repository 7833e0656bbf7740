/- The chapter's examples, plainly. -/
import Derived.Test.YtindlieilabgfaaGreatDoorT7
set_option linter.unusedVariables false
set_option linter.unusedSectionVars false
set_option linter.unusedSimpArgs false
set_option autoImplicit false
set_option relaxedAutoImplicit false
set_option maxRecDepth 100000
namespace Go.Proofs.YtindlieilabgfaaGreatDoor
open Go X

section
variable {P : Program} {Q : Exit → Act → World → Prop} {S0 : World → Prop} {rd : List Nat} {n : Nat} {listed : Array Bool} {l : List Oper}
theorem X.brl3 (i j k : Nat) {o o' o2 : Oper} (nd nd' nd2 : Bool) {a : Act} {w : World} (hr : Region.ready .any l.toArray listed = [i, j, k]) (hnd : needs l.toArray rd i = nd) (hnd' : needs l.toArray rd j = nd') (hnd2 : needs l.toArray rd k = nd2) (hS : (nd || (nd' || nd2)) = true → S0 w)
    (h : (gb P l.toArray Q S0 nd (Nx P l.toArray Q S0 rd n listed i)).G [o] a w) (h' : (gb P l.toArray Q S0 nd' (Nx P l.toArray Q S0 rd n listed j)).G [o'] a w) (h2 : (gb P l.toArray Q S0 nd2 (Nx P l.toArray Q S0 rd n listed k)).G [o2] a w)
    (hi : l[i]? = some o := by rfl) (hj : l[j]? = some o' := by rfl) (hk : l[k]? = some o2 := by rfl) : wpR P l.toArray Q S0 rd (n + 1) listed a w :=
  br3 i j k nd nd' nd2 hr (by simpa using hi) (by simpa using hj) (by simpa using hk) hnd hnd' hnd2 hS h h' h2
theorem X.brl4 (i j k m : Nat) {o o' o2 o3 : Oper} (nd nd' nd2 nd3 : Bool) {a : Act} {w : World} (hr : Region.ready .any l.toArray listed = [i, j, k, m]) (hnd : needs l.toArray rd i = nd) (hnd' : needs l.toArray rd j = nd') (hnd2 : needs l.toArray rd k = nd2) (hnd3 : needs l.toArray rd m = nd3) (hS : (nd || (nd' || (nd2 || nd3))) = true → S0 w)
    (h : (gb P l.toArray Q S0 nd (Nx P l.toArray Q S0 rd n listed i)).G [o] a w) (h' : (gb P l.toArray Q S0 nd' (Nx P l.toArray Q S0 rd n listed j)).G [o'] a w) (h2 : (gb P l.toArray Q S0 nd2 (Nx P l.toArray Q S0 rd n listed k)).G [o2] a w) (h3 : (gb P l.toArray Q S0 nd3 (Nx P l.toArray Q S0 rd n listed m)).G [o3] a w)
    (hi : l[i]? = some o := by rfl) (hj : l[j]? = some o' := by rfl) (hk : l[k]? = some o2 := by rfl) (hm : l[m]? = some o3 := by rfl) : wpR P l.toArray Q S0 rd (n + 1) listed a w := by
  refine ⟨(fun e => by rw [e] at hr; cases hr), fun q hq => ?_⟩
  rw [hr] at hq
  simp at hq
  rcases hq with rfl | rfl | rfl | rfl
  · exact wpOp_b (by simpa using hi) hnd h (fun e => hS (by rw [e]; rfl))
  · exact wpOp_b (by simpa using hj) hnd' h' (fun e => hS (by rw [e]; simp))
  · exact wpOp_b (by simpa using hk) hnd2 h2 (fun e => hS (by rw [e]; simp))
  · exact wpOp_b (by simpa using hm) hnd3 h3 (fun e => hS (by rw [e]; simp))
end
def exX : Tm := .mk 2 [120] 0 []
def exY : Tm := .mk 2 [121] 0 []
def exA : Tm := .mk 4 [] 0 [exX, exY]
def exF (t : Tm) : Tm := .mk 3 [120] 0 [t]
def exD : Dc := ⟨[121], [76, 111], 0⟩
def exP : Pg := ⟨[exD], [], [⟨[102], exF exX⟩], exF exA⟩
def exP2 : Pg := ⟨[exD, exD], [], [⟨[102], exF exX⟩], exF exA⟩
def exP3 : Pg := ⟨[], [], [], exX⟩
def none1 : Bs → Option Bs := fun _ => none
theorem ex1 : (exF exA).ren none1 3 = (.mk 3 [51] 0 [.mk 4 [] 0 [.mk 2 [51] 0 [], .mk 2 [121] 0 []]], 4) := by
  simp [none1, exF, exA, exX, exY, Tm.ren, renL, renN, bnd, Lib.itoa, Lib.decDigits, nx, updS, IntKind.wrap, IntKind.bits, IntKind.signed]
theorem ex2 : (exF (exF exX)).ren none1 (-1) = (.mk 3 [45, 49] 0 [.mk 3 [48] 0 [.mk 2 [48] 0 []]], 1) := by
  simp [none1, exF, exX, Tm.ren, renL, renN, bnd, Lib.itoa, Lib.decDigits, nx, updS, IntKind.wrap, IntKind.bits, IntKind.signed]
theorem exR1 : exP.go 1 = some ([⟨[102], .mk 3 [49] 0 [.mk 2 [49] 0 []]⟩], 2) := by
  simp [exP, Pg.go, exF, exX, Tm.ren, renL, renN, bnd, Lib.itoa, Lib.decDigits, nx, updS, IntKind.wrap, IntKind.bits, IntKind.signed, Tm.strange, Tm.names, namesL, Tm.fr, frL, none0, inc1]
theorem exR2 : (exF exA).ren (fun _ => none) 2 = (.mk 3 [50] 0 [.mk 4 [] 0 [.mk 2 [50] 0 [], .mk 2 [121] 0 []]], 3) := by
  simp [exF, exA, exX, exY, Tm.ren, renL, renN, bnd, Lib.itoa, Lib.decDigits, nx, updS, IntKind.wrap, IntKind.bits, IntKind.signed]
theorem ex3 : exP.resolve = (⟨[exD], [], [⟨[102], .mk 3 [49] 0 [.mk 2 [49] 0 []]⟩], .mk 3 [50] 0 [.mk 4 [] 0 [.mk 2 [50] 0 [], .mk 2 [121] 0 []]]⟩, 0) := by
  unfold Pg.resolve
  rw [if_neg (show ¬ ((!exP.right) = true) by decide), if_neg (show ¬ (exP.twice = true) by decide)]
  rw [show exP.go exP.defs.length = some ([⟨[102], .mk 3 [49] 0 [.mk 2 [49] 0 []]⟩], 2) from exR1]
  refine (if_neg (show ¬ (Tm.strange (exP.known exP.defs.length) exP.body = true) by decide)).trans ?_
  rw [show exP.body.ren (fun x => none) 2 = (.mk 3 [50] 0 [.mk 4 [] 0 [.mk 2 [50] 0 [], .mk 2 [121] 0 []]], 3) from exR2]; rfl
theorem ex4 : exP2.resolve.2 = 6 := by rfl
theorem ex5 : exP3.resolve.2 = 5 := by rfl
theorem ex6 : Pg.zero.resolve.2 = 11 := by rfl
theorem rt_leaf {H : GH} (k : Int) (s : Bs) (n : Int) : RT H [.int .i64 k, str s, .int .i64 n, .slice none 0 0] (.mk k s n []) := by
  rw [rt_mk]; exact ⟨_, rfl, RS.nil _ _ _⟩
theorem rt_of_ks {H : GH} {k : Int} {s : Bs} {n : Int} {A : Option Addr} {c : Nat} {ks : List Tm} (h : KS H A c ks) : RT H [.int .i64 k, str s, .int .i64 n, .slice A ks.length c] (.mk k s n ks) := by
  rw [rt_mk]; exact ⟨_, rfl, h⟩
end Go.Proofs.YtindlieilabgfaaGreatDoor
