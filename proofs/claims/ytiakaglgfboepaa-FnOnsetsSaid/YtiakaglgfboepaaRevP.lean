/-
  Plain laws of a revised pick. (Printed by gen_A6.py.)
-/
import Derived.Test.YtiakaglgfboepaaHistV
namespace Go.Proofs.Ytiakaglgfboepaa
set_option linter.unusedVariables false
open Go.RowKit

/-- May the pick be revised? -/
def okR1 (l : List Pick) (id : Int) : Bool := picksS l && decide (0 ≤ findP l id) && curP l id
def lastP (l : List Pick) : Pick := l.getLast?.getD ⟨0, 0, 0, 0, 0, 0, 0⟩
def getP (l : List Pick) (id : Int) : Pick := (l[(findP l id).toNat]?).getD ⟨0, 0, 0, 0, 0, 0, 0⟩
def nextP (l : List Pick) (id t e b : Int) : Pick := ⟨(lastP l).id + 1, (getP l id).station, (getP l id).wave, t, e, b, id⟩
def rvO (l : List Pick) (id t e b : Int) : List Pick := l ++ [nextP l id t e b]
def okRv (l : List Pick) (id t e b : Int) : Bool := okR1 l id && picksS (rvO l id t e b)
def rvL (l : List Pick) (id t e b : Int) : List Pick := if okRv l id t e b then rvO l id t e b else []
def rvN (l : List Pick) (id t e b : Int) : Int := if okRv l id t e b then (lastP l).id + 1 else 0
theorem okR1_iff {l : List Pick} {id : Int} : okR1 l id = true ↔ picksS l = true ∧ 0 ≤ findP l id ∧ curP l id = true := by
  simp only [okR1, Bool.and_eq_true, decide_eq_true_eq, and_assoc]
theorem rvL_len {l : List Pick} {id t e b : Int} : (rvL l id t e b).length ≤ 1048576 := by
  unfold rvL
  split
  · rename_i h
    simp only [okRv, Bool.and_eq_true] at h
    have := (picksS_iff (okR1_iff.1 h.1).1).2.1
    unfold rvO
    rw [List.length_append]; simp; omega
  · simp
theorem lastP_of {l : List Pick} (h : 0 < l.length) : lastP l = l[l.length - 1] := by
  unfold lastP
  rw [List.getLast?_eq_getElem?, List.getElem?_eq_getElem (by omega)]; rfl
theorem getP_of {l : List Pick} {id : Int} {k : Nat} (hk : k < l.length) (h : findP l id = k) : getP l id = l[k] := by
  unfold getP
  rw [h, Int.toNat_natCast, List.getElem?_eq_getElem hk]; rfl

end Go.Proofs.Ytiakaglgfboepaa
