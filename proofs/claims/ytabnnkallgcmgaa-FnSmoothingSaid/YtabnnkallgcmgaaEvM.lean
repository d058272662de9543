/-
  Lists of what is told for each place of samples. (Printed by gen_F3.py.)
-/
import Derived.Test.YtabnnkallgcmgaaMSumsS
namespace Go.Proofs.Ytabnnkallgcmgaa
set_option linter.unusedVariables false
open Go.RowKit

def okA (a b : Int) (l : List Int) (n : Int) : Bool := goodS l && inB n a b
theorem okA_iff {a b : Int} {l : List Int} {n : Int} : okA a b l n = true ↔ (l.length ≤ 24 ∧ Sm l) ∧ a ≤ n ∧ n ≤ b := by
  simp only [okA, Bool.and_eq_true, goodS_iff, inB_iff]; rfl
def evL (a b : Int) (f : List Int → Int → Nat → Int) (l : List Int) (n : Int) : List Int := if okA a b l n then (List.range l.length).map (f l n) else []
theorem evL_yes {a b : Int} {f : List Int → Int → Nat → Int} {l : List Int} {n : Int} (h : okA a b l n = true) : evL a b f l n = (List.range l.length).map (f l n) := by unfold evL; rw [if_pos h]
theorem evL_no {a b : Int} {f : List Int → Int → Nat → Int} {l : List Int} {n : Int} (h : okA a b l n = false) : evL a b f l n = [] := by unfold evL; rw [h]; rfl
theorem evL_len {a b : Int} {f : List Int → Int → Nat → Int} {l : List Int} {n : Int} : (evL a b f l n).length ≤ 1048576 := by
  unfold evL
  split
  · rename_i h
    have := (okA_iff.1 h).1.1
    simp; omega
  · simp
theorem getD_at {l : List Int} {i : Nat} (h : i < l.length) : l.getD i 0 = l[i] := by rw [List.getD_eq_getElem?_getD, List.getElem?_eq_getElem h]; rfl
theorem grownBy_of_below {a b : World} (h : Below a.heap.size a b) : a.grownBy b none := ⟨h.os, h.tape, h.output, h.size, fun i hi _ => h.block i hi⟩

end Go.Proofs.Ytabnnkallgcmgaa
