/-
  Plain laws of current picks. (Printed by gen_A11.py.)
-/
import Derived.Test.YtiakaglgfboepaaPickV
import Derived.Test.YtiakaglgfboepaaIns
namespace Go.Proofs.Ytiakaglgfboepaa
set_option linter.unusedVariables false
open Go.RowKit

def nowP (l : List Pick) : List Pick := l.filter fun p => curP l p.id
def ordP (l : List Pick) (k : Nat) : List Pick := sortL Pick.tick ((l.take k).filter fun p => curP l p.id)
def cuL (l : List Pick) : List Int := if picksS l then (sortL Pick.tick (nowP l)).map Pick.id else []
theorem ordP_zero (l : List Pick) : ordP l 0 = [] := by simp [ordP, sortL]
theorem ordP_all (l : List Pick) : ordP l l.length = sortL Pick.tick (nowP l) := by unfold ordP nowP; rw [List.take_length]
theorem ordP_yes {l : List Pick} {k : Nat} (hk : k < l.length) (h : curP l l[k].id = true) : ordP l (k + 1) = insL Pick.tick (ordP l k) l[k] := by
  unfold ordP
  rw [List.take_succ_eq_append_getElem hk, List.filter_append]
  simp only [List.filter_cons, List.filter_nil, h, if_true]
  rw [sortL_snoc]
theorem ordP_no {l : List Pick} {k : Nat} (hk : k < l.length) (h : curP l l[k].id = false) : ordP l (k + 1) = ordP l k := by
  unfold ordP
  rw [List.take_succ_eq_append_getElem hk, List.filter_append]
  simp [h]
theorem ordP_len (l : List Pick) (k : Nat) : (ordP l k).length ≤ k := by
  unfold ordP
  rw [sortL_len]
  have h1 := List.length_filter_le (fun p => curP l p.id) (l.take k)
  have h2 := List.length_take_le k l
  omega
theorem nowP_len (l : List Pick) : (nowP l).length ≤ l.length := List.length_filter_le _ _
theorem cuL_len {l : List Pick} : (cuL l).length ≤ 1048576 := by
  unfold cuL
  split
  · rename_i h
    have h1 := (picksS_iff h).2.1
    have h2 := nowP_len l
    rw [List.length_map, sortL_len]; omega
  · simp
theorem ordP_good {l : List Pick} (hp : picksS l = true) (k : Nat) : ∀ x ∈ ordP l k, goodP x = true := fun x hx => by
  unfold ordP at hx
  rw [sortL_mem] at hx
  exact picksS_good hp (List.mem_of_mem_take (List.mem_filter.1 hx).1)

end Go.Proofs.Ytiakaglgfboepaa
