/-
  Plain laws of a pick's history. (Printed by gen_A6.py.)
-/
import Derived.Test.YtiakaglgfboepaaWithd
namespace Go.Proofs.Ytiakaglgfboepaa
set_option linter.unusedVariables false
open Go.RowKit

/-- The pick that the one with this number replaces, or 0. -/
def aftP (l : List Pick) (id : Int) : Int := match l[(findP l id).toNat]? with | none => 0 | some x => x.after_
def histF (l : List Pick) : Nat → Int → List Int
  | 0, _ => []
  | f + 1, id => if id ≤ 0 then [] else id :: histF l f (aftP l id)
theorem histF_zero (l : List Pick) (f : Nat) : histF l f 0 = [] := by cases f <;> simp [histF]
theorem histF_succ {l : List Pick} {f : Nat} {id : Int} (h : 0 < id) : histF l (f + 1) id = id :: histF l f (aftP l id) := by
  show (if id ≤ 0 then _ else _) = _
  rw [if_neg (by omega)]
theorem histF_len (l : List Pick) : ∀ f id, (histF l f id).length ≤ f := by
  intro f
  induction f with
  | zero => intro id; simp [histF]
  | succ f ih =>
    intro id
    unfold histF
    split
    · simp
    · have := ih (aftP l id); simp; omega
def okHi (l : List Pick) (id : Int) : Bool := picksS l && decide (0 ≤ findP l id)
def hiL (l : List Pick) (id : Int) : List Int := if okHi l id then histF l id.toNat id else []
theorem find_id {l : List Pick} {id : Int} (h : 0 ≤ findP l id) (hp : picksS l = true) : ∃ k : Nat, ∃ hk : k < l.length, findP l id = k ∧ l[k].id = id ∧ 1 ≤ id ∧ id ≤ 9999 ∧ aftP l id = l[k].after_ ∧ 0 ≤ l[k].after_ ∧ l[k].after_ < id ∧ (l[k].after_ = 0 → findP l l[k].after_ < 0) ∧ (l[k].after_ ≠ 0 → 0 ≤ findP l l[k].after_) := by
  obtain ⟨k, hk, h1, h2⟩ := findP_bd l id h
  have hg := goodP_iff.1 (picksS_get hp hk)
  refine ⟨k, hk, h1, h2, by omega, by omega, ?_, by omega, by omega, ?_, ?_⟩
  · unfold aftP; rw [h1, Int.toNat_natCast, List.getElem?_eq_getElem hk]
  · intro h0
    rcases (by omega : findP l l[k].after_ < 0 ∨ 0 ≤ findP l l[k].after_) with c | c
    · exact c
    · obtain ⟨j, hj, h3, h4⟩ := findP_bd l _ c
      have := goodP_iff.1 (picksS_get hp hj)
      omega
  · intro h0
    obtain ⟨j, hj, h3, _⟩ := picksS_fol hp (x := l[k]) (by unfold latP; rw [List.mem_filter]; exact ⟨List.getElem_mem hk, by simpa using h0⟩)
    omega
theorem hiL_len {l : List Pick} {id : Int} : (hiL l id).length ≤ 1048576 := by
  unfold hiL
  split
  · rename_i h
    simp only [okHi, Bool.and_eq_true, decide_eq_true_eq] at h
    obtain ⟨k, hk, _, _, h1, h2, _⟩ := find_id h.2 h.1
    have := histF_len l id.toNat id
    omega
  · simp

end Go.Proofs.Ytiakaglgfboepaa
