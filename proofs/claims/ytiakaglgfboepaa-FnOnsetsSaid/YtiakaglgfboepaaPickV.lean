/-
  Plain laws of valid picks: what was replaced, how far it moved. (Printed by gen_A5.py.)
-/
import Derived.Test.YtiakaglgfboepaaL7Good
namespace Go.Proofs.Ytiakaglgfboepaa
set_option linter.unusedVariables false
open Go.RowKit

theorem picksS_iff {l : List Pick} (h : picksS l = true) : chk goodP ltP l = true ∧ l.length ≤ 12 ∧ (∀ x ∈ latP l, folP l x = true) := by
  rw [← picks_eq] at h
  unfold picksI at h
  simp only [Bool.and_eq_true, decide_eq_true_eq, List.all_eq_true] at h
  exact ⟨h.1.1.1, h.1.1.2, h.1.2⟩
theorem picksS_good {l : List Pick} (h : picksS l = true) {x : Pick} (hx : x ∈ l) : goodP x = true := chk_mem (picksS_iff h).1 hx
theorem picksS_get {l : List Pick} (h : picksS l = true) {k : Nat} (hk : k < l.length) : goodP l[k] = true := picksS_good h (List.getElem_mem hk)
/-- The pick that one replaces is there. -/
theorem picksS_fol {l : List Pick} (h : picksS l = true) {x : Pick} (hx : x ∈ latP l) : ∃ j : Nat, ∃ hj : j < l.length, findP l x.after_ = j ∧ l[j].id = x.after_ := by
  have hf := (picksS_iff h).2.2 x hx
  refine findP_bd l x.after_ ?_
  unfold folP at hf
  split at hf
  · cases hf
  · simp only [Bool.and_eq_true, decide_eq_true_eq] at hf
    exact hf.1.1
/-- The pick that x replaces, or x where there is none. -/
def oldP (l : List Pick) (x : Pick) : Pick := (l[(findP l x.after_).toNat]?).getD x
theorem oldP_of {l : List Pick} {x : Pick} {j : Nat} (hj : j < l.length) (h : findP l x.after_ = j) : oldP l x = l[j] := by
  unfold oldP
  rw [h, Int.toNat_natCast, List.getElem?_eq_getElem hj]; rfl
def humP (l : List Pick) (x : Pick) : Bool := decide (0 < x.by_) && (oldP l x).by_ == 0
def revH (l : List Pick) : Int := if picksS l then ((latP l).filter (humP l)).length else 0
def revA (l : List Pick) : Int := if picksS l then (latP l).length else 0
/-- How far a pick moved. -/
def movP (l : List Pick) (x : Pick) : Int := absI (x.tick - (oldP l x).tick)
def mmStep (l : List Pick) (st : Int × Int) (x : Pick) : Int × Int := if st.2 < movP l x then (x.id, movP l x) else st
def mmT (l L : List Pick) : Int × Int := L.foldl (mmStep l) (0, -1)
theorem mmT_snoc (l L : List Pick) (x : Pick) : mmT l (L ++ [x]) = mmStep l (mmT l L) x := by unfold mmT; rw [List.foldl_append]; rfl
theorem mmT_succ (l L : List Pick) (k : Nat) (hk : k < L.length) : mmT l (L.take (k + 1)) = mmStep l (mmT l (L.take k)) L[k] := by
  rw [List.take_succ_eq_append_getElem hk, mmT_snoc]
theorem movP_bd {l : List Pick} (h : picksS l = true) {x : Pick} (hx : x ∈ latP l) : 0 ≤ movP l x ∧ movP l x ≤ 1000000 := by
  obtain ⟨j, hj, h1, _⟩ := picksS_fol h hx
  have a := goodP_iff.1 (picksS_good h (latP_mem hx).1)
  have b := goodP_iff.1 (picksS_get h hj)
  unfold movP
  rw [oldP_of hj h1]
  unfold absI
  omega
def mmV (l : List Pick) : Int × Int × Bool := if picksS l && decide (0 ≤ (mmT l (latP l)).2) then ((mmT l (latP l)).1, (mmT l (latP l)).2, true) else (0, 0, false)
def okWi (l : List Pick) (id : Int) : Bool := picksS l && decide (0 ≤ findP l id)
def wiLo (l : List Pick) (id : Int) : Int := if okWi l id then (match l[(findP l id).toNat]? with | none => 0 | some x => max 0 (x.tick - x.err)) else 0
def wiHi (l : List Pick) (id : Int) : Int := if okWi l id then (match l[(findP l id).toNat]? with | none => 0 | some x => min 1000000 (x.tick + x.err)) else 0

end Go.Proofs.Ytiakaglgfboepaa
