/-
  The library's sort at a row of ints of the call's own.
-/
import Derived.Test.YtabnnkallgcmgaaPure
import Derived.Test.YtabnnkallgcmgaaIns
import Derived.Test.YtabnnkallgcmgaaShelfF
import Derived.Shelf.Sort.Plain
import Derived.Sort.OwnSortedInts
namespace Go.Proofs.Ytabnnkallgcmgaa
set_option linter.unusedVariables false
open Go.RowKit Go.Sort

theorem sorted_perm_eq : ∀ {l m : List Int}, l.Pairwise (fun a b => a ≤ b) → m.Pairwise (fun a b => a ≤ b) → l.Perm m → l = m := by
  intro l
  induction l with
  | nil => intro m _ _ hp; exact (List.nil_perm.1 hp).symm
  | cons a l ih =>
    intro m hl hm hp
    cases m with
    | nil => exact absurd hp.length_eq (by simp)
    | cons b m =>
      have h1 := List.pairwise_cons.1 hl
      have h2 := List.pairwise_cons.1 hm
      have ha : a ∈ b :: m := hp.subset (List.mem_cons_self ..)
      have hb : b ∈ a :: l := hp.symm.subset (List.mem_cons_self ..)
      have e : a = b := by
        rcases List.mem_cons.1 ha with e | ha
        · exact e
        · rcases List.mem_cons.1 hb with e | hb
          · exact e.symm
          · have := h1.1 b hb
            have := h2.1 a ha
            omega
      subst e
      rw [ih h1.2 h2.2 (List.Perm.cons_inv hp)]
def idZ (x : Int) : Int := x
theorem mergeSort_eq (l : List Int) : (l.mergeSort fun x y => decide (x ≤ y)) = sortL idZ l := by
  refine sorted_perm_eq ?_ (sortL_sorted idZ l) ((List.mergeSort_perm l _).trans (sortL_perm idZ l).symm)
  have := List.pairwise_mergeSort (le := fun x y : Int => decide (x ≤ y)) (fun a b c h1 h2 => by simp at *; omega) (fun a b => by simp; omega) l
  exact this.imp (fun h => by simpa using h)
theorem flatI (l : List Int) : flat encI l = l.map (Value.int .i64) := by
  induction l with
  | nil => rfl
  | cons a l ih => show encI a ++ flat encI l = _; rw [ih]; rfl

/-- The element in the middle. -/
def midL (o : List Int) : Int := o.getD ((o.length - 1) / 2) 0
theorem midL_bd {o : List Int} {a b : Int} (h0 : a ≤ 0 ∧ 0 ≤ b) (h : ∀ x ∈ o, a ≤ x ∧ x ≤ b) : a ≤ midL o ∧ midL o ≤ b := by
  unfold midL
  rw [List.getD_eq_getElem?_getD]
  cases hx : o[(o.length - 1) / 2]? with
  | none => exact h0
  | some x => exact h x (List.mem_of_getElem? hx)
theorem midL_mem {o : List Int} (h : 0 < o.length) : midL o ∈ o := by
  unfold midL
  rw [List.getD_eq_getElem?_getD, List.getElem?_eq_getElem (by omega)]
  exact List.getElem_mem _
theorem sortI_any (A : Option Addr) (c base : Nat) (l : List Int) (w : World) (h : Own encI 1 w base 3 (.slice A l.length c) l) (h0 : 0 < l.length) (hl : l.length ≤ 1048576) :
    Calls Try.prog 62 #[.slice A l.length c] w fun e w' => e = .returned (.tuple #[]) ∧ Own encI 1 w' base 3 (.slice A l.length c) (sortL idZ l) ∧ w.grownBy w' (Value.ownBlock (.slice A l.length c)) := by
  obtain ⟨g, cs, rfl, hb, hB, hs, _, hnc, hm, htk⟩ := h.blk h0
  rw [Nat.mul_one, flatI] at htk
  have hcon := Any.slices_Sort_int Try.laysSort g 0 c l w (holds_of_blockI hB htk) hB.lt (by omega)
  rw [mergeSort_eq] at hcon
  refine hcon.mono ?_
  rintro e w' ⟨rfl, n, os, rfl⟩
  refine ⟨rfl, ?_, grownBy_sortedI _⟩
  have ho := ownsRow_sortedI (n := n) (os := os) (base := base) (ts := sortL idZ l) (sortL_len idZ l) hb hB hnc hm hs
  show World.ownsRow _ base 3 1 _ (sortL idZ l).length (flat encI (sortL idZ l))
  rw [flatI, sortL_len]
  exact ho
end Go.Proofs.Ytabnnkallgcmgaa
