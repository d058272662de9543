/-
  A row of the call's own in which one cell of one element has been written over.
-/
import Derived.Test.YtjnaigpogloboaaDoorInts
namespace Go.Proofs.YtjnaigpogloboaaDoor
set_option linter.unusedVariables false
open Go.RowKit

theorem Own.setF {α : Type} {enc : α → List Value} {K : Nat} (hk : ∀ x, (enc x).length = K) {w w' : World} {base g : Nat} {E : TypeId} {n c k f : Nat} {v : Value} {l : List α} {x y : α} {cs : Array Value} (h : Own enc K w base E (.slice (some ⟨g, 0, none⟩) n c) l)
    (hB : Blk w g E cs) (hB' : Blk w' g E (cs.setIfInBounds (k * K + f) v)) (hkl : k < l.length) (hf : f < K) (hx : l[k]? = some x) (hy : enc y = (enc x).set f v) : Own enc K w' base E (.slice (some ⟨g, 0, none⟩) n c) (l.set k y) := by
  have hnl := Own.len h
  obtain ⟨g', cs', e, hb, hB2, hs, hl, hnc, hm, htk⟩ := h.blk (show 0 < n by omega)
  injection e with e
  injection e with e1
  subst e1
  have : cs' = cs := by
    unfold Blk at hB hB2
    rw [hB] at hB2
    injection hB2 with hB2
    injection hB2 with hB2
    exact hB2.symm
  subst this
  have hcell : ∀ j z, l[j]? = some z → ∀ i u, (enc z)[i]? = some u → cs'[j * K + i]? = some u := by
    intro j z hz i u hu
    have hi : i < K := by have := (List.getElem?_eq_some_iff.1 hu).1; rwa [hk] at this
    have h1 := flat_get hk l j z hz i hi
    rw [hu, ← htk, List.getElem?_take] at h1
    split at h1
    · simpa using h1
    · cases h1
  have hle : l.length * K ≤ cs'.size := by rw [hs]; exact Nat.mul_le_mul_right K (by omega)
  have hkk : (k + 1) * K ≤ l.length * K := Nat.mul_le_mul_right K hkl
  rw [Nat.add_mul, Nat.one_mul] at hkk
  refine Own.over hk hb hB' (by simpa using hs) (by rw [List.length_set]; exact hnl) (by omega) hm ?_
  intro j z hz i u hu
  have hi : i < K := by have := (List.getElem?_eq_some_iff.1 hu).1; rwa [hk] at this
  have hj : j < l.length := by have := (List.getElem?_eq_some_iff.1 hz).1; simpa using this
  rw [Array.getElem?_setIfInBounds]
  have hdiv : ∀ a b, b < K → (a * K + b) / K = a := fun a b hb => by rw [Nat.mul_comm, Nat.mul_add_div (by omega), Nat.div_eq_of_lt hb, Nat.add_zero]
  by_cases hjk : j = k
  · subst hjk
    rw [List.getElem?_set_self hj] at hz
    injection hz with hz
    subst hz
    rw [hy] at hu
    by_cases hif : f = i
    · subst hif
      rw [if_pos rfl, if_pos (by omega)]
      rw [List.getElem?_set_self (by rw [hk]; exact hf)] at hu
      exact hu
    · rw [if_neg (by omega)]
      rw [List.getElem?_set_ne hif] at hu
      exact hcell j x hx i u hu
  · rw [List.getElem?_set_ne (fun e => hjk e.symm)] at hz
    rw [if_neg (fun e => hjk (by rw [← hdiv j i hi, ← e, hdiv k f hf]))]
    exact hcell j z hz i u hu
end Go.Proofs.YtjnaigpogloboaaDoor
