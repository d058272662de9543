/-
  A row of the call's own behind the library's insertion sort: what it owns.
-/
import Derived.Test.YtiakaglgfboepaaMem
import Derived.Test.YtiakaglgfboepaaIns
import Derived.Shelf.SlSortCmp.InsertionK
namespace Go.Proofs.Ytiakaglgfboepaa
set_option linter.unusedVariables false
open Go.RowKit Go.Sort

theorem flatK_list {α : Type} [Inhabited α] {enc : α → List Value} {k : Nat} (hk : ∀ x, (enc x).length = k) (hk0 : 0 < k) (l : List α) : (flatK enc k l.toArray).toList = flat enc l := by
  apply List.ext_getElem
  · rw [flat_length hk]; simp
  intro j h1 h2
  have hj : j < l.length * k := by rw [flat_length hk] at h2; exact h2
  have hd : j / k < l.length := (Nat.div_lt_iff_lt_mul hk0).2 hj
  have hm : j % k < k := Nat.mod_lt _ hk0
  have e := flat_get hk l (j / k) _ (List.getElem?_eq_getElem hd) (j % k) hm
  rw [show j / k * k + j % k = j by rw [Nat.mul_comm]; exact Nat.div_add_mod j k, List.getElem?_eq_getElem h2, List.getElem?_eq_getElem (by rw [hk]; exact hm)] at e
  injection e with e
  rw [e]
  have h3 := get_flatK enc k l.toArray j (by simpa using hj)
  have h4 : j < (flatK enc k l.toArray).size := by simpa using hj
  rw [getElem!_pos (flatK enc k l.toArray) j h4, getElem!_pos l.toArray (j / k) (by simpa using hd), getElem!_pos (enc _) (j % k) (by rw [hk]; exact hm)] at h3
  simpa using h3

theorem holdsK_own {α : Type} [Inhabited α] {enc : α → List Value} {k : Nat} (hk : ∀ x, (enc x).length = k) (hk0 : 0 < k) {w : World} {base g n c : Nat} {E : TypeId} {l : List α} {cs : Array Value} (hB : Blk w g E cs) (htk : cs.toList.take (l.length * k) = flat enc l) : HoldsK enc k w g 0 l.toArray := by
  intro j hj
  have hj' : j < l.length * k := by simpa using hj
  refine ⟨?_, by rw [Nat.zero_add]; exact hB.frozen j⟩
  have h1 := flatK_list hk hk0 l
  rw [← htk] at h1
  rw [Nat.zero_add, hB.cell]
  have h2 : j < (flatK enc k l.toArray).toList.length := by simpa using hj
  have h3 := List.getElem?_eq_getElem h2
  have h4 : (flatK enc k l.toArray).toList[j]? = (cs.toList.take (l.length * k))[j]? := by rw [h1]
  rw [List.getElem?_take_of_lt hj'] at h4
  rw [← Array.getElem?_toList, ← h4, h3, getElem!_pos (flatK enc k l.toArray) j (by simpa using hj')]
  simp

theorem grownBy_sortedK {α : Type} [Inhabited α] {enc : α → List Value} {k : Nat} {w : World} {g n : Nat} {os : Array Obj} (d : Array α) : w.grownBy (sortWorldK enc k w g 0 n d os) (some g) := by
  refine ⟨rfl, rfl, rfl, by simp [sortWorldK, putRowK], fun i hi hne => ?_⟩
  unfold sortWorldK putRowK
  rw [heap_grow_old _ _ (by simpa using hi)]
  have : g ≠ i := fun e => hne (by rw [e])
  simp [putRow, mapBlock, Sort.ahead, Array.getElem?_modify, this]

theorem own_sortedK {α : Type} [Inhabited α] {enc : α → List Value} {k : Nat} (hk : ∀ x, (enc x).length = k) (hk0 : 0 < k) {w : World} {base g c n : Nat} {E : TypeId} {l m : List α} {cs : Array Value} {os : Array Obj} (hml : m.length = l.length) (hbase : base ≤ g)
    (hB : Blk w g E cs) (hnc : l.length ≤ c) (hcm : c ≤ maxLen) (hs : cs.size = c * k) : Own enc k (sortWorldK enc k w g 0 n m.toArray os) base E (.slice (some ⟨g, 0, none⟩) l.length c) m := by
  have hle : m.length * k ≤ cs.size := by rw [hs, hml]; exact Nat.mul_le_mul_right k hnc
  have hh : (sortWorldK enc k w g 0 n m.toArray os).heap[g]? = some (.cells (putCells id 0 (flatK enc k m.toArray) cs) E (0, 0)) := by
    unfold sortWorldK putRowK
    rw [heap_grow_old _ _ (by simpa using hB.lt)]
    unfold Blk at hB
    simp [putRow, mapBlock, Sort.ahead, Array.getElem?_modify, hB, onCells]
  have ho : Own enc k (sortWorldK enc k w g 0 n m.toArray os) base E (.slice (some ⟨g, 0, none⟩) m.length c) m := by
    refine ⟨flat_length hk m, .inr ⟨g, c, _, rfl, hbase, hh, by omega, hcm, by simp [putCells, hs], ?_⟩⟩
    rw [← flatK_list hk hk0 m]
    apply List.ext_getElem?
    intro j
    by_cases hj : j < m.length * k
    · rw [List.getElem?_take_of_lt hj, Array.getElem?_toList]
      have : j < cs.size := by omega
      simp [putCells, hj, this]
    · rw [List.getElem?_take_eq_none (by omega), List.getElem?_eq_none (by simp; omega)]
  rwa [hml] at ho

end Go.Proofs.Ytiakaglgfboepaa
