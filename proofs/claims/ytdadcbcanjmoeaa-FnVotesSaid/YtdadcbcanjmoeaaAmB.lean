/-
  A number among those of a block. (Printed by gen_R3.py.)
-/
import Derived.Test.YtdadcbcanjmoeaaDraw
namespace Go.Proofs.Ytdadcbcanjmoeaa
set_option linter.unusedVariables false
open Go.RowKit

theorem among_blk (g m : Nat) (ls : List Int) (cs : Array Value) (n c q : Nat) (w : World) (hcs : cs.toList = ls.map fun x => Value.int .i64 x) (hn : n ≤ ls.length) (h1 : 1 ≤ n) (h2 : n ≤ 1000) (hB : Blk w q 3 cs) (hne : q ≠ g) (h : Cur w g m) (hm : m ≤ 900000000) :
    Calls Try.prog 98 #[.pointer (some ⟨g, 0, none⟩), .slice (some ⟨q, 0, none⟩) n c] w fun e w' => ∃ x : Int, e = .returned (.int .i64 x) ∧ x ∈ ls ∧ Cur w' g (m + 2) ∧ w.grownBy w' (some g) := by
  have hl : (ls.take n).length = n := by rw [List.length_take]; omega
  have hr : Rd encI 1 w w.heap.size (some ⟨q, 0, none⟩) (ls.take n) := fun _ =>
    ⟨q, 0, rfl, hB.lt, fun j x hx i v hv => by
      have hi : i = 0 := by
        have := (List.getElem?_eq_some_iff.1 hv).1
        simp [encI] at this; omega
      subst hi
      have hx2 : ls[j]? = some x := by
        rw [List.getElem?_take] at hx
        split at hx
        · exact hx
        · cases hx
      rw [hB.cell, ← Array.getElem?_toList, hcs, List.getElem?_map]
      simp [hx2]
      simpa [encI] using hv⟩
  have hq := among_any g m (some ⟨q, 0, none⟩) c (ls.take n) w h hm ⟨_, _, rfl, hne⟩ hr (by omega) (by omega)
  rw [hl] at hq
  refine hq.mono ?_
  rintro e w' ⟨x, he, hx, hc, hg⟩
  exact ⟨x, he, List.mem_of_mem_take hx, hc, hg⟩

end Go.Proofs.Ytdadcbcanjmoeaa
