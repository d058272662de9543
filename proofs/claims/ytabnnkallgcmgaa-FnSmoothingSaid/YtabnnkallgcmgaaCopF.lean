/-
  Contracts of copyOf. (Printed by gen_E6.py.)
-/
import Derived.Test.YtabnnkallgcmgaaSortF
import Derived.Test.YtabnnkallgcmgaaStep
import Derived.Test.YtabnnkallgcmgaaEach
namespace Go.Proofs.Ytabnnkallgcmgaa
set_option linter.unusedVariables false
open Go.RowKit

theorem copyOfI_any (b off n c B : Nat) (l : List Int) (w : World) (hn : l.length = n) (h : Rd encI 1 w B (some ⟨b, off, none⟩) l) (hl : l.length ≤ 1048576) (hB : B ≤ w.heap.size) :
    Calls Try.prog 61 #[.slice (some ⟨b, off, none⟩) n c] w fun e w' => ∃ v, e = .returned v ∧ Own encI 1 w' w.heap.size 3 v l ∧ Below w.heap.size w w' := by
  obtain ⟨i0, hi, hz0, hz1, hz2⟩ := info_parts infoI
  have hB0 : Below w.heap.size w (w.alloc (.cells #[] 3)) := by (repeat (first | with_reducible exact Below.refl _ _ | with_reducible assumption | with_reducible refine Below.setCell ?_ (by simp <;> omega) _ | with_reducible refine Below.alloc ?_ (by first | omega | (simp <;> omega)) _ | with_reducible refine Below.drew ?_ | with_reducible refine below_drewN ?_ _))
  have ho := Own.empty (enc := encI) (k := 1) w w.heap.size 3 (Nat.le_refl _)
  have hr := h.alloc hB (.cells #[] 3)
  have Ho := Lib.hid ho
  have Hr := Lib.hid hr
  clear ho hr h
  go_enter Try.func61, Try.ntmps61
  go_wp2_with (at_builtin; refine wpList_appL rfl _ _ 22 rfl w.heap.size 3 i0 _ 1 8 Try.underlying22 hi hz0 hz1 hz2 rfl (by omega) (by omega) encI encI_len encI_one (.slice (some ⟨w.heap.size, 0, none⟩) 0 0) [] l (w.alloc (.cells #[] 3)) b off n c B rfl Ho.out rfl hn Hr.out (by simp; omega) (by simp) ?_; intro v' w2 hown2 hb2 _)
  have Hown2 := Lib.hid (show Own encI 1 w2 w.heap.size 3 v' l from hown2)
  clear hown2
  go_wp2
  go_ret
  exact ⟨_, rfl, Hown2.out, hB0.trans hb2⟩

end Go.Proofs.Ytabnnkallgcmgaa
