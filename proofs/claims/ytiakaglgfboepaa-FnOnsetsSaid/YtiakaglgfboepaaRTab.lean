/-
  The same table of pairs twice. (Printed by gen_A17.py.)
-/
import Derived.Test.YtiakaglgfboepaaRLib
import Derived.Test.YtiakaglgfboepaaSS
namespace Go.Proofs.Ytiakaglgfboepaa
set_option linter.unusedVariables false
open Go.RowKit

theorem rPair_any (g g' : Nat) (p : Int × Int) (w : World) (h : Blk w g 3 (prC p)) (h' : Blk w g' 3 (prC p)) :
    Calls Try.prog 52 #[.slice (some ⟨g, 0, none⟩) 2 2, .slice (some ⟨g', 0, none⟩) 2 2] w fun e w' => e = .returned (.bool true) ∧ Below w.heap.size w w' :=
  rInts_any (some ⟨g, 0, none⟩) (some ⟨g', 0, none⟩) 2 2 [p.1, p.2] w (rdI_pair h) (rdI_pair h') (by simp)
set_option maxHeartbeats 400000 in
theorem rTable_any (A A' : Option Addr) (n c c' : Nat) (L : List (Int × Int)) (base lim base' lim' : Nat) (w : World) (h : OwnSS w base lim A n c L) (h' : OwnSS w base' lim' A' n c' L) (hn : n ≤ 1048576) :
    Calls Try.prog 57 #[.slice A n c, .slice A' n c'] w fun e w' => e = .returned (.bool true) ∧ Below w.heap.size w w' := by
  obtain ⟨gs, o, _, _, _, P⟩ := h
  obtain ⟨gs', o', _, _, _, P'⟩ := h'
  have r := Own.rd' encG_len o
  have r' := Own.rd' encG_len o'
  have Hl := Lib.hid o.len
  have Hl' := Lib.hid o'.len
  have HP := Lib.hid P
  have HP' := Lib.hid P'
  clear P P' o o'
  have hb : ((n : Int) != (n : Int)) = false := by simp
  go_enter Try.func57, Try.ntmps57
  go_wp2
  go_loopw [5] (fun i wr => ∃ k : Nat, k ≤ n ∧ i = .int .i64 k ∧ Below w.heap.size w wr) (fun i _ => n - (intOf i).toNat)
  case atStart => exact ⟨0, Nat.zero_le _, rfl, Below.refl _ _⟩
  case round =>
    obtain ⟨k, hk, rfl, hbl⟩ := hrel
    by_cases hlt : k < n
    · have h1 : k < gs.length := by have := Hl.out; omega
      have h1' : k < gs'.length := by have := Hl'.out; omega
      have h2 : k < L.length := by have := HP.out.1; have := Hl.out; omega
      obtain ⟨b, off, rfl, hb1, c0⟩ := cellsG (r.below hbl) h1
      obtain ⟨b', off', rfl, hb2, d0⟩ := cellsG (r'.below hbl) h1'
      have p0 := (HP.out.2 k h1 h2).after hbl
      have p1 := (HP'.out.2 k h1' h2).after hbl
      generalize gs[k] = g at *
      generalize gs'[k] = g' at *
      generalize L[k] = p at *
      have HP0 := Lib.hid p0
      have HP1 := Lib.hid p1
      clear p0 p1
      go_wp2_with fail
      go_still_tail 8, (by kernel_rfl)
      change wpList _ _ _ _ _ wr.drew
      have hbl2 := hbl.drew
      have q0 := HP0.out.drew
      have q1 := HP1.out.drew
      generalize wr.drew = w2 at hbl2 q0 q1
      clear c0 d0
      go_wp2_with fail
      refine (rPair_any _ _ p _ q0 q1).mono ?_
      rintro e w3 ⟨rfl, hb3⟩
      clear q0 q1
      go_wp2
      go_roundw
      case rel => exact ⟨k + 1, by omega, by go_num, hbl2.trans (hb3.mono hbl2.size)⟩
      case measure => simp [intOf]; omega
    · obtain rfl : k = n := by omega
      go_wp2
      go_ret
      exact ⟨rfl, hbl⟩

end Go.Proofs.Ytiakaglgfboepaa
