/-
  Contracts of Smoothed, whole. (Printed by gen_F2.py.)
-/
import Derived.Test.YtabnnkallgcmgaaSmo
import Derived.StillTailTactics
namespace Go.Proofs.Ytabnnkallgcmgaa
set_option linter.unusedVariables false
open Go.RowKit

/-- What was told ahead of a place. -/
def prv (l : List Int) (k : Int) : Nat → Int
  | 0 => 0
  | i + 1 => smo l k i
def SmSt (q0 qk qy : Nat) (A : Option Addr) (c : Nat) (l : List Int) (k : Int) (B : Nat) (i : Nat) (W : World) : Prop :=
  Blk W q0 22 #[.slice A l.length c] ∧ Blk W qk 3 #[.int .i64 k] ∧ Blk W qy 3 #[.int .i64 (prv l k i)] ∧ Rd encI 1 W B A l ∧ B ≤ qy ∧ q0 < B ∧ qk < B

set_option maxRecDepth 100000 in
set_option maxHeartbeats 400000 in
theorem Smoothed1_any (A : Option Addr) (c : Nat) (l : List Int) (k : Int) (i : Nat) (q0 qk qy B : Nat) (W : World) (h : SmSt q0 qk qy A c l k B i W) (hs : Sm l) (hl : l.length ≤ 24) (hk1 : 1 ≤ k) (hk2 : k ≤ 100) (hi : i < l.length) :
    Calls Try.prog 56 #[.int .i64 i, .pointer (some ⟨q0, 0, none⟩), .pointer (some ⟨qy, 0, none⟩), .pointer (some ⟨qk, 0, none⟩)] W fun e w' => e = .returned (.int .i64 (smo l k i)) ∧ SmSt q0 qk qy A c l k B (i + 1) w' ∧ W.grownBy w' (some qy) := by
  obtain ⟨h0, h1, h2, h3, h4, h5, h6⟩ := h
  have c0 := h0.cell 0
  have c1 := h1.cell 0
  have c2 := h2.cell 0
  have f2 := h2.frozen 0
  simp only [List.getElem?_toArray, List.getElem?_cons_zero] at c0 c1 c2
  have hb := smo_bd hs hk1
  cases i with
  | zero =>
    obtain ⟨b, off, rfl, hbl, d0⟩ := cellsI h3 hi
    have hv : smo l k 0 = l[0] := by unfold smo; rw [List.getD_eq_getElem?_getD, List.getElem?_eq_getElem hi]; rfl
    have hst : ∀ w', w'.heap[qy]? = some (.cells #[.int .i64 (smo l k 0)] 3 (0, 0)) → W.grownBy w' (some qy) → SmSt q0 qk qy (some ⟨b, off, none⟩) c l k B 1 w' := fun w' hw hg =>
      ⟨h0.grown hg (by simp; omega), h1.grown hg (by simp; omega), hw, h3.keep fun p hp => World.cell?_of_block (hg.block p.block (by have := h2.lt; omega) (by simp; omega)), h4, h5, h6⟩
    rw [hv] at hst ⊢
    generalize l[0] = x at *
    have Hst := Lib.hid hst
    have H2 := Lib.hid h2
    clear hst hv hb h0 h1 h3
    simp only [Nat.add_zero] at d0
    go_enter Try.func56, Try.ntmps56
    go_wp2
    go_ret
    have hg : W.grownBy (W.setCell ⟨qy, 0, none⟩ (.int .i64 x)) (some qy) := only_setCell (only_refl _ _) (.inl rfl) _
    exact ⟨rfl, Hst.out _ (H2.out.set_ 0 _) hg, hg⟩
  | succ i =>
    obtain ⟨b, off, rfl, hbl, d0⟩ := cellsI h3 hi
    have hb1 := hb i (by omega)
    have hx := hs _ (List.getElem_mem hi)
    have hv : smo l k (i + 1) = smo l k i + (l[i + 1] - smo l k i) / k := by
      show _ + (l.getD (i + 1) 0 - _) / k = _
      rw [List.getD_eq_getElem?_getD, List.getElem?_eq_getElem hi]; rfl
    have hb2 := hb (i + 1) hi
    have hst : ∀ w', w'.heap[qy]? = some (.cells #[.int .i64 (smo l k (i + 1))] 3 (0, 0)) → W.grownBy w' (some qy) → SmSt q0 qk qy (some ⟨b, off, none⟩) c l k B (i + 1 + 1) w' := fun w' hw hg =>
      ⟨h0.grown hg (by simp; omega), h1.grown hg (by simp; omega), hw, h3.keep fun p hp => World.cell?_of_block (hg.block p.block (by have := h2.lt; omega) (by simp; omega)), h4, h5, h6⟩
    rw [hv] at hst hb2 ⊢
    rw [show prv l k (i + 1) = smo l k i from rfl] at c2
    have hi0 : ((i + 1 : Nat) : Int) = (i : Int) + 1 := by omega
    have hi1 : ((i : Int) + 1 == 0) = false := by rw [beq_eq_false_iff_ne]; omega
    have hi2 : (i : Int) + 1 < (l.length : Int) := by omega
    have hi3 : 0 ≤ (i : Int) + 1 := by omega
    generalize smo l k i = y at *
    generalize l[i + 1] = x at *
    have hfd := fun V => floorDiv_any (x - y) k V hk1 (by omega) (by omega) (by omega)
    generalize (x - y) / k = z at *
    have Hfd := Lib.hid hfd
    have Hst := Lib.hid hst
    have H2 := Lib.hid h2
    rw [hi0]
    have Hi0 := Lib.hid hi0
    obtain ⟨g1, g2⟩ := hb1
    obtain ⟨g3, g4⟩ := hx
    obtain ⟨g5, g6⟩ := hb2
    have s1 : IntKind.i64.wrap (x - y) = x - y := IntWalk.i64_in _ (by omega)
    have s2 : IntKind.i64.wrap (y + z) = y + z := IntWalk.i64_in _ (by omega)
    clear hst hv hb h0 h1 h3 hfd hi0
    go_enter Try.func56, Try.ntmps56
    go_wp2_with fail
    go_still_tail 10, (by kernel_rfl)
    still_call ((Hfd.out _).mono fun e w' hh => by obtain ⟨rfl, rfl⟩ := hh; exact ⟨rfl, rfl⟩)
    repeat still_step
    refine wpStill_nil ?_
    change wpList _ _ _ _ _ W.drew
    go_wp2
    go_ret
    have hg : W.grownBy (W.drew.setCell ⟨qy, 0, none⟩ (.int .i64 (y + z))) (some qy) := only_setCell (only_drewN (only_refl W (some qy)) 1) (.inl rfl) _
    exact ⟨rfl, Hst.out _ (H2.out.drew.set_ 0 _) hg, hg⟩

end Go.Proofs.Ytabnnkallgcmgaa
