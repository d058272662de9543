/-
  Contracts of the cursor that draws numbers from bytes: next, pick, one, among.
-/
import Derived.Test.YtdadcbcanjmoeaaPure
import Derived.Test.YtdadcbcanjmoeaaOpen
namespace Go.Proofs.Ytdadcbcanjmoeaa
set_option linter.unusedVariables false
open Go.RowKit

/-- Block g is a cursor: its bytes lie below it; its place is at most m. -/
def Cur (w : World) (g : Nat) (m : Nat) : Prop :=
  ∃ (A : Option Addr) (c : Nat) (l : List Int) (at_ seed : Int), Blk w g 107 #[.slice A l.length c, .int .i64 at_, .int .u64 seed] ∧ Rd encB 1 w g A l ∧ l.length ≤ 1048576 ∧ 0 ≤ at_ ∧ at_ ≤ m ∧ ∀ n ∈ l, 0 ≤ n ∧ n ≤ 255

theorem Cur.blk {w : World} {g m : Nat} (h : Cur w g m) : ∃ cs, Blk w g 107 cs := by obtain ⟨A, c, l, a, s, hb, _⟩ := h; exact ⟨_, hb⟩
theorem Cur.lt {w : World} {g m : Nat} (h : Cur w g m) : g < w.heap.size := by obtain ⟨cs, hb⟩ := h.blk; exact hb.lt
theorem Cur.more {w : World} {g m m' : Nat} (h : Cur w g m) (hm : m ≤ m') : Cur w g m' := by obtain ⟨A, c, l, a, s, hb, hr, hl, h0, h1, h2⟩ := h; exact ⟨A, c, l, a, s, hb, hr, hl, h0, by omega, h2⟩
theorem Cur.below {w w' : World} {g m : Nat} (h : Cur w g m) (hb : Below (g + 1) w w') : Cur w' g m := by
  obtain ⟨A, c, l, a, s, hB, hr, r⟩ := h
  exact ⟨A, c, l, a, s, hB.below hb (by omega), hr.below (hb.mono (by omega)), r⟩
theorem Cur.after {w w' : World} {g m : Nat} (h : Cur w g m) (hb : Below w.heap.size w w') : Cur w' g m := h.below (hb.mono h.lt)

theorem and255 (a : Int) : 0 ≤ bits .and .u64 a 255 ∧ bits .and .u64 a 255 ≤ 255 := by
  have h : ((BitVec.ofInt 64 a &&& BitVec.ofInt 64 255).toNat : Int) ≤ 255 := by
    rw [BitVec.toNat_and]
    have := @Nat.and_le_right (BitVec.ofInt 64 a).toNat (BitVec.ofInt 64 255).toNat
    have e : (BitVec.ofInt 64 255).toNat = 255 := by decide
    omega
  show 0 ≤ IntKind.u64.wrap ((BitVec.ofInt 64 a &&& BitVec.ofInt 64 255).toNat : Int) ∧ IntKind.u64.wrap ((BitVec.ofInt 64 a &&& BitVec.ofInt 64 255).toNat : Int) ≤ 255
  rw [IntKind.wrap_u64]
  omega

theorem w255 (a : Int) : 0 ≤ wrap64 (bits .and .u64 a 255) ∧ wrap64 (bits .and .u64 a 255) ≤ 255 := by
  have h := and255 a
  rw [IntWalk.wrap64_in _ ⟨by omega, by omega⟩]
  exact h

set_option maxHeartbeats 400000 in
theorem next_any (g m : Nat) (w : World) (h : Cur w g m) (hm : m ≤ 1000000000) :
    Calls Try.prog 119 #[.pointer (some ⟨g, 0, none⟩)] w fun e w' => ∃ b : Int, e = .returned (.int .i64 b) ∧ (0 ≤ b ∧ b ≤ 255) ∧ Cur w' g (m + 1) ∧ w.grownBy w' (some g) := by
  obtain ⟨A, c, l, a, s, hB, hr, hl, h0, h1, h2⟩ := h
  have c0 := hB.cell 0
  have c1 := hB.cell 1
  have c2 := hB.cell 2
  have f1 := hB.frozen 1
  have f2 := hB.frozen 2
  simp only [List.getElem?_toArray, List.getElem?_cons_zero, List.getElem?_cons_succ] at c0 c1 c2
  have HB := Lib.hid hB
  have H2 := Lib.hid h2
  clear hB h2
  obtain ⟨an, rfl⟩ := Int.eq_ofNat_of_zero_le h0
  by_cases hlt : an < l.length
  · obtain ⟨b, off, rfl, hb, hc⟩ := hr.at_ (List.getElem?_eq_getElem hlt)
    have hx := hc 0 _ rfl
    have hxr := H2.out _ (List.getElem_mem hlt)
    generalize l[an] = x at *
    simp only [Nat.mul_one, Nat.add_zero] at hx
    have Hc := Lib.hid hc
    clear hc
    have hlt' : (an : Int) < (l.length : Int) := by omega
    go_enter Try.func119, Try.ntmps119
    go_wp2
    go_quiet (fail)
    go_wp2
    go_quiet (fail)
    go_wp2
    go_quiet (fail)
    go_wp2
    go_ret
    refine ⟨x, rfl, hxr, ⟨some ⟨b, off, none⟩, c, l, (an : Int) + 1, _, ((((HB.out.drewN _).set_ 1 _).set_ 2 _).drewN _), ?_, hl, by omega, by omega, H2.out⟩, ?_⟩
    · exact hr.keep fun p hp => by
        show World.cell? (World.setCell (World.setCell _ _ _) _ _) p = _
        rw [World.cell?_setCell_other _ _ _ _ (by rintro rfl; simp at hp), World.cell?_setCell_other _ _ _ _ (by rintro rfl; simp at hp)]
        rfl
    · exact only_drewN (only_setCell (p := ⟨g, 2, none⟩) (only_setCell (p := ⟨g, 1, none⟩) (only_drewN (only_refl _ _) _) (.inl rfl) _) (.inl rfl) _) _
  · have hlt' : ¬ (an : Int) < (l.length : Int) := by omega
    go_enter Try.func119, Try.ntmps119
    go_wp2
    go_quiet (fail)
    go_wp2
    go_quiet (fail)
    go_wp2
    go_ret
    refine ⟨_, rfl, ?_, ⟨A, c, l, (an : Int) + 1, _, ((((HB.out.drewN _).set_ 1 _).set_ 2 _).drewN _), ?_, hl, by omega, by omega, H2.out⟩, ?_⟩
    · exact w255 _
    · exact hr.keep fun p hp => by
        show World.cell? (World.setCell (World.setCell _ _ _) _ _) p = _
        rw [World.cell?_setCell_other _ _ _ _ (by rintro rfl; simp at hp), World.cell?_setCell_other _ _ _ _ (by rintro rfl; simp at hp)]
        rfl
    · exact only_drewN (only_setCell (p := ⟨g, 2, none⟩) (only_setCell (p := ⟨g, 1, none⟩) (only_drewN (only_refl _ _) _) (.inl rfl) _) (.inl rfl) _) _

theorem pick_any (g m : Nat) (n : Int) (w : World) (h : Cur w g m) (hm : m ≤ 900000000) (hn : n ≤ 65536) :
    Calls Try.prog 96 #[.pointer (some ⟨g, 0, none⟩), .int .i64 n] w fun e w' => ∃ x : Int, e = .returned (.int .i64 x) ∧ (0 ≤ x ∧ (x < n ∨ x = 0)) ∧ Cur w' g (m + 2) ∧ w.grownBy w' (some g) := by
  by_cases h1 : n ≤ 1
  · go_enter Try.func96, Try.ntmps96
    go_wp2
    go_ret
    exact ⟨0, rfl, by omega, h.more (by omega), only_refl _ _⟩
  · by_cases h2 : 200 < n
    · go_enter Try.func96, Try.ntmps96
      go_wp2_with fail
      refine (next_any g m _ h (by omega)).mono ?_
      rintro e w1 ⟨b, rfl, hb, hc1, hg1⟩
      go_wp2_with fail
      refine (next_any g (m + 1) _ hc1 (by omega)).mono ?_
      rintro e w2 ⟨b2, rfl, hb2, hc2, hg2⟩
      go_wp2
      go_ret
      refine ⟨_, rfl, ⟨Int.emod_nonneg _ (by omega), .inl (Int.emod_lt_of_pos _ (by omega))⟩, hc2, only_trans hg1 hg2⟩
    · go_enter Try.func96, Try.ntmps96
      go_wp2_with fail
      refine (next_any g m _ h (by omega)).mono ?_
      rintro e w1 ⟨b, rfl, hb, hc1, hg1⟩
      go_wp2
      go_ret
      refine ⟨_, rfl, ⟨Int.emod_nonneg _ (by omega), .inl (Int.emod_lt_of_pos _ (by omega))⟩, hc1.more (by omega), hg1⟩

theorem one_any (g m : Nat) (n : Int) (w : World) (h : Cur w g m) (hm : m ≤ 900000000) (hn : n ≤ 65536) :
    Calls Try.prog 97 #[.pointer (some ⟨g, 0, none⟩), .int .i64 n] w fun e w' => ∃ b : Bool, e = .returned (.bool b) ∧ Cur w' g (m + 2) ∧ w.grownBy w' (some g) := by
  go_enter Try.func97, Try.ntmps97
  go_wp2_with fail
  refine (pick_any g m n _ h hm hn).mono ?_
  rintro e w1 ⟨b, rfl, hb, hc1, hg1⟩
  go_wp2
  go_ret
  exact ⟨_, rfl, hc1, hg1⟩

theorem among_any (g m : Nat) (A : Option Addr) (c : Nat) (l : List Int) (w : World) (h : Cur w g m) (hm : m ≤ 900000000) (hA : ∃ b off, A = some ⟨b, off, none⟩ ∧ b ≠ g) (hr : Rd encI 1 w w.heap.size A l) (hl : 1 ≤ l.length) (hl2 : l.length ≤ 1000) :
    Calls Try.prog 98 #[.pointer (some ⟨g, 0, none⟩), .slice A l.length c] w fun e w' => ∃ x : Int, e = .returned (.int .i64 x) ∧ x ∈ l ∧ Cur w' g (m + 2) ∧ w.grownBy w' (some g) := by
  go_enter Try.func98, Try.ntmps98
  go_wp2_with fail
  refine (pick_any g m l.length _ h hm (by omega)).mono ?_
  rintro e w1 ⟨x, rfl, ⟨hx0, hx1⟩, hc1, hg1⟩
  obtain ⟨xn, rfl⟩ := Int.eq_ofNat_of_zero_le hx0
  have hlt : xn < l.length := by omega
  obtain ⟨b, off, rfl, hne⟩ := hA
  obtain ⟨b', off', e', hb, hc⟩ := cellsI hr hlt
  injection e' with e'
  injection e' with e1 e2
  subst e1 e2
  have hc' : w1.cell? ⟨b, off + xn, none⟩ = some (.int .i64 l[xn]) := (World.cell?_of_block (hg1.block b hb (by intro e; injection e with e; exact hne e))).trans hc
  have hmem := List.getElem_mem hlt
  generalize l[xn] = y at *
  clear hc
  go_wp2
  go_ret
  exact ⟨y, rfl, hmem, hc1, hg1⟩

end Go.Proofs.Ytdadcbcanjmoeaa
