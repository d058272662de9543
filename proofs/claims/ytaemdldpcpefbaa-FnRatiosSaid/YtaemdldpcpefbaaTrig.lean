/-
  Contracts of the exported functions on triggers: the ratio at a place, the greatest ratio. (Printed by gen_B2.py.)
-/
import Derived.Test.YtaemdldpcpefbaaOn
namespace Go.Proofs.Ytaemdldpcpefbaa
set_option linter.unusedVariables false
open Go.RowKit

def okT (l : List Int) (s : Setting) : Bool := goodS l && goodG s
theorem okT_iff {l : List Int} {s : Setting} : okT l s = true ↔ (l.length ≤ 24 ∧ Sm l) ∧ goodG s = true := by
  simp only [okT, Bool.and_eq_true, goodS_iff]; rfl

theorem isTriggered_any (A : Option Addr) (c : Nat) (l : List Int) (s : Setting) (w : World) (h : Rd encI 1 w w.heap.size A l) (hl : l.length ≤ 1048576) :
    Calls Try.prog 56 #[.slice A l.length c, .agg #[.int .i64 s.short, .int .i64 s.long, .int .i64 s.on, .int .i64 s.off]] w fun e w' => e = .returned (.bool (okT l s)) ∧ Below w.heap.size w w' := by
  unfold okT
  obtain ⟨sho, lon, on, of⟩ := s
  have HB0 := Lib.hid (Blk.new w 25 #[.int .i64 sho, .int .i64 lon, .int .i64 on, .int .i64 of])
  have hr := (h.alloc (Nat.le_refl _) (.cells #[.int .i64 sho, .int .i64 lon, .int .i64 on, .int .i64 of] 25)).more (B' := (w.alloc (.cells #[.int .i64 sho, .int .i64 lon, .int .i64 on, .int .i64 of] 25)).heap.size) (by simp)
  cases hs : goodS l with
  | true =>
    go_enter Try.func56, Try.ntmps56
    go_wp2_with (first | (go_at_call 71; refine (areSamples_any A c l _ hr hl).mono ?_; rintro e w1 ⟨rfl, hb1⟩; obtain ⟨b0, b1, b2, b3⟩ := box4 (HB0.out.after hb1)) | (go_at_call 16; refine (IsSetting_any ⟨sho, lon, on, of⟩ _).mono ?_; rintro e w2 ⟨rfl, hb2⟩))
    go_ret
    exact ⟨ret_bool (by simp), (((Below.refl w.heap.size w).alloc (Nat.le_refl _) _).trans (hb1.mono (by simp))).trans (hb2.mono (by have := hb1.size; simp at this; omega))⟩
  | false =>
    go_enter Try.func56, Try.ntmps56
    go_wp2_with (go_at_call 71; refine (areSamples_any A c l _ hr hl).mono ?_; rintro e w1 ⟨rfl, hb1⟩; obtain ⟨b0, b1, b2, b3⟩ := box4 (HB0.out.after hb1))
    go_ret
    exact ⟨ret_bool (by simp), ((Below.refl _ _).alloc (Nat.le_refl _) _).trans (hb1.mono (by simp))⟩

theorem l9Asked_any (A : Option Addr) (c : Nat) (l : List Int) (s : Setting) (w : World) (h : Rd encI 1 w w.heap.size A l) (hl : l.length ≤ 1048576) :
    Calls Try.prog 52 #[.slice A l.length c, .agg #[.int .i64 s.short, .int .i64 s.long, .int .i64 s.on, .int .i64 s.off]] w fun e w' => e = .returned (.bool (okT l s)) ∧ Below w.heap.size w w' := by
  unfold okT
  obtain ⟨sho, lon, on, of⟩ := s
  have HB0 := Lib.hid (Blk.new w 25 #[.int .i64 sho, .int .i64 lon, .int .i64 on, .int .i64 of])
  have hr := (h.alloc (Nat.le_refl _) (.cells #[.int .i64 sho, .int .i64 lon, .int .i64 on, .int .i64 of] 25)).more (B' := (w.alloc (.cells #[.int .i64 sho, .int .i64 lon, .int .i64 on, .int .i64 of] 25)).heap.size) (by simp)
  cases hs : goodS l with
  | true =>
    go_enter Try.func52, Try.ntmps52
    go_wp2_with (first | (go_at_call 68; refine (l2Samples_any A c l _ _ hr hl).mono ?_; rintro e w1 ⟨rfl, rfl⟩; obtain ⟨b0, b1, b2, b3⟩ := box4 HB0.out) | (go_at_call 50; refine (l9Good_any ⟨sho, lon, on, of⟩ _).mono ?_; rintro e w2 ⟨rfl, hb2⟩))
    go_ret
    exact ⟨ret_bool (by simp), ((Below.refl w.heap.size w).alloc (Nat.le_refl _) _).trans (hb2.mono (by simp))⟩
  | false =>
    go_enter Try.func52, Try.ntmps52
    go_wp2_with (go_at_call 68; refine (l2Samples_any A c l _ _ hr hl).mono ?_; rintro e w1 ⟨rfl, rfl⟩; obtain ⟨b0, b1, b2, b3⟩ := box4 HB0.out)
    go_ret
    exact ⟨ret_bool (by simp), (Below.refl _ _).alloc (Nat.le_refl _) _⟩

def okRA (l : List Int) (s : Setting) (p : Int) : Bool := okT l s && inB p (s.long - 1) ((l.length : Int) - 1)
def RAn (l : List Int) (s : Setting) (p : Int) : Int := if okRA l s p then ratN l s p.toNat else 0
def RAd (l : List Int) (s : Setting) (p : Int) : Int := if okRA l s p then ratD l s p.toNat else 0

theorem RatioAt_any (A : Option Addr) (c : Nat) (l : List Int) (s : Setting) (p : Int) (w : World) (h : Rd encI 1 w w.heap.size A l) (hl : l.length ≤ 1048576) (hc : l.length ≤ c ∧ c ≤ maxLen) :
    Calls Try.prog 19 #[.slice A l.length c, .agg #[.int .i64 s.short, .int .i64 s.long, .int .i64 s.on, .int .i64 s.off], .int .i64 p] w fun e w' => e = .returned (.tuple #[.int .i64 (RAn l s p), .int .i64 (RAd l s p), .bool (okRA l s p)]) ∧ Below w.heap.size w w' := by
  unfold RAn RAd
  obtain ⟨sho, lon, on, of⟩ := s
  have HB0 := Lib.hid (Blk.new w 25 #[.int .i64 sho, .int .i64 lon, .int .i64 on, .int .i64 of])
  have hr := (h.alloc (Nat.le_refl _) (.cells #[.int .i64 sho, .int .i64 lon, .int .i64 on, .int .i64 of] 25)).more (B' := (w.alloc (.cells #[.int .i64 sho, .int .i64 lon, .int .i64 on, .int .i64 of] 25)).heap.size) (by simp)
  have hb0 : Below w.heap.size w (w.alloc (.cells #[.int .i64 sho, .int .i64 lon, .int .i64 on, .int .i64 of] 25)) := (Below.refl _ _).alloc (Nat.le_refl _) _
  cases ht : okT l ⟨sho, lon, on, of⟩ with
  | true =>
    obtain ⟨⟨hl24, hsm⟩, hg⟩ := okT_iff.1 ht
    obtain ⟨g1, g2, g3, g4, _⟩ := goodG_iff.1 hg
    simp only at g1 g2 g3 g4
    cases hi : inB p (lon - 1) ((l.length : Int) - 1) with
    | true =>
      have hk : okRA l ⟨sho, lon, on, of⟩ p = true := by simp [okRA, ht, hi]
      simp only [hk, if_true]
      have hp := inB_iff.1 hi
      obtain ⟨pn, rfl⟩ := Int.eq_ofNat_of_zero_le (show 0 ≤ p by omega)
      rw [Int.toNat_natCast]
      obtain ⟨rw1, rw2, rw3, rw4, _⟩ := raw_bd hsm hg pn (by show lon ≤ _; omega) (by omega)
      go_enter Try.func19, Try.ntmps19
      go_wp2_with (first | (go_at_call 56; refine (isTriggered_any A c l ⟨sho, lon, on, of⟩ _ hr hl).mono ?_; rintro e w1 ⟨rfl, hb1⟩; have HB1 := Lib.hid (HB0.out.after hb1); obtain ⟨b0, b1, b2, b3⟩ := box4 HB1.out; have hB1 := hb0.trans (hb1.mono (by simp)); have hr1 := hr.after hb1) | (go_at_call 51; refine (in_any _ _ _ _).mono ?_; rintro e w' ⟨rfl, rfl⟩) | (go_at_call 57; refine (ratio_any A c l ⟨sho, lon, on, of⟩ pn _ hr1 hsm hl24 hc hg (by show lon ≤ _; omega) (by omega)).mono ?_; rintro e w2 ⟨rfl, hb2⟩))
      go_ret3
      exact ⟨rfl, hB1.trans (hb2.mono hB1.size)⟩
    | false =>
      have hk : okRA l ⟨sho, lon, on, of⟩ p = false := by simp [okRA, hi]
      simp only [hk, Bool.false_eq_true, if_false]
      go_enter Try.func19, Try.ntmps19
      go_wp2_with (first | (go_at_call 56; refine (isTriggered_any A c l ⟨sho, lon, on, of⟩ _ hr hl).mono ?_; rintro e w1 ⟨rfl, hb1⟩; have HB1 := Lib.hid (HB0.out.after hb1); obtain ⟨b0, b1, b2, b3⟩ := box4 HB1.out; have hB1 := hb0.trans (hb1.mono (by simp)); have hr1 := hr.after hb1) | (go_at_call 51; refine (in_any _ _ _ _).mono ?_; rintro e w' ⟨rfl, rfl⟩))
      go_ret3
      exact ⟨rfl, hB1⟩
  | false =>
    have hk : okRA l ⟨sho, lon, on, of⟩ p = false := by simp [okRA, ht]
    simp only [hk, Bool.false_eq_true, if_false]
    go_enter Try.func19, Try.ntmps19
    go_wp2_with (go_at_call 56; refine (isTriggered_any A c l ⟨sho, lon, on, of⟩ _ hr hl).mono ?_; rintro e w1 ⟨rfl, hb1⟩; have HB1 := Lib.hid (HB0.out.after hb1); obtain ⟨b0, b1, b2, b3⟩ := box4 HB1.out; have hB1 := hb0.trans (hb1.mono (by simp)); have hr1 := hr.after hb1)
    go_ret3
    exact ⟨rfl, hB1⟩

theorem sRatioAt_any (A : Option Addr) (c : Nat) (l : List Int) (s : Setting) (p : Int) (w : World) (h : Rd encI 1 w w.heap.size A l) (hl : l.length ≤ 1048576) (hc : l.length ≤ c ∧ c ≤ maxLen) :
    Calls Try.prog 17 #[.slice A l.length c, .agg #[.int .i64 s.short, .int .i64 s.long, .int .i64 s.on, .int .i64 s.off], .int .i64 p] w fun e w' => e = .returned (.tuple #[.int .i64 (RAn l s p), .int .i64 (RAd l s p), .bool (okRA l s p)]) ∧ Below w.heap.size w w' := by
  unfold RAn RAd
  obtain ⟨sho, lon, on, of⟩ := s
  have HB0 := Lib.hid (Blk.new w 25 #[.int .i64 sho, .int .i64 lon, .int .i64 on, .int .i64 of])
  have hr := (h.alloc (Nat.le_refl _) (.cells #[.int .i64 sho, .int .i64 lon, .int .i64 on, .int .i64 of] 25)).more (B' := (w.alloc (.cells #[.int .i64 sho, .int .i64 lon, .int .i64 on, .int .i64 of] 25)).heap.size) (by simp)
  have hb0 : Below w.heap.size w (w.alloc (.cells #[.int .i64 sho, .int .i64 lon, .int .i64 on, .int .i64 of] 25)) := (Below.refl _ _).alloc (Nat.le_refl _) _
  cases ht : okT l ⟨sho, lon, on, of⟩ with
  | true =>
    obtain ⟨⟨hl24, hsm⟩, hg⟩ := okT_iff.1 ht
    obtain ⟨g1, g2, g3, g4, _⟩ := goodG_iff.1 hg
    simp only at g1 g2 g3 g4
    cases hi : inB p (lon - 1) ((l.length : Int) - 1) with
    | true =>
      have hk : okRA l ⟨sho, lon, on, of⟩ p = true := by simp [okRA, ht, hi]
      simp only [hk, if_true]
      have hp := inB_iff.1 hi
      obtain ⟨pn, rfl⟩ := Int.eq_ofNat_of_zero_le (show 0 ≤ p by omega)
      rw [Int.toNat_natCast]
      obtain ⟨rw1, rw2, rw3, rw4, _⟩ := raw_bd hsm hg pn (by show lon ≤ _; omega) (by omega)
      go_enter Try.func17, Try.ntmps17
      go_wp2_with (first | (go_at_call 52; refine (l9Asked_any A c l ⟨sho, lon, on, of⟩ _ hr hl).mono ?_; rintro e w1 ⟨rfl, hb1⟩; have HB1 := Lib.hid (HB0.out.after hb1); obtain ⟨b0, b1, b2, b3⟩ := box4 HB1.out; have hB1 := hb0.trans (hb1.mono (by simp)); have hr1 := hr.after hb1) | (go_at_call 53; refine (l1In_any _ _ _ _).mono ?_; rintro e w' ⟨rfl, rfl⟩) | (go_at_call 54; refine (l9Ratio_any A c l ⟨sho, lon, on, of⟩ pn _ hr1 hsm hl24 hg (by show lon ≤ _; omega) (by omega)).mono ?_; rintro e w2 ⟨rfl, hb2⟩) | (go_at_call 55; refine (l2Reduce_any _ _ _ rw1 rw3 (by omega) (by omega)).mono ?_; rintro e w3 ⟨rfl, hdr⟩; have hb3 := below_of_drew hdr (B := w2.heap.size); clear hdr))
      go_ret3
      exact ⟨rfl, (hB1.trans (hb2.mono hB1.size)).trans (hb3.mono (Nat.le_trans hB1.size hb2.size))⟩
    | false =>
      have hk : okRA l ⟨sho, lon, on, of⟩ p = false := by simp [okRA, hi]
      simp only [hk, Bool.false_eq_true, if_false]
      go_enter Try.func17, Try.ntmps17
      go_wp2_with (first | (go_at_call 52; refine (l9Asked_any A c l ⟨sho, lon, on, of⟩ _ hr hl).mono ?_; rintro e w1 ⟨rfl, hb1⟩; have HB1 := Lib.hid (HB0.out.after hb1); obtain ⟨b0, b1, b2, b3⟩ := box4 HB1.out; have hB1 := hb0.trans (hb1.mono (by simp)); have hr1 := hr.after hb1) | (go_at_call 53; refine (l1In_any _ _ _ _).mono ?_; rintro e w' ⟨rfl, rfl⟩))
      go_ret3
      exact ⟨rfl, hB1⟩
  | false =>
    have hk : okRA l ⟨sho, lon, on, of⟩ p = false := by simp [okRA, ht]
    simp only [hk, Bool.false_eq_true, if_false]
    go_enter Try.func17, Try.ntmps17
    go_wp2_with (go_at_call 52; refine (l9Asked_any A c l ⟨sho, lon, on, of⟩ _ hr hl).mono ?_; rintro e w1 ⟨rfl, hb1⟩; have HB1 := Lib.hid (HB0.out.after hb1); obtain ⟨b0, b1, b2, b3⟩ := box4 HB1.out; have hB1 := hb0.trans (hb1.mono (by simp)); have hr1 := hr.after hb1)
    go_ret3
    exact ⟨rfl, hB1⟩

end Go.Proofs.Ytaemdldpcpefbaa
