/-
  Contracts of the longest span, the least threshold, the first motion, the places. (Printed by gen_B3.py.)
-/
import Derived.Test.YtaemdldpcpefbaaGreatest
import Derived.Deep.LoopGhost
namespace Go.Proofs.Ytaemdldpcpefbaa
set_option linter.unusedVariables false
open Go.RowKit

def loV (l : List Int) (s : Setting) : Int × Int × Bool := if okT l s then ((lgT (spans l s)).1, (lgT (spans l s)).2, decide (0 < (lgT (spans l s)).2)) else (0, 0, false)
theorem spans_bd' {l : List Int} {s : Setting} (hg : goodG s = true) : ∀ x ∈ spans l s, 0 ≤ x.1 ∧ x.1 < x.2 ∧ x.2 ≤ l.length := fun x hx => by
  have := spans_bd hg hx
  obtain ⟨g1, g2, g3, g4, _⟩ := goodG_iff.1 hg
  omega
theorem cells2 {w : World} {B : Nat} {A : Option Addr} {l : List (Int × Int)} (h : Rd enc2 2 w B A l) {j : Nat} (hj : j < l.length) :
    ∃ b off, A = some ⟨b, off, none⟩ ∧ b < B ∧ w.cell? ⟨b, off + j * 2, none⟩ = some (.int .i64 l[j].1) ∧ w.cell? ⟨b, off + j * 2 + 1, none⟩ = some (.int .i64 l[j].2) := by
  obtain ⟨b, off, e, hb, hc⟩ := h.at_ (List.getElem?_eq_getElem hj)
  exact ⟨b, off, e, hb, hc 0 _ rfl, hc 1 _ rfl⟩

set_option maxRecDepth 100000 in
set_option maxHeartbeats 1000000 in
theorem LongestOn_any (A : Option Addr) (c : Nat) (l : List Int) (s : Setting) (w : World) (h : Rd encI 1 w w.heap.size A l) (hl : l.length ≤ 1048576) (hc : l.length ≤ c ∧ c ≤ maxLen) :
    Calls Try.prog 26 #[.slice A l.length c, .agg #[.int .i64 s.short, .int .i64 s.long, .int .i64 s.on, .int .i64 s.off]] w fun e w' => e = .returned (.tuple #[.int .i64 (loV l s).1, .int .i64 (loV l s).2.1, .bool (loV l s).2.2]) ∧ Below w.heap.size w w' := by
  unfold loV
  obtain ⟨sho, lon, on, of⟩ := s
  have HB0 := Lib.hid (Blk.new w 25 #[.int .i64 sho, .int .i64 lon, .int .i64 on, .int .i64 of])
  have hr := (h.alloc (Nat.le_refl _) (.cells #[.int .i64 sho, .int .i64 lon, .int .i64 on, .int .i64 of] 25)).more (B' := (w.alloc (.cells #[.int .i64 sho, .int .i64 lon, .int .i64 on, .int .i64 of] 25)).heap.size) (by simp)
  have hb0 : Below w.heap.size w (w.alloc (.cells #[.int .i64 sho, .int .i64 lon, .int .i64 on, .int .i64 of] 25)) := (Below.refl _ _).alloc (Nat.le_refl _) _
  cases ht : okT l ⟨sho, lon, on, of⟩ with
  | false =>
    simp only [Bool.false_eq_true, if_false]
    go_enter Try.func26, Try.ntmps26
    go_wp2_with (go_at_call 56; refine (isTriggered_any A c l ⟨sho, lon, on, of⟩ _ hr hl).mono ?_; rintro e w1 ⟨rfl, hb1⟩; have HB1 := Lib.hid (HB0.out.after hb1); obtain ⟨b0, b1, b2, b3⟩ := box4 HB1.out; have hB1 := hb0.trans (hb1.mono (by simp)); have hr1 := hr.after hb1)
    go_ret3
    exact ⟨rfl, hB1⟩
  | true =>
    simp only [if_true]
    obtain ⟨⟨hl24, hsm⟩, hg⟩ := okT_iff.1 ht
    have hbd := spans_bd' (l := l) hg
    have hsl := spans_len l ⟨sho, lon, on, of⟩
    obtain ⟨L, hL⟩ : ∃ L, spans l ⟨sho, lon, on, of⟩ = L := ⟨_, rfl⟩
    rw [hL] at hbd hsl ⊢
    have hinv := lgT_inv hbd
    obtain ⟨⟨r1, r2⟩, hR⟩ : ∃ R, lgT L = R := ⟨_, rfl⟩
    rw [hR]
    simp only
    have HL := Lib.hid hL
    have HR := Lib.hid hR
    have Hbd := Lib.hid hbd
    have Hinv := Lib.hid hinv
    clear hbd hL hR hinv
    go_enter Try.func26, Try.ntmps26
    go_wp2_with (go_at_call 56; refine (isTriggered_any A c l ⟨sho, lon, on, of⟩ _ hr hl).mono ?_; rintro e w1 ⟨rfl, hb1⟩; have HB1 := Lib.hid (HB0.out.after hb1); obtain ⟨b0, b1, b2, b3⟩ := box4 HB1.out; have hB1 := hb0.trans (hb1.mono (by simp)); have hr1 := hr.after hb1)
    refine (spans_any A c l ⟨sho, lon, on, of⟩ _ hr1 hsm hl24 hc hg).mono ?_
    rintro e w2 ⟨v, rfl, hown, hb2⟩
    rw [HL.out] at hown
    obtain ⟨A', c', rfl, hcc, hrd⟩ := Own.form enc2_len hown
    have hB2 := hB1.trans (hb2.mono hB1.size)
    have hrd' : Rd enc2 2 w2 w2.heap.size A' L := hrd
    clear b0 b1 b2 b3 hown ht
    go_wp2
    go_loopw [7, 8, 20] (fun f m i wr => ∃ (k : Nat) (x y : Int), k ≤ L.length ∧ i = .int .i64 k ∧ f = .int .i64 x ∧ m = .int .i64 y ∧ Hid (lgT (L.take k) = (x, y)) ∧ Below w2.heap.size w2 wr) (fun _ _ i _ => L.length - (intOf i).toNat)
    case atStart => exact ⟨0, _, _, Nat.zero_le _, rfl, rfl, rfl, rfl, Below.refl _ _⟩
    case round =>
      obtain ⟨k, f, m, hk, rfl, rfl, rfl, Hst, hbl⟩ := hrel
      by_cases hlt : k < L.length
      · obtain ⟨b, off, rfl, hb, c0, c1⟩ := cells2 (hrd'.below hbl) hlt
        have hx := Hbd.out _ (List.getElem_mem hlt)
        have hin := Hinv.out k hk
        have hsu := lgT_succ L k hlt
        rw [Hst.out] at hin hsu
        unfold lgStep at hsu
        simp only at hin hsu
        generalize L[k] = x at *
        obtain ⟨x0, x1⟩ := x
        simp only at c0 c1 hx hsu
        have Hsu := Lib.hid hsu
        clear hsu
        have hsz := hbl.size
        by_cases hc : m < x1 - x0
        · go_wp2
          go_roundw
          case rel => exact ⟨k + 1, x0, x1 - x0, by omega, by go_num, rfl, rfl, by rw [if_pos hc] at Hsu; exact Hsu.out, by (repeat (first | with_reducible exact Below.refl _ _ | with_reducible assumption | with_reducible refine Below.setCell ?_ (by simp <;> omega) _ | with_reducible refine Below.alloc ?_ (by first | omega | (simp <;> omega)) _ | with_reducible refine Below.drew ?_ | with_reducible refine below_drewN ?_ _))⟩
          case measure => simp [intOf]; omega
        · go_wp2
          go_roundw
          case rel => exact ⟨k + 1, f, m, by omega, by go_num, rfl, rfl, by rw [if_neg (by omega)] at Hsu; exact Hsu.out, by (repeat (first | with_reducible exact Below.refl _ _ | with_reducible assumption | with_reducible refine Below.setCell ?_ (by simp <;> omega) _ | with_reducible refine Below.alloc ?_ (by first | omega | (simp <;> omega)) _ | with_reducible refine Below.drew ?_ | with_reducible refine below_drewN ?_ _))⟩
          case measure => simp [intOf]; omega
      · have hin := Hinv.out k hk
        obtain rfl : k = L.length := by omega
        have he := Hst.out
        rw [List.take_length, HR.out, Prod.mk.injEq] at he
        rw [Hst.out] at hin
        simp only at hin
        obtain ⟨rfl, rfl⟩ := he
        have hB3 := hB2.trans (hbl.mono hB2.size)
        by_cases hz : r2 = 0
        · have h1 := Lib.hid (hin.2.2 hz)
          have hz' : (r2 == 0) = true := by simpa using hz
          have Hz := Lib.hid hz
          clear hz hin
          go_wp2
          go_ret3
          exact ⟨by rw [h1.out, Hz.out]; rfl, hB3⟩
        · have hd := Lib.hid (show decide (0 < r2) = true by simp; omega)
          have hz' : (r2 == 0) = false := by simpa using hz
          have hm : 0 < r2 := by omega
          clear hin
          go_wp2
          go_ret3
          exact ⟨by first | rfl | (rw [hd.out]; rfl), hB3⟩

set_option maxRecDepth 100000 in
set_option maxHeartbeats 1000000 in
theorem sLongestOn_any (A : Option Addr) (c : Nat) (l : List Int) (s : Setting) (w : World) (h : Rd encI 1 w w.heap.size A l) (hl : l.length ≤ 1048576) (hc : l.length ≤ c ∧ c ≤ maxLen) :
    Calls Try.prog 25 #[.slice A l.length c, .agg #[.int .i64 s.short, .int .i64 s.long, .int .i64 s.on, .int .i64 s.off]] w fun e w' => e = .returned (.tuple #[.int .i64 (loV l s).1, .int .i64 (loV l s).2.1, .bool (loV l s).2.2]) ∧ Below w.heap.size w w' := by
  unfold loV
  obtain ⟨sho, lon, on, of⟩ := s
  have HB0 := Lib.hid (Blk.new w 25 #[.int .i64 sho, .int .i64 lon, .int .i64 on, .int .i64 of])
  have hr := (h.alloc (Nat.le_refl _) (.cells #[.int .i64 sho, .int .i64 lon, .int .i64 on, .int .i64 of] 25)).more (B' := (w.alloc (.cells #[.int .i64 sho, .int .i64 lon, .int .i64 on, .int .i64 of] 25)).heap.size) (by simp)
  have hb0 : Below w.heap.size w (w.alloc (.cells #[.int .i64 sho, .int .i64 lon, .int .i64 on, .int .i64 of] 25)) := (Below.refl _ _).alloc (Nat.le_refl _) _
  cases ht : okT l ⟨sho, lon, on, of⟩ with
  | false =>
    simp only [Bool.false_eq_true, if_false]
    go_enter Try.func25, Try.ntmps25
    go_wp2_with (go_at_call 52; refine (l9Asked_any A c l ⟨sho, lon, on, of⟩ _ hr hl).mono ?_; rintro e w1 ⟨rfl, hb1⟩; have HB1 := Lib.hid (HB0.out.after hb1); obtain ⟨b0, b1, b2, b3⟩ := box4 HB1.out; have hB1 := hb0.trans (hb1.mono (by simp)); have hr1 := hr.after hb1)
    go_ret3
    exact ⟨rfl, hB1⟩
  | true =>
    simp only [if_true]
    obtain ⟨⟨hl24, hsm⟩, hg⟩ := okT_iff.1 ht
    have hbd := spans_bd' (l := l) hg
    have hsl := spans_len l ⟨sho, lon, on, of⟩
    obtain ⟨L, hL⟩ : ∃ L, spans l ⟨sho, lon, on, of⟩ = L := ⟨_, rfl⟩
    rw [hL] at hbd hsl ⊢
    have hinv := lgT_inv hbd
    obtain ⟨⟨r1, r2⟩, hR⟩ : ∃ R, lgT L = R := ⟨_, rfl⟩
    rw [hR]
    simp only
    have HL := Lib.hid hL
    have HR := Lib.hid hR
    have Hbd := Lib.hid hbd
    have Hinv := Lib.hid hinv
    clear hbd hL hR hinv
    go_enter Try.func25, Try.ntmps25
    go_wp2_with (go_at_call 52; refine (l9Asked_any A c l ⟨sho, lon, on, of⟩ _ hr hl).mono ?_; rintro e w1 ⟨rfl, hb1⟩; have HB1 := Lib.hid (HB0.out.after hb1); obtain ⟨b0, b1, b2, b3⟩ := box4 HB1.out; have hB1 := hb0.trans (hb1.mono (by simp)); have hr1 := hr.after hb1)
    refine (l9On_any A c l ⟨sho, lon, on, of⟩ _ hr1 hsm hl24 hg).mono ?_
    rintro e w2 ⟨v, rfl, hown, hb2⟩
    rw [HL.out] at hown
    obtain ⟨A', c', rfl, hcc, hrd⟩ := Own.form enc2_len hown
    have hB2 := hB1.trans (hb2.mono hB1.size)
    have hrd' : Rd enc2 2 w2 w2.heap.size A' L := hrd
    clear b0 b1 b2 b3 hown ht
    go_wp2
    go_loopw [8, 9, 10] (fun f m i wr => ∃ (k : Nat) (x y : Int), k ≤ L.length ∧ i = .int .i64 k ∧ f = .int .i64 x ∧ m = .int .i64 y ∧ Hid (lgT (L.take k) = (x, y)) ∧ Below w2.heap.size w2 wr) (fun _ _ i _ => L.length - (intOf i).toNat)
    case atStart => exact ⟨0, _, _, Nat.zero_le _, rfl, rfl, rfl, rfl, Below.refl _ _⟩
    case round =>
      obtain ⟨k, f, m, hk, rfl, rfl, rfl, Hst, hbl⟩ := hrel
      by_cases hlt : k < L.length
      · obtain ⟨b, off, rfl, hb, c0, c1⟩ := cells2 (hrd'.below hbl) hlt
        have hx := Hbd.out _ (List.getElem_mem hlt)
        have hin := Hinv.out k hk
        have hsu := lgT_succ L k hlt
        rw [Hst.out] at hin hsu
        unfold lgStep at hsu
        simp only at hin hsu
        generalize L[k] = x at *
        obtain ⟨x0, x1⟩ := x
        simp only at c0 c1 hx hsu
        have Hsu := Lib.hid hsu
        clear hsu
        have hsz := hbl.size
        by_cases hc : m < x1 - x0
        · go_wp2
          go_quiet (fail)
          go_wp2
          go_roundw
          case rel => exact ⟨k + 1, x0, x1 - x0, by omega, by go_num, rfl, rfl, by rw [if_pos hc] at Hsu; exact Hsu.out, by (repeat (first | with_reducible exact Below.refl _ _ | with_reducible assumption | with_reducible refine Below.setCell ?_ (by simp <;> omega) _ | with_reducible refine Below.alloc ?_ (by first | omega | (simp <;> omega)) _ | with_reducible refine Below.drew ?_ | with_reducible refine below_drewN ?_ _))⟩
          case measure => simp [intOf]; omega
        · go_wp2
          go_quiet (fail)
          go_wp2
          go_roundw
          case rel => exact ⟨k + 1, f, m, by omega, by go_num, rfl, rfl, by rw [if_neg (by omega)] at Hsu; exact Hsu.out, by (repeat (first | with_reducible exact Below.refl _ _ | with_reducible assumption | with_reducible refine Below.setCell ?_ (by simp <;> omega) _ | with_reducible refine Below.alloc ?_ (by first | omega | (simp <;> omega)) _ | with_reducible refine Below.drew ?_ | with_reducible refine below_drewN ?_ _))⟩
          case measure => simp [intOf]; omega
      · have hin := Hinv.out k hk
        obtain rfl : k = L.length := by omega
        have he := Hst.out
        rw [List.take_length, HR.out, Prod.mk.injEq] at he
        rw [Hst.out] at hin
        simp only at hin
        obtain ⟨rfl, rfl⟩ := he
        have hB3 := hB2.trans (hbl.mono hB2.size)
        by_cases hz : r2 = 0
        · have h1 := Lib.hid (hin.2.2 hz)
          have hz' : (r2 == 0) = true := by simpa using hz
          have Hz := Lib.hid hz
          clear hz hin
          go_wp2
          go_ret3
          exact ⟨by rw [h1.out, Hz.out]; rfl, hB3⟩
        · have hd := Lib.hid (show decide (0 < r2) = true by simp; omega)
          have hz' : (r2 == 0) = false := by simpa using hz
          have hm : 0 < r2 := by omega
          clear hin
          go_wp2
          go_ret3
          exact ⟨by first | rfl | (rw [hd.out]; rfl), hB3⟩

theorem sign_any (n : Int) (w : World) : Calls Try.prog 62 #[.int .i64 n] w fun e w' => e = .returned (.int .i64 (sgnI n)) ∧ w = w' := by
  unfold sgnI
  by_cases h1 : 0 < n
  · rw [if_pos h1]
    go_enter Try.func62, Try.ntmps62
    go_wp2
    go_ret
    exact ⟨rfl, rfl⟩
  · rw [if_neg h1]
    by_cases h2 : n < 0
    · rw [if_pos h2]
      go_enter Try.func62, Try.ntmps62
      go_wp2
      go_ret
      exact ⟨rfl, rfl⟩
    · rw [if_neg h2]
      go_enter Try.func62, Try.ntmps62
      go_wp2
      go_ret
      exact ⟨rfl, rfl⟩
def fmV (l : List Int) (s : Setting) : Int × Bool := if okT l s then (fmT l s, !(spans l s).isEmpty) else (0, false)

set_option maxRecDepth 100000 in
set_option maxHeartbeats 1000000 in
theorem FirstMotion_any (A : Option Addr) (c : Nat) (l : List Int) (s : Setting) (w : World) (h : Rd encI 1 w w.heap.size A l) (hl : l.length ≤ 1048576) (hc : l.length ≤ c ∧ c ≤ maxLen) :
    Calls Try.prog 30 #[.slice A l.length c, .agg #[.int .i64 s.short, .int .i64 s.long, .int .i64 s.on, .int .i64 s.off]] w fun e w' => e = .returned (.tuple #[.int .i64 (fmV l s).1, .bool (fmV l s).2]) ∧ Below w.heap.size w w' := by
  unfold fmV
  obtain ⟨sho, lon, on, of⟩ := s
  have HB0 := Lib.hid (Blk.new w 25 #[.int .i64 sho, .int .i64 lon, .int .i64 on, .int .i64 of])
  have hr := (h.alloc (Nat.le_refl _) (.cells #[.int .i64 sho, .int .i64 lon, .int .i64 on, .int .i64 of] 25)).more (B' := (w.alloc (.cells #[.int .i64 sho, .int .i64 lon, .int .i64 on, .int .i64 of] 25)).heap.size) (by simp)
  have hb0 : Below w.heap.size w (w.alloc (.cells #[.int .i64 sho, .int .i64 lon, .int .i64 on, .int .i64 of] 25)) := (Below.refl _ _).alloc (Nat.le_refl _) _
  cases ht : okT l ⟨sho, lon, on, of⟩ with
  | false =>
    simp only [Bool.false_eq_true, if_false]
    go_enter Try.func30, Try.ntmps30
    go_wp2_with (go_at_call 56; refine (isTriggered_any A c l ⟨sho, lon, on, of⟩ _ hr hl).mono ?_; rintro e w1 ⟨rfl, hb1⟩; have HB1 := Lib.hid (HB0.out.after hb1); obtain ⟨b0, b1, b2, b3⟩ := box4 HB1.out; have hB1 := hb0.trans (hb1.mono (by simp)); have hr1 := hr.after hb1)
    go_ret2
    exact ⟨rfl, hB1⟩
  | true =>
    simp only [if_true]
    obtain ⟨⟨hl24, hsm⟩, hg⟩ := okT_iff.1 ht
    have hbd := fun x hx => spans_bd (l := l) (x := x) hg hx
    obtain ⟨g1, g2, g3, g4, _⟩ := goodG_iff.1 hg
    simp only at g1 g2 g3 g4 hbd
    unfold fmT
    cases hsp : spans l ⟨sho, lon, on, of⟩ with
    | nil =>
      simp only [List.head?_nil, List.isEmpty_nil, Bool.not_true]
      go_enter Try.func30, Try.ntmps30
      go_wp2_with (go_at_call 56; refine (isTriggered_any A c l ⟨sho, lon, on, of⟩ _ hr hl).mono ?_; rintro e w1 ⟨rfl, hb1⟩; have HB1 := Lib.hid (HB0.out.after hb1); obtain ⟨b0, b1, b2, b3⟩ := box4 HB1.out; have hB1 := hb0.trans (hb1.mono (by simp)); have hr1 := hr.after hb1)
      refine (spans_any A c l ⟨sho, lon, on, of⟩ _ hr1 hsm hl24 hc hg).mono ?_
      rintro e w2 ⟨v, rfl, hown, hb2⟩
      rw [hsp] at hown
      obtain ⟨A', c', rfl, hcc, hrd⟩ := Own.form enc2_len hown
      have hB2 := hB1.trans (hb2.mono hB1.size)
      clear b0 b1 b2 b3 hown hsp hbd
      go_wp2
      refine wp_loop_rounds 1 ?_
      rw [rounds_succ]
      go_wp2
      go_ret2
      exact ⟨rfl, hB2⟩
    | cons x xs =>
      have hx := hbd x (by rw [hsp]; simp)
      simp only [List.head?_cons, List.isEmpty_cons, Bool.not_false]
      obtain ⟨p, hp⟩ := Int.eq_ofNat_of_zero_le (show 0 ≤ x.1 - 1 by omega)
      have hx0 : x.1 = (p : Int) + 1 := by omega
      obtain ⟨x0, x1⟩ := x
      simp only at hx0 hx hp
      subst hx0
      have hpl : p + 1 < l.length := by omega
      have e1 : l.getD ((p : Int) + 1).toNat 0 = l[p + 1] := by rw [show ((p : Int) + 1).toNat = p + 1 by omega, List.getD_eq_getElem?_getD, List.getElem?_eq_getElem hpl]; rfl
      have e2 : l.getD ((p : Int) + 1 - 1).toNat 0 = l[p] := by rw [show ((p : Int) + 1 - 1).toNat = p by omega, List.getD_eq_getElem?_getD, List.getElem?_eq_getElem (by omega)]; rfl
      rw [e1, e2]
      have ba := hsm _ (List.getElem_mem hpl)
      have bb := hsm _ (List.getElem_mem (show p < l.length by omega))
      clear e1 e2 hp
      obtain ⟨u, hu⟩ : ∃ u, l[p + 1] = u := ⟨_, rfl⟩
      obtain ⟨v, hv⟩ : ∃ v, l[p] = v := ⟨_, rfl⟩
      rw [hu, hv] at ⊢
      rw [hu] at ba
      rw [hv] at bb
      have Hu := Lib.hid hu
      have Hv := Lib.hid hv
      have Hsp := Lib.hid hsp
      clear hu hv hsp hbd
      go_enter Try.func30, Try.ntmps30
      go_wp2_with (go_at_call 56; refine (isTriggered_any A c l ⟨sho, lon, on, of⟩ _ hr hl).mono ?_; rintro e w1 ⟨rfl, hb1⟩; have HB1 := Lib.hid (HB0.out.after hb1); obtain ⟨b0, b1, b2, b3⟩ := box4 HB1.out; have hB1 := hb0.trans (hb1.mono (by simp)); have hr1 := hr.after hb1)
      refine (spans_any A c l ⟨sho, lon, on, of⟩ _ hr1 hsm hl24 hc hg).mono ?_
      rintro e w2 ⟨v, rfl, hown, hb2⟩
      rw [Hsp.out] at hown
      obtain ⟨A', c', rfl, hcc, hrd⟩ := Own.form enc2_len hown
      have hB2 := hB1.trans (hb2.mono hB1.size)
      obtain ⟨b, off, rfl, hb, c0, c1⟩ := cells2 hrd (show 0 < (((p : Int) + 1, x1) :: xs).length by simp)
      simp only [List.getElem_cons_zero, Nat.zero_mul, Nat.add_zero] at c0 c1
      have hr2 := hr1.after hb2
      obtain ⟨b', off', rfl, hb', d1⟩ := cellsI hr2 hpl
      obtain ⟨b'', off'', e'', _, d0⟩ := cellsI hr2 (show p < l.length by omega)
      injection e'' with e''
      injection e'' with e1 e2
      subst e1 e2
      rw [Hu.out] at d1
      rw [Hv.out] at d0
      clear b0 b1 b2 b3 hown
      go_wp2
      refine wp_loop_rounds 1 ?_
      rw [rounds_succ]
      go_wp2
      go_quiet ((go_at_call 62; exact quiet_left (sign_any _ _)))
      go_wp2
      go_ret2
      have hsz2 := hB2.size
      refine ⟨rfl, ?_⟩
      (repeat (first | with_reducible exact Below.refl _ _ | with_reducible assumption | with_reducible refine Below.setCell ?_ (by simp <;> omega) _ | with_reducible refine Below.alloc ?_ (by first | omega | (simp <;> omega)) _ | with_reducible refine Below.drew ?_ | with_reducible refine below_drewN ?_ _))

set_option maxRecDepth 100000 in
set_option maxHeartbeats 1000000 in
theorem sFirstMotion_any (A : Option Addr) (c : Nat) (l : List Int) (s : Setting) (w : World) (h : Rd encI 1 w w.heap.size A l) (hl : l.length ≤ 1048576) (hc : l.length ≤ c ∧ c ≤ maxLen) :
    Calls Try.prog 29 #[.slice A l.length c, .agg #[.int .i64 s.short, .int .i64 s.long, .int .i64 s.on, .int .i64 s.off]] w fun e w' => e = .returned (.tuple #[.int .i64 (fmV l s).1, .bool (fmV l s).2]) ∧ Below w.heap.size w w' := by
  unfold fmV
  obtain ⟨sho, lon, on, of⟩ := s
  have HB0 := Lib.hid (Blk.new w 25 #[.int .i64 sho, .int .i64 lon, .int .i64 on, .int .i64 of])
  have hr := (h.alloc (Nat.le_refl _) (.cells #[.int .i64 sho, .int .i64 lon, .int .i64 on, .int .i64 of] 25)).more (B' := (w.alloc (.cells #[.int .i64 sho, .int .i64 lon, .int .i64 on, .int .i64 of] 25)).heap.size) (by simp)
  have hb0 : Below w.heap.size w (w.alloc (.cells #[.int .i64 sho, .int .i64 lon, .int .i64 on, .int .i64 of] 25)) := (Below.refl _ _).alloc (Nat.le_refl _) _
  cases ht : okT l ⟨sho, lon, on, of⟩ with
  | false =>
    simp only [Bool.false_eq_true, if_false]
    go_enter Try.func29, Try.ntmps29
    go_wp2_with (go_at_call 52; refine (l9Asked_any A c l ⟨sho, lon, on, of⟩ _ hr hl).mono ?_; rintro e w1 ⟨rfl, hb1⟩; have HB1 := Lib.hid (HB0.out.after hb1); obtain ⟨b0, b1, b2, b3⟩ := box4 HB1.out; have hB1 := hb0.trans (hb1.mono (by simp)); have hr1 := hr.after hb1)
    go_ret2
    exact ⟨rfl, hB1⟩
  | true =>
    simp only [if_true]
    obtain ⟨⟨hl24, hsm⟩, hg⟩ := okT_iff.1 ht
    have hbd := fun x hx => spans_bd (l := l) (x := x) hg hx
    obtain ⟨g1, g2, g3, g4, _⟩ := goodG_iff.1 hg
    simp only at g1 g2 g3 g4 hbd
    unfold fmT
    cases hsp : spans l ⟨sho, lon, on, of⟩ with
    | nil =>
      simp only [List.head?_nil, List.isEmpty_nil, Bool.not_true]
      go_enter Try.func29, Try.ntmps29
      go_wp2_with (go_at_call 52; refine (l9Asked_any A c l ⟨sho, lon, on, of⟩ _ hr hl).mono ?_; rintro e w1 ⟨rfl, hb1⟩; have HB1 := Lib.hid (HB0.out.after hb1); obtain ⟨b0, b1, b2, b3⟩ := box4 HB1.out; have hB1 := hb0.trans (hb1.mono (by simp)); have hr1 := hr.after hb1)
      refine (l9On_any A c l ⟨sho, lon, on, of⟩ _ hr1 hsm hl24 hg).mono ?_
      rintro e w2 ⟨v, rfl, hown, hb2⟩
      rw [hsp] at hown
      obtain ⟨A', c', rfl, hcc, hrd⟩ := Own.form enc2_len hown
      have hB2 := hB1.trans (hb2.mono hB1.size)
      clear b0 b1 b2 b3 hown hsp hbd
      go_wp2
      skip
      go_ret2
      exact ⟨rfl, hB2⟩
    | cons x xs =>
      have hx := hbd x (by rw [hsp]; simp)
      simp only [List.head?_cons, List.isEmpty_cons, Bool.not_false]
      obtain ⟨p, hp⟩ := Int.eq_ofNat_of_zero_le (show 0 ≤ x.1 - 1 by omega)
      have hx0 : x.1 = (p : Int) + 1 := by omega
      obtain ⟨x0, x1⟩ := x
      simp only at hx0 hx hp
      subst hx0
      have hpl : p + 1 < l.length := by omega
      have e1 : l.getD ((p : Int) + 1).toNat 0 = l[p + 1] := by rw [show ((p : Int) + 1).toNat = p + 1 by omega, List.getD_eq_getElem?_getD, List.getElem?_eq_getElem hpl]; rfl
      have e2 : l.getD ((p : Int) + 1 - 1).toNat 0 = l[p] := by rw [show ((p : Int) + 1 - 1).toNat = p by omega, List.getD_eq_getElem?_getD, List.getElem?_eq_getElem (by omega)]; rfl
      rw [e1, e2]
      have ba := hsm _ (List.getElem_mem hpl)
      have bb := hsm _ (List.getElem_mem (show p < l.length by omega))
      clear e1 e2 hp
      obtain ⟨u, hu⟩ : ∃ u, l[p + 1] = u := ⟨_, rfl⟩
      obtain ⟨v, hv⟩ : ∃ v, l[p] = v := ⟨_, rfl⟩
      rw [hu, hv] at ⊢
      rw [hu] at ba
      rw [hv] at bb
      have Hu := Lib.hid hu
      have Hv := Lib.hid hv
      have Hsp := Lib.hid hsp
      clear hu hv hsp hbd
      unfold sgnI
      by_cases h1 : 0 < u - v
      all_goals by_cases h2 : u - v < 0
      all_goals try (exfalso; omega)
      all_goals simp only [h1, h2, if_true, if_false]
      all_goals
        go_enter Try.func29, Try.ntmps29
        go_wp2_with (go_at_call 52; refine (l9Asked_any A c l ⟨sho, lon, on, of⟩ _ hr hl).mono ?_; rintro e w1 ⟨rfl, hb1⟩; have HB1 := Lib.hid (HB0.out.after hb1); obtain ⟨b0, b1, b2, b3⟩ := box4 HB1.out; have hB1 := hb0.trans (hb1.mono (by simp)); have hr1 := hr.after hb1)
        refine (l9On_any A c l ⟨sho, lon, on, of⟩ _ hr1 hsm hl24 hg).mono ?_
        rintro e w2 ⟨v, rfl, hown, hb2⟩
        rw [Hsp.out] at hown
        obtain ⟨A', c', rfl, hcc, hrd⟩ := Own.form enc2_len hown
        have hB2 := hB1.trans (hb2.mono hB1.size)
        obtain ⟨b, off, rfl, hb, c0, c1⟩ := cells2 hrd (show 0 < (((p : Int) + 1, x1) :: xs).length by simp)
        simp only [List.getElem_cons_zero, Nat.zero_mul, Nat.add_zero] at c0 c1
        have hr2 := hr1.after hb2
        obtain ⟨b', off', rfl, hb', d1⟩ := cellsI hr2 hpl
        obtain ⟨b'', off'', e'', _, d0⟩ := cellsI hr2 (show p < l.length by omega)
        injection e'' with e''
        injection e'' with e1 e2
        subst e1 e2
        rw [Hu.out] at d1
        rw [Hv.out] at d0
        clear b0 b1 b2 b3 hown
        go_wp2
        go_quiet (fail)
        go_wp2
        go_ret2
        refine ⟨rfl, ?_⟩
        (repeat (first | with_reducible exact Below.refl _ _ | with_reducible assumption | with_reducible refine Below.setCell ?_ (by simp <;> omega) _ | with_reducible refine Below.alloc ?_ (by first | omega | (simp <;> omega)) _ | with_reducible refine Below.drew ?_ | with_reducible refine below_drewN ?_ _))

def leV (l : List Int) (s : Setting) : Int × Bool := if okT l s then loT l s else (0, false)

set_option maxRecDepth 100000 in
set_option maxHeartbeats 1000000 in
theorem LeastOn_any (A : Option Addr) (c : Nat) (l : List Int) (s : Setting) (w : World) (h : Rd encI 1 w w.heap.size A l) (hl : l.length ≤ 1048576) (hc : l.length ≤ c ∧ c ≤ maxLen) :
    Calls Try.prog 24 #[.slice A l.length c, .agg #[.int .i64 s.short, .int .i64 s.long, .int .i64 s.on, .int .i64 s.off]] w fun e w' => e = .returned (.tuple #[.int .i64 (leV l s).1, .bool (leV l s).2]) ∧ Below w.heap.size w w' := by
  unfold leV
  obtain ⟨sho, lon, on, of⟩ := s
  have HB0 := Lib.hid (Blk.new w 25 #[.int .i64 sho, .int .i64 lon, .int .i64 on, .int .i64 of])
  have hr := (h.alloc (Nat.le_refl _) (.cells #[.int .i64 sho, .int .i64 lon, .int .i64 on, .int .i64 of] 25)).more (B' := (w.alloc (.cells #[.int .i64 sho, .int .i64 lon, .int .i64 on, .int .i64 of] 25)).heap.size) (by simp)
  have hb0 : Below w.heap.size w (w.alloc (.cells #[.int .i64 sho, .int .i64 lon, .int .i64 on, .int .i64 of] 25)) := (Below.refl _ _).alloc (Nat.le_refl _) _
  cases ht : okT l ⟨sho, lon, on, of⟩ with
  | false =>
    simp only [Bool.false_eq_true, if_false]
    go_enter Try.func24, Try.ntmps24
    go_wp2_with (go_at_call 56; refine (isTriggered_any A c l ⟨sho, lon, on, of⟩ _ hr hl).mono ?_; rintro e w1 ⟨rfl, hb1⟩; have HB1 := Lib.hid (HB0.out.after hb1); obtain ⟨b0, b1, b2, b3⟩ := box4 HB1.out; have hB1 := hb0.trans (hb1.mono (by simp)); have hr1 := hr.after hb1)
    go_ret2
    exact ⟨rfl, hB1⟩
  | true =>
    simp only [if_true]
    obtain ⟨⟨hl24, hsm⟩, hg⟩ := okT_iff.1 ht
    obtain ⟨g1, g2, g3, g4, g5, g6, g7, g8⟩ := goodG_iff.1 hg
    simp only at g1 g2 g3 g4 g5 g6 g7 g8
    obtain ⟨⟨r1, r2⟩, hR⟩ : ∃ R, loT l ⟨sho, lon, on, of⟩ = R := ⟨_, rfl⟩
    rw [hR]
    simp only
    have HR0 := Lib.hid (show loFrom l ⟨sho, lon, on, of⟩ (1001 - of).toNat of = (r1, r2) from hR)
    clear hR
    go_enter Try.func24, Try.ntmps24
    go_wp2_with (go_at_call 56; refine (isTriggered_any A c l ⟨sho, lon, on, of⟩ _ hr hl).mono ?_; rintro e w1 ⟨rfl, hb1⟩; have HB1 := Lib.hid (HB0.out.after hb1); obtain ⟨b0, b1, b2, b3⟩ := box4 HB1.out; have hB1 := hb0.trans (hb1.mono (by simp)); have hr1 := hr.after hb1; have f2 := HB1.out.frozen 2)
    clear ht
    go_loopg [] (1001 - of).toNat (fun n wr => ∃ q : Int, Hid (n = (1001 - q).toNat) ∧ (of ≤ q ∧ q ≤ 1001) ∧ Hid (loFrom l ⟨sho, lon, on, of⟩ (1001 - q).toNat q = (r1, r2)) ∧ Hid (Blk wr w.heap.size 25 #[.int .i64 sho, .int .i64 lon, .int .i64 q, .int .i64 of]) ∧ Below w.heap.size w wr)
    case atStart => exact ⟨of, rfl, ⟨by omega, by omega⟩, HR0.out, HB1.out.set_ _ _, hB1.setCell (by simp) _⟩
    case round =>
      obtain ⟨q, hq0, ⟨hq1, hq2⟩, HR, HB, hbl⟩ := hrel
      by_cases hlt : q ≤ 1000
      · have hgq : goodG ⟨sho, lon, q, of⟩ = true := goodG_on hg hq1 hlt
        have hcon := fun (W : World) hW => spans_any A c l ⟨sho, lon, q, of⟩ W hW hsm hl24 hc hgq
        have hstep : loFrom l ⟨sho, lon, on, of⟩ (1001 - q).toNat q = if (spans l ⟨sho, lon, q, of⟩).isEmpty then (q, true) else loFrom l ⟨sho, lon, on, of⟩ (1001 - (q + 1)).toNat (q + 1) := by
          rw [show (1001 - q).toNat = (1001 - (q + 1)).toNat + 1 by omega]
          rfl
        rw [HR.out] at hstep
        have Hcon := Lib.hid (hcon wr ((h.below hbl).more hbl.size))
        clear hcon hgq
        have b0 := HB.out.cell 0
        have b1 := HB.out.cell 1
        have b2 := HB.out.cell 2
        have b3 := HB.out.cell 3
        have f2 := HB.out.frozen 2
        simp only [List.getElem?_toArray, List.getElem?_cons_zero, List.getElem?_cons_succ] at b0 b1 b2 b3
        cases hsp : spans l ⟨sho, lon, q, of⟩ with
        | nil =>
          have hy : (r1, r2) = (q, true) := by rw [hstep, hsp]; rfl
          rw [Prod.mk.injEq] at hy
          have H1 := Lib.hid hy.1
          have H2 := Lib.hid hy.2
          have Hsp := Lib.hid hsp
          clear hstep hy HR hsp
          go_wp2_with fail
          refine Hcon.out.mono ?_
          rintro e w2 ⟨v, rfl, hown, hb2⟩
          rw [Hsp.out] at hown
          obtain ⟨A', c', rfl, hcc, hrd⟩ := Own.form enc2_len hown
          have HB2 := Lib.hid (HB.out.after hb2)
          have e2 := HB2.out.cell 2
          simp only [List.getElem?_toArray, List.getElem?_cons_zero, List.getElem?_cons_succ] at e2
          clear hown b0 b1 b2 b3
          go_wp2
          go_ret2
          exact ⟨(by first | (rw [H1.out, H2.out]; done) | (rw [H1.out, H2.out]; rfl)), hbl.trans (hb2.mono hbl.size)⟩
        | cons x xs =>
          have hn : loFrom l ⟨sho, lon, on, of⟩ (1001 - (q + 1)).toNat (q + 1) = (r1, r2) := by rw [hstep, hsp]; rfl
          have Hno := Lib.hid hn
          have hne : (((xs.length + 1 : Nat) : Int) == 0) = false := by simp; omega
          have Hsp := Lib.hid hsp
          clear hstep hn HR hsp
          go_wp2_with fail
          refine Hcon.out.mono ?_
          rintro e w2 ⟨v, rfl, hown, hb2⟩
          rw [Hsp.out] at hown
          obtain ⟨A', c', rfl, hcc, hrd⟩ := Own.form enc2_len hown
          rw [List.length_cons] at *
          have HB2 := Lib.hid (HB.out.after hb2)
          have e2 := HB2.out.cell 2
          have f2 := HB2.out.frozen 2
          simp only [List.getElem?_toArray, List.getElem?_cons_zero, List.getElem?_cons_succ] at e2
          clear hown b0 b1 b2 b3
          go_wp2
          go_roundg ((1001 - (q + 1)).toNat)
          case rel => exact ⟨q + 1, rfl, ⟨by omega, by omega⟩, Hno.out, HB2.out.set_ _ _, (hbl.trans (hb2.mono hbl.size)).setCell (by simp) _⟩
          case measure => have := hq0.out; omega
      · have hq : q = 1001 := by omega
        subst hq
        have hy : (r1, r2) = (0, false) := by rw [← HR.out]; rfl
        rw [Prod.mk.injEq] at hy
        have H1 := Lib.hid hy.1
        have H2 := Lib.hid hy.2
        clear hy HR
        have b2 := HB.out.cell 2
        simp only [List.getElem?_toArray, List.getElem?_cons_zero, List.getElem?_cons_succ] at b2
        go_wp2
        go_ret2
        exact ⟨(by first | (rw [H1.out, H2.out]; done) | (rw [H1.out, H2.out]; rfl)), hbl⟩

set_option maxRecDepth 100000 in
set_option maxHeartbeats 1000000 in
theorem sLeastOn_any (A : Option Addr) (c : Nat) (l : List Int) (s : Setting) (w : World) (h : Rd encI 1 w w.heap.size A l) (hl : l.length ≤ 1048576) (hc : l.length ≤ c ∧ c ≤ maxLen) :
    Calls Try.prog 23 #[.slice A l.length c, .agg #[.int .i64 s.short, .int .i64 s.long, .int .i64 s.on, .int .i64 s.off]] w fun e w' => e = .returned (.tuple #[.int .i64 (leV l s).1, .bool (leV l s).2]) ∧ Below w.heap.size w w' := by
  unfold leV
  obtain ⟨sho, lon, on, of⟩ := s
  have HB0 := Lib.hid (Blk.new w 25 #[.int .i64 sho, .int .i64 lon, .int .i64 on, .int .i64 of])
  have hr := (h.alloc (Nat.le_refl _) (.cells #[.int .i64 sho, .int .i64 lon, .int .i64 on, .int .i64 of] 25)).more (B' := (w.alloc (.cells #[.int .i64 sho, .int .i64 lon, .int .i64 on, .int .i64 of] 25)).heap.size) (by simp)
  have hb0 : Below w.heap.size w (w.alloc (.cells #[.int .i64 sho, .int .i64 lon, .int .i64 on, .int .i64 of] 25)) := (Below.refl _ _).alloc (Nat.le_refl _) _
  cases ht : okT l ⟨sho, lon, on, of⟩ with
  | false =>
    simp only [Bool.false_eq_true, if_false]
    go_enter Try.func23, Try.ntmps23
    go_wp2_with (go_at_call 52; refine (l9Asked_any A c l ⟨sho, lon, on, of⟩ _ hr hl).mono ?_; rintro e w1 ⟨rfl, hb1⟩; have HB1 := Lib.hid (HB0.out.after hb1); obtain ⟨b0, b1, b2, b3⟩ := box4 HB1.out; have hB1 := hb0.trans (hb1.mono (by simp)); have hr1 := hr.after hb1)
    go_ret2
    exact ⟨rfl, hB1⟩
  | true =>
    simp only [if_true]
    obtain ⟨⟨hl24, hsm⟩, hg⟩ := okT_iff.1 ht
    obtain ⟨g1, g2, g3, g4, g5, g6, g7, g8⟩ := goodG_iff.1 hg
    simp only at g1 g2 g3 g4 g5 g6 g7 g8
    obtain ⟨⟨r1, r2⟩, hR⟩ : ∃ R, loT l ⟨sho, lon, on, of⟩ = R := ⟨_, rfl⟩
    rw [hR]
    simp only
    have HR0 := Lib.hid (show loFrom l ⟨sho, lon, on, of⟩ (1001 - of).toNat of = (r1, r2) from hR)
    clear hR
    go_enter Try.func23, Try.ntmps23
    go_wp2_with (go_at_call 52; refine (l9Asked_any A c l ⟨sho, lon, on, of⟩ _ hr hl).mono ?_; rintro e w1 ⟨rfl, hb1⟩; have HB1 := Lib.hid (HB0.out.after hb1); obtain ⟨b0, b1, b2, b3⟩ := box4 HB1.out; have hB1 := hb0.trans (hb1.mono (by simp)); have hr1 := hr.after hb1; have f2 := HB1.out.frozen 2)
    clear ht
    go_loopw [6] (fun o wr => ∃ q : Int, o = .int .i64 q ∧ (of ≤ q ∧ q ≤ 1001) ∧ Hid (loFrom l ⟨sho, lon, on, of⟩ (1001 - q).toNat q = (r1, r2)) ∧ Hid (Blk wr w.heap.size 25 #[.int .i64 sho, .int .i64 lon, .int .i64 on, .int .i64 of]) ∧ Below w.heap.size w wr) (fun o _ => (1001 - intOf o).toNat)
    case atStart => exact ⟨_, rfl, ⟨by omega, by omega⟩, HR0.out, HB1.out, hB1⟩
    case round =>
      obtain ⟨q, rfl, ⟨hq1, hq2⟩, HR, HB, hbl⟩ := hrel
      by_cases hlt : q ≤ 1000
      · have hgq : goodG ⟨sho, lon, q, of⟩ = true := goodG_on hg hq1 hlt
        have hcon := fun (W : World) hW => l9On_any A c l ⟨sho, lon, q, of⟩ W hW hsm hl24 hgq
        have hstep : loFrom l ⟨sho, lon, on, of⟩ (1001 - q).toNat q = if (spans l ⟨sho, lon, q, of⟩).isEmpty then (q, true) else loFrom l ⟨sho, lon, on, of⟩ (1001 - (q + 1)).toNat (q + 1) := by
          rw [show (1001 - q).toNat = (1001 - (q + 1)).toNat + 1 by omega]
          rfl
        rw [HR.out] at hstep
        have Hcon := Lib.hid (hcon wr ((h.below hbl).more hbl.size))
        clear hcon hgq
        have b0 := HB.out.cell 0
        have b1 := HB.out.cell 1
        have b2 := HB.out.cell 2
        have b3 := HB.out.cell 3
        have f2 := HB.out.frozen 2
        simp only [List.getElem?_toArray, List.getElem?_cons_zero, List.getElem?_cons_succ] at b0 b1 b2 b3
        cases hsp : spans l ⟨sho, lon, q, of⟩ with
        | nil =>
          have hy : (r1, r2) = (q, true) := by rw [hstep, hsp]; rfl
          rw [Prod.mk.injEq] at hy
          have H1 := Lib.hid hy.1
          have H2 := Lib.hid hy.2
          have Hsp := Lib.hid hsp
          clear hstep hy HR hsp
          go_wp2_with fail
          refine Hcon.out.mono ?_
          rintro e w2 ⟨v, rfl, hown, hb2⟩
          rw [Hsp.out] at hown
          obtain ⟨A', c', rfl, hcc, hrd⟩ := Own.form enc2_len hown
          have HB2 := Lib.hid (HB.out.after hb2)
          have e2 := HB2.out.cell 2
          simp only [List.getElem?_toArray, List.getElem?_cons_zero, List.getElem?_cons_succ] at e2
          clear hown b0 b1 b2 b3
          go_wp2
          go_ret2
          exact ⟨(by first | (rw [H1.out, H2.out]; done) | (rw [H1.out, H2.out]; rfl)), hbl.trans (hb2.mono hbl.size)⟩
        | cons x xs =>
          have hn : loFrom l ⟨sho, lon, on, of⟩ (1001 - (q + 1)).toNat (q + 1) = (r1, r2) := by rw [hstep, hsp]; rfl
          have Hno := Lib.hid hn
          have hne : (((xs.length + 1 : Nat) : Int) == 0) = false := by simp; omega
          have Hsp := Lib.hid hsp
          clear hstep hn HR hsp
          go_wp2_with fail
          refine Hcon.out.mono ?_
          rintro e w2 ⟨v, rfl, hown, hb2⟩
          rw [Hsp.out] at hown
          obtain ⟨A', c', rfl, hcc, hrd⟩ := Own.form enc2_len hown
          rw [List.length_cons] at *
          have HB2 := Lib.hid (HB.out.after hb2)
          have e2 := HB2.out.cell 2
          have f2 := HB2.out.frozen 2
          simp only [List.getElem?_toArray, List.getElem?_cons_zero, List.getElem?_cons_succ] at e2
          clear hown b0 b1 b2 b3
          go_wp2
          go_roundw
          case rel => exact ⟨q + 1, rfl, ⟨by omega, by omega⟩, Hno.out, HB2.out, hbl.trans (hb2.mono hbl.size)⟩
          case measure => simp [intOf]; omega
      · have hq : q = 1001 := by omega
        subst hq
        have hy : (r1, r2) = (0, false) := by rw [← HR.out]; rfl
        rw [Prod.mk.injEq] at hy
        have H1 := Lib.hid hy.1
        have H2 := Lib.hid hy.2
        clear hy HR
        have b2 := HB.out.cell 2
        simp only [List.getElem?_toArray, List.getElem?_cons_zero, List.getElem?_cons_succ] at b2
        go_wp2
        go_ret2
        exact ⟨(by first | (rw [H1.out, H2.out]; done) | (rw [H1.out, H2.out]; rfl)), hbl⟩

end Go.Proofs.Ytaemdldpcpefbaa
