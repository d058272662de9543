/-
  Contracts of the exported functions that hand back spans or places. (Printed by gen_B5.py.)
-/
import Derived.Test.YtaemdldpcpefbaaPairs
import Derived.Test.YtaemdldpcpefbaaChk
namespace Go.Proofs.Ytaemdldpcpefbaa
set_option linter.unusedVariables false
open Go.RowKit

def trL (l : List Int) (s : Setting) : List (Int × Int) := if okT l s then spans l s else []
def onL (l : List Int) (s : Setting) : List Int := if okT l s then (spans l s).map Prod.fst else []
theorem trL_len {l : List Int} {s : Setting} : (trL l s).length ≤ 1048576 := by
  unfold trL
  split
  · rename_i h
    have := (okT_iff.1 h).1.1
    have := spans_len l s
    omega
  · simp
theorem onL_len {l : List Int} {s : Setting} : (onL l s).length ≤ 1048576 := by
  unfold onL
  split
  · rename_i h
    have := (okT_iff.1 h).1.1
    have := spans_len l s
    rw [List.length_map]; omega
  · simp
/-- Two rows of different types lie in different blocks. -/
theorem own_ne {α β : Type} {enc : α → List Value} {enc' : β → List Value} {k k' : Nat} {w : World} {base base' : Nat} {E T : TypeId} {v v' : Value} {l : List α} {l' : List β} (h : Own enc k w base E v l) (h' : Own enc' k' w base' T v' l') (hne : E ≠ T) : ∀ g, v.ownBlock = some g → v'.ownBlock ≠ some g := by
  intro g hg hg'
  obtain ⟨_, h2⟩ := h
  obtain ⟨_, h2'⟩ := h'
  rcases h2 with ⟨rfl, _⟩ | ⟨g1, cap, cur, rfl, _, hh, _⟩
  · cases hg
  · rcases h2' with ⟨rfl, _⟩ | ⟨g2, cap', cur', rfl, _, hh', _⟩
    · cases hg'
    · have e1 : g1 = g := by injection hg
      have e2 : g2 = g := by injection hg'
      subst e1
      subst e2
      rw [hh] at hh'
      injection hh' with hh'
      injection hh' with _ ht
      exact hne ht
theorem encI_one (e : Int) : ∀ u ∈ encI e, u.oneCell' = true := by intro u hu; simp [encI] at hu; rcases hu with rfl; rfl

set_option maxRecDepth 100000 in
theorem Triggered_any (A : Option Addr) (c : Nat) (l : List Int) (s : Setting) (w : World) (h : Rd encI 1 w w.heap.size A l) (hl : l.length ≤ 1048576) (hc : l.length ≤ c ∧ c ≤ maxLen) :
    Calls Try.prog 36 #[.slice A l.length c, .agg #[.int .i64 s.short, .int .i64 s.long, .int .i64 s.on, .int .i64 s.off]] w fun e w' => ∃ A' c', e = .returned (.tuple #[.slice A' (trL l s).length c', .bool (okT l s)]) ∧ ((trL l s).length ≤ c' ∧ c' ≤ maxLen) ∧ Own enc2 2 w' w.heap.size 54 (.slice A' (trL l s).length c') (trL l s) ∧ Below w.heap.size w w' := by
  unfold trL
  obtain ⟨sho, lon, on, of⟩ := s
  have HB0 := Lib.hid (Blk.new w 25 #[.int .i64 sho, .int .i64 lon, .int .i64 on, .int .i64 of])
  have hr := (h.alloc (Nat.le_refl _) (.cells #[.int .i64 sho, .int .i64 lon, .int .i64 on, .int .i64 of] 25)).more (B' := (w.alloc (.cells #[.int .i64 sho, .int .i64 lon, .int .i64 on, .int .i64 of] 25)).heap.size) (by simp)
  have hb0 : Below w.heap.size w (w.alloc (.cells #[.int .i64 sho, .int .i64 lon, .int .i64 on, .int .i64 of] 25)) := (Below.refl _ _).alloc (Nat.le_refl _) _
  cases ht : okT l ⟨sho, lon, on, of⟩ with
  | false =>
    simp only [Bool.false_eq_true, if_false, List.length_nil]
    go_enter Try.func36, Try.ntmps36
    go_wp2_with (go_at_call 56; refine (isTriggered_any A c l ⟨sho, lon, on, of⟩ _ hr hl).mono ?_; rintro e w1 ⟨rfl, hb1⟩; have HB1 := Lib.hid (HB0.out.after hb1); obtain ⟨b0, b1, b2, b3⟩ := box4 HB1.out; have hB1 := hb0.trans (hb1.mono (by simp)); have hr1 := hr.after hb1)
    go_ret2
    exact ⟨none, 0, rfl, ⟨Nat.le_refl _, Nat.zero_le _⟩, Own.none_ _ _ _, hB1⟩
  | true =>
    simp only [if_true]
    obtain ⟨⟨hl24, hsm⟩, hg⟩ := okT_iff.1 ht
    obtain ⟨L, hL⟩ : ∃ L, spans l ⟨sho, lon, on, of⟩ = L := ⟨_, rfl⟩
    rw [hL]
    have HL := Lib.hid hL
    clear hL
    go_enter Try.func36, Try.ntmps36
    go_wp2_with (go_at_call 56; refine (isTriggered_any A c l ⟨sho, lon, on, of⟩ _ hr hl).mono ?_; rintro e w1 ⟨rfl, hb1⟩; have HB1 := Lib.hid (HB0.out.after hb1); obtain ⟨b0, b1, b2, b3⟩ := box4 HB1.out; have hB1 := hb0.trans (hb1.mono (by simp)); have hr1 := hr.after hb1)
    refine (spans_any A c l ⟨sho, lon, on, of⟩ _ hr1 hsm hl24 hc hg).mono ?_
    rintro e w2 ⟨v, rfl, hown, hb2⟩
    rw [HL.out] at hown
    obtain ⟨A', c', rfl, hcc, hrd⟩ := Own.form enc2_len hown
    have Hown := Lib.hid (hown.mono hB1.size)
    have hB2 := hB1.trans (hb2.mono hB1.size)
    clear b0 b1 b2 b3 hown hrd
    go_wp2
    go_ret2
    exact ⟨_, _, rfl, hcc, Hown.out, hB2⟩

set_option maxRecDepth 100000 in
theorem sTriggered_any (A : Option Addr) (c : Nat) (l : List Int) (s : Setting) (w : World) (h : Rd encI 1 w w.heap.size A l) (hl : l.length ≤ 1048576) (hc : l.length ≤ c ∧ c ≤ maxLen) :
    Calls Try.prog 35 #[.slice A l.length c, .agg #[.int .i64 s.short, .int .i64 s.long, .int .i64 s.on, .int .i64 s.off]] w fun e w' => ∃ A' c', e = .returned (.tuple #[.slice A' (trL l s).length c', .bool (okT l s)]) ∧ ((trL l s).length ≤ c' ∧ c' ≤ maxLen) ∧ Own enc2 2 w' w.heap.size 54 (.slice A' (trL l s).length c') (trL l s) ∧ Below w.heap.size w w' := by
  unfold trL
  obtain ⟨sho, lon, on, of⟩ := s
  have HB0 := Lib.hid (Blk.new w 25 #[.int .i64 sho, .int .i64 lon, .int .i64 on, .int .i64 of])
  have hr := (h.alloc (Nat.le_refl _) (.cells #[.int .i64 sho, .int .i64 lon, .int .i64 on, .int .i64 of] 25)).more (B' := (w.alloc (.cells #[.int .i64 sho, .int .i64 lon, .int .i64 on, .int .i64 of] 25)).heap.size) (by simp)
  have hb0 : Below w.heap.size w (w.alloc (.cells #[.int .i64 sho, .int .i64 lon, .int .i64 on, .int .i64 of] 25)) := (Below.refl _ _).alloc (Nat.le_refl _) _
  cases ht : okT l ⟨sho, lon, on, of⟩ with
  | false =>
    simp only [Bool.false_eq_true, if_false, List.length_nil]
    go_enter Try.func35, Try.ntmps35
    go_wp2_with (go_at_call 52; refine (l9Asked_any A c l ⟨sho, lon, on, of⟩ _ hr hl).mono ?_; rintro e w1 ⟨rfl, hb1⟩; have HB1 := Lib.hid (HB0.out.after hb1); obtain ⟨b0, b1, b2, b3⟩ := box4 HB1.out; have hB1 := hb0.trans (hb1.mono (by simp)); have hr1 := hr.after hb1)
    go_ret2
    exact ⟨_, 0, rfl, ⟨Nat.le_refl _, Nat.zero_le _⟩, Own.empty _ _ _ hB1.size, hB1.alloc hB1.size _⟩
  | true =>
    simp only [if_true]
    obtain ⟨⟨hl24, hsm⟩, hg⟩ := okT_iff.1 ht
    obtain ⟨L, hL⟩ : ∃ L, spans l ⟨sho, lon, on, of⟩ = L := ⟨_, rfl⟩
    rw [hL]
    have HL := Lib.hid hL
    clear hL
    go_enter Try.func35, Try.ntmps35
    go_wp2_with (go_at_call 52; refine (l9Asked_any A c l ⟨sho, lon, on, of⟩ _ hr hl).mono ?_; rintro e w1 ⟨rfl, hb1⟩; have HB1 := Lib.hid (HB0.out.after hb1); obtain ⟨b0, b1, b2, b3⟩ := box4 HB1.out; have hB1 := hb0.trans (hb1.mono (by simp)); have hr1 := hr.after hb1)
    refine (l9On_any A c l ⟨sho, lon, on, of⟩ _ hr1 hsm hl24 hg).mono ?_
    rintro e w2 ⟨v, rfl, hown, hb2⟩
    rw [HL.out] at hown
    obtain ⟨A', c', rfl, hcc, hrd⟩ := Own.form enc2_len hown
    have Hown := Lib.hid (hown.mono hB1.size)
    have hB2 := hB1.trans (hb2.mono hB1.size)
    clear b0 b1 b2 b3 hown hrd
    go_wp2
    go_ret2
    exact ⟨_, _, rfl, hcc, Hown.out, hB2⟩

set_option maxRecDepth 100000 in
set_option maxHeartbeats 1000000 in
theorem OnPlaces_any (A : Option Addr) (c : Nat) (l : List Int) (s : Setting) (w : World) (h : Rd encI 1 w w.heap.size A l) (hl : l.length ≤ 1048576) (hc : l.length ≤ c ∧ c ≤ maxLen) :
    Calls Try.prog 32 #[.slice A l.length c, .agg #[.int .i64 s.short, .int .i64 s.long, .int .i64 s.on, .int .i64 s.off]] w fun e w' => ∃ A' c', e = .returned (.tuple #[.slice A' (onL l s).length c', .bool (okT l s)]) ∧ ((onL l s).length ≤ c' ∧ c' ≤ maxLen) ∧ Own encI 1 w' w.heap.size 3 (.slice A' (onL l s).length c') (onL l s) ∧ Below w.heap.size w w' := by
  unfold onL
  obtain ⟨sho, lon, on, of⟩ := s
  have HB0 := Lib.hid (Blk.new w 25 #[.int .i64 sho, .int .i64 lon, .int .i64 on, .int .i64 of])
  have hr := (h.alloc (Nat.le_refl _) (.cells #[.int .i64 sho, .int .i64 lon, .int .i64 on, .int .i64 of] 25)).more (B' := (w.alloc (.cells #[.int .i64 sho, .int .i64 lon, .int .i64 on, .int .i64 of] 25)).heap.size) (by simp)
  have hb0 : Below w.heap.size w (w.alloc (.cells #[.int .i64 sho, .int .i64 lon, .int .i64 on, .int .i64 of] 25)) := (Below.refl _ _).alloc (Nat.le_refl _) _
  cases ht : okT l ⟨sho, lon, on, of⟩ with
  | false =>
    simp only [Bool.false_eq_true, if_false, List.length_nil]
    go_enter Try.func32, Try.ntmps32
    go_wp2_with (go_at_call 56; refine (isTriggered_any A c l ⟨sho, lon, on, of⟩ _ hr hl).mono ?_; rintro e w1 ⟨rfl, hb1⟩; have HB1 := Lib.hid (HB0.out.after hb1); obtain ⟨b0, b1, b2, b3⟩ := box4 HB1.out; have hB1 := hb0.trans (hb1.mono (by simp)); have hr1 := hr.after hb1)
    go_ret2
    exact ⟨none, 0, rfl, ⟨Nat.le_refl _, Nat.zero_le _⟩, Own.none_ _ _ _, hB1⟩
  | true =>
    simp only [if_true]
    obtain ⟨⟨hl24, hsm⟩, hg⟩ := okT_iff.1 ht
    obtain ⟨i0, hi, hz0, hz1, hz2⟩ := info_parts infoI
    have hsl := spans_len l ⟨sho, lon, on, of⟩
    obtain ⟨L, hL⟩ : ∃ L, spans l ⟨sho, lon, on, of⟩ = L := ⟨_, rfl⟩
    rw [hL] at hsl ⊢
    rw [List.length_map]
    have HL := Lib.hid hL
    clear hL
    go_enter Try.func32, Try.ntmps32
    go_wp2_with (go_at_call 56; refine (isTriggered_any A c l ⟨sho, lon, on, of⟩ _ hr hl).mono ?_; rintro e w1 ⟨rfl, hb1⟩; have HB1 := Lib.hid (HB0.out.after hb1); obtain ⟨b0, b1, b2, b3⟩ := box4 HB1.out; have hB1 := hb0.trans (hb1.mono (by simp)); have hr1 := hr.after hb1; have hsz1 : w.heap.size < w1.heap.size := by have := hb1.size; simp at this; omega)
    have hB1a := hB1.alloc hB1.size (.cells #[] 3)
    have hr1a := (hr1.alloc (Nat.le_refl _) (.cells #[] 3)).more (B' := (w1.alloc (.cells #[] 3)).heap.size) (by simp)
    have Ho := Lib.hid (Own.empty (enc := encI) (k := 1) w1 w.heap.size 3 hB1.size)
    go_wp2_with fail
    refine (spans_any A c l ⟨sho, lon, on, of⟩ _ hr1a hsm hl24 hc hg).mono ?_
    rintro e w2 ⟨v, rfl, hown, hb2⟩
    have Ho2 := Lib.hid (Ho.out.keep hb2)
    have hB2 := hB1a.trans (hb2.mono hB1a.size)

    rw [HL.out] at hown
    obtain ⟨A', c', rfl, hcc, hrd⟩ := Own.form enc2_len hown
    have Hrd : Hid (Own enc2 2 w2 w.heap.size 54 (.slice A' L.length c') L) := hown.mono (by first | exact hB1a.size | exact hB1.size)
    have hBs := hB2.size
    clear b0 b1 b2 b3 hown hrd ht
    go_wp2
    go_loopw [6, 18] (fun v i wr => ∃ k : Nat, k ≤ L.length ∧ i = .int .i64 k ∧ Hid (Own encI 1 wr w.heap.size 3 v ((L.take k).map Prod.fst)) ∧ Hid (Own enc2 2 wr w.heap.size 54 (.slice A' L.length c') L) ∧ Below w.heap.size w wr) (fun _ i _ => L.length - (intOf i).toNat)
    case atStart => exact ⟨0, Nat.zero_le _, rfl, Ho2.out, Hrd.out, hB2⟩
    case round =>
      obtain ⟨k, hk, rfl, hown, hrd, hbl⟩ := hrel
      by_cases hlt : k < L.length
      · obtain ⟨b, off, hA', hb, c0, c1⟩ := cells2 (Own.rd' enc2_len hrd.out) hlt
        subst hA'
        have hnx : (L.take (k + 1)).map Prod.fst = (L.take k).map Prod.fst ++ [L[k].1] := by rw [List.take_succ_eq_append_getElem hlt, List.map_append]; rfl
        have hfl : ((L.take k).map Prod.fst).length ≤ 1048576 := by rw [List.length_map]; have := List.length_take_le k L; omega
        obtain ⟨M, hM⟩ : ∃ M, (L.take k).map Prod.fst = M := ⟨_, rfl⟩
        rw [hM] at hnx hown hfl
        have Hnx := Lib.hid hnx
        generalize L[k] = x at *
        obtain ⟨x0, x1⟩ := x
        simp only at c0 c1 Hnx
        obtain ⟨B', d', rfl, hcd, _⟩ := Own.form encI_len hown.out
        have hsz := hbl.size
        clear hM hnx
        skip
        go_wp2_with (at_builtin; refine wpList_app1N rfl _ _ 28 rfl w.heap.size 3 i0 _ 1 8 Try.underlying28 hi hz0 hz1 hz2 rfl (by omega) (by omega) encI encI_len encI_one (.slice B' M.length d') M x0 (wr.alloc (.cells #[.int .i64 x0, .int .i64 x1] 54)) _ rfl _ rfl (hown.out.alloc (.cells #[.int .i64 x0, .int .i64 x1] 54)) (wr.heap.size + 1) (by simp) rfl hfl (by first | omega | (simp; omega)) ?_; intro v' w3 hown3 hb3 hg3)
        have hrd3 := (hrd.out.alloc (.cells #[.int .i64 x0, .int .i64 x1] 54)).grown hg3 (own_ne (hown.out.alloc (.cells #[.int .i64 x0, .int .i64 x1] 54)) (hrd.out.alloc (.cells #[.int .i64 x0, .int .i64 x1] 54)) (by decide))
        go_wp2
        go_roundw
        case rel => exact ⟨k + 1, by omega, by go_num, by rw [Hnx.out]; exact hown3, hrd3, (hbl.alloc hbl.size _).trans hb3⟩
        case measure => simp [intOf]; omega
      · have hkl : L.take k = L := List.take_of_length_le (by omega)
        rw [hkl] at hown
        obtain ⟨B', d', rfl, hcd, _⟩ := Own.form encI_len hown.out
        clear hkl
        rw [List.length_map] at hcd hown ⊢
        go_wp2
        go_ret2
        exact ⟨_, _, rfl, hcd, hown.out, hbl⟩

set_option maxRecDepth 100000 in
set_option maxHeartbeats 1000000 in
theorem sOnPlaces_any (A : Option Addr) (c : Nat) (l : List Int) (s : Setting) (w : World) (h : Rd encI 1 w w.heap.size A l) (hl : l.length ≤ 1048576) (hc : l.length ≤ c ∧ c ≤ maxLen) :
    Calls Try.prog 31 #[.slice A l.length c, .agg #[.int .i64 s.short, .int .i64 s.long, .int .i64 s.on, .int .i64 s.off]] w fun e w' => ∃ A' c', e = .returned (.tuple #[.slice A' (onL l s).length c', .bool (okT l s)]) ∧ ((onL l s).length ≤ c' ∧ c' ≤ maxLen) ∧ Own encI 1 w' w.heap.size 3 (.slice A' (onL l s).length c') (onL l s) ∧ Below w.heap.size w w' := by
  unfold onL
  obtain ⟨sho, lon, on, of⟩ := s
  have HB0 := Lib.hid (Blk.new w 25 #[.int .i64 sho, .int .i64 lon, .int .i64 on, .int .i64 of])
  have hr := (h.alloc (Nat.le_refl _) (.cells #[.int .i64 sho, .int .i64 lon, .int .i64 on, .int .i64 of] 25)).more (B' := (w.alloc (.cells #[.int .i64 sho, .int .i64 lon, .int .i64 on, .int .i64 of] 25)).heap.size) (by simp)
  have hb0 : Below w.heap.size w (w.alloc (.cells #[.int .i64 sho, .int .i64 lon, .int .i64 on, .int .i64 of] 25)) := (Below.refl _ _).alloc (Nat.le_refl _) _
  cases ht : okT l ⟨sho, lon, on, of⟩ with
  | false =>
    simp only [Bool.false_eq_true, if_false, List.length_nil]
    go_enter Try.func31, Try.ntmps31
    go_wp2_with fail
    have hr0 := (hr.alloc (Nat.le_refl _) (.cells #[] 3)).more (B' := ((w.alloc (.cells #[.int .i64 sho, .int .i64 lon, .int .i64 on, .int .i64 of] 25)).alloc (.cells #[] 3)).heap.size) (by simp)
    have Ho : Hid (Own encI 1 ((w.alloc (.cells #[.int .i64 sho, .int .i64 lon, .int .i64 on, .int .i64 of] 25)).alloc (.cells #[] 3)) w.heap.size 3 (.slice (some ⟨w.heap.size + 1, 0, none⟩) 0 0) ([] : List Int)) := by
      have hq := Own.empty (enc := encI) (k := 1) (w.alloc (.cells #[.int .i64 sho, .int .i64 lon, .int .i64 on, .int .i64 of] 25)) w.heap.size 3 hb0.size
      simp at hq; exact hq
    have hb00 := hb0.alloc hb0.size (.cells #[] 3)
    have HB00 := Lib.hid (HB0.out.alloc (.cells #[] 3))
    refine (l9Asked_any A c l ⟨sho, lon, on, of⟩ _ hr0 hl).mono ?_
    rintro e w1 ⟨rfl, hb1⟩
    have HB1 := Lib.hid (HB00.out.after hb1)
    obtain ⟨b0, b1, b2, b3⟩ := box4 HB1.out
    have hB1 := hb00.trans (hb1.mono hb00.size)
    have hr1 := hr0.after hb1
    have Ho1 := Lib.hid (Ho.out.keep hb1)
    rw [ht]
    go_wp2
    go_ret2
    exact ⟨_, 0, rfl, ⟨Nat.le_refl _, Nat.zero_le _⟩, Ho1.out, hB1⟩
  | true =>
    simp only [if_true]
    obtain ⟨⟨hl24, hsm⟩, hg⟩ := okT_iff.1 ht
    obtain ⟨i0, hi, hz0, hz1, hz2⟩ := info_parts infoI
    have hsl := spans_len l ⟨sho, lon, on, of⟩
    obtain ⟨L, hL⟩ : ∃ L, spans l ⟨sho, lon, on, of⟩ = L := ⟨_, rfl⟩
    rw [hL] at hsl ⊢
    rw [List.length_map]
    have HL := Lib.hid hL
    clear hL
    go_enter Try.func31, Try.ntmps31
    go_wp2_with fail
    have hr0 := (hr.alloc (Nat.le_refl _) (.cells #[] 3)).more (B' := ((w.alloc (.cells #[.int .i64 sho, .int .i64 lon, .int .i64 on, .int .i64 of] 25)).alloc (.cells #[] 3)).heap.size) (by simp)
    have Ho : Hid (Own encI 1 ((w.alloc (.cells #[.int .i64 sho, .int .i64 lon, .int .i64 on, .int .i64 of] 25)).alloc (.cells #[] 3)) w.heap.size 3 (.slice (some ⟨w.heap.size + 1, 0, none⟩) 0 0) ([] : List Int)) := by
      have hq := Own.empty (enc := encI) (k := 1) (w.alloc (.cells #[.int .i64 sho, .int .i64 lon, .int .i64 on, .int .i64 of] 25)) w.heap.size 3 hb0.size
      simp at hq; exact hq
    have hb00 := hb0.alloc hb0.size (.cells #[] 3)
    have HB00 := Lib.hid (HB0.out.alloc (.cells #[] 3))
    refine (l9Asked_any A c l ⟨sho, lon, on, of⟩ _ hr0 hl).mono ?_
    rintro e w1 ⟨rfl, hb1⟩
    have HB1 := Lib.hid (HB00.out.after hb1)
    obtain ⟨b0, b1, b2, b3⟩ := box4 HB1.out
    have hB1 := hb00.trans (hb1.mono hb00.size)
    have hr1 := hr0.after hb1
    have Ho1 := Lib.hid (Ho.out.keep hb1)
    rw [ht]
    go_wp2_with fail
    refine (l9On_any A c l ⟨sho, lon, on, of⟩ _ hr1 hsm hl24 hg).mono ?_
    rintro e w2 ⟨v, rfl, hown, hb2⟩
    have Ho2 := Lib.hid (Ho1.out.keep hb2)
    have hB2 := hB1.trans (hb2.mono hB1.size)

    rw [HL.out] at hown
    obtain ⟨A', c', rfl, hcc, hrd⟩ := Own.form enc2_len hown
    have Hrd : Hid (Own enc2 2 w2 w.heap.size 54 (.slice A' L.length c') L) := hown.mono (by first | exact hB1a.size | exact hB1.size)
    have hBs := hB2.size
    clear b0 b1 b2 b3 hown hrd ht
    go_wp2
    go_loopw [6, 8] (fun v i wr => ∃ k : Nat, k ≤ L.length ∧ i = .int .i64 k ∧ Hid (Own encI 1 wr w.heap.size 3 v ((L.take k).map Prod.fst)) ∧ Hid (Own enc2 2 wr w.heap.size 54 (.slice A' L.length c') L) ∧ Below w.heap.size w wr) (fun _ i _ => L.length - (intOf i).toNat)
    case atStart => exact ⟨0, Nat.zero_le _, rfl, Ho2.out, Hrd.out, hB2⟩
    case round =>
      obtain ⟨k, hk, rfl, hown, hrd, hbl⟩ := hrel
      by_cases hlt : k < L.length
      · obtain ⟨b, off, hA', hb, c0, c1⟩ := cells2 (Own.rd' enc2_len hrd.out) hlt
        subst hA'
        have hnx : (L.take (k + 1)).map Prod.fst = (L.take k).map Prod.fst ++ [L[k].1] := by rw [List.take_succ_eq_append_getElem hlt, List.map_append]; rfl
        have hfl : ((L.take k).map Prod.fst).length ≤ 1048576 := by rw [List.length_map]; have := List.length_take_le k L; omega
        obtain ⟨M, hM⟩ : ∃ M, (L.take k).map Prod.fst = M := ⟨_, rfl⟩
        rw [hM] at hnx hown hfl
        have Hnx := Lib.hid hnx
        generalize L[k] = x at *
        obtain ⟨x0, x1⟩ := x
        simp only at c0 c1 Hnx
        obtain ⟨B', d', rfl, hcd, _⟩ := Own.form encI_len hown.out
        have hsz := hbl.size
        clear hM hnx
        skip
        go_wp2_with (at_builtin; refine wpList_app1 rfl _ _ 28 rfl w.heap.size 3 i0 _ 1 8 Try.underlying28 hi hz0 hz1 hz2 rfl (by omega) (by omega) encI encI_len encI_one (.slice B' M.length d') M x0 _ _ rfl _ rfl hown.out rfl hfl (by first | omega | (simp; omega)) ?_; intro v' w3 hown3 hb3 hg3)
        have hrd3 := hrd.out.grown hg3 (own_ne hown.out hrd.out (by decide))
        go_wp2
        go_roundw
        case rel => exact ⟨k + 1, by omega, by go_num, by rw [Hnx.out]; exact hown3, hrd3, hbl.trans hb3⟩
        case measure => simp [intOf]; omega
      · have hkl : L.take k = L := List.take_of_length_le (by omega)
        rw [hkl] at hown
        obtain ⟨B', d', rfl, hcd, _⟩ := Own.form encI_len hown.out
        clear hkl
        rw [List.length_map] at hcd hown ⊢
        go_wp2
        go_ret2
        exact ⟨_, _, rfl, hcd, hown.out, hbl⟩

end Go.Proofs.Ytaemdldpcpefbaa
