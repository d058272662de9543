/-
  Contracts of the greatest ratio, the longest span, the least threshold, the first motion. (Printed by gen_B3.py.)
-/
import Derived.Test.YtaemdldpcpefbaaSpMore
import Derived.Laws.Rows
namespace Go.Proofs.Ytaemdldpcpefbaa
set_option linter.unusedVariables false
open Go.RowKit

theorem results_tmp4 {fn : Func} {t u v x : Tmp} (h : fn.results = #[.tmp t, .tmp u, .tmp v, .tmp x]) (tmps : Array Value) (P : Program) (w : World) :
    (results fn tmps).run P w = .ok (.tuple #[tmps.getD t undef, tmps.getD u undef, tmps.getD v undef, tmps.getD x undef]) w := by
  simp [results, h]
def gP (l : List Int) (s : Setting) : Int := if okGR l s then (grP l s : Int) else 0
def gN (l : List Int) (s : Setting) : Int := if okGR l s then ratN l s (grP l s) else 0
def gD (l : List Int) (s : Setting) : Int := if okGR l s then ratD l s (grP l s) else 0

set_option maxRecDepth 100000 in
set_option maxHeartbeats 1000000 in
theorem GreatestRatio_any (A : Option Addr) (c : Nat) (l : List Int) (s : Setting) (w : World) (h : Rd encI 1 w w.heap.size A l) (hl : l.length ≤ 1048576) (hc : l.length ≤ c ∧ c ≤ maxLen) :
    Calls Try.prog 22 #[.slice A l.length c, .agg #[.int .i64 s.short, .int .i64 s.long, .int .i64 s.on, .int .i64 s.off]] w fun e w' => e = .returned (.tuple #[.int .i64 (gP l s), .int .i64 (gN l s), .int .i64 (gD l s), .bool (okGR l s)]) ∧ Below w.heap.size w w' := by
  unfold gP gN gD
  obtain ⟨sho, lon, on, of⟩ := s
  have HB0 := Lib.hid (Blk.new w 25 #[.int .i64 sho, .int .i64 lon, .int .i64 on, .int .i64 of])
  have hr := (h.alloc (Nat.le_refl _) (.cells #[.int .i64 sho, .int .i64 lon, .int .i64 on, .int .i64 of] 25)).more (B' := (w.alloc (.cells #[.int .i64 sho, .int .i64 lon, .int .i64 on, .int .i64 of] 25)).heap.size) (by simp)
  have hb0 : Below w.heap.size w (w.alloc (.cells #[.int .i64 sho, .int .i64 lon, .int .i64 on, .int .i64 of] 25)) := (Below.refl _ _).alloc (Nat.le_refl _) _
  cases ht : okT l ⟨sho, lon, on, of⟩ with
  | false =>
    have hk : okGR l ⟨sho, lon, on, of⟩ = false := by simp [okGR, ht]
    simp only [hk, Bool.false_eq_true, if_false]
    go_enter Try.func22, Try.ntmps22
    go_wp2_with (go_at_call 56; refine (isTriggered_any A c l ⟨sho, lon, on, of⟩ _ hr hl).mono ?_; rintro e w1 ⟨rfl, hb1⟩; have HB1 := Lib.hid (HB0.out.after hb1); obtain ⟨b0, b1, b2, b3⟩ := box4 HB1.out; have hB1 := hb0.trans (hb1.mono (by simp)); have hr1 := hr.after hb1)
    ((try simp only [Exit.inBlock, Exit.then]); refine bodyPost_ret (results_tmp4 rfl _ _ _) rfl ?_)
    exact ⟨rfl, hB1⟩
  | true =>
    obtain ⟨⟨hl24, hsm⟩, hg⟩ := okT_iff.1 ht
    obtain ⟨g1, g2, g3, g4, _⟩ := goodG_iff.1 hg
    simp only at g1 g2 g3 g4
    by_cases hlen : lon ≤ (l.length : Int)
    rotate_left
    · have hk : okGR l ⟨sho, lon, on, of⟩ = false := by simp [okGR, hlen]
      simp only [hk, Bool.false_eq_true, if_false]
      have hlt : (l.length : Int) < lon := by omega
      go_enter Try.func22, Try.ntmps22
      go_wp2_with (go_at_call 56; refine (isTriggered_any A c l ⟨sho, lon, on, of⟩ _ hr hl).mono ?_; rintro e w1 ⟨rfl, hb1⟩; have HB1 := Lib.hid (HB0.out.after hb1); obtain ⟨b0, b1, b2, b3⟩ := box4 HB1.out; have hB1 := hb0.trans (hb1.mono (by simp)); have hr1 := hr.after hb1)
      ((try simp only [Exit.inBlock, Exit.then]); refine bodyPost_ret (results_tmp4 rfl _ _ _) rfl ?_)
      exact ⟨rfl, hB1⟩
    · have hk : okGR l ⟨sho, lon, on, of⟩ = true := by simp [okGR, hlen, ht]
      simp only [hk, if_true]
      obtain ⟨ln, rfl⟩ := Int.eq_ofNat_of_zero_le (show 0 ≤ lon by omega)
      have hnp : nPl l ⟨sho, (ln : Int), on, of⟩ = l.length + 1 - ln := rfl
      have hP : 0 < nPl l ⟨sho, (ln : Int), on, of⟩ := by omega
      obtain ⟨p0, f1, f2, f3, f4, f5⟩ := gr_at hsm hg _ hP (Nat.le_refl _)
      have hgp : grP l ⟨sho, (ln : Int), on, of⟩ = p0 := by unfold grP; rw [f4]; simp
      rw [hgp]
      clear f5 f2 hgp hk
      have hlen' : decide (l.length < ln) = false := by simp; omega
      clear hlen
      have Hf4 := Lib.hid f4
      clear f4
      go_enter Try.func22, Try.ntmps22
      go_wp2_with (go_at_call 56; refine (isTriggered_any A c l ⟨sho, (ln : Int), on, of⟩ _ hr hl).mono ?_; rintro e w1 ⟨rfl, hb1⟩; have HB1 := Lib.hid (HB0.out.after hb1); obtain ⟨b0, b1, b2, b3⟩ := box4 HB1.out; have hB1 := hb0.trans (hb1.mono (by simp)); have hr1 := hr.after hb1)
      go_loopw [8, 9, 10, 11] (fun a b d i wr => ∃ (k : Nat) (pl nu de : Int), k ≤ l.length + 1 - ln ∧ i = .int .i64 ((ln - 1 + k : Nat) : Int) ∧ a = .int .i64 pl ∧ b = .int .i64 nu ∧ d = .int .i64 de ∧ Hid (GrI l ⟨sho, (ln : Int), on, of⟩ k pl nu de) ∧ Hid (Blk wr w.heap.size 25 #[.int .i64 sho, .int .i64 (ln : Int), .int .i64 on, .int .i64 of]) ∧ Below w.heap.size w wr)
        (fun _ _ _ i _ => l.length - (intOf i).toNat)
      case atStart => exact ⟨0, _, _, _, Nat.zero_le _, by rw [show ((ln - 1 + 0 : Nat) : Int) = (ln : Int) - 1 by omega], rfl, rfl, rfl, GrI.zero, HB1.out, hB1⟩
      case round =>
        obtain ⟨k, pl, nu, de, hk, rfl, rfl, rfl, rfl, HG, HB, hbl⟩ := hrel
        clear b0 b1 b2 b3
        obtain ⟨b0, b1, b2, b3⟩ := box4 HB.out
        obtain ⟨p, hp⟩ : ∃ p, ln - 1 + k = p := ⟨_, rfl⟩
        have hp1 : ((ln - 1 + (k + 1) : Nat) : Int) = (p : Int) + 1 := by omega
        have hpn : ((ln : Int)).toNat - 1 + k = p := by omega
        rw [hp]
        by_cases hlt : p < l.length
        · have hrat := ratio_any A c l ⟨sho, (ln : Int), on, of⟩ p wr ((h.below hbl).more hbl.size) hsm hl24 hc hg (by show (ln : Int) ≤ _; omega) hlt
          obtain ⟨q1, q2, q3, q4, _⟩ := rat_bd hsm hg p (by show (ln : Int) ≤ _; omega) hlt
          rcases HG.out with ⟨hk0, rfl, rfl, rfl⟩ | ⟨hk0, p2, hp2, he, rfl, rfl, rfl⟩
          · have hgo := GrI.first hsm hg hP
            rw [show ((⟨sho, (ln : Int), on, of⟩ : Setting).long.toNat - 1 + 0) = p by show (ln : Int).toNat - 1 + 0 = p; omega] at hgo
            subst hk0
            generalize ratN l ⟨sho, (ln : Int), on, of⟩ p = a at *
            generalize ratD l ⟨sho, (ln : Int), on, of⟩ p = b at *
            have Hr := Lib.hid hrat
            have Hgo := Lib.hid hgo
            have Hp1 := Lib.hid hp1
            have hk1 : 0 + 1 ≤ l.length + 1 - ln := by omega
            clear hrat hgo hp1 hp hpn HG hnp
            go_wp2_with fail
            refine Hr.out.mono ?_
            rintro e w2 ⟨rfl, hb2⟩
            have HB2 := Lib.hid (HB.out.after hb2)
            clear b0 b1 b2 b3
            go_wp2
            go_roundw
            case rel => first | exact ⟨0 + 1, _, _, _, hk1, by rw [Hp1.out], rfl, rfl, rfl, Hgo.out, HB2.out, hbl.trans (hb2.mono hbl.size)⟩ | ((repeat apply Exists.intro); exact ⟨⟨0 + 1, _, _, _, hk1, by rw [Hp1.out], rfl, rfl, rfl, Hgo.out, HB2.out, hbl.trans (hb2.mono hbl.size)⟩, rfl⟩)
            case measure => simp [intOf]; omega
          · have hmo := fun hc => GrI.more hsm hg (k := k) (p := p2) (by omega) hp2 he hc
            have hle := fun hc => GrI.less hsm hg (k := k) (p := p2) (by omega) hp2 he hc
            rw [show ((⟨sho, (ln : Int), on, of⟩ : Setting).long.toNat - 1 + k) = p from hpn] at hmo hle
            obtain ⟨s1, s2, s3, s4, _⟩ := rat_bd hsm hg p2 hp2.1 hp2.2
            generalize ratN l ⟨sho, (ln : Int), on, of⟩ p = a at *
            generalize ratD l ⟨sho, (ln : Int), on, of⟩ p = b at *
            generalize ratN l ⟨sho, (ln : Int), on, of⟩ p2 = a2 at *
            generalize ratD l ⟨sho, (ln : Int), on, of⟩ p2 = d2 at *
            have m1 : 0 ≤ a * d2 := Int.mul_nonneg q1 (by omega)
            have m2 : a * d2 ≤ 10000000 * 10000000 := Int.le_trans (Int.mul_le_mul_of_nonneg_right q2 (by omega)) (Int.mul_le_mul_of_nonneg_left s4 (by omega))
            have m3 : 0 ≤ a2 * b := Int.mul_nonneg s1 (by omega)
            have m4 : a2 * b ≤ 10000000 * 10000000 := Int.le_trans (Int.mul_le_mul_of_nonneg_right s2 (by omega)) (Int.mul_le_mul_of_nonneg_left q4 (by omega))
            have hk1 : k + 1 ≤ l.length + 1 - ln := by omega
            have hnn : ¬ (p2 : Int) < 0 := by omega
            have Hr := Lib.hid hrat
            have Hmo := Lib.hid hmo
            have Hle := Lib.hid hle
            have Hp1 := Lib.hid hp1
            clear hrat hmo hle hp1 hp hpn HG he hnp hp2 hP
            by_cases hc : a2 * b < a * d2
            · go_wp2_with fail
              refine Hr.out.mono ?_
              rintro e w2 ⟨rfl, hb2⟩
              have HB2 := Lib.hid (HB.out.after hb2)
              clear b0 b1 b2 b3
              go_wp2
              go_roundw
              case rel => exact ⟨k + 1, _, _, _, hk1, by rw [Hp1.out], rfl, rfl, rfl, Hmo.out hc, HB2.out, hbl.trans (hb2.mono hbl.size)⟩
              case measure => simp [intOf]; omega
            · go_wp2_with fail
              refine Hr.out.mono ?_
              rintro e w2 ⟨rfl, hb2⟩
              have HB2 := Lib.hid (HB.out.after hb2)
              clear b0 b1 b2 b3
              go_wp2
              go_roundw
              case rel => exact ⟨k + 1, _, _, _, hk1, by rw [Hp1.out], rfl, rfl, rfl, Hle.out hc, HB2.out, hbl.trans (hb2.mono hbl.size)⟩
              case measure => simp [intOf]; omega
        · have hkn : k = nPl l ⟨sho, (ln : Int), on, of⟩ := by omega
          rcases HG.out with ⟨hk0, _⟩ | ⟨hk0, p2, hp2, he, rfl, rfl, rfl⟩
          · omega
          · rw [hkn, Hf4.out] at he
            injection he with he _
            have he : p0 = p2 := by omega
            subst he
            clear hkn hp hp1 hpn hnp HG
            go_wp2
            ((try simp only [Exit.inBlock, Exit.then]); refine bodyPost_ret (results_tmp4 rfl _ _ _) rfl ?_)
            exact ⟨rfl, hbl⟩

set_option maxRecDepth 100000 in
set_option maxHeartbeats 1000000 in
theorem sGreatestRatio_any (A : Option Addr) (c : Nat) (l : List Int) (s : Setting) (w : World) (h : Rd encI 1 w w.heap.size A l) (hl : l.length ≤ 1048576) (hc : l.length ≤ c ∧ c ≤ maxLen) :
    Calls Try.prog 21 #[.slice A l.length c, .agg #[.int .i64 s.short, .int .i64 s.long, .int .i64 s.on, .int .i64 s.off]] w fun e w' => e = .returned (.tuple #[.int .i64 (gP l s), .int .i64 (gN l s), .int .i64 (gD l s), .bool (okGR l s)]) ∧ Below w.heap.size w w' := by
  unfold gP gN gD
  obtain ⟨sho, lon, on, of⟩ := s
  have HB0 := Lib.hid (Blk.new w 25 #[.int .i64 sho, .int .i64 lon, .int .i64 on, .int .i64 of])
  have hr := (h.alloc (Nat.le_refl _) (.cells #[.int .i64 sho, .int .i64 lon, .int .i64 on, .int .i64 of] 25)).more (B' := (w.alloc (.cells #[.int .i64 sho, .int .i64 lon, .int .i64 on, .int .i64 of] 25)).heap.size) (by simp)
  have hb0 : Below w.heap.size w (w.alloc (.cells #[.int .i64 sho, .int .i64 lon, .int .i64 on, .int .i64 of] 25)) := (Below.refl _ _).alloc (Nat.le_refl _) _
  cases ht : okT l ⟨sho, lon, on, of⟩ with
  | false =>
    have hk : okGR l ⟨sho, lon, on, of⟩ = false := by simp [okGR, ht]
    simp only [hk, Bool.false_eq_true, if_false]
    go_enter Try.func21, Try.ntmps21
    go_wp2_with (go_at_call 52; refine (l9Asked_any A c l ⟨sho, lon, on, of⟩ _ hr hl).mono ?_; rintro e w1 ⟨rfl, hb1⟩; have HB1 := Lib.hid (HB0.out.after hb1); obtain ⟨b0, b1, b2, b3⟩ := box4 HB1.out; have hB1 := hb0.trans (hb1.mono (by simp)); have hr1 := hr.after hb1)
    ((try simp only [Exit.inBlock, Exit.then]); refine bodyPost_ret (results_tmp4 rfl _ _ _) rfl ?_)
    exact ⟨rfl, hB1⟩
  | true =>
    obtain ⟨⟨hl24, hsm⟩, hg⟩ := okT_iff.1 ht
    obtain ⟨g1, g2, g3, g4, _⟩ := goodG_iff.1 hg
    simp only at g1 g2 g3 g4
    by_cases hlen : lon ≤ (l.length : Int)
    rotate_left
    · have hk : okGR l ⟨sho, lon, on, of⟩ = false := by simp [okGR, hlen]
      simp only [hk, Bool.false_eq_true, if_false]
      have hlt : (l.length : Int) < lon := by omega
      go_enter Try.func21, Try.ntmps21
      go_wp2_with (go_at_call 52; refine (l9Asked_any A c l ⟨sho, lon, on, of⟩ _ hr hl).mono ?_; rintro e w1 ⟨rfl, hb1⟩; have HB1 := Lib.hid (HB0.out.after hb1); obtain ⟨b0, b1, b2, b3⟩ := box4 HB1.out; have hB1 := hb0.trans (hb1.mono (by simp)); have hr1 := hr.after hb1)
      ((try simp only [Exit.inBlock, Exit.then]); refine bodyPost_ret (results_tmp4 rfl _ _ _) rfl ?_)
      exact ⟨rfl, hB1⟩
    · have hk : okGR l ⟨sho, lon, on, of⟩ = true := by simp [okGR, hlen, ht]
      simp only [hk, if_true]
      obtain ⟨ln, rfl⟩ := Int.eq_ofNat_of_zero_le (show 0 ≤ lon by omega)
      have hnp : nPl l ⟨sho, (ln : Int), on, of⟩ = l.length + 1 - ln := rfl
      have hP : 0 < nPl l ⟨sho, (ln : Int), on, of⟩ := by omega
      obtain ⟨p0, f1, f2, f3, f4, f5⟩ := gr_at hsm hg _ hP (Nat.le_refl _)
      have hgp : grP l ⟨sho, (ln : Int), on, of⟩ = p0 := by unfold grP; rw [f4]; simp
      rw [hgp]
      clear f5 f2 hgp hk
      have hlen' : decide (l.length < ln) = false := by simp; omega
      clear hlen
      have Hf4 := Lib.hid f4
      clear f4
      go_enter Try.func21, Try.ntmps21
      go_wp2_with (go_at_call 52; refine (l9Asked_any A c l ⟨sho, (ln : Int), on, of⟩ _ hr hl).mono ?_; rintro e w1 ⟨rfl, hb1⟩; have HB1 := Lib.hid (HB0.out.after hb1); obtain ⟨b0, b1, b2, b3⟩ := box4 HB1.out; have hB1 := hb0.trans (hb1.mono (by simp)); have hr1 := hr.after hb1)
      have h00 : grTo l ⟨sho, (ln : Int), on, of⟩ 0 = ((ln : Int) - 1, -1, 1) := rfl
      go_loopw [8, 9, 10, 11] (fun a b d i wr => ∃ (k : Nat) (st : Int × Int × Int), k ≤ l.length + 1 - ln ∧ i = .int .i64 ((ln - 1 + k : Nat) : Int) ∧ a = .int .i64 st.1 ∧ b = .int .i64 st.2.1 ∧ d = .int .i64 st.2.2 ∧ Hid (grTo l ⟨sho, (ln : Int), on, of⟩ k = st) ∧ Hid (Blk wr w.heap.size 25 #[.int .i64 sho, .int .i64 (ln : Int), .int .i64 on, .int .i64 of]) ∧ Below w.heap.size w wr)
        (fun _ _ _ i _ => l.length - (intOf i).toNat)
      case atStart => exact ⟨0, _, Nat.zero_le _, by rw [show ((ln - 1 + 0 : Nat) : Int) = (ln : Int) - 1 by omega], rfl, rfl, rfl, h00, HB1.out, hB1⟩
      case round =>
        clear h00
        obtain ⟨k, ⟨pl, nu, de⟩, hk, rfl, rfl, rfl, rfl, HG, HB, hbl⟩ := hrel
        clear b0 b1 b2 b3
        obtain ⟨b0, b1, b2, b3⟩ := box4 HB.out
        obtain ⟨p, hp⟩ : ∃ p, ln - 1 + k = p := ⟨_, rfl⟩
        have hp1 : ((ln - 1 + (k + 1) : Nat) : Int) = (p : Int) + 1 := by omega
        rw [hp]
        by_cases hlt : p < l.length
        · have hrat := l9Ratio_any A c l ⟨sho, (ln : Int), on, of⟩ p wr ((h.below hbl).more hbl.size) hsm hl24 hg (by show (ln : Int) ≤ _; omega) hlt
          obtain ⟨q1, q2, q3, q4, _⟩ := raw_bd hsm hg p (by show (ln : Int) ≤ _; omega) hlt
          have hbd : (-1 ≤ nu ∧ nu ≤ 10000000) ∧ (1 ≤ de ∧ de ≤ 10000000) := by
            rcases Nat.eq_zero_or_pos k with h0 | h0
            · subst h0
              have := HG.out
              simp only [grTo, Prod.mk.injEq] at this
              omega
            · obtain ⟨p2, t1, t2, t3, t4, t5⟩ := gr_at hsm hg k h0 (by omega)
              obtain ⟨v1, v2, v3, v4, _⟩ := raw_bd hsm hg p2 t1 t3
              rw [HG.out] at t4
              simp only [Prod.mk.injEq] at t4
              omega
          have hst : grTo l ⟨sho, (ln : Int), on, of⟩ (k + 1) = grStep l ⟨sho, (ln : Int), on, of⟩ (grTo l ⟨sho, (ln : Int), on, of⟩ k) p := by
            show grStep _ _ _ _ = _
            rw [show ((⟨sho, (ln : Int), on, of⟩ : Setting).long.toNat - 1 + k) = p by show (ln : Int).toNat - 1 + k = p; omega]
          rw [HG.out] at hst
          unfold grStep at hst
          simp only at hst
          generalize rawN l ⟨sho, (ln : Int), on, of⟩ p = a at *
          generalize rawD l ⟨sho, (ln : Int), on, of⟩ p = b at *
          obtain ⟨⟨n1, n2⟩, n3, n4⟩ := hbd
          have m1 : 0 ≤ a * de := Int.mul_nonneg q1 (by omega)
          have m2 : a * de ≤ 10000000 * 10000000 := Int.le_trans (Int.mul_le_mul_of_nonneg_right q2 (by omega)) (Int.mul_le_mul_of_nonneg_left n4 (by omega))
          have m3 : -10000000 ≤ nu * b := by have := Int.mul_le_mul_of_nonneg_right n1 (show 0 ≤ b by omega); omega
          have m4 : nu * b ≤ 10000000 * 10000000 := Int.le_trans (Int.mul_le_mul_of_nonneg_right n2 (by omega)) (Int.mul_le_mul_of_nonneg_left q4 (by omega))
          have hk1 : k + 1 ≤ l.length + 1 - ln := by omega
          have Hr := Lib.hid hrat
          have Hp1 := Lib.hid hp1
          have Hst := Lib.hid hst
          clear hrat hp1 hp HG hnp hP hst
          by_cases hc : nu * b < a * de
          · go_wp2_with fail
            refine Hr.out.mono ?_
            rintro e w2 ⟨rfl, hb2⟩
            have HB2 := Lib.hid (HB.out.after hb2)
            clear b0 b1 b2 b3
            go_wp2
            go_roundw
            case rel => exact ⟨k + 1, ((p : Int), a, b), hk1, by rw [Hp1.out], rfl, rfl, rfl, by rw [if_pos hc] at Hst; exact Hst.out, HB2.out, hbl.trans (hb2.mono hbl.size)⟩
            case measure => simp [intOf]; omega
          · go_wp2_with fail
            refine Hr.out.mono ?_
            rintro e w2 ⟨rfl, hb2⟩
            have HB2 := Lib.hid (HB.out.after hb2)
            clear b0 b1 b2 b3
            go_wp2
            go_roundw
            case rel => exact ⟨k + 1, (pl, nu, de), hk1, by rw [Hp1.out], rfl, rfl, rfl, by rw [if_neg (Int.not_lt.2 hc)] at Hst; exact Hst.out, HB2.out, hbl.trans (hb2.mono hbl.size)⟩
            case measure => simp [intOf]; omega
        · have hkn : k = nPl l ⟨sho, (ln : Int), on, of⟩ := by omega
          have he := HG.out
          rw [hkn, Hf4.out] at he
          simp only [Prod.mk.injEq] at he
          obtain ⟨rfl, rfl, rfl⟩ := he
          obtain ⟨v1, v2, v3, v4, _⟩ := raw_bd hsm hg p0 f1 f3
          have hred := fun W => l2Reduce_any (rawN l ⟨sho, (ln : Int), on, of⟩ p0) (rawD l ⟨sho, (ln : Int), on, of⟩ p0) W v1 v3 (by omega) (by omega)
          rw [show redN (rawN l ⟨sho, (ln : Int), on, of⟩ p0) (rawD l ⟨sho, (ln : Int), on, of⟩ p0) = ratN l ⟨sho, (ln : Int), on, of⟩ p0 from rfl, show redD (rawN l ⟨sho, (ln : Int), on, of⟩ p0) (rawD l ⟨sho, (ln : Int), on, of⟩ p0) = ratD l ⟨sho, (ln : Int), on, of⟩ p0 from rfl] at hred
          have Hred := Lib.hid hred
          clear hkn hp hp1 hnp HG hred
          go_wp2_with fail
          refine (Hred.out _).mono ?_
          rintro e w2 ⟨rfl, hd⟩
          have hb2 : Below wr.heap.size wr w2 := below_of_drew hd
          clear hd
          go_wp2
          ((try simp only [Exit.inBlock, Exit.then]); refine bodyPost_ret (results_tmp4 rfl _ _ _) rfl ?_)
          exact ⟨rfl, hbl.trans (hb2.mono hbl.size)⟩

end Go.Proofs.Ytaemdldpcpefbaa
