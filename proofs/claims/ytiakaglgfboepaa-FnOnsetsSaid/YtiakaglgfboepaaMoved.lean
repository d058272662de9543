/-
  Contracts of MovedMost. (Printed by gen_A5.py.)
-/
import Derived.Test.YtiakaglgfboepaaPickV
import Derived.BigQuiet
namespace Go.Proofs.Ytiakaglgfboepaa
set_option linter.unusedVariables false
open Go.RowKit

set_option maxRecDepth 100000 in
set_option maxHeartbeats 1000000 in
theorem MovedMost_any (A : Option Addr) (c : Nat) (l : List Pick) (w : World) (h : Rd encP 7 w w.heap.size A l) (hl : l.length ≤ 1048576) (hc : l.length ≤ c ∧ c ≤ maxLen) :
    Calls Try.prog 28 #[.slice A l.length c] w fun e w' => e = .returned (.tuple #[.int .i64 (mmV l).1, .int .i64 (mmV l).2.1, .bool (mmV l).2.2]) ∧ Below w.heap.size w w' := by
  unfold mmV
  cases hp : picksS l with
  | false =>
    simp only [Bool.false_and, Bool.false_eq_true, if_false]
    go_enter Try.func28, Try.ntmps28
    go_wp2_with (go_at_call 21; refine (ArePicks_any A c l _ h hl).mono ?_; rintro e w1 ⟨rfl, hb1⟩; rw [hp])
    go_ret3
    exact ⟨rfl, hb1⟩
  | true =>
    simp only [Bool.true_and]
    obtain ⟨L, hL⟩ : ∃ L, latP l = L := ⟨_, rfl⟩
    have hLl := latP_le l
    rw [hL] at hLl ⊢
    obtain ⟨⟨r1, r2⟩, hR⟩ : ∃ R, mmT l L = R := ⟨_, rfl⟩
    rw [hR]
    have HL := Lib.hid hL
    have HR := Lib.hid hR
    have HP := Lib.hid hp
    clear hL hR
    obtain ⟨v1, v2, v3, hv⟩ : ∃ a b d, (if decide (0 ≤ r2) = true then (r1, r2, true) else (0, 0, false)) = (a, b, d) := ⟨_, _, _, rfl⟩
    rw [hv]
    simp only
    have Hv := Lib.hid hv
    clear hv
    go_enter Try.func28, Try.ntmps28
    go_wp2_with fail
    refine (ArePicks_any A c l _ h hl).mono ?_
    rintro e w1 ⟨rfl, hb1⟩
    rw [hp]
    clear hp
    have hr1 := h.after hb1
    go_wp2_with fail
    refine (replacing_any A c l _ hr1 hl).mono ?_
    rintro e w2 ⟨v, rfl, hown, hb2⟩
    rw [HL.out] at hown
    obtain ⟨A2, c2, rfl, hcc2, hrl⟩ := Own.form encP_len hown
    have hr2 := hr1.after hb2
    have hB2 := hb1.trans (hb2.mono hb1.size)
    clear hown
    go_wp2
    go_loopw [5, 6, 16] (fun a b i wr => ∃ (k : Nat) (y z : Int), k ≤ L.length ∧ i = .int .i64 k ∧ a = .int .i64 y ∧ b = .int .i64 z ∧ (-1 ≤ z ∧ z ≤ 1000000) ∧ Hid (mmT l (L.take k) = (y, z)) ∧ Below w2.heap.size w2 wr) (fun _ _ i _ => L.length - (intOf i).toNat)
    case atStart => exact ⟨0, _, _, Nat.zero_le _, rfl, rfl, rfl, ⟨by omega, by omega⟩, rfl, Below.refl _ _⟩
    case round =>
      obtain ⟨k, y, z, hk, rfl, rfl, rfl, ⟨hz1, hz2⟩, Hst, hbl⟩ := hrel
      by_cases hlt : k < L.length
      · obtain ⟨b, off, rfl, hb, c0, c1, c2, c3, c4, c5, c6⟩ := cellsP (hrl.below hbl) hlt
        have hmem : L[k] ∈ latP l := by rw [HL.out]; exact List.getElem_mem hlt
        obtain ⟨j, hj, hfj, _⟩ := picksS_fol HP.out hmem
        have hmb := movP_bd HP.out hmem
        have hsu := mmT_succ l L k hlt
        rw [Hst.out] at hsu
        unfold mmStep at hsu
        have hmv : movP l L[k] = absI (L[k].tick - l[j].tick) := by unfold movP; rw [oldP_of hj hfj]
        have gx := goodP_iff.1 (picksS_good HP.out (latP_mem hmem).1)
        have gy := goodP_iff.1 (picksS_get HP.out hj)
        have hji : (j : Int) < (l.length : Int) := by omega
        have hrw := (hr2.below hbl).more hbl.size
        obtain ⟨b', off', hA', hb', e0, e1, e2, e3, e4, e5, e6⟩ := cellsP hrw hj
        subst hA'
        obtain ⟨x, hx⟩ : ∃ x, L[k] = x := ⟨_, rfl⟩
        rw [hx] at c0 c1 c2 c3 c4 c5 c6 hfj hmb hsu hmv gx
        clear hx hmem
        have hblA := hbl.alloc hbl.size (.cells #[.int .i64 x.id, .int .i64 x.station, .int .i64 x.wave, .int .i64 x.tick, .int .i64 x.err, .int .i64 x.by_, .int .i64 x.after_] 25)
        have hS0 := box7 (Blk.new wr 25 #[.int .i64 x.id, .int .i64 x.station, .int .i64 x.wave, .int .i64 x.tick, .int .i64 x.err, .int .i64 x.by_, .int .i64 x.after_])
        have hB0 : Below wr.heap.size wr (wr.alloc (.cells #[.int .i64 x.id, .int .i64 x.station, .int .i64 x.wave, .int .i64 x.tick, .int .i64 x.err, .int .i64 x.by_, .int .i64 x.after_] 25)) := by (repeat (first | with_reducible exact Below.refl _ _ | with_reducible assumption | with_reducible refine Below.setCell ?_ (by simp <;> omega) _ | with_reducible refine Below.alloc ?_ (by first | omega | (simp <;> omega)) _ | with_reducible refine Below.drew ?_ | with_reducible refine below_drewN ?_ _))
        have k0 := cell_regrown hS0.1
        have k1 := cell_regrown hS0.2.1
        have k2 := cell_regrown hS0.2.2.1
        have k3 := cell_regrown hS0.2.2.2.1
        have k4 := cell_regrown hS0.2.2.2.2.1
        have k5 := cell_regrown hS0.2.2.2.2.2.1
        have k6 := cell_regrown hS0.2.2.2.2.2.2
        have q3 := cell_regrown (w := (wr.alloc (.cells #[.int .i64 x.id, .int .i64 x.station, .int .i64 x.wave, .int .i64 x.tick, .int .i64 x.err, .int .i64 x.by_, .int .i64 x.after_] 25))) (keepCell hB0 e3)
        have cV : ∀ d os, Calls Try.prog 65 #[.slice (some ⟨b', off', none⟩) l.length c, .int .i64 x.after_] (Go.Sort.grow (redrawn (wr.alloc (.cells #[.int .i64 x.id, .int .i64 x.station, .int .i64 x.wave, .int .i64 x.tick, .int .i64 x.err, .int .i64 x.by_, .int .i64 x.after_] 25)) d) os) fun e w'' => e = .returned (.int .i64 (j : Int)) ∧ ∃ p : Regrown, w'' = Go.Sort.grow (redrawn (wr.alloc (.cells #[.int .i64 x.id, .int .i64 x.station, .int .i64 x.wave, .int .i64 x.tick, .int .i64 x.err, .int .i64 x.by_, .int .i64 x.after_] 25)) p.d) p.os := fun d os => by
          have q := pickAt_any _ c l (Go.Sort.grow (redrawn (wr.alloc (.cells #[.int .i64 x.id, .int .i64 x.station, .int .i64 x.wave, .int .i64 x.tick, .int .i64 x.err, .int .i64 x.by_, .int .i64 x.after_] 25)) d) os) ((hrw.below (hB0.trans ((below_regrown (wr.alloc (.cells #[.int .i64 x.id, .int .i64 x.station, .int .i64 x.wave, .int .i64 x.tick, .int .i64 x.err, .int .i64 x.by_, .int .i64 x.after_] 25)) d os).mono hB0.size))).more (Nat.le_trans hB0.size (below_regrown (wr.alloc (.cells #[.int .i64 x.id, .int .i64 x.station, .int .i64 x.wave, .int .i64 x.tick, .int .i64 x.err, .int .i64 x.by_, .int .i64 x.after_] 25)) d os).size)) hl x.after_
          rw [hfj] at q
          exact Calls.regrown_of q
        rw [hmv] at hsu hmb
        generalize l[j] = o at *
        obtain ⟨_, _, _, ⟨t1, t2⟩, _⟩ := gx
        obtain ⟨_, _, _, ⟨u1, u2⟩, _⟩ := gy
        have s1 : IntKind.i64.wrap (x.tick - o.tick) = x.tick - o.tick := IntWalk.i64_in _ (by omega)
        have cX : ∀ d os, Calls Try.prog 78 #[.int .i64 (x.tick - o.tick)] (Go.Sort.grow (redrawn (wr.alloc (.cells #[.int .i64 x.id, .int .i64 x.station, .int .i64 x.wave, .int .i64 x.tick, .int .i64 x.err, .int .i64 x.by_, .int .i64 x.after_] 25)) d) os) fun e w'' => e = .returned (.int .i64 (absI (x.tick - o.tick))) ∧ ∃ p : Regrown, w'' = Go.Sort.grow (redrawn (wr.alloc (.cells #[.int .i64 x.id, .int .i64 x.station, .int .i64 x.wave, .int .i64 x.tick, .int .i64 x.err, .int .i64 x.by_, .int .i64 x.after_] 25)) p.d) p.os := fun d os => same_regrown (abs_any _ _ (by omega) (by omega))
        generalize absI (x.tick - o.tick) = d at *
        have Hsu := Lib.hid hsu
        have Hx0 := Lib.hid hS0
        clear hsu hmv hfj e0 e1 e2 e3 e4 e5 e6 hS0 hrw
        by_cases hc : z < d
        · go_wp2_with fail
          refine wp_region_quiet_below (by kernel_rfl) (by kernel_rfl) ?_
          repeat (go_big_quiet_step ((first | exact cV _ _ | exact cX _ _)))
          refine wpQuiet_nil ?_
          intro _ hw'
          obtain ⟨⟨dq, osq⟩, hw''⟩ := hw'
          subst hw''
          have hBq := hblA.trans ((below_regrown (wr.alloc (.cells #[.int .i64 x.id, .int .i64 x.station, .int .i64 x.wave, .int .i64 x.tick, .int .i64 x.err, .int .i64 x.by_, .int .i64 x.after_] 25)) dq osq).mono hblA.size)
          have z0 := k0 dq osq
          generalize Go.Sort.grow (redrawn (wr.alloc (.cells #[.int .i64 x.id, .int .i64 x.station, .int .i64 x.wave, .int .i64 x.tick, .int .i64 x.err, .int .i64 x.by_, .int .i64 x.after_] 25)) dq) osq = wq at hBq z0 ⊢
          clear cV cX k0 k1 k2 k3 k4 k5 k6 q3 c0 c1 c2 c3 c4 c5 c6 s1
          go_wp2
          go_roundw
          case rel => exact ⟨k + 1, x.id, d, by omega, by go_num, rfl, rfl, ⟨by omega, by omega⟩, by rw [if_pos hc] at Hsu; exact Hsu.out, hBq⟩
          case measure => simp [intOf]; omega
        · go_wp2_with fail
          refine wp_region_quiet_below (by kernel_rfl) (by kernel_rfl) ?_
          repeat (go_big_quiet_step ((first | exact cV _ _ | exact cX _ _)))
          refine wpQuiet_nil ?_
          intro _ hw'
          obtain ⟨⟨dq, osq⟩, hw''⟩ := hw'
          subst hw''
          have hBq := hblA.trans ((below_regrown (wr.alloc (.cells #[.int .i64 x.id, .int .i64 x.station, .int .i64 x.wave, .int .i64 x.tick, .int .i64 x.err, .int .i64 x.by_, .int .i64 x.after_] 25)) dq osq).mono hblA.size)
          generalize Go.Sort.grow (redrawn (wr.alloc (.cells #[.int .i64 x.id, .int .i64 x.station, .int .i64 x.wave, .int .i64 x.tick, .int .i64 x.err, .int .i64 x.by_, .int .i64 x.after_] 25)) dq) osq = wq at hBq ⊢
          clear cV cX k0 k1 k2 k3 k4 k5 k6 q3 c0 c1 c2 c3 c4 c5 c6 s1
          go_wp2
          go_roundw
          case rel => exact ⟨k + 1, y, z, by omega, by go_num, rfl, rfl, ⟨by omega, by omega⟩, by rw [if_neg (by omega)] at Hsu; exact Hsu.out, hBq⟩
          case measure => simp [intOf]; omega
      · have he := Hst.out
        rw [List.take_of_length_le (by omega), HR.out, Prod.mk.injEq] at he
        obtain ⟨rfl, rfl⟩ := he
        have hB3 := hB2.trans (hbl.mono hB2.size)
        have hv := Hv.out
        by_cases hz : r2 < 0
        · rw [show decide (0 ≤ r2) = false by simp; omega] at hv
          have H1 := Lib.hid (show ((0 : Int), (0 : Int), false) = (v1, v2, v3) from hv)
          clear hv
          go_wp2
          go_ret3
          exact ⟨by have q := H1.out; simp only [Prod.mk.injEq] at q; rw [← q.1, ← q.2.1, ← q.2.2]; rfl, hB3⟩
        · rw [show decide (0 ≤ r2) = true by simp; omega] at hv
          have H1 := Lib.hid (show (r1, r2, true) = (v1, v2, v3) from hv)
          clear hv
          go_wp2
          go_ret3
          exact ⟨by have q := H1.out; simp only [Prod.mk.injEq] at q; rw [← q.1, ← q.2.1, ← q.2.2]; rfl, hB3⟩

set_option maxRecDepth 100000 in
set_option maxHeartbeats 1000000 in
theorem sMovedMost_any (A : Option Addr) (c : Nat) (l : List Pick) (w : World) (h : Rd encP 7 w w.heap.size A l) (hl : l.length ≤ 1048576) (hc : l.length ≤ c ∧ c ≤ maxLen) :
    Calls Try.prog 27 #[.slice A l.length c] w fun e w' => e = .returned (.tuple #[.int .i64 (mmV l).1, .int .i64 (mmV l).2.1, .bool (mmV l).2.2]) ∧ Below w.heap.size w w' := by
  unfold mmV
  cases hp : picksS l with
  | false =>
    simp only [Bool.false_and, Bool.false_eq_true, if_false]
    go_enter Try.func27, Try.ntmps27
    go_wp2_with (go_at_call 63; refine (l7Good_any A c l _ h hl hc).mono ?_; rintro e w1 ⟨rfl, hb1⟩; rw [hp])
    go_ret3
    exact ⟨rfl, hb1⟩
  | true =>
    simp only [Bool.true_and]
    obtain ⟨⟨r1, r2⟩, hR⟩ : ∃ R, mmT l (latP l) = R := ⟨_, rfl⟩
    rw [hR]
    have HR := Lib.hid hR
    have HP := Lib.hid hp
    clear hR
    obtain ⟨v1, v2, v3, hv⟩ : ∃ a b d, (if decide (0 ≤ r2) = true then (r1, r2, true) else (0, 0, false)) = (a, b, d) := ⟨_, _, _, rfl⟩
    rw [hv]
    simp only
    have Hv := Lib.hid hv
    clear hv
    go_enter Try.func27, Try.ntmps27
    go_wp2_with fail
    refine (l7Good_any A c l _ h hl hc).mono ?_
    rintro e w1 ⟨rfl, hb1⟩
    rw [hp]
    clear hp
    have hr1 := h.below hb1
    go_wp2
    go_loopw [5, 6, 7] (fun a b i wr => ∃ (k : Nat) (y z : Int), k ≤ l.length ∧ i = .int .i64 k ∧ a = .int .i64 y ∧ b = .int .i64 z ∧ (-1 ≤ z ∧ z ≤ 1000000) ∧ Hid (mmT l (latP (l.take k)) = (y, z)) ∧ ∃ n, wr = w1.drewN n) (fun _ _ i _ => l.length - (intOf i).toNat)
    case atStart => exact ⟨0, _, _, Nat.zero_le _, rfl, rfl, rfl, ⟨by omega, by omega⟩, rfl, 0, rfl⟩
    case round =>
      obtain ⟨k, y, z, hk, rfl, rfl, rfl, ⟨hz1, hz2⟩, Hst, nd, hwr⟩ := hrel
      have hrr : Rd encP 7 wr w.heap.size A l := hwr ▸ hr1.drewN nd
      have hBr : Below w.heap.size w wr := hwr ▸ below_drewN hb1 nd
      have Hwr := Lib.hid hwr
      clear hwr
      by_cases hlt : k < l.length
      · obtain ⟨b, off, rfl, hb, c0, c1, c2, c3, c4, c5, c6⟩ := cellsP hrr hlt
        have hsu := latP_succ l k hlt
        have hmem : l[k].after_ ≠ 0 → l[k] ∈ latP l := fun h0 => by unfold latP; rw [List.mem_filter]; exact ⟨List.getElem_mem hlt, by simpa using h0⟩
        by_cases h0 : l[k].after_ = 0
        · have h0b : (l[k].after_ == 0) = true := by simpa using h0
          have hnx : latP (l.take (k + 1)) = latP (l.take k) := by rw [hsu]; simp [h0]
          have Hnx : Hid (mmT l (latP (l.take (k + 1))) = (y, z)) := by rw [hnx]; exact Hst.out
          generalize l[k] = x at *
          clear hnx hsu hmem h0
          go_wp2
          go_roundw
          case rel => exact ⟨k + 1, y, z, by omega, by go_num, rfl, rfl, ⟨by omega, by omega⟩, Hnx.out, nd, Hwr.out⟩
          case measure => simp [intOf]; omega
        · have h0b : (l[k].after_ == 0) = false := by simpa using h0
          have hnx : mmT l (latP (l.take (k + 1))) = mmStep l (y, z) l[k] := by rw [hsu, if_pos (by simpa using h0), mmT_snoc, Hst.out]
          obtain ⟨j, hj, hfj, _⟩ := picksS_fol HP.out (hmem h0)
          have hmb := movP_bd HP.out (hmem h0)
          have hji : (j : Int) < (l.length : Int) := by omega
          obtain ⟨b', off', e', hb', d0, d1, d2, d3, d4, d5, d6⟩ := cellsP hrr hj
          injection e' with e'
          injection e' with e1 e2
          subst e1 e2
          unfold mmStep at hnx
          have hmv : movP l l[k] = absI (l[k].tick - l[j].tick) := by unfold movP; rw [oldP_of hj hfj]
          have gx := goodP_iff.1 (picksS_get HP.out hlt)
          have gy := goodP_iff.1 (picksS_get HP.out hj)
          rw [hmv] at hnx hmb
          have hfnd := fun W B hW => l7Find_any (some ⟨b, off, none⟩) l.length c l l[k].after_ W B rfl hW hl
          rw [hfj] at hfnd
          generalize l[k] = x at *
          generalize l[j] = o at *
          obtain ⟨_, _, _, ⟨t1, t2⟩, _⟩ := gx
          obtain ⟨_, _, _, ⟨u1, u2⟩, _⟩ := gy
          have s1 : IntKind.i64.wrap (x.tick - o.tick) = x.tick - o.tick := IntWalk.i64_in _ (by omega)
          have habs : max (x.tick - o.tick) (-(x.tick - o.tick)) = absI (x.tick - o.tick) := by unfold absI; omega
          have hmo := fun W => l1Most_any (x.tick - o.tick) (-(x.tick - o.tick)) W
          rw [habs] at hmo
          generalize hdd : absI (x.tick - o.tick) = d at *
          have Hnx := Lib.hid hnx
          have Hfnd := Lib.hid hfnd
          have Hmo := Lib.hid hmo
          have hBd : -1000000 ≤ x.tick - o.tick ∧ x.tick - o.tick ≤ 1000000 := by omega
          obtain ⟨i1, i2⟩ := hBd
          clear hnx hsu hmem hmv hfj h0 hfnd hmo habs hdd
          have hc' := Nat.lt_irrefl 0
          by_cases hcd : z < d
          · go_wp2_with fail
            go_quiet ((go_at_call 73; exact quiet_left (Hfnd.out _ w.heap.size (hrr.drewN _))))
            clear s1
            generalize hT : x.tick - o.tick = T at *
            clear hT
            go_wp2_with (go_at_call 76; refine (Hmo.out _).mono ?_; rintro e w' ⟨rfl, rfl⟩)
            go_roundw
            case rel => exact ⟨k + 1, x.id, d, by omega, by go_num, rfl, rfl, ⟨by omega, by omega⟩, by rw [if_pos hcd] at Hnx; exact Hnx.out, _, by rw [Hwr.out, World.drewN_drewN]⟩
            case measure => simp [intOf]; omega
          · go_wp2_with fail
            go_quiet ((go_at_call 73; exact quiet_left (Hfnd.out _ w.heap.size (hrr.drewN _))))
            clear s1
            generalize hT : x.tick - o.tick = T at *
            clear hT
            go_wp2_with (go_at_call 76; refine (Hmo.out _).mono ?_; rintro e w' ⟨rfl, rfl⟩)
            go_roundw
            case rel => exact ⟨k + 1, y, z, by omega, by go_num, rfl, rfl, ⟨by omega, by omega⟩, by rw [if_neg (by omega)] at Hnx; exact Hnx.out, _, by rw [Hwr.out, World.drewN_drewN]⟩
            case measure => simp [intOf]; omega
      · have he := Hst.out
        rw [List.take_of_length_le (by omega), HR.out, Prod.mk.injEq] at he
        obtain ⟨rfl, rfl⟩ := he
        have hv := Hv.out
        by_cases hz : r2 < 0
        · rw [show decide (0 ≤ r2) = false by simp; omega] at hv
          have H1 := Lib.hid (show ((0 : Int), (0 : Int), false) = (v1, v2, v3) from hv)
          clear hv
          go_wp2
          go_ret3
          exact ⟨by have q := H1.out; simp only [Prod.mk.injEq] at q; rw [← q.1, ← q.2.1, ← q.2.2]; rfl, hBr⟩
        · rw [show decide (0 ≤ r2) = true by simp; omega] at hv
          have H1 := Lib.hid (show (r1, r2, true) = (v1, v2, v3) from hv)
          clear hv
          go_wp2
          go_ret3
          exact ⟨by have q := H1.out; simp only [Prod.mk.injEq] at q; rw [← q.1, ← q.2.1, ← q.2.2]; rfl, hBr⟩

end Go.Proofs.Ytiakaglgfboepaa
