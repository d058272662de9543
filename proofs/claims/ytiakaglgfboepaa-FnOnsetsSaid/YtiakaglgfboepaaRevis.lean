/-
  Contracts of Revisions. (Printed by gen_A5.py.)
-/
import Derived.Test.YtiakaglgfboepaaPickV
import Derived.BigQuiet
namespace Go.Proofs.Ytiakaglgfboepaa
set_option linter.unusedVariables false
open Go.RowKit

set_option maxRecDepth 100000 in
set_option maxHeartbeats 1000000 in
theorem Revisions1_any (x : Pick) (q : Nat) (A : Option Addr) (c : Nat) (l : List Pick) (W : World) (hq : Blk W q 31 #[.slice A l.length c]) (h : Rd encP 7 W W.heap.size A l) (hl : l.length ≤ 1048576) (hp : picksS l = true) (hx : x ∈ latP l) :
    Calls Try.prog 75 #[.agg #[.int .i64 x.id, .int .i64 x.station, .int .i64 x.wave, .int .i64 x.tick, .int .i64 x.err, .int .i64 x.by_, .int .i64 x.after_], .pointer (some ⟨q, 0, none⟩)] W fun e w' => e = .returned (.bool (humP l x)) ∧ Below W.heap.size W w' := by
  have hlt := hq.lt
  have hB0 : Below W.heap.size W (W.alloc (.cells #[.int .i64 x.id, .int .i64 x.station, .int .i64 x.wave, .int .i64 x.tick, .int .i64 x.err, .int .i64 x.by_, .int .i64 x.after_] 25)) := by (repeat (first | with_reducible exact Below.refl _ _ | with_reducible assumption | with_reducible refine Below.setCell ?_ (by simp <;> omega) _ | with_reducible refine Below.alloc ?_ (by first | omega | (simp <;> omega)) _ | with_reducible refine Below.drew ?_ | with_reducible refine below_drewN ?_ _))
  have hS0 := box7 (Blk.new W 25 #[.int .i64 x.id, .int .i64 x.station, .int .i64 x.wave, .int .i64 x.tick, .int .i64 x.err, .int .i64 x.by_, .int .i64 x.after_])
  have hr := (h.below hB0).more hB0.size
  have c0 := (hq.after hB0).cell 0
  simp only [List.getElem?_toArray, List.getElem?_cons_zero] at c0
  have kq := cell_regrown c0
  have k0 := cell_regrown hS0.1
  have k1 := cell_regrown hS0.2.1
  have k2 := cell_regrown hS0.2.2.1
  have k3 := cell_regrown hS0.2.2.2.1
  have k4 := cell_regrown hS0.2.2.2.2.1
  have k5 := cell_regrown hS0.2.2.2.2.2.1
  have k6 := cell_regrown hS0.2.2.2.2.2.2
  obtain ⟨j, hj, hfj, _⟩ := picksS_fol hp hx
  have hhum : humP l x = (decide (0 < x.by_) && l[j].by_ == 0) := by unfold humP; rw [oldP_of hj hfj]
  rw [hhum]
  have hji : (j : Int) < (l.length : Int) := by omega
  obtain ⟨b, off, rfl, hb, d0, d1, d2, d3, d4, d5, d6⟩ := cellsP hr hj
  have y5 := cell_regrown d5
  have cV : ∀ d os, Calls Try.prog 65 #[.slice (some ⟨b, off, none⟩) l.length c, .int .i64 x.after_] (Go.Sort.grow (redrawn (W.alloc (.cells #[.int .i64 x.id, .int .i64 x.station, .int .i64 x.wave, .int .i64 x.tick, .int .i64 x.err, .int .i64 x.by_, .int .i64 x.after_] 25)) d) os) fun e w'' => e = .returned (.int .i64 (j : Int)) ∧ ∃ p : Regrown, w'' = Go.Sort.grow (redrawn (W.alloc (.cells #[.int .i64 x.id, .int .i64 x.station, .int .i64 x.wave, .int .i64 x.tick, .int .i64 x.err, .int .i64 x.by_, .int .i64 x.after_] 25)) p.d) p.os := fun d os => by
    have q := pickAt_any _ c l (Go.Sort.grow (redrawn (W.alloc (.cells #[.int .i64 x.id, .int .i64 x.station, .int .i64 x.wave, .int .i64 x.tick, .int .i64 x.err, .int .i64 x.by_, .int .i64 x.after_] 25)) d) os) ((hr.below ((below_regrown (W.alloc (.cells #[.int .i64 x.id, .int .i64 x.station, .int .i64 x.wave, .int .i64 x.tick, .int .i64 x.err, .int .i64 x.by_, .int .i64 x.after_] 25)) d os).mono (Nat.le_refl _))).more (below_regrown (W.alloc (.cells #[.int .i64 x.id, .int .i64 x.station, .int .i64 x.wave, .int .i64 x.tick, .int .i64 x.err, .int .i64 x.by_, .int .i64 x.after_] 25)) d os).size) hl x.after_
    rw [hfj] at q
    exact Calls.regrown_of q
  generalize l[j] = y at *
  clear hhum hfj c0 hS0 d0 d1 d2 d3 d4 d5 d6 hq
  cases hby : decide (0 < x.by_) with
  | false =>
    have hby2 : ¬ 0 < x.by_ := by simpa using hby
    simp only [Bool.false_and]
    go_enter Try.func75, Try.ntmps75
    go_wp2_with fail
    refine wp_region_quiet_below (by kernel_rfl) (by kernel_rfl) ?_
    repeat (go_big_quiet_step ((exact cV _ _)))
    refine wpQuiet_nil ?_
    intro _ hw'
    obtain ⟨⟨dq, osq⟩, hw''⟩ := hw'
    subst hw''
    have hBq := hB0.trans ((below_regrown (W.alloc (.cells #[.int .i64 x.id, .int .i64 x.station, .int .i64 x.wave, .int .i64 x.tick, .int .i64 x.err, .int .i64 x.by_, .int .i64 x.after_] 25)) dq osq).mono hB0.size)
    generalize Go.Sort.grow (redrawn (W.alloc (.cells #[.int .i64 x.id, .int .i64 x.station, .int .i64 x.wave, .int .i64 x.tick, .int .i64 x.err, .int .i64 x.by_, .int .i64 x.after_] 25)) dq) osq = wq at *
    go_wp2
    go_ret
    exact ⟨rfl, hBq⟩
  | true =>
    have hby2 : 0 < x.by_ := by simpa using hby
    simp only [Bool.true_and]
    go_enter Try.func75, Try.ntmps75
    go_wp2_with fail
    refine wp_region_quiet_below (by kernel_rfl) (by kernel_rfl) ?_
    repeat (go_big_quiet_step ((exact cV _ _)))
    refine wpQuiet_nil ?_
    intro _ hw'
    obtain ⟨⟨dq, osq⟩, hw''⟩ := hw'
    subst hw''
    have hBq := hB0.trans ((below_regrown (W.alloc (.cells #[.int .i64 x.id, .int .i64 x.station, .int .i64 x.wave, .int .i64 x.tick, .int .i64 x.err, .int .i64 x.by_, .int .i64 x.after_] 25)) dq osq).mono hB0.size)
    generalize Go.Sort.grow (redrawn (W.alloc (.cells #[.int .i64 x.id, .int .i64 x.station, .int .i64 x.wave, .int .i64 x.tick, .int .i64 x.err, .int .i64 x.by_, .int .i64 x.after_] 25)) dq) osq = wq at *
    go_wp2
    go_ret
    exact ⟨rfl, hBq⟩

set_option maxRecDepth 100000 in
set_option maxHeartbeats 1000000 in
theorem Revisions_any (A : Option Addr) (c : Nat) (l : List Pick) (w : World) (h : Rd encP 7 w w.heap.size A l) (hl : l.length ≤ 1048576) (hc : l.length ≤ c ∧ c ≤ maxLen) :
    Calls Try.prog 24 #[.slice A l.length c] w fun e w' => e = .returned (.tuple #[.int .i64 (revH l), .int .i64 (revA l), .bool (picksS l)]) ∧ Below w.heap.size w w' := by
  unfold revH revA
  have hB0 : Below w.heap.size w (w.alloc (.cells #[.slice A l.length c] 31)) := by (repeat (first | with_reducible exact Below.refl _ _ | with_reducible assumption | with_reducible refine Below.setCell ?_ (by simp <;> omega) _ | with_reducible refine Below.alloc ?_ (by first | omega | (simp <;> omega)) _ | with_reducible refine Below.drew ?_ | with_reducible refine below_drewN ?_ _))
  have HQ := Lib.hid (Blk.new w 31 #[.slice A l.length c])
  have hr := (h.below hB0).more hB0.size
  have hmf : ∀ (fn : Fn) (first cap : Array Value) (w : World), (Instr.makeFunc fn first cap).run Try.prog w = .ok (.func fn first cap) w := fun _ _ _ _ => rfl
  cases hp : picksS l with
  | false =>
    simp only [Bool.false_eq_true, if_false]
    go_enter Try.func24, Try.ntmps24
    go_wp2_with (go_at_call 21; refine (ArePicks_any A c l _ hr hl).mono ?_; rintro e w1 ⟨rfl, hb1⟩; rw [hp])
    go_ret3
    exact ⟨rfl, hB0.trans (hb1.mono hB0.size)⟩
  | true =>
    simp only [if_true]
    obtain ⟨M, hM⟩ : ∃ M, (latP l).filter (humP l) = M := ⟨_, rfl⟩
    rw [hM]
    have HM := Lib.hid hM
    have hLl := latP_le l
    have HP := Lib.hid hp
    clear hM
    go_enter Try.func24, Try.ntmps24
    go_wp2_with fail
    refine (ArePicks_any A c l _ hr hl).mono ?_
    rintro e w1 ⟨rfl, hb1⟩
    rw [hp]
    clear hp
    have hr1 := hr.after hb1
    have HQ1 := Lib.hid (HQ.out.after hb1)
    have q0 := HQ1.out.cell 0
    simp only [List.getElem?_toArray, List.getElem?_cons_zero] at q0
    have hB1 := hB0.trans (hb1.mono hB0.size)
    go_wp2_with fail
    refine (replacing_any A c l _ hr1 hl).mono ?_
    rintro e w2 ⟨v, rfl, hown, hb2⟩
    obtain ⟨A2, c2, rfl, hcc2, hrl⟩ := Own.form encP_len hown
    have hr2 := hr1.after hb2
    have HQ2 := Lib.hid (HQ1.out.after hb2)
    have hB2 := hB1.trans (hb2.mono hB1.size)
    have hcon := filterP_any 75 #[.pointer (some ⟨w.heap.size, 0, none⟩)] (enters_of Try.func75 (by kernel_rfl) rfl) A2 c2 (latP l) (humP l) w2 hrl (by omega) (fun W x hx hW => Revisions1_any x w.heap.size A c l W (HQ2.out.after hW) (hr2.after hW) hl HP.out hx)
    rw [HM.out] at hcon
    have Hcon := Lib.hid hcon
    clear hcon hown q0
    go_wp2_with fail
    refine Hcon.out.mono ?_
    rintro e w3 ⟨v, rfl, hown3, hb3⟩
    obtain ⟨A3, c3, rfl, hcc3, _⟩ := Own.form encP_len hown3
    clear hown3
    go_wp2
    go_ret3
    exact ⟨rfl, hB2.trans (hb3.mono hB2.size)⟩

set_option maxRecDepth 100000 in
set_option maxHeartbeats 1000000 in
theorem sRevisions_any (A : Option Addr) (c : Nat) (l : List Pick) (w : World) (h : Rd encP 7 w w.heap.size A l) (hl : l.length ≤ 1048576) (hc : l.length ≤ c ∧ c ≤ maxLen) :
    Calls Try.prog 23 #[.slice A l.length c] w fun e w' => e = .returned (.tuple #[.int .i64 (revH l), .int .i64 (revA l), .bool (picksS l)]) ∧ Below w.heap.size w w' := by
  unfold revH revA
  cases hp : picksS l with
  | false =>
    simp only [Bool.false_eq_true, if_false]
    go_enter Try.func23, Try.ntmps23
    go_wp2_with (go_at_call 63; refine (l7Good_any A c l _ h hl hc).mono ?_; rintro e w1 ⟨rfl, hb1⟩; rw [hp])
    go_ret3
    exact ⟨rfl, hb1⟩
  | true =>
    simp only [if_true]
    obtain ⟨R1, hR1⟩ : ∃ M, ((latP l).filter (humP l)).length = M := ⟨_, rfl⟩
    obtain ⟨R2, hR2⟩ : ∃ M, (latP l).length = M := ⟨_, rfl⟩
    rw [hR1, hR2]
    have HR1 := Lib.hid hR1
    have HR2 := Lib.hid hR2
    have HP := Lib.hid hp
    clear hR1 hR2
    go_enter Try.func23, Try.ntmps23
    go_wp2_with fail
    refine (l7Good_any A c l _ h hl hc).mono ?_
    rintro e w1 ⟨rfl, hb1⟩
    rw [hp]
    clear hp
    have hr1 := h.below hb1
    go_wp2
    go_loop [5, 6, 7] (fun a b i => ∃ (k : Nat) (p q : Nat), k ≤ l.length ∧ i = .int .i64 k ∧ a = .int .i64 (p : Int) ∧ b = .int .i64 (q : Int) ∧ (p ≤ k ∧ q ≤ k) ∧ Hid (((latP (l.take k)).filter (humP l)).length = p ∧ (latP (l.take k)).length = q)) (fun _ _ i => l.length - (intOf i).toNat)
    case atStart => exact ⟨0, 0, 0, Nat.zero_le _, rfl, rfl, rfl, ⟨Nat.le_refl _, Nat.le_refl _⟩, (show _ ∧ _ from ⟨rfl, rfl⟩)⟩
    case round =>
      obtain ⟨k, p, q, hk, rfl, rfl, rfl, ⟨hpk, hqk⟩, Hst⟩ := hrel
      by_cases hlt : k < l.length
      · obtain ⟨b, off, rfl, hb, c0, c1, c2, c3, c4, c5, c6⟩ := cellsP hr1 hlt
        have hsu := latP_succ l k hlt
        obtain ⟨hs1, hs2⟩ := Hst.out
        have hmem : l[k].after_ ≠ 0 → l[k] ∈ latP l := fun h0 => by unfold latP; rw [List.mem_filter]; exact ⟨List.getElem_mem hlt, by simpa using h0⟩
        by_cases h0 : l[k].after_ = 0
        · have h0b : (l[k].after_ == 0) = true := by simpa using h0
          have hnx : latP (l.take (k + 1)) = latP (l.take k) := by rw [hsu]; simp [h0]
          have Hnx : Hid (((latP (l.take (k + 1))).filter (humP l)).length = p ∧ (latP (l.take (k + 1))).length = q) := by rw [hnx]; exact ⟨hs1, hs2⟩
          generalize l[k] = x at *
          clear hnx hsu hmem hs1 hs2 h0
          go_wp2
          go_round
          case rel => exact ⟨k + 1, p, q, by omega, by go_num, rfl, rfl, ⟨by omega, by omega⟩, Hnx.out⟩
          case measure => simp [intOf]; omega
        · have h0b : (l[k].after_ == 0) = false := by simpa using h0
          have hnx : latP (l.take (k + 1)) = latP (l.take k) ++ [l[k]] := by rw [hsu]; simp [h0]
          obtain ⟨j, hj, hfj, _⟩ := picksS_fol HP.out (hmem h0)
          have hji : (j : Int) < (l.length : Int) := by omega
          obtain ⟨b', off', e', hb', d0, d1, d2, d3, d4, d5, d6⟩ := cellsP hr1 hj
          injection e' with e'
          injection e' with e1 e2
          subst e1 e2
          have hhum : humP l l[k] = (decide (0 < l[k].by_) && l[j].by_ == 0) := by unfold humP; rw [oldP_of hj hfj]
          have h1 : ((latP (l.take (k + 1))).filter (humP l)).length = p + (if humP l l[k] then 1 else 0) := by
            rw [hnx, List.filter_append, List.length_append, hs1]
            cases hv : humP l l[k] <;> simp [hv]
          have h2 : (latP (l.take (k + 1))).length = q + 1 := by rw [hnx, List.length_append, hs2]; rfl
          rw [hhum] at h1
          have hfnd := fun W B hW => l7Find_any (some ⟨b, off, none⟩) l.length c l l[k].after_ W B rfl hW hl
          rw [hfj] at hfnd
          generalize l[k] = x at *
          generalize l[j] = y at *
          have Hfnd := Lib.hid hfnd
          have H2 := Lib.hid h2
          clear hnx hsu hmem hs1 hs2 h0 hhum hfj h2 hfnd
          by_cases hby : 0 < x.by_
          · have hd : decide (0 < x.by_) = true := by simpa using hby
            cases hy : (y.by_ == 0) with
            | true =>
              rw [hd, hy] at h1
              have H1 := Lib.hid (show _ = p + 1 from h1)
              clear h1 hd
              go_wp2_with (go_at_call 73; refine (Hfnd.out _ w.heap.size (by assumption)).mono ?_; rintro e w' ⟨rfl, rfl⟩)
              go_round
              case rel => exact ⟨k + 1, p + 1, q + 1, by omega, by go_num, by go_num, by go_num, ⟨by omega, by omega⟩, H1.out, H2.out⟩
              case measure => simp [intOf]; omega
            | false =>
              rw [hd, hy] at h1
              have H1 := Lib.hid (show _ = p from h1)
              clear h1 hd
              go_wp2_with (go_at_call 73; refine (Hfnd.out _ w.heap.size (by assumption)).mono ?_; rintro e w' ⟨rfl, rfl⟩)
              go_round
              case rel => exact ⟨k + 1, p, q + 1, by omega, by go_num, rfl, by go_num, ⟨by omega, by omega⟩, H1.out, H2.out⟩
              case measure => simp [intOf]; omega
          · have hd : decide (0 < x.by_) = false := by simpa using hby
            rw [hd] at h1
            have H1 := Lib.hid (show _ = p from h1)
            clear h1 hd
            go_wp2
            go_round
            case rel => exact ⟨k + 1, p, q + 1, by omega, by go_num, rfl, by go_num, ⟨by omega, by omega⟩, H1.out, H2.out⟩
            case measure => simp [intOf]; omega
      · have he := Hst.out
        rw [List.take_of_length_le (by omega), HR1.out, HR2.out] at he
        have H1 := Lib.hid he.1
        have H2 := Lib.hid he.2
        clear he
        go_wp2
        go_ret3
        exact ⟨by rw [H1.out, H2.out]; rfl, hb1⟩

end Go.Proofs.Ytiakaglgfboepaa
