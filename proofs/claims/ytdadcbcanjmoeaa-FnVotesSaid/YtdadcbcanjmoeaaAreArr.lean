/-
  Contracts of AreArrivals. (Printed by gen_listed.py.)
-/
import Derived.Test.YtdadcbcanjmoeaaIsArr
import Derived.Test.YtdadcbcanjmoeaaArrivalL
namespace Go.Proofs.Ytdadcbcanjmoeaa
set_option linter.unusedVariables false
open Go.RowKit

def ltA (y x : Arrival) : Bool := decide (y.id < x.id)
def goodAs (l : List Arrival) : Bool := chk goodA ltA l && decide ((l.length : Int) ≤ 8)

theorem AreArrivals1_any (x : Arrival) (w : World) : Calls Try.prog 76 #[.agg #[.int .i64 x.id, .int .i64 x.x, .int .i64 x.y, .int .i64 x.tick, .int .i64 x.err]] w fun e w' => e = .returned (.int .i64 x.id) ∧ Below w.heap.size w w' := by
  go_enter Try.func76, Try.ntmps76
  go_wp2
  go_ret
  exact ⟨rfl, (Below.refl _ _).alloc (Nat.le_refl _) _⟩

theorem AreArrivals_any (A : Option Addr) (c : Nat) (l : List Arrival) (w : World) (h : Rd encA 5 w w.heap.size A l) (hl : l.length ≤ 1048576) :
    Calls Try.prog 27 #[.slice A l.length c] w fun e w' => e = .returned (.bool (goodAs l)) ∧ Below w.heap.size w w' := by
  have hcon := areListedA_any 71 76 #[] #[] (enters_of Try.func71 (by kernel_rfl) rfl) (enters_of Try.func76 (by kernel_rfl) rfl) A c l 8 goodA Arrival.id w h hl (fun W x _ _ => isArrival_any x W) (fun W x _ _ => AreArrivals1_any x W)
  have hcon2 : Calls Try.prog 75 #[.slice A l.length c, .int .i64 8, .func (.func 71) #[] #[], .func (.func 76) #[] #[]] w fun e w' => e = .returned (.bool (goodAs l)) ∧ Below w.heap.size w w' := hcon
  have Hcon := Lib.hid hcon2
  clear hcon hcon2
  go_enter Try.func27, Try.ntmps27
  go_wp2_with fail
  refine Hcon.out.mono ?_
  rintro e w3 ⟨rfl, hb3⟩
  go_wp2
  go_ret
  exact ⟨rfl, hb3⟩

set_option maxRecDepth 100000 in
set_option maxHeartbeats 2000000 in
theorem l10Good_any (A : Option Addr) (c : Nat) (l : List Arrival) (w : World) (h : Rd encA 5 w w.heap.size A l) (hl : l.length ≤ 1048576) :
    Calls Try.prog 74 #[.slice A l.length c] w fun e w' => e = .returned (.bool (goodAs l)) ∧ Below w.heap.size w w' := by
  unfold goodAs
  go_enter Try.func74, Try.ntmps74
  go_wp2
  go_loopw [3] (fun i wr => ∃ k : Nat, k ≤ l.length ∧ i = .int .i64 k ∧ Hid ((List.range k).all (okAt goodA ltA l) = true) ∧ Below w.heap.size w wr) (fun i _ => l.length - (intOf i).toNat)
  case atStart => exact ⟨0, Nat.zero_le _, rfl, rfl, Below.refl _ _⟩
  case round =>
    obtain ⟨k, hkl, rfl, Hg, hbl⟩ := hrel
    by_cases hlt : k < l.length
    · obtain ⟨b, off, rfl, hb, c0, c1, c2, c3, c4⟩ := cellsA (h.below hbl) hlt
      have hf := chk_false (ok := goodA) (lt := ltA) hlt
      cases hok : goodA l[k] with
      | false =>
        have hF := Lib.hid (hf (by unfold okAt; simp [hlt, hok]))
        generalize l[k] = x at *
        have k0 := cell_regrown c0
        have k1 := cell_regrown c1
        have k2 := cell_regrown c2
        have k3 := cell_regrown c3
        have k4 := cell_regrown c4
        have cV : ∀ d os, Calls Try.prog 68 #[.agg #[.int .i64 x.id, .int .i64 x.x, .int .i64 x.y, .int .i64 x.tick, .int .i64 x.err]] (Go.Sort.grow (redrawn wr d) os) fun e w'' => e = .returned (.bool false) ∧ ∃ p : Regrown, w'' = Go.Sort.grow (redrawn wr p.d) p.os := fun d os => by (have q := l10One_any x (Go.Sort.grow (redrawn wr d) os)); rw [hok] at q; exact Calls.regrown_of q
        clear hf hok c0 c1 c2 c3 c4
        go_wp2_with fail
        refine wp_region_quiet_below (by kernel_rfl) (by kernel_rfl) ?_
        repeat (go_big_quiet_step ((exact cV _ _)))
        refine wpQuiet_nil ?_
        intro _ hw'
        obtain ⟨⟨dq, osq⟩, hw''⟩ := hw'
        subst hw''
        have hBq := hbl.trans ((below_regrown wr dq osq).mono hbl.size)
        generalize Go.Sort.grow (redrawn wr dq) osq = wq at hBq ⊢
        go_wp2
        go_ret
        exact ⟨ret_bool (by rw [hF.out]; rfl), hBq⟩
      | true =>
        cases k with
        | zero =>
          have Hgo := Lib.hid (chk_step Hg.out (show okAt goodA ltA l 0 = true by rw [okAt_zero hlt]; exact hok))
          generalize l[0] = x at *
          simp only [Nat.zero_mul, Nat.add_zero] at *
          have k0 := cell_regrown c0
          have k1 := cell_regrown c1
          have k2 := cell_regrown c2
          have k3 := cell_regrown c3
          have k4 := cell_regrown c4
          have cV : ∀ d os, Calls Try.prog 68 #[.agg #[.int .i64 x.id, .int .i64 x.x, .int .i64 x.y, .int .i64 x.tick, .int .i64 x.err]] (Go.Sort.grow (redrawn wr d) os) fun e w'' => e = .returned (.bool true) ∧ ∃ p : Regrown, w'' = Go.Sort.grow (redrawn wr p.d) p.os := fun d os => by (have q := l10One_any x (Go.Sort.grow (redrawn wr d) os)); rw [hok] at q; exact Calls.regrown_of q
          clear hf hok c0 c1 c2 c3 c4
          go_wp2_with fail
          refine wp_region_quiet_below (by kernel_rfl) (by kernel_rfl) ?_
          repeat (go_big_quiet_step ((exact cV _ _)))
          refine wpQuiet_nil ?_
          intro _ hw'
          obtain ⟨⟨dq, osq⟩, hw''⟩ := hw'
          subst hw''
          have hBq := hbl.trans ((below_regrown wr dq osq).mono hbl.size)
          generalize Go.Sort.grow (redrawn wr dq) osq = wq at hBq ⊢
          go_wp2
          go_roundw
          case rel => exact ⟨1, by omega, rfl, Hgo.out, hBq⟩
          case measure => simp [intOf]; omega
        | succ k =>
          have hlt' : k < l.length := by omega
          have hcy := h.below hbl
          obtain ⟨b', off', e', hb', d0, d1, d2, d3, d4⟩ := cellsA hcy hlt'
          injection e' with e'
          injection e' with e1 e2
          subst e1 e2
          have ek : ((k + 1 : Nat) : Int) = (k : Int) + 1 := by omega
          have hlti : (k : Int) + 1 < (l.length : Int) := by omega
          have hltj : (k : Int) < (l.length : Int) := by omega
          have hk0 : (0 : Int) ≤ (k : Int) := by omega
          have Ho := Lib.hid (okAt_succ (ok := goodA) (lt := ltA) hlt)
          rw [hok] at Ho
          generalize hx : l[k + 1] = x at *
          generalize hy : l[k] = y at *
          clear hx hy
          have k0 := cell_regrown c0
          have k1 := cell_regrown c1
          have k2 := cell_regrown c2
          have k3 := cell_regrown c3
          have k4 := cell_regrown c4
          have q0 := cell_regrown d0
          have cV : ∀ d os, Calls Try.prog 68 #[.agg #[.int .i64 x.id, .int .i64 x.x, .int .i64 x.y, .int .i64 x.tick, .int .i64 x.err]] (Go.Sort.grow (redrawn wr d) os) fun e w'' => e = .returned (.bool true) ∧ ∃ p : Regrown, w'' = Go.Sort.grow (redrawn wr p.d) p.os := fun d os => by (have q := l10One_any x (Go.Sort.grow (redrawn wr d) os)); rw [hok] at q; exact Calls.regrown_of q
          cases hc : decide (y.id < x.id) with
          | true =>
            have Hgo := Lib.hid (chk_step Hg.out (by rw [Ho.out]; exact hc))
            have hle : decide (x.id ≤ y.id) = false := by simp at hc ⊢; omega
            clear hf hok hc d0 d1 d2 d3 d4 c0 c1 c2 c3 c4
            rw [ek]
            go_wp2_with fail
            refine wp_region_quiet_below (by kernel_rfl) (by kernel_rfl) ?_
            repeat (go_big_quiet_step ((exact cV _ _)))
            refine wpQuiet_nil ?_
            intro _ hw'
            obtain ⟨⟨dq, osq⟩, hw''⟩ := hw'
            subst hw''
            have hBq := hbl.trans ((below_regrown wr dq osq).mono hbl.size)
            generalize Go.Sort.grow (redrawn wr dq) osq = wq at hBq ⊢
            go_wp2
            go_roundw
            case rel => exact ⟨k + 1 + 1, by omega, by go_num, Hgo.out, hBq⟩
            case measure => simp [intOf]; omega
          | false =>
            have hF := Lib.hid (hf (by rw [Ho.out]; exact hc))
            have hle : decide (x.id ≤ y.id) = true := by simp at hc ⊢; omega
            clear hf hok hc d0 d1 d2 d3 d4 c0 c1 c2 c3 c4
            rw [ek]
            go_wp2_with fail
            refine wp_region_quiet_below (by kernel_rfl) (by kernel_rfl) ?_
            repeat (go_big_quiet_step ((exact cV _ _)))
            refine wpQuiet_nil ?_
            intro _ hw'
            obtain ⟨⟨dq, osq⟩, hw''⟩ := hw'
            subst hw''
            have hBq := hbl.trans ((below_regrown wr dq osq).mono hbl.size)
            generalize Go.Sort.grow (redrawn wr dq) osq = wq at hBq ⊢
            go_wp2
            go_ret
            exact ⟨ret_bool (by rw [hF.out]; rfl), hBq⟩
    · have hT := chk_true hkl hlt Hg.out
      obtain rfl : k = l.length := by omega
      have HT := Lib.hid hT
      clear hT
      go_wp2
      go_ret
      exact ⟨ret_bool (by rw [HT.out]; rfl), hbl⟩

theorem sAreArrivals_any (A : Option Addr) (c : Nat) (l : List Arrival) (w : World) (h : Rd encA 5 w w.heap.size A l) (hl : l.length ≤ 1048576) :
    Calls Try.prog 25 #[.slice A l.length c] w fun e w' => e = .returned (.bool (goodAs l)) ∧ Below w.heap.size w w' := by
  have Hcon := Lib.hid (l10Good_any A c l w h hl)
  go_enter Try.func25, Try.ntmps25
  go_wp2_with fail
  refine Hcon.out.mono ?_
  rintro e w3 ⟨rfl, hb3⟩
  go_wp2
  go_ret
  exact ⟨rfl, hb3⟩

end Go.Proofs.Ytdadcbcanjmoeaa
