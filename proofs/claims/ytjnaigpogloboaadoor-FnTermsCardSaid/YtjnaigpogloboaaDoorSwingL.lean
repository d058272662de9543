/-
  Contracts of areListed and filter over slices of Swing. (Printed by gen_list.py.)
-/
import Derived.Test.YtjnaigpogloboaaDoorChk
import Derived.Test.YtjnaigpogloboaaDoorSwing
import Derived.Lib.QuietBelow
import Derived.BigQuiet
namespace Go.Proofs.YtjnaigpogloboaaDoor
set_option linter.unusedVariables false
open Go.RowKit

def KeyS (g : Nat) (lb : Array Value) (l : List Swing) (key : Swing → Int) (w : World) : Prop :=
  ∀ (W : World) (x : Swing), x ∈ l → Below w.heap.size w W → Calls Tryd.prog g (#[.agg #[.int .i64 x.station, .int .i64 x.far, .int .i64 x.width, .int .i64 x.term]] ++ lb) W fun e w' => e = .returned (.int .i64 (key x)) ∧ Below W.heap.size W w'
theorem encS_one (e : Swing) : ∀ u ∈ encS e, u.oneCell' = true := by intro u hu; simp [encS] at hu; rcases hu with rfl | rfl | rfl | rfl <;> rfl

set_option maxRecDepth 100000 in
set_option maxHeartbeats 2000000 in
theorem areListedS_any (g g2 : Nat) (lb lb2 : Array Value) (eg : Enters Tryd.prog g) (eg2 : Enters Tryd.prog g2) (A : Option Addr) (c : Nat) (l : List Swing) (most : Int) (ok : Swing → Bool) (key : Swing → Int) (w : World) (h : Rd encS 4 w w.heap.size A l) (hl : l.length ≤ 1048576)
    (hp : PredS g lb l ok w) (hk : KeyS g2 lb2 l key w) :
    Calls Tryd.prog 86 #[.slice A l.length c, .int .i64 most, .func (.func g) #[] lb, .func (.func g2) #[] lb2] w fun e w' => e = .returned (.bool (chk ok (fun y x => decide (key y < key x)) l && decide ((l.length : Int) ≤ most))) ∧ Below w.heap.size w w' := by
  have eg' : ∀ args w, (callFunc g args).run Tryd.prog w = .ok (.enter g args) w := eg
  have eg2' : ∀ args w, (callFunc g2 args).run Tryd.prog w = .ok (.enter g2 args) w := eg2
  go_enter Tryd.func86, Tryd.ntmps86
  go_wp2
  go_loopw [13] (fun i wr => ∃ k : Nat, k ≤ l.length ∧ i = .int .i64 k ∧ Hid ((List.range k).all (okAt ok (fun y x => decide (key y < key x)) l) = true) ∧ Below w.heap.size w wr) (fun i _ => l.length - (intOf i).toNat)
  case atStart => exact ⟨0, Nat.zero_le _, rfl, rfl, Below.refl _ _⟩
  case round =>
    obtain ⟨k, hkl, rfl, Hg, hbl⟩ := hrel
    by_cases hlt : k < l.length
    · obtain ⟨b, off, rfl, hb, c0, c1, c2, c3⟩ := cellsS (h.below hbl) hlt
      have hf := chk_false (ok := ok) (lt := fun y x => decide (key y < key x)) hlt
      have hmx := List.getElem_mem hlt
      cases hok : ok l[k] with
      | false =>
        have hF := Lib.hid (hf (by unfold okAt; simp [hlt, hok]))
        generalize l[k] = x at *
        have hblA := hbl.alloc hbl.size (.cells #[.int .i64 x.station, .int .i64 x.far, .int .i64 x.width, .int .i64 x.term] 37)
        have hS0 := box4 (Blk.new wr 37 #[.int .i64 x.station, .int .i64 x.far, .int .i64 x.width, .int .i64 x.term])
        have k0 := cell_regrown hS0.1
        have k1 := cell_regrown hS0.2.1
        have k2 := cell_regrown hS0.2.2.1
        have k3 := cell_regrown hS0.2.2.2
        have cV : ∀ d os, Calls Tryd.prog g (#[.agg #[.int .i64 x.station, .int .i64 x.far, .int .i64 x.width, .int .i64 x.term]] ++ lb) (Go.Sort.grow (redrawn (wr.alloc (.cells #[.int .i64 x.station, .int .i64 x.far, .int .i64 x.width, .int .i64 x.term] 37)) d) os) fun e w'' => e = .returned (.bool false) ∧ ∃ p : Regrown, w'' = Go.Sort.grow (redrawn (wr.alloc (.cells #[.int .i64 x.station, .int .i64 x.far, .int .i64 x.width, .int .i64 x.term] 37)) p.d) p.os := fun d os => by (have q := hp _ x hmx (hblA.trans ((below_regrown _ d os).mono hblA.size))); (try rw [hok] at q); exact Calls.regrown_of q
        have cX := True.intro
        have cY := True.intro
        clear hp hk hf hok hS0
        have hblA := hblA
        go_wp2_with fail
        refine wp_region_quiet_below (by kernel_rfl) (by kernel_rfl) ?_
        repeat (go_big_quiet_step ((first | exact cV _ _ | exact cX _ _ | exact cY _ _)))
        refine wpQuiet_nil ?_
        intro _ hw'
        obtain ⟨⟨dq, osq⟩, hw''⟩ := hw'
        subst hw''
        have hBq := hblA.trans ((below_regrown (wr.alloc (.cells #[.int .i64 x.station, .int .i64 x.far, .int .i64 x.width, .int .i64 x.term] 37)) dq osq).mono hblA.size)
        generalize Go.Sort.grow (redrawn (wr.alloc (.cells #[.int .i64 x.station, .int .i64 x.far, .int .i64 x.width, .int .i64 x.term] 37)) dq) osq = wq at hBq ⊢
        go_wp2
        go_ret
        exact ⟨ret_bool (by rw [hF.out]; rfl), hBq⟩
      | true =>
        cases k with
        | zero =>
          have Hgo := Lib.hid (chk_step Hg.out (show okAt ok (fun y x => decide (key y < key x)) l 0 = true by rw [okAt_zero hlt]; exact hok))
          generalize l[0] = x at *
          have hblA := hbl.alloc hbl.size (.cells #[.int .i64 x.station, .int .i64 x.far, .int .i64 x.width, .int .i64 x.term] 37)
          have hS0 := box4 (Blk.new wr 37 #[.int .i64 x.station, .int .i64 x.far, .int .i64 x.width, .int .i64 x.term])
          have k0 := cell_regrown hS0.1
          have k1 := cell_regrown hS0.2.1
          have k2 := cell_regrown hS0.2.2.1
          have k3 := cell_regrown hS0.2.2.2
          have cV : ∀ d os, Calls Tryd.prog g (#[.agg #[.int .i64 x.station, .int .i64 x.far, .int .i64 x.width, .int .i64 x.term]] ++ lb) (Go.Sort.grow (redrawn (wr.alloc (.cells #[.int .i64 x.station, .int .i64 x.far, .int .i64 x.width, .int .i64 x.term] 37)) d) os) fun e w'' => e = .returned (.bool true) ∧ ∃ p : Regrown, w'' = Go.Sort.grow (redrawn (wr.alloc (.cells #[.int .i64 x.station, .int .i64 x.far, .int .i64 x.width, .int .i64 x.term] 37)) p.d) p.os := fun d os => by (have q := hp _ x hmx (hblA.trans ((below_regrown _ d os).mono hblA.size))); (try rw [hok] at q); exact Calls.regrown_of q
          have cX := True.intro
          have cY := True.intro
          clear hp hk hf hok hS0
          simp only [Nat.zero_mul, Nat.add_zero] at *
          go_wp2_with fail
          refine wp_region_quiet_below (by kernel_rfl) (by kernel_rfl) ?_
          repeat (go_big_quiet_step ((first | exact cV _ _ | exact cX _ _ | exact cY _ _)))
          refine wpQuiet_nil ?_
          intro _ hw'
          obtain ⟨⟨dq, osq⟩, hw''⟩ := hw'
          subst hw''
          have hBq := hblA.trans ((below_regrown (wr.alloc (.cells #[.int .i64 x.station, .int .i64 x.far, .int .i64 x.width, .int .i64 x.term] 37)) dq osq).mono hblA.size)
          generalize Go.Sort.grow (redrawn (wr.alloc (.cells #[.int .i64 x.station, .int .i64 x.far, .int .i64 x.width, .int .i64 x.term] 37)) dq) osq = wq at hBq ⊢
          go_wp2
          go_roundw
          case rel => exact ⟨1, by omega, rfl, Hgo.out, hBq⟩
          case measure => simp [intOf]; omega
        | succ k =>
          have hlt' : k < l.length := by omega
          have hmy := List.getElem_mem hlt'
          have hcy := h.below hbl
          obtain ⟨b', off', e', hb', d0, d1, d2, d3⟩ := cellsS hcy hlt'
          injection e' with e'
          injection e' with e1 e2
          subst e1 e2
          have ek : ((k + 1 : Nat) : Int) = (k : Int) + 1 := by omega
          have hlti : (k : Int) + 1 < (l.length : Int) := by omega
          have hltj : (k : Int) < (l.length : Int) := by omega
          have hk0 : (0 : Int) ≤ (k : Int) := by omega
          have Ho := Lib.hid (okAt_succ (ok := ok) (lt := fun y x => decide (key y < key x)) hlt)
          rw [hok] at Ho
          generalize hx : l[k + 1] = x at *
          generalize hy : l[k] = y at *
          clear hx hy
          have hblA := hbl.alloc hbl.size (.cells #[.int .i64 x.station, .int .i64 x.far, .int .i64 x.width, .int .i64 x.term] 37)
          have hS0 := box4 (Blk.new wr 37 #[.int .i64 x.station, .int .i64 x.far, .int .i64 x.width, .int .i64 x.term])
          have k0 := cell_regrown hS0.1
          have k1 := cell_regrown hS0.2.1
          have k2 := cell_regrown hS0.2.2.1
          have k3 := cell_regrown hS0.2.2.2
          have q0 := cell_regrown (w := (wr.alloc (.cells #[.int .i64 x.station, .int .i64 x.far, .int .i64 x.width, .int .i64 x.term] 37))) (keepCell ((Below.refl _ _).alloc (Nat.le_refl _) _) d0)
          have q1 := cell_regrown (w := (wr.alloc (.cells #[.int .i64 x.station, .int .i64 x.far, .int .i64 x.width, .int .i64 x.term] 37))) (keepCell ((Below.refl _ _).alloc (Nat.le_refl _) _) d1)
          have q2 := cell_regrown (w := (wr.alloc (.cells #[.int .i64 x.station, .int .i64 x.far, .int .i64 x.width, .int .i64 x.term] 37))) (keepCell ((Below.refl _ _).alloc (Nat.le_refl _) _) d2)
          have q3 := cell_regrown (w := (wr.alloc (.cells #[.int .i64 x.station, .int .i64 x.far, .int .i64 x.width, .int .i64 x.term] 37))) (keepCell ((Below.refl _ _).alloc (Nat.le_refl _) _) d3)
          have cV : ∀ d os, Calls Tryd.prog g (#[.agg #[.int .i64 x.station, .int .i64 x.far, .int .i64 x.width, .int .i64 x.term]] ++ lb) (Go.Sort.grow (redrawn (wr.alloc (.cells #[.int .i64 x.station, .int .i64 x.far, .int .i64 x.width, .int .i64 x.term] 37)) d) os) fun e w'' => e = .returned (.bool true) ∧ ∃ p : Regrown, w'' = Go.Sort.grow (redrawn (wr.alloc (.cells #[.int .i64 x.station, .int .i64 x.far, .int .i64 x.width, .int .i64 x.term] 37)) p.d) p.os := fun d os => by (have q := hp _ x hmx (hblA.trans ((below_regrown _ d os).mono hblA.size))); (try rw [hok] at q); exact Calls.regrown_of q
          have cX : ∀ d os, Calls Tryd.prog g2 (#[.agg #[.int .i64 x.station, .int .i64 x.far, .int .i64 x.width, .int .i64 x.term]] ++ lb2) (Go.Sort.grow (redrawn (wr.alloc (.cells #[.int .i64 x.station, .int .i64 x.far, .int .i64 x.width, .int .i64 x.term] 37)) d) os) fun e w'' => e = .returned (.int .i64 (key x)) ∧ ∃ p : Regrown, w'' = Go.Sort.grow (redrawn (wr.alloc (.cells #[.int .i64 x.station, .int .i64 x.far, .int .i64 x.width, .int .i64 x.term] 37)) p.d) p.os := fun d os => by (have q := hk _ x hmx (hblA.trans ((below_regrown _ d os).mono hblA.size))); (try rw [hok] at q); exact Calls.regrown_of q
          have cY : ∀ d os, Calls Tryd.prog g2 (#[.agg #[.int .i64 y.station, .int .i64 y.far, .int .i64 y.width, .int .i64 y.term]] ++ lb2) (Go.Sort.grow (redrawn (wr.alloc (.cells #[.int .i64 x.station, .int .i64 x.far, .int .i64 x.width, .int .i64 x.term] 37)) d) os) fun e w'' => e = .returned (.int .i64 (key y)) ∧ ∃ p : Regrown, w'' = Go.Sort.grow (redrawn (wr.alloc (.cells #[.int .i64 x.station, .int .i64 x.far, .int .i64 x.width, .int .i64 x.term] 37)) p.d) p.os := fun d os => by (have q := hk _ y hmy (hblA.trans ((below_regrown _ d os).mono hblA.size))); (try rw [hok] at q); exact Calls.regrown_of q
          cases hc : decide (key y < key x) with
          | true =>
            have Hgo := Lib.hid (chk_step Hg.out (by rw [Ho.out, hc]; rfl))
            have hle : decide (key x ≤ key y) = false := by simp at hc ⊢; omega
            clear hp hk hf hok hS0 hc d0 d1 d2 d3
            rw [ek]
            go_wp2_with fail
            refine wp_region_quiet_below (by kernel_rfl) (by kernel_rfl) ?_
            repeat (go_big_quiet_step ((first | exact cV _ _ | exact cX _ _ | exact cY _ _)))
            refine wpQuiet_nil ?_
            intro _ hw'
            obtain ⟨⟨dq, osq⟩, hw''⟩ := hw'
            subst hw''
            have hBq := hblA.trans ((below_regrown (wr.alloc (.cells #[.int .i64 x.station, .int .i64 x.far, .int .i64 x.width, .int .i64 x.term] 37)) dq osq).mono hblA.size)
            generalize Go.Sort.grow (redrawn (wr.alloc (.cells #[.int .i64 x.station, .int .i64 x.far, .int .i64 x.width, .int .i64 x.term] 37)) dq) osq = wq at hBq ⊢
            go_wp2
            go_roundw
            case rel => exact ⟨k + 1 + 1, by omega, by go_num, Hgo.out, hBq⟩
            case measure => simp [intOf]; omega
          | false =>
            have hF := Lib.hid (hf (by rw [Ho.out, hc]; rfl))
            have hle : decide (key x ≤ key y) = true := by simp at hc ⊢; omega
            clear hp hk hf hok hS0 hc d0 d1 d2 d3
            rw [ek]
            go_wp2_with fail
            refine wp_region_quiet_below (by kernel_rfl) (by kernel_rfl) ?_
            repeat (go_big_quiet_step ((first | exact cV _ _ | exact cX _ _ | exact cY _ _)))
            refine wpQuiet_nil ?_
            intro _ hw'
            obtain ⟨⟨dq, osq⟩, hw''⟩ := hw'
            subst hw''
            have hBq := hblA.trans ((below_regrown (wr.alloc (.cells #[.int .i64 x.station, .int .i64 x.far, .int .i64 x.width, .int .i64 x.term] 37)) dq osq).mono hblA.size)
            generalize Go.Sort.grow (redrawn (wr.alloc (.cells #[.int .i64 x.station, .int .i64 x.far, .int .i64 x.width, .int .i64 x.term] 37)) dq) osq = wq at hBq ⊢
            go_wp2
            go_ret
            exact ⟨ret_bool (by rw [hF.out]; rfl), hBq⟩
    · have hT := chk_true hkl hlt Hg.out
      obtain rfl : k = l.length := by omega
      have HT := Lib.hid hT
      clear hT hp hk
      go_wp2
      go_ret
      exact ⟨ret_bool (by rw [HT.out]; rfl), hbl⟩

end Go.Proofs.YtjnaigpogloboaaDoor
