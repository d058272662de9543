/-
  Contracts of IsTable. (Printed by gen_E1.py.)
-/
import Derived.Test.YtjnaigpogloboaaDoorFar
namespace Go.Proofs.YtjnaigpogloboaaDoor
set_option linter.unusedVariables false
open Go.RowKit

def okTR (x : TableRow) : Bool := inB x.far 0 1500 && inB x.bonus 0 600
def ltTR (y x : TableRow) : Bool := decide (y.far < x.far) && decide (y.bonus ≤ x.bonus)
def goodT (l : List TableRow) : Bool := chk okTR ltTR l && inB l.length 2 8

set_option maxRecDepth 100000 in
set_option maxHeartbeats 4000000 in
theorem l11Table_any (A : Option Addr) (c : Nat) (l : List TableRow) (w : World) (h : Rd encT 2 w w.heap.size A l) (hl : l.length ≤ 1048576) :
    Calls Tryd.prog 70 #[.slice A l.length c] w fun e w' => e = .returned (.bool (goodT l)) ∧ Below w.heap.size w w' := by
  unfold goodT
  go_enter Tryd.func70, Tryd.ntmps70
  go_wp2
  go_loopw [3] (fun i wr => ∃ k : Nat, k ≤ l.length ∧ i = .int .i64 k ∧ Hid ((List.range k).all (okAt okTR ltTR l) = true) ∧ Below w.heap.size w wr) (fun i _ => l.length - (intOf i).toNat)
  case atStart => exact ⟨0, Nat.zero_le _, rfl, rfl, Below.refl _ _⟩
  case round =>
    obtain ⟨k, hkl, rfl, Hg, hbl⟩ := hrel
    by_cases hlt : k < l.length
    · obtain ⟨b, off, rfl, hb, c0, c1⟩ := cellsT (h.below hbl) hlt
      have hf := chk_false (ok := okTR) (lt := ltTR) hlt
      have hff : okTR l[k] = false → (chk okTR ltTR l = false) := fun hh => hf (by unfold okAt; simp [hlt, hh])
      cases k1 : inB l[k].far 0 1500 with
      | false =>
        have hF := Lib.hid (hff (by simp [okTR, k1]))
        generalize l[k] = x at *
        have hblA := hbl
        have e0 := cell_regrown c0
        have e1 := cell_regrown c1
        have cF : ∀ d os, Calls Tryd.prog 83 #[.int .i64 x.far] (Go.Sort.grow (redrawn wr d) os) fun e w'' => e = .returned (.bool false) ∧ ∃ p : Regrown, w'' = Go.Sort.grow (redrawn wr p.d) p.os := fun d os => by (have q := l11Far_any x.far (Go.Sort.grow (redrawn wr d) os)); rw [k1] at q; exact same_regrown q
        have cB := True.intro
        clear hf hff k1
        go_wp2_with fail
        refine wp_region_quiet_below (by kernel_rfl) (by kernel_rfl) ?_
        repeat (go_big_quiet_step ((first | exact cF _ _ | exact cB _ _)))
        refine wpQuiet_nil ?_
        intro _ hw'
        obtain ⟨⟨dq, osq⟩, hw''⟩ := hw'
        subst hw''
        have hBq := hblA.trans ((below_regrown wr dq osq).mono hblA.size)
        generalize Go.Sort.grow (redrawn wr dq) osq = wq at hBq ⊢
        go_wp2
        go_ret
        exact ⟨ret_bool (by rw [hF.out]; rfl), hBq⟩
      | true =>
        cases k2 : inB l[k].bonus 0 600 with
        | false =>
          have hF := Lib.hid (hff (by simp [okTR, k2]))
          generalize l[k] = x at *
          have hblA := hbl
          have e0 := cell_regrown c0
          have e1 := cell_regrown c1
          have cF : ∀ d os, Calls Tryd.prog 83 #[.int .i64 x.far] (Go.Sort.grow (redrawn wr d) os) fun e w'' => e = .returned (.bool true) ∧ ∃ p : Regrown, w'' = Go.Sort.grow (redrawn wr p.d) p.os := fun d os => by (have q := l11Far_any x.far (Go.Sort.grow (redrawn wr d) os)); rw [k1] at q; exact same_regrown q
          have cB : ∀ d os, Calls Tryd.prog 60 #[.int .i64 x.bonus, .int .i64 0, .int .i64 600] (Go.Sort.grow (redrawn wr d) os) fun e w'' => e = .returned (.bool false) ∧ ∃ p : Regrown, w'' = Go.Sort.grow (redrawn wr p.d) p.os := fun d os => by (have q := l1In_any x.bonus 0 600 (Go.Sort.grow (redrawn wr d) os)); rw [k2] at q; exact same_regrown q
          clear hf hff k1 k2
          go_wp2_with fail
          refine wp_region_quiet_below (by kernel_rfl) (by kernel_rfl) ?_
          repeat (go_big_quiet_step ((first | exact cF _ _ | exact cB _ _)))
          refine wpQuiet_nil ?_
          intro _ hw'
          obtain ⟨⟨dq, osq⟩, hw''⟩ := hw'
          subst hw''
          have hBq := hblA.trans ((below_regrown wr dq osq).mono hblA.size)
          generalize Go.Sort.grow (redrawn wr dq) osq = wq at hBq ⊢
          go_wp2
          go_ret
          exact ⟨ret_bool (by rw [hF.out]; rfl), hBq⟩
        | true =>
          have hok : okTR l[k] = true := by simp [okTR, k1, k2]
          clear hff
          cases k with
          | zero =>
            have Hgo := Lib.hid (chk_step Hg.out (show okAt okTR ltTR l 0 = true by rw [okAt_zero hlt]; exact hok))
            generalize l[0] = x at *
            simp only [Nat.zero_mul, Nat.add_zero] at *
            have hblA := hbl
            have e0 := cell_regrown c0
            have e1 := cell_regrown c1
            have cF : ∀ d os, Calls Tryd.prog 83 #[.int .i64 x.far] (Go.Sort.grow (redrawn wr d) os) fun e w'' => e = .returned (.bool true) ∧ ∃ p : Regrown, w'' = Go.Sort.grow (redrawn wr p.d) p.os := fun d os => by (have q := l11Far_any x.far (Go.Sort.grow (redrawn wr d) os)); rw [k1] at q; exact same_regrown q
            have cB : ∀ d os, Calls Tryd.prog 60 #[.int .i64 x.bonus, .int .i64 0, .int .i64 600] (Go.Sort.grow (redrawn wr d) os) fun e w'' => e = .returned (.bool true) ∧ ∃ p : Regrown, w'' = Go.Sort.grow (redrawn wr p.d) p.os := fun d os => by (have q := l1In_any x.bonus 0 600 (Go.Sort.grow (redrawn wr d) os)); rw [k2] at q; exact same_regrown q
            clear hf hok k1 k2
            go_wp2_with fail
            refine wp_region_quiet_below (by kernel_rfl) (by kernel_rfl) ?_
            repeat (go_big_quiet_step ((first | exact cF _ _ | exact cB _ _)))
            refine wpQuiet_nil ?_
            intro _ hw'
            obtain ⟨⟨dq, osq⟩, hw''⟩ := hw'
            subst hw''
            have hBq := hblA.trans ((below_regrown wr dq osq).mono hblA.size)
            generalize Go.Sort.grow (redrawn wr dq) osq = wq at hBq ⊢
            go_wp2
            go_roundw
            case rel => exact ⟨1, by omega, rfl, Hgo.out, hBq⟩
            case measure => simp [intOf]; omega
          | succ k =>
            have hlt' : k < l.length := by omega
            have hcy := h.below hbl
            obtain ⟨b', off', e', hb', d0, d1⟩ := cellsT hcy hlt'
            injection e' with e'
            injection e' with e1 e2
            subst e1 e2
            have ek : ((k + 1 : Nat) : Int) = (k : Int) + 1 := by omega
            have hlti : (k : Int) + 1 < (l.length : Int) := by omega
            have hltj : (k : Int) < (l.length : Int) := by omega
            have hk0 : (0 : Int) ≤ (k : Int) := by omega
            have Ho := Lib.hid (okAt_succ (ok := okTR) (lt := ltTR) hlt)
            rw [hok] at Ho
            generalize hx : l[k + 1] = x at *
            generalize hy : l[k] = y at *
            clear hx hy
            have hblA := hbl
            have e0 := cell_regrown c0
            have e1 := cell_regrown c1
            have q0 := cell_regrown d0
            have q1 := cell_regrown d1
            have cF : ∀ d os, Calls Tryd.prog 83 #[.int .i64 x.far] (Go.Sort.grow (redrawn wr d) os) fun e w'' => e = .returned (.bool true) ∧ ∃ p : Regrown, w'' = Go.Sort.grow (redrawn wr p.d) p.os := fun d os => by (have q := l11Far_any x.far (Go.Sort.grow (redrawn wr d) os)); rw [k1] at q; exact same_regrown q
            have cB : ∀ d os, Calls Tryd.prog 60 #[.int .i64 x.bonus, .int .i64 0, .int .i64 600] (Go.Sort.grow (redrawn wr d) os) fun e w'' => e = .returned (.bool true) ∧ ∃ p : Regrown, w'' = Go.Sort.grow (redrawn wr p.d) p.os := fun d os => by (have q := l1In_any x.bonus 0 600 (Go.Sort.grow (redrawn wr d) os)); rw [k2] at q; exact same_regrown q
            cases hc1 : decide (y.far < x.far) with
            | false =>
              have hF := Lib.hid (hf (by rw [Ho.out]; simp [ltTR, hc1]))
              have hle : decide (x.far ≤ y.far) = true := by simp at hc1 ⊢; omega
              clear hf hok k1 k2 d0 d1 hc1
              rw [ek]
              go_wp2_with fail
              refine wp_region_quiet_below (by kernel_rfl) (by kernel_rfl) ?_
              repeat (go_big_quiet_step ((first | exact cF _ _ | exact cB _ _)))
              refine wpQuiet_nil ?_
              intro _ hw'
              obtain ⟨⟨dq, osq⟩, hw''⟩ := hw'
              subst hw''
              have hBq := hblA.trans ((below_regrown wr dq osq).mono hblA.size)
              generalize Go.Sort.grow (redrawn wr dq) osq = wq at hBq ⊢
              go_wp2
              go_ret
              exact ⟨ret_bool (by rw [hF.out]; rfl), hBq⟩
            | true =>
              have hle : decide (x.far ≤ y.far) = false := by simp at hc1 ⊢; omega
              cases hc2 : decide (y.bonus ≤ x.bonus) with
              | false =>
                have hF := Lib.hid (hf (by rw [Ho.out]; simp [ltTR, hc2]))
                have hle2 : decide (x.bonus < y.bonus) = true := by simp at hc2 ⊢; omega
                clear hf hok k1 k2 d0 d1 hc1 hc2
                rw [ek]
                go_wp2_with fail
                refine wp_region_quiet_below (by kernel_rfl) (by kernel_rfl) ?_
                repeat (go_big_quiet_step ((first | exact cF _ _ | exact cB _ _)))
                refine wpQuiet_nil ?_
                intro _ hw'
                obtain ⟨⟨dq, osq⟩, hw''⟩ := hw'
                subst hw''
                have hBq := hblA.trans ((below_regrown wr dq osq).mono hblA.size)
                generalize Go.Sort.grow (redrawn wr dq) osq = wq at hBq ⊢
                go_wp2
                go_ret
                exact ⟨ret_bool (by rw [hF.out]; rfl), hBq⟩
              | true =>
                have Hgo := Lib.hid (chk_step Hg.out (by rw [Ho.out]; simp [ltTR, hc1, hc2]))
                have hle2 : decide (x.bonus < y.bonus) = false := by simp at hc2 ⊢; omega
                clear hf hok k1 k2 d0 d1 hc1 hc2
                rw [ek]
                go_wp2_with fail
                refine wp_region_quiet_below (by kernel_rfl) (by kernel_rfl) ?_
                repeat (go_big_quiet_step ((first | exact cF _ _ | exact cB _ _)))
                refine wpQuiet_nil ?_
                intro _ hw'
                obtain ⟨⟨dq, osq⟩, hw''⟩ := hw'
                subst hw''
                have hBq := hblA.trans ((below_regrown wr dq osq).mono hblA.size)
                generalize Go.Sort.grow (redrawn wr dq) osq = wq at hBq ⊢
                go_wp2
                go_roundw
                case rel => exact ⟨k + 1 + 1, by omega, by go_num, Hgo.out, hBq⟩
                case measure => simp [intOf]; omega
    · have hT := chk_true hkl hlt Hg.out
      obtain rfl : k = l.length := by omega
      have HT := Lib.hid hT
      clear hT
      go_wp2_with (go_at_call 60; refine (l1In_any _ _ _ _).mono ?_; rintro e w' ⟨rfl, rfl⟩)
      go_ret
      exact ⟨ret_bool (by rw [HT.out]; rfl), hbl⟩

set_option maxRecDepth 100000 in
set_option maxHeartbeats 4000000 in
theorem IsTable_any (A : Option Addr) (c : Nat) (l : List TableRow) (w : World) (h : Rd encT 2 w w.heap.size A l) (hl : l.length ≤ 1048576) :
    Calls Tryd.prog 47 #[.slice A l.length c] w fun e w' => e = .returned (.bool (goodT l)) ∧ Below w.heap.size w w' := by
  unfold goodT
  go_enter Tryd.func47, Tryd.ntmps47
  go_wp2
  go_loopw [7] (fun i wr => ∃ k : Nat, k ≤ l.length ∧ i = .int .i64 k ∧ Hid ((List.range k).all (okAt okTR ltTR l) = true) ∧ Below w.heap.size w wr) (fun i _ => l.length - (intOf i).toNat)
  case atStart => exact ⟨0, Nat.zero_le _, rfl, rfl, Below.refl _ _⟩
  case round =>
    obtain ⟨k, hkl, rfl, Hg, hbl⟩ := hrel
    by_cases hlt : k < l.length
    · obtain ⟨b, off, rfl, hb, c0, c1⟩ := cellsT (h.below hbl) hlt
      have hf := chk_false (ok := okTR) (lt := ltTR) hlt
      have hff : okTR l[k] = false → (chk okTR ltTR l = false) := fun hh => hf (by unfold okAt; simp [hlt, hh])
      cases k1 : inB l[k].far 0 1500 with
      | false =>
        have hF := Lib.hid (hff (by simp [okTR, k1]))
        generalize l[k] = x at *
        have hS0 := box2 (Blk.new wr 76 #[.int .i64 x.far, .int .i64 x.bonus])
        have hblA := hbl.alloc hbl.size (.cells #[.int .i64 x.far, .int .i64 x.bonus] 76)
        have e0 := cell_regrown hS0.1
        have e1 := cell_regrown hS0.2
        clear hS0
        have cF : ∀ d os, Calls Tryd.prog 67 #[.int .i64 x.far] (Go.Sort.grow (redrawn (wr.alloc (.cells #[.int .i64 x.far, .int .i64 x.bonus] 76)) d) os) fun e w'' => e = .returned (.bool false) ∧ ∃ p : Regrown, w'' = Go.Sort.grow (redrawn (wr.alloc (.cells #[.int .i64 x.far, .int .i64 x.bonus] 76)) p.d) p.os := fun d os => by (have q := isFar_any x.far (Go.Sort.grow (redrawn (wr.alloc (.cells #[.int .i64 x.far, .int .i64 x.bonus] 76)) d) os)); rw [k1] at q; exact same_regrown q
        have cB := True.intro
        clear hf hff k1
        go_wp2_with fail
        refine wp_region_quiet_below (by kernel_rfl) (by kernel_rfl) ?_
        repeat (go_big_quiet_step ((first | exact cF _ _ | exact cB _ _)))
        refine wpQuiet_nil ?_
        intro _ hw'
        obtain ⟨⟨dq, osq⟩, hw''⟩ := hw'
        subst hw''
        have hBq := hblA.trans ((below_regrown (wr.alloc (.cells #[.int .i64 x.far, .int .i64 x.bonus] 76)) dq osq).mono hblA.size)
        generalize Go.Sort.grow (redrawn (wr.alloc (.cells #[.int .i64 x.far, .int .i64 x.bonus] 76)) dq) osq = wq at hBq ⊢
        go_wp2
        go_ret
        exact ⟨ret_bool (by rw [hF.out]; rfl), hBq⟩
      | true =>
        cases k2 : inB l[k].bonus 0 600 with
        | false =>
          have hF := Lib.hid (hff (by simp [okTR, k2]))
          generalize l[k] = x at *
          have hS0 := box2 (Blk.new wr 76 #[.int .i64 x.far, .int .i64 x.bonus])
          have hblA := hbl.alloc hbl.size (.cells #[.int .i64 x.far, .int .i64 x.bonus] 76)
          have e0 := cell_regrown hS0.1
          have e1 := cell_regrown hS0.2
          clear hS0
          have cF : ∀ d os, Calls Tryd.prog 67 #[.int .i64 x.far] (Go.Sort.grow (redrawn (wr.alloc (.cells #[.int .i64 x.far, .int .i64 x.bonus] 76)) d) os) fun e w'' => e = .returned (.bool true) ∧ ∃ p : Regrown, w'' = Go.Sort.grow (redrawn (wr.alloc (.cells #[.int .i64 x.far, .int .i64 x.bonus] 76)) p.d) p.os := fun d os => by (have q := isFar_any x.far (Go.Sort.grow (redrawn (wr.alloc (.cells #[.int .i64 x.far, .int .i64 x.bonus] 76)) d) os)); rw [k1] at q; exact same_regrown q
          have cB : ∀ d os, Calls Tryd.prog 63 #[.int .i64 x.bonus, .int .i64 0, .int .i64 600] (Go.Sort.grow (redrawn (wr.alloc (.cells #[.int .i64 x.far, .int .i64 x.bonus] 76)) d) os) fun e w'' => e = .returned (.bool false) ∧ ∃ p : Regrown, w'' = Go.Sort.grow (redrawn (wr.alloc (.cells #[.int .i64 x.far, .int .i64 x.bonus] 76)) p.d) p.os := fun d os => by (have q := in_any x.bonus 0 600 (Go.Sort.grow (redrawn (wr.alloc (.cells #[.int .i64 x.far, .int .i64 x.bonus] 76)) d) os)); rw [k2] at q; exact same_regrown q
          clear hf hff k1 k2
          go_wp2_with fail
          refine wp_region_quiet_below (by kernel_rfl) (by kernel_rfl) ?_
          repeat (go_big_quiet_step ((first | exact cF _ _ | exact cB _ _)))
          refine wpQuiet_nil ?_
          intro _ hw'
          obtain ⟨⟨dq, osq⟩, hw''⟩ := hw'
          subst hw''
          have hBq := hblA.trans ((below_regrown (wr.alloc (.cells #[.int .i64 x.far, .int .i64 x.bonus] 76)) dq osq).mono hblA.size)
          generalize Go.Sort.grow (redrawn (wr.alloc (.cells #[.int .i64 x.far, .int .i64 x.bonus] 76)) dq) osq = wq at hBq ⊢
          go_wp2
          go_ret
          exact ⟨ret_bool (by rw [hF.out]; rfl), hBq⟩
        | true =>
          have hok : okTR l[k] = true := by simp [okTR, k1, k2]
          clear hff
          cases k with
          | zero =>
            have Hgo := Lib.hid (chk_step Hg.out (show okAt okTR ltTR l 0 = true by rw [okAt_zero hlt]; exact hok))
            generalize l[0] = x at *
            simp only [Nat.zero_mul, Nat.add_zero] at *
            have hS0 := box2 (Blk.new wr 76 #[.int .i64 x.far, .int .i64 x.bonus])
            have hblA := hbl.alloc hbl.size (.cells #[.int .i64 x.far, .int .i64 x.bonus] 76)
            have e0 := cell_regrown hS0.1
            have e1 := cell_regrown hS0.2
            clear hS0
            have cF : ∀ d os, Calls Tryd.prog 67 #[.int .i64 x.far] (Go.Sort.grow (redrawn (wr.alloc (.cells #[.int .i64 x.far, .int .i64 x.bonus] 76)) d) os) fun e w'' => e = .returned (.bool true) ∧ ∃ p : Regrown, w'' = Go.Sort.grow (redrawn (wr.alloc (.cells #[.int .i64 x.far, .int .i64 x.bonus] 76)) p.d) p.os := fun d os => by (have q := isFar_any x.far (Go.Sort.grow (redrawn (wr.alloc (.cells #[.int .i64 x.far, .int .i64 x.bonus] 76)) d) os)); rw [k1] at q; exact same_regrown q
            have cB : ∀ d os, Calls Tryd.prog 63 #[.int .i64 x.bonus, .int .i64 0, .int .i64 600] (Go.Sort.grow (redrawn (wr.alloc (.cells #[.int .i64 x.far, .int .i64 x.bonus] 76)) d) os) fun e w'' => e = .returned (.bool true) ∧ ∃ p : Regrown, w'' = Go.Sort.grow (redrawn (wr.alloc (.cells #[.int .i64 x.far, .int .i64 x.bonus] 76)) p.d) p.os := fun d os => by (have q := in_any x.bonus 0 600 (Go.Sort.grow (redrawn (wr.alloc (.cells #[.int .i64 x.far, .int .i64 x.bonus] 76)) d) os)); rw [k2] at q; exact same_regrown q
            clear hf hok k1 k2
            go_wp2_with fail
            refine wp_region_quiet_below (by kernel_rfl) (by kernel_rfl) ?_
            repeat (go_big_quiet_step ((first | exact cF _ _ | exact cB _ _)))
            refine wpQuiet_nil ?_
            intro _ hw'
            obtain ⟨⟨dq, osq⟩, hw''⟩ := hw'
            subst hw''
            have hBq := hblA.trans ((below_regrown (wr.alloc (.cells #[.int .i64 x.far, .int .i64 x.bonus] 76)) dq osq).mono hblA.size)
            generalize Go.Sort.grow (redrawn (wr.alloc (.cells #[.int .i64 x.far, .int .i64 x.bonus] 76)) dq) osq = wq at hBq ⊢
            go_wp2
            go_roundw
            case rel => exact ⟨1, by omega, rfl, Hgo.out, hBq⟩
            case measure => simp [intOf]; omega
          | succ k =>
            have hlt' : k < l.length := by omega
            have hcy := h.below hbl
            obtain ⟨b', off', e', hb', d0, d1⟩ := cellsT hcy hlt'
            injection e' with e'
            injection e' with e1 e2
            subst e1 e2
            have ek : ((k + 1 : Nat) : Int) = (k : Int) + 1 := by omega
            have hlti : (k : Int) + 1 < (l.length : Int) := by omega
            have hltj : (k : Int) < (l.length : Int) := by omega
            have hk0 : (0 : Int) ≤ (k : Int) := by omega
            have Ho := Lib.hid (okAt_succ (ok := okTR) (lt := ltTR) hlt)
            rw [hok] at Ho
            generalize hx : l[k + 1] = x at *
            generalize hy : l[k] = y at *
            clear hx hy
            have hS0 := box2 (Blk.new wr 76 #[.int .i64 x.far, .int .i64 x.bonus])
            have hblA := hbl.alloc hbl.size (.cells #[.int .i64 x.far, .int .i64 x.bonus] 76)
            have e0 := cell_regrown hS0.1
            have e1 := cell_regrown hS0.2
            clear hS0
            have q0 := cell_regrown (w := (wr.alloc (.cells #[.int .i64 x.far, .int .i64 x.bonus] 76))) (keepCell ((Below.refl _ _).alloc (Nat.le_refl _) _) d0)
            have q1 := cell_regrown (w := (wr.alloc (.cells #[.int .i64 x.far, .int .i64 x.bonus] 76))) (keepCell ((Below.refl _ _).alloc (Nat.le_refl _) _) d1)
            have cF : ∀ d os, Calls Tryd.prog 67 #[.int .i64 x.far] (Go.Sort.grow (redrawn (wr.alloc (.cells #[.int .i64 x.far, .int .i64 x.bonus] 76)) d) os) fun e w'' => e = .returned (.bool true) ∧ ∃ p : Regrown, w'' = Go.Sort.grow (redrawn (wr.alloc (.cells #[.int .i64 x.far, .int .i64 x.bonus] 76)) p.d) p.os := fun d os => by (have q := isFar_any x.far (Go.Sort.grow (redrawn (wr.alloc (.cells #[.int .i64 x.far, .int .i64 x.bonus] 76)) d) os)); rw [k1] at q; exact same_regrown q
            have cB : ∀ d os, Calls Tryd.prog 63 #[.int .i64 x.bonus, .int .i64 0, .int .i64 600] (Go.Sort.grow (redrawn (wr.alloc (.cells #[.int .i64 x.far, .int .i64 x.bonus] 76)) d) os) fun e w'' => e = .returned (.bool true) ∧ ∃ p : Regrown, w'' = Go.Sort.grow (redrawn (wr.alloc (.cells #[.int .i64 x.far, .int .i64 x.bonus] 76)) p.d) p.os := fun d os => by (have q := in_any x.bonus 0 600 (Go.Sort.grow (redrawn (wr.alloc (.cells #[.int .i64 x.far, .int .i64 x.bonus] 76)) d) os)); rw [k2] at q; exact same_regrown q
            cases hc1 : decide (y.far < x.far) with
            | false =>
              have hF := Lib.hid (hf (by rw [Ho.out]; simp [ltTR, hc1]))
              have hle : decide (x.far ≤ y.far) = true := by simp at hc1 ⊢; omega
              clear hf hok k1 k2 d0 d1 hc1
              rw [ek]
              go_wp2_with fail
              refine wp_region_quiet_below (by kernel_rfl) (by kernel_rfl) ?_
              repeat (go_big_quiet_step ((first | exact cF _ _ | exact cB _ _)))
              refine wpQuiet_nil ?_
              intro _ hw'
              obtain ⟨⟨dq, osq⟩, hw''⟩ := hw'
              subst hw''
              have hBq := hblA.trans ((below_regrown (wr.alloc (.cells #[.int .i64 x.far, .int .i64 x.bonus] 76)) dq osq).mono hblA.size)
              generalize Go.Sort.grow (redrawn (wr.alloc (.cells #[.int .i64 x.far, .int .i64 x.bonus] 76)) dq) osq = wq at hBq ⊢
              go_wp2
              go_ret
              exact ⟨ret_bool (by rw [hF.out]; rfl), hBq⟩
            | true =>
              have hle : decide (x.far ≤ y.far) = false := by simp at hc1 ⊢; omega
              cases hc2 : decide (y.bonus ≤ x.bonus) with
              | false =>
                have hF := Lib.hid (hf (by rw [Ho.out]; simp [ltTR, hc2]))
                have hle2 : decide (x.bonus < y.bonus) = true := by simp at hc2 ⊢; omega
                clear hf hok k1 k2 d0 d1 hc1 hc2
                rw [ek]
                go_wp2_with fail
                refine wp_region_quiet_below (by kernel_rfl) (by kernel_rfl) ?_
                repeat (go_big_quiet_step ((first | exact cF _ _ | exact cB _ _)))
                refine wpQuiet_nil ?_
                intro _ hw'
                obtain ⟨⟨dq, osq⟩, hw''⟩ := hw'
                subst hw''
                have hBq := hblA.trans ((below_regrown (wr.alloc (.cells #[.int .i64 x.far, .int .i64 x.bonus] 76)) dq osq).mono hblA.size)
                generalize Go.Sort.grow (redrawn (wr.alloc (.cells #[.int .i64 x.far, .int .i64 x.bonus] 76)) dq) osq = wq at hBq ⊢
                go_wp2
                go_ret
                exact ⟨ret_bool (by rw [hF.out]; rfl), hBq⟩
              | true =>
                have Hgo := Lib.hid (chk_step Hg.out (by rw [Ho.out]; simp [ltTR, hc1, hc2]))
                have hle2 : decide (x.bonus < y.bonus) = false := by simp at hc2 ⊢; omega
                clear hf hok k1 k2 d0 d1 hc1 hc2
                rw [ek]
                go_wp2_with fail
                refine wp_region_quiet_below (by kernel_rfl) (by kernel_rfl) ?_
                repeat (go_big_quiet_step ((first | exact cF _ _ | exact cB _ _)))
                refine wpQuiet_nil ?_
                intro _ hw'
                obtain ⟨⟨dq, osq⟩, hw''⟩ := hw'
                subst hw''
                have hBq := hblA.trans ((below_regrown (wr.alloc (.cells #[.int .i64 x.far, .int .i64 x.bonus] 76)) dq osq).mono hblA.size)
                generalize Go.Sort.grow (redrawn (wr.alloc (.cells #[.int .i64 x.far, .int .i64 x.bonus] 76)) dq) osq = wq at hBq ⊢
                go_wp2
                go_roundw
                case rel => exact ⟨k + 1 + 1, by omega, by go_num, Hgo.out, hBq⟩
                case measure => simp [intOf]; omega
    · have hT := chk_true hkl hlt Hg.out
      obtain rfl : k = l.length := by omega
      have HT := Lib.hid hT
      clear hT
      go_wp2_with (go_at_call 63; refine (in_any _ _ _ _).mono ?_; rintro e w' ⟨rfl, rfl⟩)
      go_ret
      exact ⟨ret_bool (by rw [HT.out]; rfl), hbl⟩

theorem sIsTable_any (A : Option Addr) (c : Nat) (l : List TableRow) (w : World) (h : Rd encT 2 w w.heap.size A l) (hl : l.length ≤ 1048576) :
    Calls Tryd.prog 48 #[.slice A l.length c] w fun e w' => e = .returned (.bool (goodT l)) ∧ Below w.heap.size w w' := by
  have Hcon := Lib.hid (l11Table_any A c l w h hl)
  go_enter Tryd.func48, Tryd.ntmps48
  go_wp2_with fail
  refine Hcon.out.mono ?_
  rintro e w3 ⟨rfl, hb3⟩
  go_wp2
  go_ret
  exact ⟨rfl, hb3⟩

end Go.Proofs.YtjnaigpogloboaaDoor
