/-
  Contracts of areListed and filter over slices of Arrival. (Printed by gen_list.py.)
-/
import Derived.Test.YtdadcbcanjmoeaaChk
import Derived.Test.YtdadcbcanjmoeaaArrival
import Derived.Lib.QuietBelow
import Derived.BigQuiet
namespace Go.Proofs.Ytdadcbcanjmoeaa
set_option linter.unusedVariables false
open Go.RowKit

def KeyA (g : Nat) (lb : Array Value) (l : List Arrival) (key : Arrival → Int) (w : World) : Prop :=
  ∀ (W : World) (x : Arrival), x ∈ l → Below w.heap.size w W → Calls Try.prog g (#[.agg #[.int .i64 x.id, .int .i64 x.x, .int .i64 x.y, .int .i64 x.tick, .int .i64 x.err]] ++ lb) W fun e w' => e = .returned (.int .i64 (key x)) ∧ Below W.heap.size W w'
theorem encA_one (e : Arrival) : ∀ u ∈ encA e, u.oneCell' = true := by intro u hu; simp [encA] at hu; rcases hu with rfl | rfl | rfl | rfl | rfl <;> rfl

set_option maxRecDepth 100000 in
set_option maxHeartbeats 2000000 in
theorem areListedA_any (g g2 : Nat) (lb lb2 : Array Value) (eg : Enters Try.prog g) (eg2 : Enters Try.prog g2) (A : Option Addr) (c : Nat) (l : List Arrival) (most : Int) (ok : Arrival → Bool) (key : Arrival → Int) (w : World) (h : Rd encA 5 w w.heap.size A l) (hl : l.length ≤ 1048576)
    (hp : PredA g lb l ok w) (hk : KeyA g2 lb2 l key w) :
    Calls Try.prog 75 #[.slice A l.length c, .int .i64 most, .func (.func g) #[] lb, .func (.func g2) #[] lb2] w fun e w' => e = .returned (.bool (chk ok (fun y x => decide (key y < key x)) l && decide ((l.length : Int) ≤ most))) ∧ Below w.heap.size w w' := by
  have eg' : ∀ args w, (callFunc g args).run Try.prog w = .ok (.enter g args) w := eg
  have eg2' : ∀ args w, (callFunc g2 args).run Try.prog w = .ok (.enter g2 args) w := eg2
  go_enter Try.func75, Try.ntmps75
  go_wp2
  go_loopw [13] (fun i wr => ∃ k : Nat, k ≤ l.length ∧ i = .int .i64 k ∧ Hid ((List.range k).all (okAt ok (fun y x => decide (key y < key x)) l) = true) ∧ Below w.heap.size w wr) (fun i _ => l.length - (intOf i).toNat)
  case atStart => exact ⟨0, Nat.zero_le _, rfl, rfl, Below.refl _ _⟩
  case round =>
    obtain ⟨k, hkl, rfl, Hg, hbl⟩ := hrel
    by_cases hlt : k < l.length
    · obtain ⟨b, off, rfl, hb, c0, c1, c2, c3, c4⟩ := cellsA (h.below hbl) hlt
      have hf := chk_false (ok := ok) (lt := fun y x => decide (key y < key x)) hlt
      have hmx := List.getElem_mem hlt
      cases hok : ok l[k] with
      | false =>
        have hF := Lib.hid (hf (by unfold okAt; simp [hlt, hok]))
        generalize l[k] = x at *
        have hblA := hbl.alloc hbl.size (.cells #[.int .i64 x.id, .int .i64 x.x, .int .i64 x.y, .int .i64 x.tick, .int .i64 x.err] 37)
        have hS0 := box5 (Blk.new wr 37 #[.int .i64 x.id, .int .i64 x.x, .int .i64 x.y, .int .i64 x.tick, .int .i64 x.err])
        have k0 := cell_regrown hS0.1
        have k1 := cell_regrown hS0.2.1
        have k2 := cell_regrown hS0.2.2.1
        have k3 := cell_regrown hS0.2.2.2.1
        have k4 := cell_regrown hS0.2.2.2.2
        have cV : ∀ d os, Calls Try.prog g (#[.agg #[.int .i64 x.id, .int .i64 x.x, .int .i64 x.y, .int .i64 x.tick, .int .i64 x.err]] ++ lb) (Go.Sort.grow (redrawn (wr.alloc (.cells #[.int .i64 x.id, .int .i64 x.x, .int .i64 x.y, .int .i64 x.tick, .int .i64 x.err] 37)) d) os) fun e w'' => e = .returned (.bool false) ∧ ∃ p : Regrown, w'' = Go.Sort.grow (redrawn (wr.alloc (.cells #[.int .i64 x.id, .int .i64 x.x, .int .i64 x.y, .int .i64 x.tick, .int .i64 x.err] 37)) p.d) p.os := fun d os => by (have q := hp _ x hmx (hblA.trans ((below_regrown _ d os).mono hblA.size))); (try rw [hok] at q); exact Calls.regrown_of q
        have cX := True.intro
        have cY := True.intro
        clear hp hk hf hok hS0
        have hblA := hblA
        go_wp2_with fail
        refine wp_region_quiet_below (by kernel_rfl) (by kernel_rfl) ?_
        repeat (go_big_quiet_step ((first | exact cV _ _ | exact cX _ _ | exact cY _ _)))
        refine wpQuiet_nil ?_
        intro _ hw'
        obtain ⟨⟨dq, osq⟩, hw''⟩ := hw'
        subst hw''
        have hBq := hblA.trans ((below_regrown (wr.alloc (.cells #[.int .i64 x.id, .int .i64 x.x, .int .i64 x.y, .int .i64 x.tick, .int .i64 x.err] 37)) dq osq).mono hblA.size)
        generalize Go.Sort.grow (redrawn (wr.alloc (.cells #[.int .i64 x.id, .int .i64 x.x, .int .i64 x.y, .int .i64 x.tick, .int .i64 x.err] 37)) dq) osq = wq at hBq ⊢
        go_wp2
        go_ret
        exact ⟨ret_bool (by rw [hF.out]; rfl), hBq⟩
      | true =>
        cases k with
        | zero =>
          have Hgo := Lib.hid (chk_step Hg.out (show okAt ok (fun y x => decide (key y < key x)) l 0 = true by rw [okAt_zero hlt]; exact hok))
          generalize l[0] = x at *
          have hblA := hbl.alloc hbl.size (.cells #[.int .i64 x.id, .int .i64 x.x, .int .i64 x.y, .int .i64 x.tick, .int .i64 x.err] 37)
          have hS0 := box5 (Blk.new wr 37 #[.int .i64 x.id, .int .i64 x.x, .int .i64 x.y, .int .i64 x.tick, .int .i64 x.err])
          have k0 := cell_regrown hS0.1
          have k1 := cell_regrown hS0.2.1
          have k2 := cell_regrown hS0.2.2.1
          have k3 := cell_regrown hS0.2.2.2.1
          have k4 := cell_regrown hS0.2.2.2.2
          have cV : ∀ d os, Calls Try.prog g (#[.agg #[.int .i64 x.id, .int .i64 x.x, .int .i64 x.y, .int .i64 x.tick, .int .i64 x.err]] ++ lb) (Go.Sort.grow (redrawn (wr.alloc (.cells #[.int .i64 x.id, .int .i64 x.x, .int .i64 x.y, .int .i64 x.tick, .int .i64 x.err] 37)) d) os) fun e w'' => e = .returned (.bool true) ∧ ∃ p : Regrown, w'' = Go.Sort.grow (redrawn (wr.alloc (.cells #[.int .i64 x.id, .int .i64 x.x, .int .i64 x.y, .int .i64 x.tick, .int .i64 x.err] 37)) p.d) p.os := fun d os => by (have q := hp _ x hmx (hblA.trans ((below_regrown _ d os).mono hblA.size))); (try rw [hok] at q); exact Calls.regrown_of q
          have cX := True.intro
          have cY := True.intro
          clear hp hk hf hok hS0
          simp only [Nat.zero_mul, Nat.add_zero] at *
          go_wp2_with fail
          refine wp_region_quiet_below (by kernel_rfl) (by kernel_rfl) ?_
          repeat (go_big_quiet_step ((first | exact cV _ _ | exact cX _ _ | exact cY _ _)))
          refine wpQuiet_nil ?_
          intro _ hw'
          obtain ⟨⟨dq, osq⟩, hw''⟩ := hw'
          subst hw''
          have hBq := hblA.trans ((below_regrown (wr.alloc (.cells #[.int .i64 x.id, .int .i64 x.x, .int .i64 x.y, .int .i64 x.tick, .int .i64 x.err] 37)) dq osq).mono hblA.size)
          generalize Go.Sort.grow (redrawn (wr.alloc (.cells #[.int .i64 x.id, .int .i64 x.x, .int .i64 x.y, .int .i64 x.tick, .int .i64 x.err] 37)) dq) osq = wq at hBq ⊢
          go_wp2
          go_roundw
          case rel => exact ⟨1, by omega, rfl, Hgo.out, hBq⟩
          case measure => simp [intOf]; omega
        | succ k =>
          have hlt' : k < l.length := by omega
          have hmy := List.getElem_mem hlt'
          have hcy := h.below hbl
          obtain ⟨b', off', e', hb', d0, d1, d2, d3, d4⟩ := cellsA hcy hlt'
          injection e' with e'
          injection e' with e1 e2
          subst e1 e2
          have ek : ((k + 1 : Nat) : Int) = (k : Int) + 1 := by omega
          have hlti : (k : Int) + 1 < (l.length : Int) := by omega
          have hltj : (k : Int) < (l.length : Int) := by omega
          have hk0 : (0 : Int) ≤ (k : Int) := by omega
          have Ho := Lib.hid (okAt_succ (ok := ok) (lt := fun y x => decide (key y < key x)) hlt)
          rw [hok] at Ho
          generalize hx : l[k + 1] = x at *
          generalize hy : l[k] = y at *
          clear hx hy
          have hblA := hbl.alloc hbl.size (.cells #[.int .i64 x.id, .int .i64 x.x, .int .i64 x.y, .int .i64 x.tick, .int .i64 x.err] 37)
          have hS0 := box5 (Blk.new wr 37 #[.int .i64 x.id, .int .i64 x.x, .int .i64 x.y, .int .i64 x.tick, .int .i64 x.err])
          have k0 := cell_regrown hS0.1
          have k1 := cell_regrown hS0.2.1
          have k2 := cell_regrown hS0.2.2.1
          have k3 := cell_regrown hS0.2.2.2.1
          have k4 := cell_regrown hS0.2.2.2.2
          have q0 := cell_regrown (w := (wr.alloc (.cells #[.int .i64 x.id, .int .i64 x.x, .int .i64 x.y, .int .i64 x.tick, .int .i64 x.err] 37))) (keepCell ((Below.refl _ _).alloc (Nat.le_refl _) _) d0)
          have q1 := cell_regrown (w := (wr.alloc (.cells #[.int .i64 x.id, .int .i64 x.x, .int .i64 x.y, .int .i64 x.tick, .int .i64 x.err] 37))) (keepCell ((Below.refl _ _).alloc (Nat.le_refl _) _) d1)
          have q2 := cell_regrown (w := (wr.alloc (.cells #[.int .i64 x.id, .int .i64 x.x, .int .i64 x.y, .int .i64 x.tick, .int .i64 x.err] 37))) (keepCell ((Below.refl _ _).alloc (Nat.le_refl _) _) d2)
          have q3 := cell_regrown (w := (wr.alloc (.cells #[.int .i64 x.id, .int .i64 x.x, .int .i64 x.y, .int .i64 x.tick, .int .i64 x.err] 37))) (keepCell ((Below.refl _ _).alloc (Nat.le_refl _) _) d3)
          have q4 := cell_regrown (w := (wr.alloc (.cells #[.int .i64 x.id, .int .i64 x.x, .int .i64 x.y, .int .i64 x.tick, .int .i64 x.err] 37))) (keepCell ((Below.refl _ _).alloc (Nat.le_refl _) _) d4)
          have cV : ∀ d os, Calls Try.prog g (#[.agg #[.int .i64 x.id, .int .i64 x.x, .int .i64 x.y, .int .i64 x.tick, .int .i64 x.err]] ++ lb) (Go.Sort.grow (redrawn (wr.alloc (.cells #[.int .i64 x.id, .int .i64 x.x, .int .i64 x.y, .int .i64 x.tick, .int .i64 x.err] 37)) d) os) fun e w'' => e = .returned (.bool true) ∧ ∃ p : Regrown, w'' = Go.Sort.grow (redrawn (wr.alloc (.cells #[.int .i64 x.id, .int .i64 x.x, .int .i64 x.y, .int .i64 x.tick, .int .i64 x.err] 37)) p.d) p.os := fun d os => by (have q := hp _ x hmx (hblA.trans ((below_regrown _ d os).mono hblA.size))); (try rw [hok] at q); exact Calls.regrown_of q
          have cX : ∀ d os, Calls Try.prog g2 (#[.agg #[.int .i64 x.id, .int .i64 x.x, .int .i64 x.y, .int .i64 x.tick, .int .i64 x.err]] ++ lb2) (Go.Sort.grow (redrawn (wr.alloc (.cells #[.int .i64 x.id, .int .i64 x.x, .int .i64 x.y, .int .i64 x.tick, .int .i64 x.err] 37)) d) os) fun e w'' => e = .returned (.int .i64 (key x)) ∧ ∃ p : Regrown, w'' = Go.Sort.grow (redrawn (wr.alloc (.cells #[.int .i64 x.id, .int .i64 x.x, .int .i64 x.y, .int .i64 x.tick, .int .i64 x.err] 37)) p.d) p.os := fun d os => by (have q := hk _ x hmx (hblA.trans ((below_regrown _ d os).mono hblA.size))); (try rw [hok] at q); exact Calls.regrown_of q
          have cY : ∀ d os, Calls Try.prog g2 (#[.agg #[.int .i64 y.id, .int .i64 y.x, .int .i64 y.y, .int .i64 y.tick, .int .i64 y.err]] ++ lb2) (Go.Sort.grow (redrawn (wr.alloc (.cells #[.int .i64 x.id, .int .i64 x.x, .int .i64 x.y, .int .i64 x.tick, .int .i64 x.err] 37)) d) os) fun e w'' => e = .returned (.int .i64 (key y)) ∧ ∃ p : Regrown, w'' = Go.Sort.grow (redrawn (wr.alloc (.cells #[.int .i64 x.id, .int .i64 x.x, .int .i64 x.y, .int .i64 x.tick, .int .i64 x.err] 37)) p.d) p.os := fun d os => by (have q := hk _ y hmy (hblA.trans ((below_regrown _ d os).mono hblA.size))); (try rw [hok] at q); exact Calls.regrown_of q
          cases hc : decide (key y < key x) with
          | true =>
            have Hgo := Lib.hid (chk_step Hg.out (by rw [Ho.out, hc]; rfl))
            have hle : decide (key x ≤ key y) = false := by simp at hc ⊢; omega
            clear hp hk hf hok hS0 hc d0 d1 d2 d3 d4
            rw [ek]
            go_wp2_with fail
            refine wp_region_quiet_below (by kernel_rfl) (by kernel_rfl) ?_
            repeat (go_big_quiet_step ((first | exact cV _ _ | exact cX _ _ | exact cY _ _)))
            refine wpQuiet_nil ?_
            intro _ hw'
            obtain ⟨⟨dq, osq⟩, hw''⟩ := hw'
            subst hw''
            have hBq := hblA.trans ((below_regrown (wr.alloc (.cells #[.int .i64 x.id, .int .i64 x.x, .int .i64 x.y, .int .i64 x.tick, .int .i64 x.err] 37)) dq osq).mono hblA.size)
            generalize Go.Sort.grow (redrawn (wr.alloc (.cells #[.int .i64 x.id, .int .i64 x.x, .int .i64 x.y, .int .i64 x.tick, .int .i64 x.err] 37)) dq) osq = wq at hBq ⊢
            go_wp2
            go_roundw
            case rel => exact ⟨k + 1 + 1, by omega, by go_num, Hgo.out, hBq⟩
            case measure => simp [intOf]; omega
          | false =>
            have hF := Lib.hid (hf (by rw [Ho.out, hc]; rfl))
            have hle : decide (key x ≤ key y) = true := by simp at hc ⊢; omega
            clear hp hk hf hok hS0 hc d0 d1 d2 d3 d4
            rw [ek]
            go_wp2_with fail
            refine wp_region_quiet_below (by kernel_rfl) (by kernel_rfl) ?_
            repeat (go_big_quiet_step ((first | exact cV _ _ | exact cX _ _ | exact cY _ _)))
            refine wpQuiet_nil ?_
            intro _ hw'
            obtain ⟨⟨dq, osq⟩, hw''⟩ := hw'
            subst hw''
            have hBq := hblA.trans ((below_regrown (wr.alloc (.cells #[.int .i64 x.id, .int .i64 x.x, .int .i64 x.y, .int .i64 x.tick, .int .i64 x.err] 37)) dq osq).mono hblA.size)
            generalize Go.Sort.grow (redrawn (wr.alloc (.cells #[.int .i64 x.id, .int .i64 x.x, .int .i64 x.y, .int .i64 x.tick, .int .i64 x.err] 37)) dq) osq = wq at hBq ⊢
            go_wp2
            go_ret
            exact ⟨ret_bool (by rw [hF.out]; rfl), hBq⟩
    · have hT := chk_true hkl hlt Hg.out
      obtain rfl : k = l.length := by omega
      have HT := Lib.hid hT
      clear hT hp hk
      go_wp2
      go_ret
      exact ⟨ret_bool (by rw [HT.out]; rfl), hbl⟩

set_option maxRecDepth 100000 in
set_option maxHeartbeats 1000000 in
theorem filterA_any (g : Nat) (lb : Array Value) (eg : Enters Try.prog g) (A : Option Addr) (c : Nat) (l : List Arrival) (p : Arrival → Bool) (w : World) (h : Rd encA 5 w w.heap.size A l) (hl : l.length ≤ 1048576) (hp : PredA g lb l p w) :
    Calls Try.prog 113 #[.slice A l.length c, .func (.func g) #[] lb] w fun e w' => ∃ v, e = .returned v ∧ Own encA 5 w' w.heap.size 37 v (l.filter p) ∧ Below w.heap.size w w' := by
  have eg' : ∀ args w, (callFunc g args).run Try.prog w = .ok (.enter g args) w := eg
  obtain ⟨i0, hi, hz0, hz1, hz2⟩ := info_parts infoA
  go_enter Try.func113, Try.ntmps113
  go_wp2
  go_loopw [5, 11] (fun v i wr => ∃ k : Nat, k ≤ l.length ∧ i = .int .i64 k ∧ Hid (Own encA 5 wr w.heap.size 37 v ((l.take k).filter p)) ∧ Below w.heap.size w wr) (fun _ i _ => l.length - (intOf i).toNat)
  case atStart => exact ⟨0, Nat.zero_le _, rfl, Own.empty _ _ _ (Nat.le_refl _), (Below.refl _ _).alloc (Nat.le_refl _) _⟩
  case round =>
    obtain ⟨k, hk, rfl, hown, hbl⟩ := hrel
    by_cases hlt : k < l.length
    · obtain ⟨b, off, rfl, hb, c0, c1, c2, c3, c4⟩ := cellsA (h.below hbl) hlt
      have hcall := fun W hW => hp W l[k] (List.getElem_mem hlt) hW
      have Hyes := Lib.hid (fun (hh : p l[k] = true) => (show (l.take (k + 1)).filter p = (l.take k).filter p ++ [l[k]] by rw [List.take_succ_eq_append_getElem hlt, List.filter_append]; simp [hh]))
      have Hno := Lib.hid (fun (hh : p l[k] = false) => (show (l.take (k + 1)).filter p = (l.take k).filter p by rw [List.take_succ_eq_append_getElem hlt, List.filter_append]; simp [hh]))
      have hfl : ((l.take k).filter p).length ≤ 1048576 := by have h1 := List.length_filter_le p (l.take k); have h2 := List.length_take_le k l; omega
      obtain ⟨L, hL⟩ : ∃ L, (l.take k).filter p = L := ⟨_, rfl⟩
      rw [hL] at Hyes Hno hown hfl
      generalize l[k] = x at *
      have Hcall := Lib.hid hcall
      clear hcall hp hL
      obtain ⟨A', c', rfl, hcc, _⟩ := Own.form encA_len hown.out
      have HX0 := Lib.hid (Blk.new wr 37 #[.int .i64 x.id, .int .i64 x.x, .int .i64 x.y, .int .i64 x.tick, .int .i64 x.err])
      have hblA := hbl.alloc hbl.size (.cells #[.int .i64 x.id, .int .i64 x.x, .int .i64 x.y, .int .i64 x.tick, .int .i64 x.err] 37)
      have HownA := Lib.hid (hown.out.alloc (.cells #[.int .i64 x.id, .int .i64 x.x, .int .i64 x.y, .int .i64 x.tick, .int .i64 x.err] 37))
      have hsz := hbl.size
      clear hown
      cases hpx : p x with
      | true =>
        have Hy := Lib.hid (Hyes.out hpx)
        go_wp2_with fail
        refine (Hcall.out _ hblA).mono ?_
        rintro e w1 ⟨rfl, hb1⟩
        rw [hpx]
        have Hown1 := Lib.hid (HownA.out.keep hb1)
        obtain ⟨x0, x1, x2, x3, x4⟩ := box5 (HX0.out.after hb1)
        have hs1 := hb1.size
        have hB1 := hblA.trans (hb1.mono hblA.size)
        simp only [World.alloc, Array.size_push] at hs1
        clear c0 c1 c2 c3 c4 hpx Hyes Hno HownA HX0
        go_wp2_with (at_builtin; refine wpList_app1 rfl _ _ 45 rfl w.heap.size 37 i0 _ 5 40 Try.underlying45 hi hz0 hz1 hz2 rfl (by omega) (by omega) encA encA_len encA_one (.slice A' L.length c') L x w1 _ rfl _ rfl Hown1.out rfl hfl (by omega) ?_; intro v' w2 hown2 hb2 _)
        have Hown2 := Lib.hid hown2
        have hbl2 := hB1.trans hb2
        clear hown2 hb2 x0 x1 x2 x3 x4
        go_wp2
        go_roundw
        case rel => exact ⟨k + 1, by omega, by go_num, by rw [Hy.out]; exact Hown2.out, hbl2⟩
        case measure => simp [intOf]; omega
      | false =>
        have Hn := Lib.hid (Hno.out hpx)
        go_wp2_with fail
        refine (Hcall.out _ hblA).mono ?_
        rintro e w1 ⟨rfl, hb1⟩
        rw [hpx]
        clear hpx Hyes Hno c0 c1 c2 c3 c4
        go_wp2
        go_roundw
        case rel => exact ⟨k + 1, by omega, by go_num, by rw [Hn.out]; exact HownA.out.keep hb1, hblA.trans (hb1.mono hblA.size)⟩
        case measure => simp [intOf]; omega
    · have hkl : l.take k = l := List.take_of_length_le (by omega)
      rw [hkl] at hown
      clear hkl
      go_wp2
      go_ret
      exact ⟨_, rfl, hown.out, hbl⟩

end Go.Proofs.Ytdadcbcanjmoeaa
