/-
  BestOnGrid, loosely: it ends and tells some origin. (Printed by gen_D21.py.)
-/
import Derived.Test.YtdadcbcanjmoeaaDAr
import Derived.Test.YtdadcbcanjmoeaaMost
namespace Go.Proofs.Ytdadcbcanjmoeaa
set_option linter.unusedVariables false
open Go.RowKit

theorem l10Step_any (A : Option Addr) (c : Nat) (l : List Arrival) (w : World) (h : Rd encA 5 w w.heap.size A l) (hl : l.length ≤ 1048576) :
    Calls Try.prog 121 #[.slice A l.length c, .int .i64 100] w fun e w' => e = .returned (.bool (goodAs l)) ∧ Below w.heap.size w w' := by
  cases hg : goodAs l with
  | false =>
    go_enter Try.func121, Try.ntmps121
    go_wp2_with (go_at_call 74; refine (l10Good_any A c l _ h hl).mono ?_; rintro e w1 ⟨rfl, hb1⟩; rw [hg])
    go_ret
    exact ⟨rfl, hb1⟩
  | true =>
    go_enter Try.func121, Try.ntmps121
    go_wp2_with (first | (go_at_call 74; refine (l10Good_any A c l _ h hl).mono ?_; rintro e w1 ⟨rfl, hb1⟩; rw [hg]) | (go_at_call 102; refine (l1In_any _ _ _ _).mono ?_; rintro e w2 ⟨rfl, rfl⟩))
    go_ret
    exact ⟨rfl, hb1⟩

set_option maxRecDepth 100000 in
set_option maxHeartbeats 4000000 in
theorem l10Best_any (A : Option Addr) (c : Nat) (l : List Arrival) (w : World) (h : Rd encA 5 w w.heap.size A l) (hg : goodAs l = true) :
    Calls Try.prog 122 #[.slice A l.length c, .int .i64 100] w fun e w' => ∃ (o : Origin) (n : Int), e = .returned (.tuple #[.agg #[.int .i64 o.x, .int .i64 o.y, .int .i64 o.tick], .int .i64 n]) ∧ Below w.heap.size w w' := by
  have HZ0 : Hid (Blk ((w.alloc (.cells #[.int .i64 0, .int .i64 0, .int .i64 0] 39)).alloc (.cells #[.int .i64 0, .int .i64 0, .int .i64 0] 39)) w.heap.size 39 #[.int .i64 0, .int .i64 0, .int .i64 0]) := (Blk.new w _ _).alloc _
  have HP0 : Hid (Blk ((w.alloc (.cells #[.int .i64 0, .int .i64 0, .int .i64 0] 39)).alloc (.cells #[.int .i64 0, .int .i64 0, .int .i64 0] 39)) (w.heap.size + 1) 39 #[.int .i64 0, .int .i64 0, .int .i64 0]) := by
    have hq := Blk.new (w.alloc (.cells #[.int .i64 0, .int .i64 0, .int .i64 0] 39)) 39 #[.int .i64 0, .int .i64 0, .int .i64 0]
    simp at hq; exact hq
  have HB0 : Hid (Below w.heap.size w ((w.alloc (.cells #[.int .i64 0, .int .i64 0, .int .i64 0] 39)).alloc (.cells #[.int .i64 0, .int .i64 0, .int .i64 0] 39))) := by show Below _ _ _; (repeat (first | with_reducible exact Below.refl _ _ | with_reducible assumption | with_reducible refine Below.setCell ?_ (by simp <;> omega) _ | with_reducible refine Below.alloc ?_ (by first | omega | (simp <;> omega)) _ | with_reducible refine Below.drew ?_ | with_reducible refine below_drewN ?_ _))
  have HR := Lib.hid h
  clear h
  go_enter Try.func122, Try.ntmps122
  go_wp2
  go_loopw [7, 8] (fun n x wr => ∃ (k : Nat) (o : Origin) (mo : Int), n = .int .i64 mo ∧ x = .int .i64 (100 * k) ∧ k ≤ 10 ∧ Hid (Blk wr w.heap.size 39 #[.int .i64 0, .int .i64 0, .int .i64 0]) ∧ Hid (Blk wr (w.heap.size + 1) 39 #[.int .i64 o.x, .int .i64 o.y, .int .i64 o.tick]) ∧ Hid (Below w.heap.size w wr)) (fun _ x _ => 1000 - (intOf x).toNat)
  case atStart => exact ⟨0, ⟨0, 0, 0⟩, 0, rfl, rfl, by omega, HZ0.out, HP0.out, HB0.out⟩
  case round =>
    obtain ⟨k, o, mo, rfl, rfl, hk10, HZ, HP, HB⟩ := hrel
    by_cases hk : k < 10
    · have hkz : 100 * (k : Int) ≤ 999 := by omega
      clear HZ0 HP0 HB0
      go_wp2
      go_loopw [7, 9] (fun n y wr => ∃ (j : Nat) (o : Origin) (mo : Int), n = .int .i64 mo ∧ y = .int .i64 (100 * j) ∧ j ≤ 10 ∧ Hid (Blk wr w.heap.size 39 #[.int .i64 0, .int .i64 0, .int .i64 0]) ∧ Hid (Blk wr (w.heap.size + 1) 39 #[.int .i64 o.x, .int .i64 o.y, .int .i64 o.tick]) ∧ Hid (Below w.heap.size w wr)) (fun _ y _ => 1000 - (intOf y).toNat)
      case atStart => exact ⟨0, o, mo, rfl, rfl, by omega, HZ.out, HP.out, HB.out⟩
      case round =>
        obtain ⟨j, o, mo, rfl, rfl, hj10, HZ, HP, HB⟩ := hrel
        by_cases hj : j < 10
        · have hjz : 100 * (j : Int) ≤ 999 := by omega
          have hp : placeB (100 * (k : Int)) (100 * (j : Int)) = true := placeB_iff.2 (by omega)
          go_wp2_with fail
          refine (l10Most_any A c l (100 * (k : Int)) (100 * (j : Int)) _ ((HR.out.below HB.out).more HB.out.size) hg hp).mono ?_
          rintro e w1 ⟨rfl, hb1⟩
          have HZ1 := Lib.hid (HZ.out.after hb1)
          have HP1 := Lib.hid (HP.out.after hb1)
          have HB1 := Lib.hid (HB.out.trans (hb1.mono HB.out.size))
          clear hb1 HZ HP HB hp
          generalize (mvTo l (100 * (k : Int)) (100 * (j : Int)) l).1 = nn
          generalize (mvTo l (100 * (k : Int)) (100 * (j : Int)) l).2 = tt
          have hP := HP1.out
          obtain ⟨p0, p1, p2⟩ := box3 hP
          have f0 := hP.frozen 0
          have f1 := hP.frozen 1
          have f2 := hP.frozen 2
          by_cases hn : mo < nn
          · have hn2 : nn > mo := hn
            have HP2 := Lib.hid (((hP.set_ 0 (.int .i64 (100 * (k : Int)))).set_ 1 (.int .i64 (100 * (j : Int)))).set_ 2 (.int .i64 tt))
            have HZ2 := Lib.hid ((((HZ1.out.far (p := ⟨w.heap.size + 1, 0, none⟩) (by show w.heap.size ≠ w.heap.size + 1; omega) (.int .i64 (100 * (k : Int)))).far (p := ⟨w.heap.size + 1, 1, none⟩) (by show w.heap.size ≠ w.heap.size + 1; omega) (.int .i64 (100 * (j : Int)))).far (p := ⟨w.heap.size + 1, 2, none⟩) (by show w.heap.size ≠ w.heap.size + 1; omega) (.int .i64 tt)))
            have HB2 := Lib.hid (((HB1.out.setCell (p := ⟨w.heap.size + 1, 0, none⟩) (by show w.heap.size ≤ w.heap.size + 1; omega) (.int .i64 (100 * (k : Int)))).setCell (p := ⟨w.heap.size + 1, 1, none⟩) (by show w.heap.size ≤ w.heap.size + 1; omega) (.int .i64 (100 * (j : Int)))).setCell (p := ⟨w.heap.size + 1, 2, none⟩) (by show w.heap.size ≤ w.heap.size + 1; omega) (.int .i64 tt))
            clear hP
            go_wp2
            go_roundw
            case rel => exact ⟨j + 1, ⟨100 * k, 100 * j, tt⟩, nn, rfl, by go_num, by omega, HZ2.out, HP2.out, HB2.out⟩
            case measure => simp [intOf]; omega
          · have hn2 : ¬ nn > mo := hn
            clear hP
            go_wp2
            go_roundw
            case rel => exact ⟨j + 1, o, mo, rfl, by go_num, by omega, HZ1.out, HP1.out, HB1.out⟩
            case measure => simp [intOf]; omega
        · have hjz : ¬ 100 * (j : Int) ≤ 999 := by omega
          go_wp2
          go_roundw
          case rel => exact ⟨k + 1, o, mo, rfl, by go_num, by omega, HZ.out, HP.out, HB.out⟩
          case measure => simp [intOf]; omega
    · have hkz : ¬ 100 * (k : Int) ≤ 999 := by omega
      obtain ⟨z0, z1, z2⟩ := box3 HZ.out
      obtain ⟨p0, p1, p2⟩ := box3 HP.out
      have f0 := HZ.out.frozen 0
      have f1 := HZ.out.frozen 1
      have f2 := HZ.out.frozen 2
      have hR : Blk (World.setCell (World.setCell (World.setCell wr ⟨w.heap.size, 0, none⟩ (.int .i64 o.x)) ⟨w.heap.size, 1, none⟩ (.int .i64 o.y)) ⟨w.heap.size, 2, none⟩ (.int .i64 o.tick)) w.heap.size 39 #[.int .i64 o.x, .int .i64 o.y, .int .i64 o.tick] := (((HZ.out.set_ 0 _).set_ 1 _).set_ 2 _)
      have HRR := Lib.hid (box3 hR)
      have HBz := Lib.hid (((HB.out.setCell (p := ⟨w.heap.size, 0, none⟩) (Nat.le_refl _) (.int .i64 o.x)).setCell (p := ⟨w.heap.size, 1, none⟩) (Nat.le_refl _) (.int .i64 o.y)).setCell (p := ⟨w.heap.size, 2, none⟩) (Nat.le_refl _) (.int .i64 o.tick))
      clear hR HZ0 HP0 HB0
      go_wp2
      obtain ⟨r0, r1, r2⟩ := HRR.out
      exact bodyPost_ret (v := .tuple #[.agg #[.int .i64 o.x, .int .i64 o.y, .int .i64 o.tick], .int .i64 mo]) (by simp [results, Try.results122, go_sem, r0, r1, r2]) rfl (by first | exact ⟨o, mo, rfl, HBz.out⟩ | exact ⟨⟨o, mo, rfl⟩, HBz.out⟩)

set_option maxRecDepth 100000 in
set_option maxHeartbeats 4000000 in
theorem BestOnGrid_loose (A : Option Addr) (c : Nat) (l : List Arrival) (w : World) (h : Rd encA 5 w w.heap.size A l) (hl : l.length ≤ 1048576) :
    Calls Try.prog 118 #[.slice A l.length c, .int .i64 100] w fun e w' => ∃ (o : Origin) (n : Int) (b : Bool), e = .returned (.tuple #[.agg #[.int .i64 o.x, .int .i64 o.y, .int .i64 o.tick], .int .i64 n, .bool b]) ∧ Below w.heap.size w w' := by
  have HZ0 := Lib.hid (Blk.new w 39 #[.int .i64 0, .int .i64 0, .int .i64 0])
  have hb0 : Below w.heap.size w (w.alloc (.cells #[.int .i64 0, .int .i64 0, .int .i64 0] 39)) := by (repeat (first | with_reducible exact Below.refl _ _ | with_reducible assumption | with_reducible refine Below.setCell ?_ (by simp <;> omega) _ | with_reducible refine Below.alloc ?_ (by first | omega | (simp <;> omega)) _ | with_reducible refine Below.drew ?_ | with_reducible refine below_drewN ?_ _))
  have hr := (h.below hb0).more hb0.size
  have HB0 := Lib.hid hb0
  clear h hb0
  go_enter Try.func118, Try.ntmps118
  go_wp2_with fail
  refine (l10Step_any A c l _ hr hl).mono ?_
  rintro e w1 ⟨rfl, hb1⟩
  have HZ1 := Lib.hid (HZ0.out.after hb1)
  have HB1 := Lib.hid (HB0.out.trans (hb1.mono HB0.out.size))
  have hr1 := hr.after hb1
  clear hb1 HZ0
  cases hg : goodAs l with
  | false =>
    obtain ⟨z0, z1, z2⟩ := box3 HZ1.out
    have f0 := HZ1.out.frozen 0
    have f1 := HZ1.out.frozen 1
    have f2 := HZ1.out.frozen 2
    have hR : Blk (World.setCell (World.setCell (World.setCell w1 ⟨w.heap.size, 0, none⟩ (.int .i64 0)) ⟨w.heap.size, 1, none⟩ (.int .i64 0)) ⟨w.heap.size, 2, none⟩ (.int .i64 0)) w.heap.size 39 #[.int .i64 0, .int .i64 0, .int .i64 0] := (((HZ1.out.set_ 0 _).set_ 1 _).set_ 2 _)
    have HRR := Lib.hid (box3 hR)
    have HBz := Lib.hid (((HB1.out.setCell (p := ⟨w.heap.size, 0, none⟩) (Nat.le_refl _) (.int .i64 0)).setCell (p := ⟨w.heap.size, 1, none⟩) (Nat.le_refl _) (.int .i64 0)).setCell (p := ⟨w.heap.size, 2, none⟩) (Nat.le_refl _) (.int .i64 0))
    clear hR
    go_wp2
    obtain ⟨r0, r1, r2⟩ := HRR.out
    exact bodyPost_ret (v := .tuple #[.agg #[.int .i64 0, .int .i64 0, .int .i64 0], .int .i64 0, .bool false]) (by simp [results, Try.results118, go_sem, r0, r1, r2]) rfl ⟨⟨0, 0, 0⟩, 0, false, rfl, HBz.out⟩
  | true =>
    go_wp2_with fail
    refine (l10Best_any A c l _ hr1 hg).mono ?_
    rintro e w2 ⟨o, n, rfl, hb2⟩
    have HZ2 := Lib.hid (HZ1.out.after hb2)
    have HB2 := Lib.hid (HB1.out.trans (hb2.mono HB1.out.size))
    clear hb2 HZ1
    have hzq : w.heap.size < w2.heap.size := HZ2.out.lt
    have hq1 : ¬ w.heap.size = w2.heap.size := by omega
    have hq2 : ¬ w2.heap.size = w.heap.size := by omega
    obtain ⟨z0, z1, z2⟩ := box3 HZ2.out
    have f0 := HZ2.out.frozen 0
    have f1 := HZ2.out.frozen 1
    have f2 := HZ2.out.frozen 2
    have HX := Lib.hid (Blk.new w2 39 #[.int .i64 o.x, .int .i64 o.y, .int .i64 o.tick])
    obtain ⟨x0, x1, x2⟩ := box3 HX.out
    have hR : Blk (World.alloc (World.setCell (World.setCell (World.setCell w2 ⟨w.heap.size, 0, none⟩ (.int .i64 o.x)) ⟨w.heap.size, 1, none⟩ (.int .i64 o.y)) ⟨w.heap.size, 2, none⟩ (.int .i64 o.tick)) (.cells #[.int .i64 o.x, .int .i64 o.y, .int .i64 o.tick] 39)) w.heap.size 39 #[.int .i64 o.x, .int .i64 o.y, .int .i64 o.tick] := (((HZ2.out.set_ 0 _).set_ 1 _).set_ 2 _).alloc _
    have HRR := Lib.hid (box3 hR)
    have hBz := ((HB2.out.setCell (p := ⟨w.heap.size, 0, none⟩) (Nat.le_refl _) (.int .i64 o.x)).setCell (p := ⟨w.heap.size, 1, none⟩) (Nat.le_refl _) (.int .i64 o.y)).setCell (p := ⟨w.heap.size, 2, none⟩) (Nat.le_refl _) (.int .i64 o.tick)
    have HBz := Lib.hid (hBz.trans (show Below _ _ (World.alloc (World.setCell (World.setCell (World.setCell w2 ⟨w.heap.size, 0, none⟩ (.int .i64 o.x)) ⟨w.heap.size, 1, none⟩ (.int .i64 o.y)) ⟨w.heap.size, 2, none⟩ (.int .i64 o.tick)) (.cells #[.int .i64 o.x, .int .i64 o.y, .int .i64 o.tick] 39)) from (Below.refl _ _).alloc (by simp [World.setCell]; omega) _))
    clear hR hBz
    obtain ⟨pos, hpos⟩ : ∃ b : Bool, decide (0 < n) = b := ⟨_, rfl⟩
    go_wp2
    obtain ⟨r0, r1, r2⟩ := HRR.out
    exact bodyPost_ret (v := .tuple #[.agg #[.int .i64 o.x, .int .i64 o.y, .int .i64 o.tick], .int .i64 n, .bool pos]) (by simp [results, Try.results118, go_sem, r0, r1, r2, ← hpos]) rfl ⟨o, n, pos, rfl, HBz.out⟩

end Go.Proofs.Ytdadcbcanjmoeaa
