/-
  Contracts of the exported draws of seat B. (Printed by gen_B7.py.)
-/
import Derived.Test.YtaemdldpcpefbaaDSet
namespace Go.Proofs.Ytaemdldpcpefbaa
set_option linter.unusedVariables false
open Go.RowKit
set_option maxRecDepth 100000 in
set_option maxHeartbeats 2000000 in
theorem DrawOnPlaces_any (A : Option Addr) (c : Nat) (code : List Int) (w : World) (h : Rd encB 1 w w.heap.size A code) (hl : code.length ≤ 1048576) (hby : ∀ n ∈ code, 0 ≤ n ∧ n ≤ 255) :
    Calls Try.prog 64 #[.slice A code.length c] w fun e w' => ∃ (A' : Option Addr) (c' : Nat) (l : List Int) (x : Setting), e = .returned (.tuple #[.slice A' l.length c', .agg #[.int .i64 x.short, .int .i64 x.long, .int .i64 x.on, .int .i64 x.off]]) ∧ l.length ≤ 60 ∧ (l.length ≤ c' ∧ c' ≤ maxLen) ∧ Own encI 1 w' w.heap.size 3 (.slice A' l.length c') l ∧ Below w.heap.size w w' := by
  have hbz : Below w.heap.size w (w.alloc (.cells #[.int .i64 0, .int .i64 0, .int .i64 0, .int .i64 0] 25)) := by (repeat (first | with_reducible exact Below.refl _ _ | with_reducible assumption | with_reducible refine Below.setCell ?_ (by simp <;> omega) _ | with_reducible refine Below.alloc ?_ (by first | omega | (simp <;> omega)) _ | with_reducible refine Below.drew ?_ | with_reducible refine below_drewN ?_ _))
  have hC0 : Cur ((w.alloc (.cells #[.int .i64 0, .int .i64 0, .int .i64 0, .int .i64 0] 25)).alloc (.cells #[.slice A code.length c, .int .i64 0, .int .u64 0] 72)) (w.heap.size + 1) 0 := by have hq := Cur.new (c := c) ((h.below hbz).more hbz.size) hl hby; simp at hq; exact hq
  have HB0 : Hid (Below w.heap.size w ((w.alloc (.cells #[.int .i64 0, .int .i64 0, .int .i64 0, .int .i64 0] 25)).alloc (.cells #[.slice A code.length c, .int .i64 0, .int .u64 0] 72))) := by show Below _ _ _; (repeat (first | with_reducible exact Below.refl _ _ | with_reducible assumption | with_reducible refine Below.setCell ?_ (by simp <;> omega) _ | with_reducible refine Below.alloc ?_ (by first | omega | (simp <;> omega)) _ | with_reducible refine Below.drew ?_ | with_reducible refine below_drewN ?_ _))
  have HZ : Hid (Blk ((w.alloc (.cells #[.int .i64 0, .int .i64 0, .int .i64 0, .int .i64 0] 25)).alloc (.cells #[.slice A code.length c, .int .i64 0, .int .u64 0] 72)) w.heap.size 25 #[.int .i64 0, .int .i64 0, .int .i64 0, .int .i64 0]) := (Blk.new w _ _).alloc _
  clear hby hbz
  go_enter Try.func64, Try.ntmps64
  go_wp2_with fail
  refine (shaken_any (w.heap.size + 1) 0 _ hC0 (by omega)).mono ?_
  rintro e w1 ⟨v, l, rfl, hll, hown, hC, hg⟩
  have HB1 := Lib.hid (below_of_cur HB0.out (by omega) hg)
  have HZ1 := Lib.hid (HZ.out.grown hg (by intro e9; injection e9; omega))
  have HO := Lib.hid (hown.mono (show w.heap.size + 1 ≤ _ by simp))
  have HC1 := Lib.hid hC
  have hs1 := HB1.out.size
  obtain ⟨A1, c1, rfl, hcc, _⟩ := Own.form encI_len hown
  clear hC hg hown hC0 HZ HB0
  go_wp2_with fail
  refine (setting_any (w.heap.size + 1) _ _ HC1.out (by omega)).mono ?_
  rintro e w2 ⟨x, rfl, hC, hg⟩
  have HB2 := Lib.hid (below_of_cur HB1.out (by omega) hg)
  have HZ_2 := Lib.hid (HZ1.out.grown hg (by intro e9; injection e9; omega))
  clear HZ1
  have HO_2 := Lib.hid (HO.out.cur HC1.out hg (by decide))
  clear HO
  have HC2 := Lib.hid hC
  have hs2 := HB2.out.size
  clear hC hg HC1
  have hZ := HZ_2.out
  obtain ⟨z0, z1, z2, z3⟩ := box4 hZ
  have f0 := hZ.frozen 0
  have f1 := hZ.frozen 1
  have f2 := hZ.frozen 2
  have f3 := hZ.frozen 3
  have hbz : Below w.heap.size w2 (World.setCell (World.setCell (World.setCell (World.setCell w2 ⟨w.heap.size, 0, none⟩ (.int .i64 x.short)) ⟨w.heap.size, 1, none⟩ (.int .i64 x.long)) ⟨w.heap.size, 2, none⟩ (.int .i64 x.on)) ⟨w.heap.size, 3, none⟩ (.int .i64 x.off)) := by (repeat (first | with_reducible exact Below.refl _ _ | with_reducible assumption | with_reducible refine Below.setCell ?_ (by simp <;> omega) _ | with_reducible refine Below.alloc ?_ (by first | omega | (simp <;> omega)) _ | with_reducible refine Below.drew ?_ | with_reducible refine below_drewN ?_ _))
  have hR : Blk (World.setCell (World.setCell (World.setCell (World.setCell w2 ⟨w.heap.size, 0, none⟩ (.int .i64 x.short)) ⟨w.heap.size, 1, none⟩ (.int .i64 x.long)) ⟨w.heap.size, 2, none⟩ (.int .i64 x.on)) ⟨w.heap.size, 3, none⟩ (.int .i64 x.off)) w.heap.size 25 #[.int .i64 x.short, .int .i64 x.long, .int .i64 x.on, .int .i64 x.off] := ((((hZ.set_ 0 _).set_ 1 _).set_ 2 _).set_ 3 _)
  have HRR := Lib.hid (box4 hR)
  have HBz := Lib.hid (HB2.out.trans hbz)
  have HOz := Lib.hid (show Own encI 1 (World.setCell (World.setCell (World.setCell (World.setCell w2 ⟨w.heap.size, 0, none⟩ (.int .i64 x.short)) ⟨w.heap.size, 1, none⟩ (.int .i64 x.long)) ⟨w.heap.size, 2, none⟩ (.int .i64 x.on)) ⟨w.heap.size, 3, none⟩ (.int .i64 x.off)) w.heap.size 3 (.slice A1 l.length c1) l from by
    have hne : ∀ q, (Value.slice A1 l.length c1).ownBlock = some q → q ≠ w.heap.size := fun q hq => by have := (HO_2.out.lt q hq).1; omega
    exact (Own.grown (w' := (World.setCell (World.setCell (World.setCell (World.setCell w2 ⟨w.heap.size, 0, none⟩ (.int .i64 x.short)) ⟨w.heap.size, 1, none⟩ (.int .i64 x.long)) ⟨w.heap.size, 2, none⟩ (.int .i64 x.on)) ⟨w.heap.size, 3, none⟩ (.int .i64 x.off))) (row := some w.heap.size) HO_2.out ⟨rfl, rfl, rfl, by simp [World.setCell], fun i hi hn => by
      have e1 := fun (W : World) (j : Nat) (u : Value) => Below.heap_setCell W ⟨w.heap.size, j, none⟩ u i (fun e => hn (by rw [e]))
      simp only [e1]⟩ (fun g9 hg9 hq => by injection hg9 with hg9; exact hne _ hq hg9.symm)).mono (show w.heap.size ≤ w.heap.size + 1 by omega))
  clear hZ hR hbz
  go_wp2
  obtain ⟨r0, r1, r2, r3⟩ := HRR.out
  exact bodyPost_ret (v := .tuple #[.slice A1 l.length c1, .agg #[.int .i64 x.short, .int .i64 x.long, .int .i64 x.on, .int .i64 x.off]]) (by simp [results, Try.results64, go_sem, r0, r1, r2, r3]) rfl ⟨A1, c1, l, x, rfl, hll, hcc, HOz.out, HBz.out⟩
set_option maxRecDepth 100000 in
set_option maxHeartbeats 2000000 in
theorem DrawRatioAt_any (A : Option Addr) (c : Nat) (code : List Int) (w : World) (h : Rd encB 1 w w.heap.size A code) (hl : code.length ≤ 1048576) (hby : ∀ n ∈ code, 0 ≤ n ∧ n ≤ 255) :
    Calls Try.prog 49 #[.slice A code.length c] w fun e w' => ∃ (A' : Option Addr) (c' : Nat) (l : List Int) (x : Setting) (p : Int), e = .returned (.tuple #[.slice A' l.length c', .agg #[.int .i64 x.short, .int .i64 x.long, .int .i64 x.on, .int .i64 x.off], .int .i64 p]) ∧ l.length ≤ 60 ∧ (l.length ≤ c' ∧ c' ≤ maxLen) ∧ Own encI 1 w' w.heap.size 3 (.slice A' l.length c') l ∧ (-1 ≤ p ∧ p ≤ l.length) ∧ Below w.heap.size w w' := by
  have hbz : Below w.heap.size w (w.alloc (.cells #[.int .i64 0, .int .i64 0, .int .i64 0, .int .i64 0] 25)) := by (repeat (first | with_reducible exact Below.refl _ _ | with_reducible assumption | with_reducible refine Below.setCell ?_ (by simp <;> omega) _ | with_reducible refine Below.alloc ?_ (by first | omega | (simp <;> omega)) _ | with_reducible refine Below.drew ?_ | with_reducible refine below_drewN ?_ _))
  have hC0 : Cur ((w.alloc (.cells #[.int .i64 0, .int .i64 0, .int .i64 0, .int .i64 0] 25)).alloc (.cells #[.slice A code.length c, .int .i64 0, .int .u64 0] 72)) (w.heap.size + 1) 0 := by have hq := Cur.new (c := c) ((h.below hbz).more hbz.size) hl hby; simp at hq; exact hq
  have HB0 : Hid (Below w.heap.size w ((w.alloc (.cells #[.int .i64 0, .int .i64 0, .int .i64 0, .int .i64 0] 25)).alloc (.cells #[.slice A code.length c, .int .i64 0, .int .u64 0] 72))) := by show Below _ _ _; (repeat (first | with_reducible exact Below.refl _ _ | with_reducible assumption | with_reducible refine Below.setCell ?_ (by simp <;> omega) _ | with_reducible refine Below.alloc ?_ (by first | omega | (simp <;> omega)) _ | with_reducible refine Below.drew ?_ | with_reducible refine below_drewN ?_ _))
  have HZ : Hid (Blk ((w.alloc (.cells #[.int .i64 0, .int .i64 0, .int .i64 0, .int .i64 0] 25)).alloc (.cells #[.slice A code.length c, .int .i64 0, .int .u64 0] 72)) w.heap.size 25 #[.int .i64 0, .int .i64 0, .int .i64 0, .int .i64 0]) := (Blk.new w _ _).alloc _
  clear hby hbz
  go_enter Try.func49, Try.ntmps49
  go_wp2_with fail
  refine (shaken_any (w.heap.size + 1) 0 _ hC0 (by omega)).mono ?_
  rintro e w1 ⟨v, l, rfl, hll, hown, hC, hg⟩
  have HB1 := Lib.hid (below_of_cur HB0.out (by omega) hg)
  have HZ1 := Lib.hid (HZ.out.grown hg (by intro e9; injection e9; omega))
  have HO := Lib.hid (hown.mono (show w.heap.size + 1 ≤ _ by simp))
  have HC1 := Lib.hid hC
  have hs1 := HB1.out.size
  obtain ⟨A1, c1, rfl, hcc, _⟩ := Own.form encI_len hown
  clear hC hg hown hC0 HZ HB0
  go_wp2_with fail
  refine (setting_any (w.heap.size + 1) _ _ HC1.out (by omega)).mono ?_
  rintro e w2 ⟨x, rfl, hC, hg⟩
  have HB2 := Lib.hid (below_of_cur HB1.out (by omega) hg)
  have HZ_2 := Lib.hid (HZ1.out.grown hg (by intro e9; injection e9; omega))
  clear HZ1
  have HO_2 := Lib.hid (HO.out.cur HC1.out hg (by decide))
  clear HO
  have HC2 := Lib.hid hC
  have hs2 := HB2.out.size
  clear hC hg HC1
  go_wp2_with fail
  refine (pick_any (w.heap.size + 1) _ ((l.length : Int) + 1) _ HC2.out (by omega) (by omega)).mono ?_
  rintro e w3 ⟨pa, rfl, ⟨hpa0, hx⟩, hC, hg⟩
  have HB3 := Lib.hid (below_of_cur HB2.out (by omega) hg)
  have HZ_3 := Lib.hid (HZ_2.out.grown hg (by intro e9; injection e9; omega))
  clear HZ_2
  have HO_3 := Lib.hid (HO_2.out.cur HC2.out hg (by decide))
  clear HO_2
  have HC3 := Lib.hid hC
  have hs3 := HB3.out.size
  clear hC hg HC2
  have hpa1 : pa ≤ l.length := by omega
  clear hx
  go_wp2_with fail
  refine (pick_any (w.heap.size + 1) _ 17 _ HC3.out (by omega) (by omega)).mono ?_
  rintro e w4 ⟨pb, rfl, ⟨hpb0, hx⟩, hC, hg⟩
  have HB4 := Lib.hid (below_of_cur HB3.out (by omega) hg)
  have HZ_4 := Lib.hid (HZ_3.out.grown hg (by intro e9; injection e9; omega))
  clear HZ_3
  have HO_4 := Lib.hid (HO_3.out.cur HC3.out hg (by decide))
  clear HO_3
  have HC4 := Lib.hid hC
  have hs4 := HB4.out.size
  clear hC hg HC3
  have hpb1 : pb ≤ 16 := by omega
  clear hx
  have hpd : pb / 16 = 0 ∨ pb / 16 = 1 := by omega
  obtain ⟨dv, hdv⟩ : ∃ z, pb / 16 = z := ⟨_, rfl⟩
  have hdv0 : 0 ≤ dv ∧ dv ≤ 1 := by omega
  obtain ⟨hdv1, hdv2⟩ := hdv0
  have hZ := HZ_4.out
  obtain ⟨z0, z1, z2, z3⟩ := box4 hZ
  have f0 := hZ.frozen 0
  have f1 := hZ.frozen 1
  have f2 := hZ.frozen 2
  have f3 := hZ.frozen 3
  have hbz : Below w.heap.size w4 (World.setCell (World.setCell (World.setCell (World.setCell w4 ⟨w.heap.size, 0, none⟩ (.int .i64 x.short)) ⟨w.heap.size, 1, none⟩ (.int .i64 x.long)) ⟨w.heap.size, 2, none⟩ (.int .i64 x.on)) ⟨w.heap.size, 3, none⟩ (.int .i64 x.off)) := by (repeat (first | with_reducible exact Below.refl _ _ | with_reducible assumption | with_reducible refine Below.setCell ?_ (by simp <;> omega) _ | with_reducible refine Below.alloc ?_ (by first | omega | (simp <;> omega)) _ | with_reducible refine Below.drew ?_ | with_reducible refine below_drewN ?_ _))
  have hR : Blk (World.setCell (World.setCell (World.setCell (World.setCell w4 ⟨w.heap.size, 0, none⟩ (.int .i64 x.short)) ⟨w.heap.size, 1, none⟩ (.int .i64 x.long)) ⟨w.heap.size, 2, none⟩ (.int .i64 x.on)) ⟨w.heap.size, 3, none⟩ (.int .i64 x.off)) w.heap.size 25 #[.int .i64 x.short, .int .i64 x.long, .int .i64 x.on, .int .i64 x.off] := ((((hZ.set_ 0 _).set_ 1 _).set_ 2 _).set_ 3 _)
  have HRR := Lib.hid (box4 hR)
  have HBz := Lib.hid (HB4.out.trans hbz)
  have HOz := Lib.hid (show Own encI 1 (World.setCell (World.setCell (World.setCell (World.setCell w4 ⟨w.heap.size, 0, none⟩ (.int .i64 x.short)) ⟨w.heap.size, 1, none⟩ (.int .i64 x.long)) ⟨w.heap.size, 2, none⟩ (.int .i64 x.on)) ⟨w.heap.size, 3, none⟩ (.int .i64 x.off)) w.heap.size 3 (.slice A1 l.length c1) l from by
    have hne : ∀ q, (Value.slice A1 l.length c1).ownBlock = some q → q ≠ w.heap.size := fun q hq => by have := (HO_4.out.lt q hq).1; omega
    exact (Own.grown (w' := (World.setCell (World.setCell (World.setCell (World.setCell w4 ⟨w.heap.size, 0, none⟩ (.int .i64 x.short)) ⟨w.heap.size, 1, none⟩ (.int .i64 x.long)) ⟨w.heap.size, 2, none⟩ (.int .i64 x.on)) ⟨w.heap.size, 3, none⟩ (.int .i64 x.off))) (row := some w.heap.size) HO_4.out ⟨rfl, rfl, rfl, by simp [World.setCell], fun i hi hn => by
      have e1 := fun (W : World) (j : Nat) (u : Value) => Below.heap_setCell W ⟨w.heap.size, j, none⟩ u i (fun e => hn (by rw [e]))
      simp only [e1]⟩ (fun g9 hg9 hq => by injection hg9 with hg9; exact hne _ hq hg9.symm)).mono (show w.heap.size ≤ w.heap.size + 1 by omega))
  clear hZ hR hbz
  go_wp2
  obtain ⟨r0, r1, r2, r3⟩ := HRR.out
  exact bodyPost_ret (v := .tuple #[.slice A1 l.length c1, .agg #[.int .i64 x.short, .int .i64 x.long, .int .i64 x.on, .int .i64 x.off], .int .i64 (pa - dv)]) (by simp [results, Try.results49, go_sem, r0, r1, r2, r3]) rfl ⟨A1, c1, l, x, pa - dv, rfl, hll, hcc, HOz.out, by omega, HBz.out⟩
set_option maxRecDepth 100000 in
set_option maxHeartbeats 2000000 in
theorem DrawTriggered_any (A : Option Addr) (c : Nat) (code : List Int) (w : World) (h : Rd encB 1 w w.heap.size A code) (hl : code.length ≤ 1048576) (hby : ∀ n ∈ code, 0 ≤ n ∧ n ≤ 255) :
    Calls Try.prog 41 #[.slice A code.length c] w fun e w' => ∃ (A' : Option Addr) (c' : Nat) (l : List Int) (x : Setting), e = .returned (.tuple #[.slice A' l.length c', .agg #[.int .i64 x.short, .int .i64 x.long, .int .i64 x.on, .int .i64 x.off]]) ∧ l.length ≤ 60 ∧ (l.length ≤ c' ∧ c' ≤ maxLen) ∧ Own encI 1 w' w.heap.size 3 (.slice A' l.length c') l ∧ Below w.heap.size w w' := by
  have hbz : Below w.heap.size w (w.alloc (.cells #[.int .i64 0, .int .i64 0, .int .i64 0, .int .i64 0] 25)) := by (repeat (first | with_reducible exact Below.refl _ _ | with_reducible assumption | with_reducible refine Below.setCell ?_ (by simp <;> omega) _ | with_reducible refine Below.alloc ?_ (by first | omega | (simp <;> omega)) _ | with_reducible refine Below.drew ?_ | with_reducible refine below_drewN ?_ _))
  have hbz0 := hbz
  have HZ := Lib.hid (Blk.new w 25 #[.int .i64 0, .int .i64 0, .int .i64 0, .int .i64 0])
  have h1 := (h.below hbz).more hbz.size
  go_enter Try.func41, Try.ntmps41
  go_wp2_with fail
  refine (DrawOnPlaces_any A c code _ h1 hl hby).mono ?_
  rintro e w1 ⟨A1, c1, l, x, rfl, hll, hcc, hown, hb⟩
  have HZ1 := Lib.hid (HZ.out.after hb)
  have HO1 := Lib.hid hown
  have HB1 := Lib.hid (hbz.trans (hb.mono hbz.size))
  clear hown hb hbz HZ
  have hZ := HZ1.out
  obtain ⟨z0, z1, z2, z3⟩ := box4 hZ
  have f0 := hZ.frozen 0
  have f1 := hZ.frozen 1
  have f2 := hZ.frozen 2
  have f3 := hZ.frozen 3
  have hbz : Below w.heap.size w1 (World.setCell (World.setCell (World.setCell (World.setCell w1 ⟨w.heap.size, 0, none⟩ (.int .i64 x.short)) ⟨w.heap.size, 1, none⟩ (.int .i64 x.long)) ⟨w.heap.size, 2, none⟩ (.int .i64 x.on)) ⟨w.heap.size, 3, none⟩ (.int .i64 x.off)) := by (repeat (first | with_reducible exact Below.refl _ _ | with_reducible assumption | with_reducible refine Below.setCell ?_ (by simp <;> omega) _ | with_reducible refine Below.alloc ?_ (by first | omega | (simp <;> omega)) _ | with_reducible refine Below.drew ?_ | with_reducible refine below_drewN ?_ _))
  have hR : Blk (World.setCell (World.setCell (World.setCell (World.setCell w1 ⟨w.heap.size, 0, none⟩ (.int .i64 x.short)) ⟨w.heap.size, 1, none⟩ (.int .i64 x.long)) ⟨w.heap.size, 2, none⟩ (.int .i64 x.on)) ⟨w.heap.size, 3, none⟩ (.int .i64 x.off)) w.heap.size 25 #[.int .i64 x.short, .int .i64 x.long, .int .i64 x.on, .int .i64 x.off] := ((((hZ.set_ 0 _).set_ 1 _).set_ 2 _).set_ 3 _)
  have HRR := Lib.hid (box4 hR)
  have HBz := Lib.hid (HB1.out.trans hbz)
  have hsz1 : (w.alloc (.cells #[.int .i64 0, .int .i64 0, .int .i64 0, .int .i64 0] 25)).heap.size = w.heap.size + 1 := by simp
  have HO1 := Lib.hid (show Own encI 1 (World.setCell (World.setCell (World.setCell (World.setCell w1 ⟨w.heap.size, 0, none⟩ (.int .i64 x.short)) ⟨w.heap.size, 1, none⟩ (.int .i64 x.long)) ⟨w.heap.size, 2, none⟩ (.int .i64 x.on)) ⟨w.heap.size, 3, none⟩ (.int .i64 x.off)) w.heap.size 3 (.slice A1 l.length c1) l from by
    have hne : ∀ q, (Value.slice A1 l.length c1).ownBlock = some q → q ≠ w.heap.size := fun q hq => by have := (HO1.out.lt q hq).1; omega
    exact (Own.grown (w' := (World.setCell (World.setCell (World.setCell (World.setCell w1 ⟨w.heap.size, 0, none⟩ (.int .i64 x.short)) ⟨w.heap.size, 1, none⟩ (.int .i64 x.long)) ⟨w.heap.size, 2, none⟩ (.int .i64 x.on)) ⟨w.heap.size, 3, none⟩ (.int .i64 x.off))) (row := some w.heap.size) HO1.out ⟨rfl, rfl, rfl, by simp [World.setCell], fun i hi hn => by
      have e1 := fun (W : World) (j : Nat) (u : Value) => Below.heap_setCell W ⟨w.heap.size, j, none⟩ u i (fun e => hn (by rw [e]))
      simp only [e1]⟩ (fun g9 hg9 hq => by injection hg9 with hg9; exact hne _ hq hg9.symm)).mono (by omega))
  clear hZ hR hbz
  go_wp2
  obtain ⟨r0, r1, r2, r3⟩ := HRR.out
  exact bodyPost_ret (v := .tuple #[.slice A1 l.length c1, .agg #[.int .i64 x.short, .int .i64 x.long, .int .i64 x.on, .int .i64 x.off]]) (by simp [results, Try.results41, go_sem, r0, r1, r2, r3]) rfl ⟨A1, c1, l, x, rfl, hll, hcc, HO1.out, HBz.out⟩
set_option maxRecDepth 100000 in
set_option maxHeartbeats 2000000 in
theorem DrawLongestOn_any (A : Option Addr) (c : Nat) (code : List Int) (w : World) (h : Rd encB 1 w w.heap.size A code) (hl : code.length ≤ 1048576) (hby : ∀ n ∈ code, 0 ≤ n ∧ n ≤ 255) :
    Calls Try.prog 45 #[.slice A code.length c] w fun e w' => ∃ (A' : Option Addr) (c' : Nat) (l : List Int) (x : Setting), e = .returned (.tuple #[.slice A' l.length c', .agg #[.int .i64 x.short, .int .i64 x.long, .int .i64 x.on, .int .i64 x.off]]) ∧ l.length ≤ 60 ∧ (l.length ≤ c' ∧ c' ≤ maxLen) ∧ Own encI 1 w' w.heap.size 3 (.slice A' l.length c') l ∧ Below w.heap.size w w' := by
  have hbz : Below w.heap.size w (w.alloc (.cells #[.int .i64 0, .int .i64 0, .int .i64 0, .int .i64 0] 25)) := by (repeat (first | with_reducible exact Below.refl _ _ | with_reducible assumption | with_reducible refine Below.setCell ?_ (by simp <;> omega) _ | with_reducible refine Below.alloc ?_ (by first | omega | (simp <;> omega)) _ | with_reducible refine Below.drew ?_ | with_reducible refine below_drewN ?_ _))
  have hbz0 := hbz
  have HZ := Lib.hid (Blk.new w 25 #[.int .i64 0, .int .i64 0, .int .i64 0, .int .i64 0])
  have h1 := (h.below hbz).more hbz.size
  go_enter Try.func45, Try.ntmps45
  go_wp2_with fail
  refine (DrawOnPlaces_any A c code _ h1 hl hby).mono ?_
  rintro e w1 ⟨A1, c1, l, x, rfl, hll, hcc, hown, hb⟩
  have HZ1 := Lib.hid (HZ.out.after hb)
  have HO1 := Lib.hid hown
  have HB1 := Lib.hid (hbz.trans (hb.mono hbz.size))
  clear hown hb hbz HZ
  have hZ := HZ1.out
  obtain ⟨z0, z1, z2, z3⟩ := box4 hZ
  have f0 := hZ.frozen 0
  have f1 := hZ.frozen 1
  have f2 := hZ.frozen 2
  have f3 := hZ.frozen 3
  have hbz : Below w.heap.size w1 (World.setCell (World.setCell (World.setCell (World.setCell w1 ⟨w.heap.size, 0, none⟩ (.int .i64 x.short)) ⟨w.heap.size, 1, none⟩ (.int .i64 x.long)) ⟨w.heap.size, 2, none⟩ (.int .i64 x.on)) ⟨w.heap.size, 3, none⟩ (.int .i64 x.off)) := by (repeat (first | with_reducible exact Below.refl _ _ | with_reducible assumption | with_reducible refine Below.setCell ?_ (by simp <;> omega) _ | with_reducible refine Below.alloc ?_ (by first | omega | (simp <;> omega)) _ | with_reducible refine Below.drew ?_ | with_reducible refine below_drewN ?_ _))
  have hR : Blk (World.setCell (World.setCell (World.setCell (World.setCell w1 ⟨w.heap.size, 0, none⟩ (.int .i64 x.short)) ⟨w.heap.size, 1, none⟩ (.int .i64 x.long)) ⟨w.heap.size, 2, none⟩ (.int .i64 x.on)) ⟨w.heap.size, 3, none⟩ (.int .i64 x.off)) w.heap.size 25 #[.int .i64 x.short, .int .i64 x.long, .int .i64 x.on, .int .i64 x.off] := ((((hZ.set_ 0 _).set_ 1 _).set_ 2 _).set_ 3 _)
  have HRR := Lib.hid (box4 hR)
  have HBz := Lib.hid (HB1.out.trans hbz)
  have hsz1 : (w.alloc (.cells #[.int .i64 0, .int .i64 0, .int .i64 0, .int .i64 0] 25)).heap.size = w.heap.size + 1 := by simp
  have HO1 := Lib.hid (show Own encI 1 (World.setCell (World.setCell (World.setCell (World.setCell w1 ⟨w.heap.size, 0, none⟩ (.int .i64 x.short)) ⟨w.heap.size, 1, none⟩ (.int .i64 x.long)) ⟨w.heap.size, 2, none⟩ (.int .i64 x.on)) ⟨w.heap.size, 3, none⟩ (.int .i64 x.off)) w.heap.size 3 (.slice A1 l.length c1) l from by
    have hne : ∀ q, (Value.slice A1 l.length c1).ownBlock = some q → q ≠ w.heap.size := fun q hq => by have := (HO1.out.lt q hq).1; omega
    exact (Own.grown (w' := (World.setCell (World.setCell (World.setCell (World.setCell w1 ⟨w.heap.size, 0, none⟩ (.int .i64 x.short)) ⟨w.heap.size, 1, none⟩ (.int .i64 x.long)) ⟨w.heap.size, 2, none⟩ (.int .i64 x.on)) ⟨w.heap.size, 3, none⟩ (.int .i64 x.off))) (row := some w.heap.size) HO1.out ⟨rfl, rfl, rfl, by simp [World.setCell], fun i hi hn => by
      have e1 := fun (W : World) (j : Nat) (u : Value) => Below.heap_setCell W ⟨w.heap.size, j, none⟩ u i (fun e => hn (by rw [e]))
      simp only [e1]⟩ (fun g9 hg9 hq => by injection hg9 with hg9; exact hne _ hq hg9.symm)).mono (by omega))
  clear hZ hR hbz
  go_wp2
  obtain ⟨r0, r1, r2, r3⟩ := HRR.out
  exact bodyPost_ret (v := .tuple #[.slice A1 l.length c1, .agg #[.int .i64 x.short, .int .i64 x.long, .int .i64 x.on, .int .i64 x.off]]) (by simp [results, Try.results45, go_sem, r0, r1, r2, r3]) rfl ⟨A1, c1, l, x, rfl, hll, hcc, HO1.out, HBz.out⟩
set_option maxRecDepth 100000 in
set_option maxHeartbeats 2000000 in
theorem DrawGreatestRatio_any (A : Option Addr) (c : Nat) (code : List Int) (w : World) (h : Rd encB 1 w w.heap.size A code) (hl : code.length ≤ 1048576) (hby : ∀ n ∈ code, 0 ≤ n ∧ n ≤ 255) :
    Calls Try.prog 46 #[.slice A code.length c] w fun e w' => ∃ (A' : Option Addr) (c' : Nat) (l : List Int) (x : Setting), e = .returned (.tuple #[.slice A' l.length c', .agg #[.int .i64 x.short, .int .i64 x.long, .int .i64 x.on, .int .i64 x.off]]) ∧ l.length ≤ 60 ∧ (l.length ≤ c' ∧ c' ≤ maxLen) ∧ Own encI 1 w' w.heap.size 3 (.slice A' l.length c') l ∧ Below w.heap.size w w' := by
  have hbz : Below w.heap.size w (w.alloc (.cells #[.int .i64 0, .int .i64 0, .int .i64 0, .int .i64 0] 25)) := by (repeat (first | with_reducible exact Below.refl _ _ | with_reducible assumption | with_reducible refine Below.setCell ?_ (by simp <;> omega) _ | with_reducible refine Below.alloc ?_ (by first | omega | (simp <;> omega)) _ | with_reducible refine Below.drew ?_ | with_reducible refine below_drewN ?_ _))
  have hbz0 := hbz
  have HZ := Lib.hid (Blk.new w 25 #[.int .i64 0, .int .i64 0, .int .i64 0, .int .i64 0])
  have h1 := (h.below hbz).more hbz.size
  go_enter Try.func46, Try.ntmps46
  go_wp2_with fail
  refine (DrawOnPlaces_any A c code _ h1 hl hby).mono ?_
  rintro e w1 ⟨A1, c1, l, x, rfl, hll, hcc, hown, hb⟩
  have HZ1 := Lib.hid (HZ.out.after hb)
  have HO1 := Lib.hid hown
  have HB1 := Lib.hid (hbz.trans (hb.mono hbz.size))
  clear hown hb hbz HZ
  have hZ := HZ1.out
  obtain ⟨z0, z1, z2, z3⟩ := box4 hZ
  have f0 := hZ.frozen 0
  have f1 := hZ.frozen 1
  have f2 := hZ.frozen 2
  have f3 := hZ.frozen 3
  have hbz : Below w.heap.size w1 (World.setCell (World.setCell (World.setCell (World.setCell w1 ⟨w.heap.size, 0, none⟩ (.int .i64 x.short)) ⟨w.heap.size, 1, none⟩ (.int .i64 x.long)) ⟨w.heap.size, 2, none⟩ (.int .i64 x.on)) ⟨w.heap.size, 3, none⟩ (.int .i64 x.off)) := by (repeat (first | with_reducible exact Below.refl _ _ | with_reducible assumption | with_reducible refine Below.setCell ?_ (by simp <;> omega) _ | with_reducible refine Below.alloc ?_ (by first | omega | (simp <;> omega)) _ | with_reducible refine Below.drew ?_ | with_reducible refine below_drewN ?_ _))
  have hR : Blk (World.setCell (World.setCell (World.setCell (World.setCell w1 ⟨w.heap.size, 0, none⟩ (.int .i64 x.short)) ⟨w.heap.size, 1, none⟩ (.int .i64 x.long)) ⟨w.heap.size, 2, none⟩ (.int .i64 x.on)) ⟨w.heap.size, 3, none⟩ (.int .i64 x.off)) w.heap.size 25 #[.int .i64 x.short, .int .i64 x.long, .int .i64 x.on, .int .i64 x.off] := ((((hZ.set_ 0 _).set_ 1 _).set_ 2 _).set_ 3 _)
  have HRR := Lib.hid (box4 hR)
  have HBz := Lib.hid (HB1.out.trans hbz)
  have hsz1 : (w.alloc (.cells #[.int .i64 0, .int .i64 0, .int .i64 0, .int .i64 0] 25)).heap.size = w.heap.size + 1 := by simp
  have HO1 := Lib.hid (show Own encI 1 (World.setCell (World.setCell (World.setCell (World.setCell w1 ⟨w.heap.size, 0, none⟩ (.int .i64 x.short)) ⟨w.heap.size, 1, none⟩ (.int .i64 x.long)) ⟨w.heap.size, 2, none⟩ (.int .i64 x.on)) ⟨w.heap.size, 3, none⟩ (.int .i64 x.off)) w.heap.size 3 (.slice A1 l.length c1) l from by
    have hne : ∀ q, (Value.slice A1 l.length c1).ownBlock = some q → q ≠ w.heap.size := fun q hq => by have := (HO1.out.lt q hq).1; omega
    exact (Own.grown (w' := (World.setCell (World.setCell (World.setCell (World.setCell w1 ⟨w.heap.size, 0, none⟩ (.int .i64 x.short)) ⟨w.heap.size, 1, none⟩ (.int .i64 x.long)) ⟨w.heap.size, 2, none⟩ (.int .i64 x.on)) ⟨w.heap.size, 3, none⟩ (.int .i64 x.off))) (row := some w.heap.size) HO1.out ⟨rfl, rfl, rfl, by simp [World.setCell], fun i hi hn => by
      have e1 := fun (W : World) (j : Nat) (u : Value) => Below.heap_setCell W ⟨w.heap.size, j, none⟩ u i (fun e => hn (by rw [e]))
      simp only [e1]⟩ (fun g9 hg9 hq => by injection hg9 with hg9; exact hne _ hq hg9.symm)).mono (by omega))
  clear hZ hR hbz
  go_wp2
  obtain ⟨r0, r1, r2, r3⟩ := HRR.out
  exact bodyPost_ret (v := .tuple #[.slice A1 l.length c1, .agg #[.int .i64 x.short, .int .i64 x.long, .int .i64 x.on, .int .i64 x.off]]) (by simp [results, Try.results46, go_sem, r0, r1, r2, r3]) rfl ⟨A1, c1, l, x, rfl, hll, hcc, HO1.out, HBz.out⟩
set_option maxRecDepth 100000 in
set_option maxHeartbeats 2000000 in
theorem DrawLeastOn_any (A : Option Addr) (c : Nat) (code : List Int) (w : World) (h : Rd encB 1 w w.heap.size A code) (hl : code.length ≤ 1048576) (hby : ∀ n ∈ code, 0 ≤ n ∧ n ≤ 255) :
    Calls Try.prog 47 #[.slice A code.length c] w fun e w' => ∃ (A' : Option Addr) (c' : Nat) (l : List Int) (x : Setting), e = .returned (.tuple #[.slice A' l.length c', .agg #[.int .i64 x.short, .int .i64 x.long, .int .i64 x.on, .int .i64 x.off]]) ∧ l.length ≤ 60 ∧ (l.length ≤ c' ∧ c' ≤ maxLen) ∧ Own encI 1 w' w.heap.size 3 (.slice A' l.length c') l ∧ Below w.heap.size w w' := by
  have hbz : Below w.heap.size w (w.alloc (.cells #[.int .i64 0, .int .i64 0, .int .i64 0, .int .i64 0] 25)) := by (repeat (first | with_reducible exact Below.refl _ _ | with_reducible assumption | with_reducible refine Below.setCell ?_ (by simp <;> omega) _ | with_reducible refine Below.alloc ?_ (by first | omega | (simp <;> omega)) _ | with_reducible refine Below.drew ?_ | with_reducible refine below_drewN ?_ _))
  have hbz0 := hbz
  have HZ := Lib.hid (Blk.new w 25 #[.int .i64 0, .int .i64 0, .int .i64 0, .int .i64 0])
  have h1 := (h.below hbz).more hbz.size
  go_enter Try.func47, Try.ntmps47
  go_wp2_with fail
  refine (DrawOnPlaces_any A c code _ h1 hl hby).mono ?_
  rintro e w1 ⟨A1, c1, l, x, rfl, hll, hcc, hown, hb⟩
  have HZ1 := Lib.hid (HZ.out.after hb)
  have HO1 := Lib.hid hown
  have HB1 := Lib.hid (hbz.trans (hb.mono hbz.size))
  clear hown hb hbz HZ
  have hZ := HZ1.out
  obtain ⟨z0, z1, z2, z3⟩ := box4 hZ
  have f0 := hZ.frozen 0
  have f1 := hZ.frozen 1
  have f2 := hZ.frozen 2
  have f3 := hZ.frozen 3
  have hbz : Below w.heap.size w1 (World.setCell (World.setCell (World.setCell (World.setCell w1 ⟨w.heap.size, 0, none⟩ (.int .i64 x.short)) ⟨w.heap.size, 1, none⟩ (.int .i64 x.long)) ⟨w.heap.size, 2, none⟩ (.int .i64 x.on)) ⟨w.heap.size, 3, none⟩ (.int .i64 x.off)) := by (repeat (first | with_reducible exact Below.refl _ _ | with_reducible assumption | with_reducible refine Below.setCell ?_ (by simp <;> omega) _ | with_reducible refine Below.alloc ?_ (by first | omega | (simp <;> omega)) _ | with_reducible refine Below.drew ?_ | with_reducible refine below_drewN ?_ _))
  have hR : Blk (World.setCell (World.setCell (World.setCell (World.setCell w1 ⟨w.heap.size, 0, none⟩ (.int .i64 x.short)) ⟨w.heap.size, 1, none⟩ (.int .i64 x.long)) ⟨w.heap.size, 2, none⟩ (.int .i64 x.on)) ⟨w.heap.size, 3, none⟩ (.int .i64 x.off)) w.heap.size 25 #[.int .i64 x.short, .int .i64 x.long, .int .i64 x.on, .int .i64 x.off] := ((((hZ.set_ 0 _).set_ 1 _).set_ 2 _).set_ 3 _)
  have HRR := Lib.hid (box4 hR)
  have HBz := Lib.hid (HB1.out.trans hbz)
  have hsz1 : (w.alloc (.cells #[.int .i64 0, .int .i64 0, .int .i64 0, .int .i64 0] 25)).heap.size = w.heap.size + 1 := by simp
  have HO1 := Lib.hid (show Own encI 1 (World.setCell (World.setCell (World.setCell (World.setCell w1 ⟨w.heap.size, 0, none⟩ (.int .i64 x.short)) ⟨w.heap.size, 1, none⟩ (.int .i64 x.long)) ⟨w.heap.size, 2, none⟩ (.int .i64 x.on)) ⟨w.heap.size, 3, none⟩ (.int .i64 x.off)) w.heap.size 3 (.slice A1 l.length c1) l from by
    have hne : ∀ q, (Value.slice A1 l.length c1).ownBlock = some q → q ≠ w.heap.size := fun q hq => by have := (HO1.out.lt q hq).1; omega
    exact (Own.grown (w' := (World.setCell (World.setCell (World.setCell (World.setCell w1 ⟨w.heap.size, 0, none⟩ (.int .i64 x.short)) ⟨w.heap.size, 1, none⟩ (.int .i64 x.long)) ⟨w.heap.size, 2, none⟩ (.int .i64 x.on)) ⟨w.heap.size, 3, none⟩ (.int .i64 x.off))) (row := some w.heap.size) HO1.out ⟨rfl, rfl, rfl, by simp [World.setCell], fun i hi hn => by
      have e1 := fun (W : World) (j : Nat) (u : Value) => Below.heap_setCell W ⟨w.heap.size, j, none⟩ u i (fun e => hn (by rw [e]))
      simp only [e1]⟩ (fun g9 hg9 hq => by injection hg9 with hg9; exact hne _ hq hg9.symm)).mono (by omega))
  clear hZ hR hbz
  go_wp2
  obtain ⟨r0, r1, r2, r3⟩ := HRR.out
  exact bodyPost_ret (v := .tuple #[.slice A1 l.length c1, .agg #[.int .i64 x.short, .int .i64 x.long, .int .i64 x.on, .int .i64 x.off]]) (by simp [results, Try.results47, go_sem, r0, r1, r2, r3]) rfl ⟨A1, c1, l, x, rfl, hll, hcc, HO1.out, HBz.out⟩
set_option maxRecDepth 100000 in
set_option maxHeartbeats 2000000 in
theorem DrawFirstMotion_any (A : Option Addr) (c : Nat) (code : List Int) (w : World) (h : Rd encB 1 w w.heap.size A code) (hl : code.length ≤ 1048576) (hby : ∀ n ∈ code, 0 ≤ n ∧ n ≤ 255) :
    Calls Try.prog 48 #[.slice A code.length c] w fun e w' => ∃ (A' : Option Addr) (c' : Nat) (l : List Int) (x : Setting), e = .returned (.tuple #[.slice A' l.length c', .agg #[.int .i64 x.short, .int .i64 x.long, .int .i64 x.on, .int .i64 x.off]]) ∧ l.length ≤ 60 ∧ (l.length ≤ c' ∧ c' ≤ maxLen) ∧ Own encI 1 w' w.heap.size 3 (.slice A' l.length c') l ∧ Below w.heap.size w w' := by
  have hbz : Below w.heap.size w (w.alloc (.cells #[.int .i64 0, .int .i64 0, .int .i64 0, .int .i64 0] 25)) := by (repeat (first | with_reducible exact Below.refl _ _ | with_reducible assumption | with_reducible refine Below.setCell ?_ (by simp <;> omega) _ | with_reducible refine Below.alloc ?_ (by first | omega | (simp <;> omega)) _ | with_reducible refine Below.drew ?_ | with_reducible refine below_drewN ?_ _))
  have hbz0 := hbz
  have HZ := Lib.hid (Blk.new w 25 #[.int .i64 0, .int .i64 0, .int .i64 0, .int .i64 0])
  have h1 := (h.below hbz).more hbz.size
  go_enter Try.func48, Try.ntmps48
  go_wp2_with fail
  refine (DrawOnPlaces_any A c code _ h1 hl hby).mono ?_
  rintro e w1 ⟨A1, c1, l, x, rfl, hll, hcc, hown, hb⟩
  have HZ1 := Lib.hid (HZ.out.after hb)
  have HO1 := Lib.hid hown
  have HB1 := Lib.hid (hbz.trans (hb.mono hbz.size))
  clear hown hb hbz HZ
  have hZ := HZ1.out
  obtain ⟨z0, z1, z2, z3⟩ := box4 hZ
  have f0 := hZ.frozen 0
  have f1 := hZ.frozen 1
  have f2 := hZ.frozen 2
  have f3 := hZ.frozen 3
  have hbz : Below w.heap.size w1 (World.setCell (World.setCell (World.setCell (World.setCell w1 ⟨w.heap.size, 0, none⟩ (.int .i64 x.short)) ⟨w.heap.size, 1, none⟩ (.int .i64 x.long)) ⟨w.heap.size, 2, none⟩ (.int .i64 x.on)) ⟨w.heap.size, 3, none⟩ (.int .i64 x.off)) := by (repeat (first | with_reducible exact Below.refl _ _ | with_reducible assumption | with_reducible refine Below.setCell ?_ (by simp <;> omega) _ | with_reducible refine Below.alloc ?_ (by first | omega | (simp <;> omega)) _ | with_reducible refine Below.drew ?_ | with_reducible refine below_drewN ?_ _))
  have hR : Blk (World.setCell (World.setCell (World.setCell (World.setCell w1 ⟨w.heap.size, 0, none⟩ (.int .i64 x.short)) ⟨w.heap.size, 1, none⟩ (.int .i64 x.long)) ⟨w.heap.size, 2, none⟩ (.int .i64 x.on)) ⟨w.heap.size, 3, none⟩ (.int .i64 x.off)) w.heap.size 25 #[.int .i64 x.short, .int .i64 x.long, .int .i64 x.on, .int .i64 x.off] := ((((hZ.set_ 0 _).set_ 1 _).set_ 2 _).set_ 3 _)
  have HRR := Lib.hid (box4 hR)
  have HBz := Lib.hid (HB1.out.trans hbz)
  have hsz1 : (w.alloc (.cells #[.int .i64 0, .int .i64 0, .int .i64 0, .int .i64 0] 25)).heap.size = w.heap.size + 1 := by simp
  have HO1 := Lib.hid (show Own encI 1 (World.setCell (World.setCell (World.setCell (World.setCell w1 ⟨w.heap.size, 0, none⟩ (.int .i64 x.short)) ⟨w.heap.size, 1, none⟩ (.int .i64 x.long)) ⟨w.heap.size, 2, none⟩ (.int .i64 x.on)) ⟨w.heap.size, 3, none⟩ (.int .i64 x.off)) w.heap.size 3 (.slice A1 l.length c1) l from by
    have hne : ∀ q, (Value.slice A1 l.length c1).ownBlock = some q → q ≠ w.heap.size := fun q hq => by have := (HO1.out.lt q hq).1; omega
    exact (Own.grown (w' := (World.setCell (World.setCell (World.setCell (World.setCell w1 ⟨w.heap.size, 0, none⟩ (.int .i64 x.short)) ⟨w.heap.size, 1, none⟩ (.int .i64 x.long)) ⟨w.heap.size, 2, none⟩ (.int .i64 x.on)) ⟨w.heap.size, 3, none⟩ (.int .i64 x.off))) (row := some w.heap.size) HO1.out ⟨rfl, rfl, rfl, by simp [World.setCell], fun i hi hn => by
      have e1 := fun (W : World) (j : Nat) (u : Value) => Below.heap_setCell W ⟨w.heap.size, j, none⟩ u i (fun e => hn (by rw [e]))
      simp only [e1]⟩ (fun g9 hg9 hq => by injection hg9 with hg9; exact hne _ hq hg9.symm)).mono (by omega))
  clear hZ hR hbz
  go_wp2
  obtain ⟨r0, r1, r2, r3⟩ := HRR.out
  exact bodyPost_ret (v := .tuple #[.slice A1 l.length c1, .agg #[.int .i64 x.short, .int .i64 x.long, .int .i64 x.on, .int .i64 x.off]]) (by simp [results, Try.results48, go_sem, r0, r1, r2, r3]) rfl ⟨A1, c1, l, x, rfl, hll, hcc, HO1.out, HBz.out⟩
set_option maxRecDepth 100000 in
set_option maxHeartbeats 2000000 in
theorem DrawIsOnAt_any (A : Option Addr) (c : Nat) (code : List Int) (w : World) (h : Rd encB 1 w w.heap.size A code) (hl : code.length ≤ 1048576) (hby : ∀ n ∈ code, 0 ≤ n ∧ n ≤ 255) :
    Calls Try.prog 44 #[.slice A code.length c] w fun e w' => ∃ (A' : Option Addr) (c' : Nat) (l : List Int) (x : Setting) (p : Int), e = .returned (.tuple #[.slice A' l.length c', .agg #[.int .i64 x.short, .int .i64 x.long, .int .i64 x.on, .int .i64 x.off], .int .i64 p]) ∧ l.length ≤ 60 ∧ (l.length ≤ c' ∧ c' ≤ maxLen) ∧ Own encI 1 w' w.heap.size 3 (.slice A' l.length c') l ∧ (-1 ≤ p ∧ p ≤ l.length) ∧ Below w.heap.size w w' := by
  have hbz : Below w.heap.size w (w.alloc (.cells #[.int .i64 0, .int .i64 0, .int .i64 0, .int .i64 0] 25)) := by (repeat (first | with_reducible exact Below.refl _ _ | with_reducible assumption | with_reducible refine Below.setCell ?_ (by simp <;> omega) _ | with_reducible refine Below.alloc ?_ (by first | omega | (simp <;> omega)) _ | with_reducible refine Below.drew ?_ | with_reducible refine below_drewN ?_ _))
  have hbz0 := hbz
  have HZ := Lib.hid (Blk.new w 25 #[.int .i64 0, .int .i64 0, .int .i64 0, .int .i64 0])
  have h1 := (h.below hbz).more hbz.size
  go_enter Try.func44, Try.ntmps44
  go_wp2_with fail
  refine (DrawRatioAt_any A c code _ h1 hl hby).mono ?_
  rintro e w1 ⟨A1, c1, l, x, p, rfl, hll, hcc, hown, hp, hb⟩
  have HZ1 := Lib.hid (HZ.out.after hb)
  have HO1 := Lib.hid hown
  have HB1 := Lib.hid (hbz.trans (hb.mono hbz.size))
  clear hown hb hbz HZ
  have hZ := HZ1.out
  obtain ⟨z0, z1, z2, z3⟩ := box4 hZ
  have f0 := hZ.frozen 0
  have f1 := hZ.frozen 1
  have f2 := hZ.frozen 2
  have f3 := hZ.frozen 3
  have hbz : Below w.heap.size w1 (World.setCell (World.setCell (World.setCell (World.setCell w1 ⟨w.heap.size, 0, none⟩ (.int .i64 x.short)) ⟨w.heap.size, 1, none⟩ (.int .i64 x.long)) ⟨w.heap.size, 2, none⟩ (.int .i64 x.on)) ⟨w.heap.size, 3, none⟩ (.int .i64 x.off)) := by (repeat (first | with_reducible exact Below.refl _ _ | with_reducible assumption | with_reducible refine Below.setCell ?_ (by simp <;> omega) _ | with_reducible refine Below.alloc ?_ (by first | omega | (simp <;> omega)) _ | with_reducible refine Below.drew ?_ | with_reducible refine below_drewN ?_ _))
  have hR : Blk (World.setCell (World.setCell (World.setCell (World.setCell w1 ⟨w.heap.size, 0, none⟩ (.int .i64 x.short)) ⟨w.heap.size, 1, none⟩ (.int .i64 x.long)) ⟨w.heap.size, 2, none⟩ (.int .i64 x.on)) ⟨w.heap.size, 3, none⟩ (.int .i64 x.off)) w.heap.size 25 #[.int .i64 x.short, .int .i64 x.long, .int .i64 x.on, .int .i64 x.off] := ((((hZ.set_ 0 _).set_ 1 _).set_ 2 _).set_ 3 _)
  have HRR := Lib.hid (box4 hR)
  have HBz := Lib.hid (HB1.out.trans hbz)
  have hsz1 : (w.alloc (.cells #[.int .i64 0, .int .i64 0, .int .i64 0, .int .i64 0] 25)).heap.size = w.heap.size + 1 := by simp
  have HO1 := Lib.hid (show Own encI 1 (World.setCell (World.setCell (World.setCell (World.setCell w1 ⟨w.heap.size, 0, none⟩ (.int .i64 x.short)) ⟨w.heap.size, 1, none⟩ (.int .i64 x.long)) ⟨w.heap.size, 2, none⟩ (.int .i64 x.on)) ⟨w.heap.size, 3, none⟩ (.int .i64 x.off)) w.heap.size 3 (.slice A1 l.length c1) l from by
    have hne : ∀ q, (Value.slice A1 l.length c1).ownBlock = some q → q ≠ w.heap.size := fun q hq => by have := (HO1.out.lt q hq).1; omega
    exact (Own.grown (w' := (World.setCell (World.setCell (World.setCell (World.setCell w1 ⟨w.heap.size, 0, none⟩ (.int .i64 x.short)) ⟨w.heap.size, 1, none⟩ (.int .i64 x.long)) ⟨w.heap.size, 2, none⟩ (.int .i64 x.on)) ⟨w.heap.size, 3, none⟩ (.int .i64 x.off))) (row := some w.heap.size) HO1.out ⟨rfl, rfl, rfl, by simp [World.setCell], fun i hi hn => by
      have e1 := fun (W : World) (j : Nat) (u : Value) => Below.heap_setCell W ⟨w.heap.size, j, none⟩ u i (fun e => hn (by rw [e]))
      simp only [e1]⟩ (fun g9 hg9 hq => by injection hg9 with hg9; exact hne _ hq hg9.symm)).mono (by omega))
  clear hZ hR hbz
  go_wp2
  obtain ⟨r0, r1, r2, r3⟩ := HRR.out
  exact bodyPost_ret (v := .tuple #[.slice A1 l.length c1, .agg #[.int .i64 x.short, .int .i64 x.long, .int .i64 x.on, .int .i64 x.off], .int .i64 p]) (by simp [results, Try.results44, go_sem, r0, r1, r2, r3]) rfl ⟨A1, c1, l, x, p, rfl, hll, hcc, HO1.out, hp, HBz.out⟩

end Go.Proofs.Ytaemdldpcpefbaa
