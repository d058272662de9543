/-
  Contracts of the exported draws of seat D. (Printed by gen_D22.py.)
-/
import Derived.Test.YtdadcbcanjmoeaaBest
import Derived.Test.YtdadcbcanjmoeaaTicksFit
namespace Go.Proofs.Ytdadcbcanjmoeaa
set_option linter.unusedVariables false
open Go.RowKit

set_option maxRecDepth 100000 in
set_option maxHeartbeats 4000000 in
theorem DrawVotesFor_any (A : Option Addr) (c : Nat) (code : List Int) (w : World) (h : Rd encB 1 w w.heap.size A code) (hl : code.length ≤ 1048576) (hby : ∀ n ∈ code, 0 ≤ n ∧ n ≤ 255) :
    Calls Try.prog 93 #[.slice A code.length c] w fun e w' => ∃ (A' : Option Addr) (c' : Nat) (l : List Arrival) (o : Origin), e = .returned (.tuple #[.slice A' l.length c', .agg #[.int .i64 o.x, .int .i64 o.y, .int .i64 o.tick]]) ∧ l.length ≤ 20 ∧ (l.length ≤ c' ∧ c' ≤ maxLen) ∧ Own encA 5 w' w.heap.size 37 (.slice A' l.length c') l ∧ Below w.heap.size w w' := by
  have hbz : Below w.heap.size w (w.alloc (.cells #[.int .i64 0, .int .i64 0, .int .i64 0] 39)) := by (repeat (first | with_reducible exact Below.refl _ _ | with_reducible assumption | with_reducible refine Below.setCell ?_ (by simp <;> omega) _ | with_reducible refine Below.alloc ?_ (by first | omega | (simp <;> omega)) _ | with_reducible refine Below.drew ?_ | with_reducible refine below_drewN ?_ _))
  have hC0 : Cur ((w.alloc (.cells #[.int .i64 0, .int .i64 0, .int .i64 0] 39)).alloc (.cells #[.slice A code.length c, .int .i64 0, .int .u64 0] 107)) (w.heap.size + 1) 0 := by have hq := Cur.new (c := c) ((h.below hbz).more hbz.size) hl hby; simp at hq; exact hq
  have HB0 : Hid (Below w.heap.size w ((w.alloc (.cells #[.int .i64 0, .int .i64 0, .int .i64 0] 39)).alloc (.cells #[.slice A code.length c, .int .i64 0, .int .u64 0] 107))) := by show Below _ _ _; (repeat (first | with_reducible exact Below.refl _ _ | with_reducible assumption | with_reducible refine Below.setCell ?_ (by simp <;> omega) _ | with_reducible refine Below.alloc ?_ (by first | omega | (simp <;> omega)) _ | with_reducible refine Below.drew ?_ | with_reducible refine below_drewN ?_ _))
  have HZ : Hid (Blk ((w.alloc (.cells #[.int .i64 0, .int .i64 0, .int .i64 0] 39)).alloc (.cells #[.slice A code.length c, .int .i64 0, .int .u64 0] 107)) w.heap.size 39 #[.int .i64 0, .int .i64 0, .int .i64 0]) := (Blk.new w _ _).alloc _
  clear hby hbz
  go_enter Try.func93, Try.ntmps93
  go_wp2_with fail
  refine (arrivals_any (w.heap.size + 1) 0 _ hC0 (by omega)).mono ?_
  rintro e w1 ⟨v, l, rfl, hll, hown, hC, hg⟩
  have HB1 := Lib.hid (below_of_cur HB0.out (by omega) hg)
  have HZ1 := Lib.hid (HZ.out.grown hg (by intro e9; injection e9; omega))
  have HO := Lib.hid (hown.mono (show w.heap.size + 1 ≤ _ by simp))
  have HC1 := Lib.hid hC
  have hs1 := HB1.out.size
  have hzq : w.heap.size < w1.heap.size := HZ1.out.lt
  have hgq : w.heap.size + 1 < w1.heap.size := HC1.out.lt
  have hl2 : l.length ≤ 1048576 := by omega
  obtain ⟨A1, c1, rfl, hcc, _⟩ := Own.form encA_len hown
  clear hC hg hown hC0 HZ HB0
  go_wp2_with fail
  refine (BestOnGrid_loose A1 c1 l _ (Own.rd' encA_len HO.out) hl2).mono ?_
  rintro e w2 ⟨o, n0, ok, rfl, hb⟩
  have HB2 := Lib.hid (HB1.out.trans (hb.mono HB1.out.size))
  have HC2 := Lib.hid (HC1.out.after hb)
  have HZ_2 := Lib.hid (HZ1.out.after hb)
  clear HZ1
  have HO_2 := Lib.hid (HO.out.keep hb)
  clear HO
  have hs2 := HB2.out.size
  have hgl2 := HC2.out.lt
  clear hb HC1
  obtain ⟨w3, hw3⟩ : ∃ W, w2.alloc (.cells #[.int .i64 o.x, .int .i64 o.y, .int .i64 o.tick] 39) = W := ⟨_, rfl⟩
  have hb : Below w2.heap.size w2 w3 := by rw [← hw3]; (repeat (first | with_reducible exact Below.refl _ _ | with_reducible assumption | with_reducible refine Below.setCell ?_ (by simp <;> omega) _ | with_reducible refine Below.alloc ?_ (by first | omega | (simp <;> omega)) _ | with_reducible refine Below.drew ?_ | with_reducible refine below_drewN ?_ _))
  have HX : Hid (Blk w3 w2.heap.size 39 #[.int .i64 o.x, .int .i64 o.y, .int .i64 o.tick]) := by rw [← hw3]; exact Blk.new _ _ _
  have HB3 := Lib.hid (HB2.out.trans (hb.mono HB2.out.size))
  have HC3 := Lib.hid (HC2.out.after hb)
  have HZ_3 := Lib.hid (HZ_2.out.after hb)
  clear HZ_2
  have HO_3 := Lib.hid (HO_2.out.keep hb)
  clear HO_2
  have hs3 := HB3.out.size
  have hgl3 := HC3.out.lt
  clear hb HC2
  have hqHX : w2.heap.size < w3.heap.size := HX.out.lt
  obtain ⟨x0, x1, x2⟩ := box3 HX.out
  cases ok with
  | false =>
    (try rw [hw3])
    go_wp2_with fail
    (try rw [hw3])
    refine (quake_any (w.heap.size + 1) _ _ HC3.out (by omega)).mono ?_
    rintro e w4 ⟨o2, rfl, hC, hg⟩
    have HB4 := Lib.hid (below_of_cur HB3.out (by omega) hg)
    have HZ_4 := Lib.hid (HZ_3.out.grown hg (by intro e9; injection e9; omega))
    clear HZ_3
    have HX_4 := Lib.hid (HX.out.grown hg (by intro e9; injection e9; omega))
    clear HX
    have HO_4 := Lib.hid (HO_3.out.cur HC3.out hg (by decide))
    clear HO_3
    have HC4 := Lib.hid hC
    have hs4 := HB4.out.size
    clear hC hg HC3
    have hZ := HZ_4.out
    obtain ⟨z0, z1, z2⟩ := box3 hZ
    have f0 := hZ.frozen 0
    have f1 := hZ.frozen 1
    have f2 := hZ.frozen 2
    have hbz : Below w.heap.size w4 (World.setCell (World.setCell (World.setCell w4 ⟨w.heap.size, 0, none⟩ (.int .i64 o2.x)) ⟨w.heap.size, 1, none⟩ (.int .i64 o2.y)) ⟨w.heap.size, 2, none⟩ (.int .i64 o2.tick)) := by (repeat (first | with_reducible exact Below.refl _ _ | with_reducible assumption | with_reducible refine Below.setCell ?_ (by simp <;> omega) _ | with_reducible refine Below.alloc ?_ (by first | omega | (simp <;> omega)) _ | with_reducible refine Below.drew ?_ | with_reducible refine below_drewN ?_ _))
    have hR : Blk (World.setCell (World.setCell (World.setCell w4 ⟨w.heap.size, 0, none⟩ (.int .i64 o2.x)) ⟨w.heap.size, 1, none⟩ (.int .i64 o2.y)) ⟨w.heap.size, 2, none⟩ (.int .i64 o2.tick)) w.heap.size 39 #[.int .i64 o2.x, .int .i64 o2.y, .int .i64 o2.tick] := (((hZ.set_ 0 _).set_ 1 _).set_ 2 _)
    have hR0 := Lib.hid hR
    have HRR := Lib.hid (box3 hR)
    have HBz := Lib.hid (HB4.out.trans hbz)
    have HOz := Lib.hid (show Own encA 5 (World.setCell (World.setCell (World.setCell w4 ⟨w.heap.size, 0, none⟩ (.int .i64 o2.x)) ⟨w.heap.size, 1, none⟩ (.int .i64 o2.y)) ⟨w.heap.size, 2, none⟩ (.int .i64 o2.tick)) w.heap.size 37 (.slice A1 l.length c1) l from by
      have hne : ∀ q, (Value.slice A1 l.length c1).ownBlock = some q → q ≠ w.heap.size := fun q hq => by have := (HO_4.out.lt q hq).1; omega
      exact (Own.grown (w' := (World.setCell (World.setCell (World.setCell w4 ⟨w.heap.size, 0, none⟩ (.int .i64 o2.x)) ⟨w.heap.size, 1, none⟩ (.int .i64 o2.y)) ⟨w.heap.size, 2, none⟩ (.int .i64 o2.tick))) (row := some w.heap.size) HO_4.out ⟨rfl, rfl, rfl, by simp [World.setCell], fun i hi hn => by
        have e1 := fun (W : World) (j : Nat) (u : Value) => Below.heap_setCell W ⟨w.heap.size, j, none⟩ u i (fun e => hn (by rw [e]))
        simp only [e1]⟩ (fun g9 hg9 hq => by injection hg9 with hg9; exact hne _ hq hg9.symm)).mono (show w.heap.size ≤ w.heap.size + 1 by omega))
    clear hZ hR hbz
    go_wp2
    obtain ⟨r0, r1, r2⟩ := HRR.out
    exact bodyPost_ret (v := .tuple #[.slice A1 l.length c1, .agg #[.int .i64 o2.x, .int .i64 o2.y, .int .i64 o2.tick]]) (by simp [results, Try.results93, go_sem, r0, r1, r2]) rfl ⟨A1, c1, l, o2, rfl, hll, hcc, HOz.out, HBz.out⟩
  | true =>
    go_wp2_with fail
    (try rw [hw3])
    refine (one_any (w.heap.size + 1) _ 2 _ HC3.out (by omega) (by omega)).mono ?_
    rintro e w4 ⟨bo, rfl, hC, hg⟩
    have HB4 := Lib.hid (below_of_cur HB3.out (by omega) hg)
    have HZ_4 := Lib.hid (HZ_3.out.grown hg (by intro e9; injection e9; omega))
    clear HZ_3
    have HX_4 := Lib.hid (HX.out.grown hg (by intro e9; injection e9; omega))
    clear HX
    have HO_4 := Lib.hid (HO_3.out.cur HC3.out hg (by decide))
    clear HO_3
    have HC4 := Lib.hid hC
    have hs4 := HB4.out.size
    clear hC hg HC3
    cases bo with
    | false =>
      (try rw [hw3])
      go_wp2_with fail
      (try rw [hw3])
      refine (quake_any (w.heap.size + 1) _ _ HC4.out (by omega)).mono ?_
      rintro e w5 ⟨o2, rfl, hC, hg⟩
      have HB5 := Lib.hid (below_of_cur HB4.out (by omega) hg)
      have HZ_5 := Lib.hid (HZ_4.out.grown hg (by intro e9; injection e9; omega))
      clear HZ_4
      have HX_5 := Lib.hid (HX_4.out.grown hg (by intro e9; injection e9; omega))
      clear HX_4
      have HO_5 := Lib.hid (HO_4.out.cur HC4.out hg (by decide))
      clear HO_4
      have HC5 := Lib.hid hC
      have hs5 := HB5.out.size
      clear hC hg HC4
      have hZ := HZ_5.out
      obtain ⟨z0, z1, z2⟩ := box3 hZ
      have f0 := hZ.frozen 0
      have f1 := hZ.frozen 1
      have f2 := hZ.frozen 2
      have hbz : Below w.heap.size w5 (World.setCell (World.setCell (World.setCell w5 ⟨w.heap.size, 0, none⟩ (.int .i64 o2.x)) ⟨w.heap.size, 1, none⟩ (.int .i64 o2.y)) ⟨w.heap.size, 2, none⟩ (.int .i64 o2.tick)) := by (repeat (first | with_reducible exact Below.refl _ _ | with_reducible assumption | with_reducible refine Below.setCell ?_ (by simp <;> omega) _ | with_reducible refine Below.alloc ?_ (by first | omega | (simp <;> omega)) _ | with_reducible refine Below.drew ?_ | with_reducible refine below_drewN ?_ _))
      have hR : Blk (World.setCell (World.setCell (World.setCell w5 ⟨w.heap.size, 0, none⟩ (.int .i64 o2.x)) ⟨w.heap.size, 1, none⟩ (.int .i64 o2.y)) ⟨w.heap.size, 2, none⟩ (.int .i64 o2.tick)) w.heap.size 39 #[.int .i64 o2.x, .int .i64 o2.y, .int .i64 o2.tick] := (((hZ.set_ 0 _).set_ 1 _).set_ 2 _)
      have hR0 := Lib.hid hR
      have HRR := Lib.hid (box3 hR)
      have HBz := Lib.hid (HB5.out.trans hbz)
      have HOz := Lib.hid (show Own encA 5 (World.setCell (World.setCell (World.setCell w5 ⟨w.heap.size, 0, none⟩ (.int .i64 o2.x)) ⟨w.heap.size, 1, none⟩ (.int .i64 o2.y)) ⟨w.heap.size, 2, none⟩ (.int .i64 o2.tick)) w.heap.size 37 (.slice A1 l.length c1) l from by
        have hne : ∀ q, (Value.slice A1 l.length c1).ownBlock = some q → q ≠ w.heap.size := fun q hq => by have := (HO_5.out.lt q hq).1; omega
        exact (Own.grown (w' := (World.setCell (World.setCell (World.setCell w5 ⟨w.heap.size, 0, none⟩ (.int .i64 o2.x)) ⟨w.heap.size, 1, none⟩ (.int .i64 o2.y)) ⟨w.heap.size, 2, none⟩ (.int .i64 o2.tick))) (row := some w.heap.size) HO_5.out ⟨rfl, rfl, rfl, by simp [World.setCell], fun i hi hn => by
          have e1 := fun (W : World) (j : Nat) (u : Value) => Below.heap_setCell W ⟨w.heap.size, j, none⟩ u i (fun e => hn (by rw [e]))
          simp only [e1]⟩ (fun g9 hg9 hq => by injection hg9 with hg9; exact hne _ hq hg9.symm)).mono (show w.heap.size ≤ w.heap.size + 1 by omega))
      clear hZ hR hbz
      go_wp2
      obtain ⟨r0, r1, r2⟩ := HRR.out
      exact bodyPost_ret (v := .tuple #[.slice A1 l.length c1, .agg #[.int .i64 o2.x, .int .i64 o2.y, .int .i64 o2.tick]]) (by simp [results, Try.results93, go_sem, r0, r1, r2]) rfl ⟨A1, c1, l, o2, rfl, hll, hcc, HOz.out, HBz.out⟩
    | true =>
      clear x0 x1 x2
      obtain ⟨x0, x1, x2⟩ := box3 HX_4.out
      have hqn1 : ¬ w.heap.size = w2.heap.size := by omega
      have hqn2 : ¬ w2.heap.size = w.heap.size := by omega
      have hZ := HZ_4.out
      obtain ⟨z0, z1, z2⟩ := box3 hZ
      have f0 := hZ.frozen 0
      have f1 := hZ.frozen 1
      have f2 := hZ.frozen 2
      have hbz : Below w.heap.size w4 (World.setCell (World.setCell (World.setCell w4 ⟨w.heap.size, 0, none⟩ (.int .i64 o.x)) ⟨w.heap.size, 1, none⟩ (.int .i64 o.y)) ⟨w.heap.size, 2, none⟩ (.int .i64 o.tick)) := by (repeat (first | with_reducible exact Below.refl _ _ | with_reducible assumption | with_reducible refine Below.setCell ?_ (by simp <;> omega) _ | with_reducible refine Below.alloc ?_ (by first | omega | (simp <;> omega)) _ | with_reducible refine Below.drew ?_ | with_reducible refine below_drewN ?_ _))
      have hR : Blk (World.setCell (World.setCell (World.setCell w4 ⟨w.heap.size, 0, none⟩ (.int .i64 o.x)) ⟨w.heap.size, 1, none⟩ (.int .i64 o.y)) ⟨w.heap.size, 2, none⟩ (.int .i64 o.tick)) w.heap.size 39 #[.int .i64 o.x, .int .i64 o.y, .int .i64 o.tick] := (((hZ.set_ 0 _).set_ 1 _).set_ 2 _)
      have hR0 := Lib.hid hR
      have HRR := Lib.hid (box3 hR)
      have HBz := Lib.hid (HB4.out.trans hbz)
      have HOz := Lib.hid (show Own encA 5 (World.setCell (World.setCell (World.setCell w4 ⟨w.heap.size, 0, none⟩ (.int .i64 o.x)) ⟨w.heap.size, 1, none⟩ (.int .i64 o.y)) ⟨w.heap.size, 2, none⟩ (.int .i64 o.tick)) w.heap.size 37 (.slice A1 l.length c1) l from by
        have hne : ∀ q, (Value.slice A1 l.length c1).ownBlock = some q → q ≠ w.heap.size := fun q hq => by have := (HO_4.out.lt q hq).1; omega
        exact (Own.grown (w' := (World.setCell (World.setCell (World.setCell w4 ⟨w.heap.size, 0, none⟩ (.int .i64 o.x)) ⟨w.heap.size, 1, none⟩ (.int .i64 o.y)) ⟨w.heap.size, 2, none⟩ (.int .i64 o.tick))) (row := some w.heap.size) HO_4.out ⟨rfl, rfl, rfl, by simp [World.setCell], fun i hi hn => by
          have e1 := fun (W : World) (j : Nat) (u : Value) => Below.heap_setCell W ⟨w.heap.size, j, none⟩ u i (fun e => hn (by rw [e]))
          simp only [e1]⟩ (fun g9 hg9 hq => by injection hg9 with hg9; exact hne _ hq hg9.symm)).mono (show w.heap.size ≤ w.heap.size + 1 by omega))
      clear hZ hR hbz
      have HRRd := Lib.hid (show Blk _ _ _ _ from hR0.out.drew)
      have HBzd := Lib.hid HBz.out.drew
      have HOzd := Lib.hid (HOz.out.keep (Below.refl _ _).drew)
      clear HRR HBz HOz
      have HRR := Lib.hid (box3 HRRd.out)
      have HBz := HBzd
      have HOz := HOzd
      go_wp2_with fail
      go_region
      go_wp2
      obtain ⟨r0, r1, r2⟩ := HRR.out
      exact bodyPost_ret (v := .tuple #[.slice A1 l.length c1, .agg #[.int .i64 o.x, .int .i64 o.y, .int .i64 o.tick]]) (by simp [results, Try.results93, go_sem, r0, r1, r2]) rfl ⟨A1, c1, l, o, rfl, hll, hcc, HOz.out, HBz.out⟩

set_option maxRecDepth 100000 in
set_option maxHeartbeats 4000000 in
theorem DrawVotersFor_any (A : Option Addr) (c : Nat) (code : List Int) (w : World) (h : Rd encB 1 w w.heap.size A code) (hl : code.length ≤ 1048576) (hby : ∀ n ∈ code, 0 ≤ n ∧ n ≤ 255) :
    Calls Try.prog 54 #[.slice A code.length c] w fun e w' => ∃ (A' : Option Addr) (c' : Nat) (l : List Arrival) (o : Origin), e = .returned (.tuple #[.slice A' l.length c', .agg #[.int .i64 o.x, .int .i64 o.y, .int .i64 o.tick]]) ∧ l.length ≤ 20 ∧ (l.length ≤ c' ∧ c' ≤ maxLen) ∧ Own encA 5 w' w.heap.size 37 (.slice A' l.length c') l ∧ Below w.heap.size w w' := by
  have hbz : Below w.heap.size w (w.alloc (.cells #[.int .i64 0, .int .i64 0, .int .i64 0] 39)) := by (repeat (first | with_reducible exact Below.refl _ _ | with_reducible assumption | with_reducible refine Below.setCell ?_ (by simp <;> omega) _ | with_reducible refine Below.alloc ?_ (by first | omega | (simp <;> omega)) _ | with_reducible refine Below.drew ?_ | with_reducible refine below_drewN ?_ _))
  have HZ := Lib.hid (Blk.new w 39 #[.int .i64 0, .int .i64 0, .int .i64 0])
  have h1 := (h.below hbz).more hbz.size
  go_enter Try.func54, Try.ntmps54
  go_wp2_with fail
  refine (DrawVotesFor_any A c code _ h1 hl hby).mono ?_
  rintro e w1 ⟨A1, c1, l, o, rfl, hll, hcc, hown, hb⟩
  have HZ1 := Lib.hid (HZ.out.after hb)
  have hown := hown.mono (show w.heap.size + 1 ≤ _ by simp)
  have HO1 := Lib.hid hown
  have HB1 := Lib.hid (hbz.trans (hb.mono hbz.size))
  clear hown hb hbz HZ
  have hZ := HZ1.out
  obtain ⟨z0, z1, z2⟩ := box3 hZ
  have f0 := hZ.frozen 0
  have f1 := hZ.frozen 1
  have f2 := hZ.frozen 2
  have hbz : Below w.heap.size w1 (World.setCell (World.setCell (World.setCell w1 ⟨w.heap.size, 0, none⟩ (.int .i64 o.x)) ⟨w.heap.size, 1, none⟩ (.int .i64 o.y)) ⟨w.heap.size, 2, none⟩ (.int .i64 o.tick)) := by (repeat (first | with_reducible exact Below.refl _ _ | with_reducible assumption | with_reducible refine Below.setCell ?_ (by simp <;> omega) _ | with_reducible refine Below.alloc ?_ (by first | omega | (simp <;> omega)) _ | with_reducible refine Below.drew ?_ | with_reducible refine below_drewN ?_ _))
  have hR : Blk (World.setCell (World.setCell (World.setCell w1 ⟨w.heap.size, 0, none⟩ (.int .i64 o.x)) ⟨w.heap.size, 1, none⟩ (.int .i64 o.y)) ⟨w.heap.size, 2, none⟩ (.int .i64 o.tick)) w.heap.size 39 #[.int .i64 o.x, .int .i64 o.y, .int .i64 o.tick] := (((hZ.set_ 0 _).set_ 1 _).set_ 2 _)
  have HRR := Lib.hid (box3 hR)
  have HBz := Lib.hid (HB1.out.trans hbz)
  have HOz := Lib.hid (show Own encA 5 (World.setCell (World.setCell (World.setCell w1 ⟨w.heap.size, 0, none⟩ (.int .i64 o.x)) ⟨w.heap.size, 1, none⟩ (.int .i64 o.y)) ⟨w.heap.size, 2, none⟩ (.int .i64 o.tick)) w.heap.size 37 (.slice A1 l.length c1) l from by
    have hne : ∀ q, (Value.slice A1 l.length c1).ownBlock = some q → q ≠ w.heap.size := fun q hq => by have := (HO1.out.lt q hq).1; omega
    exact (Own.grown (w' := (World.setCell (World.setCell (World.setCell w1 ⟨w.heap.size, 0, none⟩ (.int .i64 o.x)) ⟨w.heap.size, 1, none⟩ (.int .i64 o.y)) ⟨w.heap.size, 2, none⟩ (.int .i64 o.tick))) (row := some w.heap.size) HO1.out ⟨rfl, rfl, rfl, by simp [World.setCell], fun i hi hn => by
      have e1 := fun (W : World) (j : Nat) (u : Value) => Below.heap_setCell W ⟨w.heap.size, j, none⟩ u i (fun e => hn (by rw [e]))
      simp only [e1]⟩ (fun g9 hg9 hq => by injection hg9 with hg9; exact hne _ hq hg9.symm)).mono (show w.heap.size ≤ w.heap.size + 1 by omega))
  clear hZ hR hbz
  go_wp2
  obtain ⟨r0, r1, r2⟩ := HRR.out
  exact bodyPost_ret (v := .tuple #[.slice A1 l.length c1, .agg #[.int .i64 o.x, .int .i64 o.y, .int .i64 o.tick]]) (by simp [results, Try.results54, go_sem, r0, r1, r2]) rfl ⟨A1, c1, l, o, rfl, hll, hcc, HOz.out, HBz.out⟩

set_option maxRecDepth 100000 in
set_option maxHeartbeats 4000000 in
theorem DrawWithoutVoters_any (A : Option Addr) (c : Nat) (code : List Int) (w : World) (h : Rd encB 1 w w.heap.size A code) (hl : code.length ≤ 1048576) (hby : ∀ n ∈ code, 0 ≤ n ∧ n ≤ 255) :
    Calls Try.prog 59 #[.slice A code.length c] w fun e w' => ∃ (A' : Option Addr) (c' : Nat) (l : List Arrival) (o : Origin), e = .returned (.tuple #[.slice A' l.length c', .agg #[.int .i64 o.x, .int .i64 o.y, .int .i64 o.tick]]) ∧ l.length ≤ 20 ∧ (l.length ≤ c' ∧ c' ≤ maxLen) ∧ Own encA 5 w' w.heap.size 37 (.slice A' l.length c') l ∧ Below w.heap.size w w' := by
  have hbz : Below w.heap.size w (w.alloc (.cells #[.int .i64 0, .int .i64 0, .int .i64 0] 39)) := by (repeat (first | with_reducible exact Below.refl _ _ | with_reducible assumption | with_reducible refine Below.setCell ?_ (by simp <;> omega) _ | with_reducible refine Below.alloc ?_ (by first | omega | (simp <;> omega)) _ | with_reducible refine Below.drew ?_ | with_reducible refine below_drewN ?_ _))
  have HZ := Lib.hid (Blk.new w 39 #[.int .i64 0, .int .i64 0, .int .i64 0])
  have h1 := (h.below hbz).more hbz.size
  go_enter Try.func59, Try.ntmps59
  go_wp2_with fail
  refine (DrawVotesFor_any A c code _ h1 hl hby).mono ?_
  rintro e w1 ⟨A1, c1, l, o, rfl, hll, hcc, hown, hb⟩
  have HZ1 := Lib.hid (HZ.out.after hb)
  have hown := hown.mono (show w.heap.size + 1 ≤ _ by simp)
  have HO1 := Lib.hid hown
  have HB1 := Lib.hid (hbz.trans (hb.mono hbz.size))
  clear hown hb hbz HZ
  have hZ := HZ1.out
  obtain ⟨z0, z1, z2⟩ := box3 hZ
  have f0 := hZ.frozen 0
  have f1 := hZ.frozen 1
  have f2 := hZ.frozen 2
  have hbz : Below w.heap.size w1 (World.setCell (World.setCell (World.setCell w1 ⟨w.heap.size, 0, none⟩ (.int .i64 o.x)) ⟨w.heap.size, 1, none⟩ (.int .i64 o.y)) ⟨w.heap.size, 2, none⟩ (.int .i64 o.tick)) := by (repeat (first | with_reducible exact Below.refl _ _ | with_reducible assumption | with_reducible refine Below.setCell ?_ (by simp <;> omega) _ | with_reducible refine Below.alloc ?_ (by first | omega | (simp <;> omega)) _ | with_reducible refine Below.drew ?_ | with_reducible refine below_drewN ?_ _))
  have hR : Blk (World.setCell (World.setCell (World.setCell w1 ⟨w.heap.size, 0, none⟩ (.int .i64 o.x)) ⟨w.heap.size, 1, none⟩ (.int .i64 o.y)) ⟨w.heap.size, 2, none⟩ (.int .i64 o.tick)) w.heap.size 39 #[.int .i64 o.x, .int .i64 o.y, .int .i64 o.tick] := (((hZ.set_ 0 _).set_ 1 _).set_ 2 _)
  have HRR := Lib.hid (box3 hR)
  have HBz := Lib.hid (HB1.out.trans hbz)
  have HOz := Lib.hid (show Own encA 5 (World.setCell (World.setCell (World.setCell w1 ⟨w.heap.size, 0, none⟩ (.int .i64 o.x)) ⟨w.heap.size, 1, none⟩ (.int .i64 o.y)) ⟨w.heap.size, 2, none⟩ (.int .i64 o.tick)) w.heap.size 37 (.slice A1 l.length c1) l from by
    have hne : ∀ q, (Value.slice A1 l.length c1).ownBlock = some q → q ≠ w.heap.size := fun q hq => by have := (HO1.out.lt q hq).1; omega
    exact (Own.grown (w' := (World.setCell (World.setCell (World.setCell w1 ⟨w.heap.size, 0, none⟩ (.int .i64 o.x)) ⟨w.heap.size, 1, none⟩ (.int .i64 o.y)) ⟨w.heap.size, 2, none⟩ (.int .i64 o.tick))) (row := some w.heap.size) HO1.out ⟨rfl, rfl, rfl, by simp [World.setCell], fun i hi hn => by
      have e1 := fun (W : World) (j : Nat) (u : Value) => Below.heap_setCell W ⟨w.heap.size, j, none⟩ u i (fun e => hn (by rw [e]))
      simp only [e1]⟩ (fun g9 hg9 hq => by injection hg9 with hg9; exact hne _ hq hg9.symm)).mono (show w.heap.size ≤ w.heap.size + 1 by omega))
  clear hZ hR hbz
  go_wp2
  obtain ⟨r0, r1, r2⟩ := HRR.out
  exact bodyPost_ret (v := .tuple #[.slice A1 l.length c1, .agg #[.int .i64 o.x, .int .i64 o.y, .int .i64 o.tick]]) (by simp [results, Try.results59, go_sem, r0, r1, r2]) rfl ⟨A1, c1, l, o, rfl, hll, hcc, HOz.out, HBz.out⟩

def LC (l : List Arrival) (ga : Nat) (W : World) : Prop := ∀ k (hk : k < l.length), W.cell? ⟨ga, k * 5, none⟩ = some (.int .i64 l[k].id) ∧ W.cell? ⟨ga, k * 5 + 1, none⟩ = some (.int .i64 l[k].x) ∧ W.cell? ⟨ga, k * 5 + 2, none⟩ = some (.int .i64 l[k].y) ∧ W.cell? ⟨ga, k * 5 + 3, none⟩ = some (.int .i64 l[k].tick) ∧ W.cell? ⟨ga, k * 5 + 4, none⟩ = some (.int .i64 l[k].err)
theorem Own.poke {α : Type} {enc : α → List Value} {k : Nat} {W : World} {base : Nat} {E : TypeId} {v : Value} {l : List α} (h : Own enc k W base E v l) {q i : Nat} {u : Value} (hq : q < base) : Own enc k (W.setCell ⟨q, i, none⟩ u) base E v l :=
  h.grown (row := some q) ⟨rfl, rfl, rfl, by simp [World.setCell], fun j hj hn => Below.heap_setCell W ⟨q, i, none⟩ _ j (fun e => hn (by rw [e]))⟩ (fun g hg hv => by injection hg with hg; have := (h.lt g hv).1; omega)
theorem LC.of {W : World} {base ga n c : Nat} {l : List Arrival} (h : Own encA 5 W base 37 (.slice (some ⟨ga, 0, none⟩) n c) l) : LC l ga W := fun k hk => by
  obtain ⟨b, off, e, _, c0, c1, c2, c3, c4⟩ := cellsA (Own.rd' encA_len h) hk
  injection e with e
  injection e with e1 e2
  subst e1 e2
  simp only [Nat.zero_add] at c0 c1 c2 c3 c4
  exact ⟨c0, c1, c2, c3, c4⟩

set_option maxRecDepth 100000 in
set_option maxHeartbeats 4000000 in
theorem DrawTicksThatFit_any (A : Option Addr) (c : Nat) (code : List Int) (w : World) (h : Rd encB 1 w w.heap.size A code) (hl : code.length ≤ 1048576) (hby : ∀ n ∈ code, 0 ≤ n ∧ n ≤ 255) :
    Calls Try.prog 58 #[.slice A code.length c] w fun e w' => ∃ (a : Arrival) (x y : Int), e = .returned (.tuple #[.agg #[.int .i64 a.id, .int .i64 a.x, .int .i64 a.y, .int .i64 a.tick, .int .i64 a.err], .int .i64 x, .int .i64 y]) ∧ Below w.heap.size w w' := by
  have hbz : Below w.heap.size w (w.alloc (.cells #[.int .i64 0, .int .i64 0, .int .i64 0, .int .i64 0, .int .i64 0] 37)) := by (repeat (first | with_reducible exact Below.refl _ _ | with_reducible assumption | with_reducible refine Below.setCell ?_ (by simp <;> omega) _ | with_reducible refine Below.alloc ?_ (by first | omega | (simp <;> omega)) _ | with_reducible refine Below.drew ?_ | with_reducible refine below_drewN ?_ _))
  have hC0 : Cur ((w.alloc (.cells #[.int .i64 0, .int .i64 0, .int .i64 0, .int .i64 0, .int .i64 0] 37)).alloc (.cells #[.slice A code.length c, .int .i64 0, .int .u64 0] 107)) (w.heap.size + 1) 0 := by have hq := Cur.new (c := c) ((h.below hbz).more hbz.size) hl hby; simp at hq; exact hq
  have HB0 : Hid (Below w.heap.size w ((w.alloc (.cells #[.int .i64 0, .int .i64 0, .int .i64 0, .int .i64 0, .int .i64 0] 37)).alloc (.cells #[.slice A code.length c, .int .i64 0, .int .u64 0] 107))) := by show Below _ _ _; (repeat (first | with_reducible exact Below.refl _ _ | with_reducible assumption | with_reducible refine Below.setCell ?_ (by simp <;> omega) _ | with_reducible refine Below.alloc ?_ (by first | omega | (simp <;> omega)) _ | with_reducible refine Below.drew ?_ | with_reducible refine below_drewN ?_ _))
  have HZ : Hid (Blk ((w.alloc (.cells #[.int .i64 0, .int .i64 0, .int .i64 0, .int .i64 0, .int .i64 0] 37)).alloc (.cells #[.slice A code.length c, .int .i64 0, .int .u64 0] 107)) w.heap.size 37 #[.int .i64 0, .int .i64 0, .int .i64 0, .int .i64 0, .int .i64 0]) := (Blk.new w _ _).alloc _
  clear hby hbz
  go_enter Try.func58, Try.ntmps58
  go_wp2_with fail
  refine (arrivals_any (w.heap.size + 1) 0 _ hC0 (by omega)).mono ?_
  rintro e w1 ⟨v, l, rfl, hll, hown, hC, hg⟩
  have HB1 := Lib.hid (below_of_cur HB0.out (by omega) hg)
  have HZ1 := Lib.hid (HZ.out.grown hg (by intro e9; injection e9; omega))
  have HO := Lib.hid (hown.mono (show (w.heap.size + 1) ≤ _ by simp))
  have HC1 := Lib.hid hC
  have hs1 := HB1.out.size
  have hzq : w.heap.size < w1.heap.size := HZ1.out.lt
  have hgl1 : (w.heap.size + 1) < w1.heap.size := HC1.out.lt
  have hl2 : l.length ≤ 1048576 := by omega
  obtain ⟨A1, c1, rfl, hcc, _⟩ := Own.form encA_len hown
  clear hC hg hown hC0 HZ HB0
  go_wp2_with fail
  refine (quake_any (w.heap.size + 1) _ _ HC1.out (by omega)).mono ?_
  rintro e w2 ⟨o, rfl, hC, hg⟩
  have HB2 := Lib.hid (below_of_cur HB1.out (by omega) hg)
  have HZ_2 := Lib.hid (HZ1.out.grown hg (by intro e9; injection e9; omega))
  clear HZ1
  have HO_2 := Lib.hid (HO.out.cur HC1.out hg (by decide))
  clear HO
  have HC2 := Lib.hid hC
  have hs2 := HB2.out.size
  clear hC hg HC1
  have hgl2 : w.heap.size + 1 < w2.heap.size := HC2.out.lt
  obtain ⟨w3, hw3⟩ : ∃ W, w2.alloc (.cells #[.int .i64 o.x, .int .i64 o.y, .int .i64 o.tick] 39) = W := ⟨_, rfl⟩
  have hb : Below w2.heap.size w2 w3 := by rw [← hw3]; (repeat (first | with_reducible exact Below.refl _ _ | with_reducible assumption | with_reducible refine Below.setCell ?_ (by simp <;> omega) _ | with_reducible refine Below.alloc ?_ (by first | omega | (simp <;> omega)) _ | with_reducible refine Below.drew ?_ | with_reducible refine below_drewN ?_ _))
  have HX : Hid (Blk w3 w2.heap.size 39 #[.int .i64 o.x, .int .i64 o.y, .int .i64 o.tick]) := by rw [← hw3]; exact Blk.new _ _ _
  have HB3 := Lib.hid (HB2.out.trans (hb.mono HB2.out.size))
  have HC3 := Lib.hid (HC2.out.after hb)
  have HZ_3 := Lib.hid (HZ_2.out.after hb)
  clear HZ_2
  have HO_3 := Lib.hid (HO_2.out.keep hb)
  clear HO_2
  have hs3 := HB3.out.size
  have hgl3 := HC3.out.lt
  clear hb HC2
  have hqHX : w2.heap.size < w3.heap.size := HX.out.lt
  have hqx : w.heap.size ≠ w2.heap.size := by omega
  have hqx2 : ¬ w.heap.size = w2.heap.size := hqx
  have hqx3 : ¬ w2.heap.size = w.heap.size := by omega
  by_cases hl0 : l.length = 0
  · have hlz : (l.length : Int) = 0 := by omega
    have hlz2 : ((l.length : Int) == 0) = true := by rw [hlz]; rfl
    obtain ⟨x0, x1, x2⟩ := box3 HX.out
    have hZ := HZ_3.out
    obtain ⟨z0, z1, z2, z3, z4⟩ := box5 hZ
    have f0 := hZ.frozen 0
    have f1 := hZ.frozen 1
    have f2 := hZ.frozen 2
    have f3 := hZ.frozen 3
    have f4 := hZ.frozen 4
    have hbz : Below w.heap.size w3 (World.setCell (World.setCell (World.setCell (World.setCell (World.setCell w3 ⟨w.heap.size, 0, none⟩ (.int .i64 1)) ⟨w.heap.size, 1, none⟩ (.int .i64 0)) ⟨w.heap.size, 2, none⟩ (.int .i64 0)) ⟨w.heap.size, 3, none⟩ (.int .i64 40)) ⟨w.heap.size, 4, none⟩ (.int .i64 0)) := by (repeat (first | with_reducible exact Below.refl _ _ | with_reducible assumption | with_reducible refine Below.setCell ?_ (by simp <;> omega) _ | with_reducible refine Below.alloc ?_ (by first | omega | (simp <;> omega)) _ | with_reducible refine Below.drew ?_ | with_reducible refine below_drewN ?_ _))
    have hR : Blk (World.setCell (World.setCell (World.setCell (World.setCell (World.setCell w3 ⟨w.heap.size, 0, none⟩ (.int .i64 1)) ⟨w.heap.size, 1, none⟩ (.int .i64 0)) ⟨w.heap.size, 2, none⟩ (.int .i64 0)) ⟨w.heap.size, 3, none⟩ (.int .i64 40)) ⟨w.heap.size, 4, none⟩ (.int .i64 0)) w.heap.size 37 #[.int .i64 1, .int .i64 0, .int .i64 0, .int .i64 40, .int .i64 0] := (((((hZ.set_ 0 _).set_ 1 _).set_ 2 _).set_ 3 _).set_ 4 _)
    have HRR := Lib.hid (box5 hR.drew)
    have HBz := Lib.hid (HB3.out.trans hbz).drew
    clear hZ hR hbz
    go_upto_region 5 with (fail)
    (try rw [hw3])
    go_wp2_with fail
    go_region
    go_wp2
    obtain ⟨r0, r1, r2, r3, r4⟩ := HRR.out
    exact bodyPost_ret (v := .tuple #[.agg #[.int .i64 1, .int .i64 0, .int .i64 0, .int .i64 40, .int .i64 0], .int .i64 o.x, .int .i64 o.y]) (by simp [results, Try.results58, go_sem, r0, r1, r2, r3, r4]) rfl ⟨⟨1, 0, 0, 40, 0⟩, o.x, o.y, rfl, HBz.out⟩
  · have hpos : 0 < l.length := by omega
    have hlz : ¬ (l.length : Int) = 0 := by omega
    have hlz2 : ((l.length : Int) == 0) = false := beq_eq_false_iff_ne.2 hlz
    obtain ⟨x0, x1, x2⟩ := box3 HX.out
    have HSc := Lib.hid (fun (W : World) (hW : Below w3.heap.size w3 W) => (show W.cell? ⟨w2.heap.size, 0, none⟩ = some (.int .i64 o.x) ∧ W.cell? ⟨w2.heap.size, 1, none⟩ = some (.int .i64 o.y) from (by obtain ⟨p0, p1, p2⟩ := box3 (HX.out.after hW); exact ⟨p0, p1⟩)))
    obtain ⟨ga, cs9, eA, hgb9, _⟩ := HO_3.out.blk hpos
    subst eA
    go_upto_region 6 with (fail)
    (try rw [hw3])
    go_wp2_with fail
    go_region_with (first | (go_at_call 96; refine (pick_any (w.heap.size + 1) _ l.length _ (HC3.out.after (by (repeat (first | with_reducible exact Below.refl _ _ | with_reducible assumption | with_reducible refine Below.setCell ?_ (by simp <;> omega) _ | with_reducible refine Below.alloc ?_ (by first | omega | (simp <;> omega)) _ | with_reducible refine Below.drew ?_ | with_reducible refine below_drewN ?_ _)))) (by omega) (by omega)).mono ?_; rintro e w5 ⟨kk, rfl, ⟨hk0, hx⟩, hC, hg⟩; have hBw := (show Below w3.heap.size w3 w3.drew from (by (repeat (first | with_reducible exact Below.refl _ _ | with_reducible assumption | with_reducible refine Below.setCell ?_ (by simp <;> omega) _ | with_reducible refine Below.alloc ?_ (by first | omega | (simp <;> omega)) _ | with_reducible refine Below.drew ?_ | with_reducible refine below_drewN ?_ _)))); have HX5 := Lib.hid ((HX.out.after hBw).grown hg (by intro e9; injection e9; omega)); have HZ5 := Lib.hid ((HZ_3.out.after hBw).grown hg (by intro e9; injection e9; omega)); have HO5 := Lib.hid ((HO_3.out.keep hBw).cur (HC3.out.after hBw) hg (by decide)); have HB5 := Lib.hid (below_of_cur (HB3.out.trans (hBw.mono HB3.out.size)) (by omega) hg); obtain ⟨kn, rfl⟩ := Int.eq_ofNat_of_zero_le hk0; have hkn : kn < l.length := (by omega); obtain ⟨ba, oa, hA9, _, c0, c1, c2, c3, c4⟩ := cellsA (Own.rd' encA_len HO5.out) hkn; injection hA9 with hA9; injection hA9 with e1 e2; subst e1 e2; simp only [Nat.zero_add] at c0 c1 c2 c3 c4; generalize l[kn] = x9 at *; obtain ⟨z0, z1, z2, z3, z4⟩ := box5 HZ5.out; have f0 := HZ5.out.frozen 0; have f1 := HZ5.out.frozen 1; have f2 := HZ5.out.frozen 2; have f3 := HZ5.out.frozen 3; have f4 := HZ5.out.frozen 4; obtain ⟨p0, p1, p2⟩ := box3 HX5.out; have hR := (show Blk (World.setCell (World.setCell (World.setCell (World.setCell (World.setCell w5 ⟨w.heap.size, 0, none⟩ (.int .i64 x9.id)) ⟨w.heap.size, 1, none⟩ (.int .i64 x9.x)) ⟨w.heap.size, 2, none⟩ (.int .i64 x9.y)) ⟨w.heap.size, 3, none⟩ (.int .i64 x9.tick)) ⟨w.heap.size, 4, none⟩ (.int .i64 x9.err)) w.heap.size 37 #[.int .i64 x9.id, .int .i64 x9.x, .int .i64 x9.y, .int .i64 x9.tick, .int .i64 x9.err] from (((((HZ5.out.set_ 0 _).set_ 1 _).set_ 2 _).set_ 3 _).set_ 4 _)); have HRR := Lib.hid (box5 hR); have HBz := Lib.hid (HB5.out.trans (show Below w.heap.size w5 (World.setCell (World.setCell (World.setCell (World.setCell (World.setCell w5 ⟨w.heap.size, 0, none⟩ (.int .i64 x9.id)) ⟨w.heap.size, 1, none⟩ (.int .i64 x9.x)) ⟨w.heap.size, 2, none⟩ (.int .i64 x9.y)) ⟨w.heap.size, 3, none⟩ (.int .i64 x9.tick)) ⟨w.heap.size, 4, none⟩ (.int .i64 x9.err)) from (by (repeat (first | with_reducible exact Below.refl _ _ | with_reducible assumption | with_reducible refine Below.setCell ?_ (by simp <;> omega) _ | with_reducible refine Below.alloc ?_ (by first | omega | (simp <;> omega)) _ | with_reducible refine Below.drew ?_ | with_reducible refine below_drewN ?_ _))))); clear hC hg hx hR))
    all_goals go_wp2
    all_goals (obtain ⟨r0, r1, r2, r3, r4⟩ := HRR.out; exact bodyPost_ret (v := .tuple #[.agg #[.int .i64 x9.id, .int .i64 x9.x, .int .i64 x9.y, .int .i64 x9.tick, .int .i64 x9.err], .int .i64 o.x, .int .i64 o.y]) (by simp [results, Try.results58, go_sem, r0, r1, r2, r3, r4]) rfl ⟨x9, o.x, o.y, rfl, HBz.out⟩)

end Go.Proofs.Ytdadcbcanjmoeaa
