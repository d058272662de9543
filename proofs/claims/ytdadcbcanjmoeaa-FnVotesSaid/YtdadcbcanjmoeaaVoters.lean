/-
  Contracts of the voters of an origin. (Printed by gen_D7.py.)
-/
import Derived.Test.YtdadcbcanjmoeaaFits
import Derived.Test.YtdadcbcanjmoeaaAreArr
import Derived.Test.YtdadcbcanjmoeaaInts
namespace Go.Proofs.Ytdadcbcanjmoeaa
set_option linter.unusedVariables false
open Go.RowKit

theorem goodAs_len {l : List Arrival} (h : goodAs l = true) : l.length ≤ 8 := by
  simp only [goodAs, Bool.and_eq_true, decide_eq_true_eq] at h; omega
theorem goodAs_mem {l : List Arrival} (h : goodAs l = true) {a : Arrival} (ha : a ∈ l) : goodA a = true := by
  simp only [goodAs, Bool.and_eq_true] at h; exact chk_mem h.1 ha
theorem encI_one (e : Int) : ∀ u ∈ encI e, u.oneCell' = true := by intro u hu; simp [encI] at hu; rcases hu with rfl; rfl

set_option maxRecDepth 100000 in
theorem voters1_any (a : Arrival) (o : Origin) (q : Nat) (W : World) (hq : Blk W q 39 #[.int .i64 o.x, .int .i64 o.y, .int .i64 o.tick]) (ha : goodA a = true) (ho : goodO o = true) :
    Calls Try.prog 114 #[.agg #[.int .i64 a.id, .int .i64 a.x, .int .i64 a.y, .int .i64 a.tick, .int .i64 a.err], .pointer (some ⟨q, 0, none⟩)] W fun e w' => e = .returned (.bool (fitV a o)) ∧ Below W.heap.size W w' := by
  have hlt := hq.lt
  have hne : ¬ q = W.heap.size := by omega
  obtain ⟨o0, o1, o2⟩ := box3 hq
  have Hc := Lib.hid (fun W1 => fits_any a o W1 ha ho)
  clear hq ha ho
  generalize fitV a o = v at *
  go_enter Try.func114, Try.ntmps114
  go_wp2_with fail
  refine (Hc.out _).mono ?_
  rintro e w1 ⟨rfl, hb1⟩
  go_wp2
  go_ret
  exact ⟨rfl, ((Below.refl _ _).alloc (Nat.le_refl _) _).trans (hb1.mono (by simp))⟩

set_option maxRecDepth 100000 in
theorem without1_any (a : Arrival) (o : Origin) (q : Nat) (W : World) (hq : Blk W q 39 #[.int .i64 o.x, .int .i64 o.y, .int .i64 o.tick]) (ha : goodA a = true) (ho : goodO o = true) :
    Calls Try.prog 115 #[.agg #[.int .i64 a.id, .int .i64 a.x, .int .i64 a.y, .int .i64 a.tick, .int .i64 a.err], .pointer (some ⟨q, 0, none⟩)] W fun e w' => e = .returned (.bool (!fitV a o)) ∧ Below W.heap.size W w' := by
  have hlt := hq.lt
  have hne : ¬ q = W.heap.size := by omega
  obtain ⟨o0, o1, o2⟩ := box3 hq
  have Hc := Lib.hid (fun W1 => fits_any a o W1 ha ho)
  clear hq ha ho
  generalize fitV a o = v at *
  go_enter Try.func115, Try.ntmps115
  go_wp2_with fail
  refine (Hc.out _).mono ?_
  rintro e w1 ⟨rfl, hb1⟩
  go_wp2
  go_ret
  exact ⟨rfl, ((Below.refl _ _).alloc (Nat.le_refl _) _).trans (hb1.mono (by simp))⟩

set_option maxRecDepth 100000 in
theorem voters_any (A : Option Addr) (c : Nat) (l : List Arrival) (o : Origin) (w : World) (h : Rd encA 5 w w.heap.size A l) (hg : goodAs l = true) (ho : goodO o = true) :
    Calls Try.prog 82 #[.slice A l.length c, .agg #[.int .i64 o.x, .int .i64 o.y, .int .i64 o.tick]] w fun e w' => ∃ v, e = .returned v ∧ Own encA 5 w' w.heap.size 37 v (l.filter (fun a => fitV a o)) ∧ Below w.heap.size w w' := by
  have hl := goodAs_len hg
  have HO := Blk.new w 39 #[.int .i64 o.x, .int .i64 o.y, .int .i64 o.tick]
  have hB0 : Below w.heap.size w (w.alloc (.cells #[.int .i64 o.x, .int .i64 o.y, .int .i64 o.tick] 39)) := by (repeat (first | with_reducible exact Below.refl _ _ | with_reducible assumption | with_reducible refine Below.setCell ?_ (by simp <;> omega) _ | with_reducible refine Below.alloc ?_ (by first | omega | (simp <;> omega)) _ | with_reducible refine Below.drew ?_ | with_reducible refine below_drewN ?_ _))
  have hr := (h.below hB0).more hB0.size
  have hcon := filterA_any 114 #[.pointer (some ⟨w.heap.size, 0, none⟩)] (enters_of Try.func114 (by kernel_rfl) rfl) A c l (fun a => fitV a o) (w.alloc (.cells #[.int .i64 o.x, .int .i64 o.y, .int .i64 o.tick] 39)) hr (by omega) (fun W a ha hW => voters1_any a o w.heap.size W (HO.after hW) (goodAs_mem hg ha) ho)
  have Hcon := Lib.hid hcon
  have hmf : ∀ (fn : Fn) (first cap : Array Value) (w : World), (Instr.makeFunc fn first cap).run Try.prog w = .ok (.func fn first cap) w := fun _ _ _ _ => rfl
  clear hcon HO hg ho
  go_enter Try.func82, Try.ntmps82
  go_wp2_with fail
  refine Hcon.out.mono ?_
  rintro e w1 ⟨v, rfl, hown, hb1⟩
  have Hown := Lib.hid hown
  clear hown
  go_wp2
  go_ret
  exact ⟨_, rfl, Hown.out.mono (by simp), hB0.trans (hb1.mono (by simp))⟩

set_option maxRecDepth 100000 in
theorem without_any (A : Option Addr) (c : Nat) (l : List Arrival) (o : Origin) (w : World) (h : Rd encA 5 w w.heap.size A l) (hg : goodAs l = true) (ho : goodO o = true) :
    Calls Try.prog 84 #[.slice A l.length c, .agg #[.int .i64 o.x, .int .i64 o.y, .int .i64 o.tick]] w fun e w' => ∃ v, e = .returned v ∧ Own encA 5 w' w.heap.size 37 v (l.filter (fun a => !fitV a o)) ∧ Below w.heap.size w w' := by
  have hl := goodAs_len hg
  have HO := Blk.new w 39 #[.int .i64 o.x, .int .i64 o.y, .int .i64 o.tick]
  have hB0 : Below w.heap.size w (w.alloc (.cells #[.int .i64 o.x, .int .i64 o.y, .int .i64 o.tick] 39)) := by (repeat (first | with_reducible exact Below.refl _ _ | with_reducible assumption | with_reducible refine Below.setCell ?_ (by simp <;> omega) _ | with_reducible refine Below.alloc ?_ (by first | omega | (simp <;> omega)) _ | with_reducible refine Below.drew ?_ | with_reducible refine below_drewN ?_ _))
  have hr := (h.below hB0).more hB0.size
  have hcon := filterA_any 115 #[.pointer (some ⟨w.heap.size, 0, none⟩)] (enters_of Try.func115 (by kernel_rfl) rfl) A c l (fun a => !fitV a o) (w.alloc (.cells #[.int .i64 o.x, .int .i64 o.y, .int .i64 o.tick] 39)) hr (by omega) (fun W a ha hW => without1_any a o w.heap.size W (HO.after hW) (goodAs_mem hg ha) ho)
  have Hcon := Lib.hid hcon
  have hmf : ∀ (fn : Fn) (first cap : Array Value) (w : World), (Instr.makeFunc fn first cap).run Try.prog w = .ok (.func fn first cap) w := fun _ _ _ _ => rfl
  clear hcon HO hg ho
  go_enter Try.func84, Try.ntmps84
  go_wp2_with fail
  refine Hcon.out.mono ?_
  rintro e w1 ⟨v, rfl, hown, hb1⟩
  have Hown := Lib.hid hown
  clear hown
  go_wp2
  go_ret
  exact ⟨_, rfl, Hown.out.mono (by simp), hB0.trans (hb1.mono (by simp))⟩

set_option maxRecDepth 100000 in
set_option maxHeartbeats 1000000 in
theorem l10Voters_any (A : Option Addr) (c : Nat) (l : List Arrival) (o : Origin) (w : World) (h : Rd encA 5 w w.heap.size A l) (hg : goodAs l = true) (ho : goodO o = true) :
    Calls Try.prog 81 #[.slice A l.length c, .agg #[.int .i64 o.x, .int .i64 o.y, .int .i64 o.tick]] w fun e w' => ∃ v, e = .returned v ∧ Own encI 1 w' w.heap.size 3 v (((l).filter (fun a => fitV a o)).map Arrival.id) ∧ Below w.heap.size w w' := by
  have hl := goodAs_len hg
  have HO := Lib.hid (Blk.new w 39 #[.int .i64 o.x, .int .i64 o.y, .int .i64 o.tick])
  obtain ⟨i0, hi, hz0, hz1, hz2⟩ := info_parts infoI
  have hgm := Lib.hid (fun a (ha : a ∈ l) => goodAs_mem hg ha)
  clear hg
  go_enter Try.func81, Try.ntmps81
  go_wp2
  go_loopw [5, 6] (fun v i wr => ∃ k : Nat, k ≤ l.length ∧ i = .int .i64 k ∧ Hid (Own encI 1 wr (w.heap.size + 1) 3 v (((l.take k).filter (fun a => fitV a o)).map Arrival.id)) ∧ Hid (Blk wr w.heap.size 39 #[.int .i64 o.x, .int .i64 o.y, .int .i64 o.tick]) ∧ Below w.heap.size w wr ∧ w.heap.size + 1 ≤ wr.heap.size) (fun _ i _ => l.length - (intOf i).toNat)
  case atStart =>
    refine ⟨0, Nat.zero_le _, rfl, ?_, HO.out.alloc _, ?_, ?_⟩
    · have := Own.empty (enc := encI) (k := 1) (w.alloc (.cells #[.int .i64 o.x, .int .i64 o.y, .int .i64 o.tick] 39)) (w.heap.size + 1) 3 (by simp)
      simp at this
      exact this
    · (repeat (first | with_reducible exact Below.refl _ _ | with_reducible assumption | with_reducible refine Below.setCell ?_ (by simp <;> omega) _ | with_reducible refine Below.alloc ?_ (by first | omega | (simp <;> omega)) _ | with_reducible refine Below.drew ?_ | with_reducible refine below_drewN ?_ _))
    · simp
  case round =>
    obtain ⟨k, hk, rfl, hown, HB, hbl, hsz⟩ := hrel
    clear HO
    by_cases hlt : k < l.length
    · obtain ⟨b, off, rfl, hb, c0, c1, c2, c3, c4⟩ := cellsA (h.below hbl) hlt
      have hga := hgm.out _ (List.getElem_mem hlt)
      have Hyes := Lib.hid (fun (hh : fitV l[k] o = true) => (show ((l.take (k + 1)).filter (fun a => fitV a o)).map Arrival.id = ((l.take k).filter (fun a => fitV a o)).map Arrival.id ++ [l[k].id] by rw [List.take_succ_eq_append_getElem hlt, List.filter_append]; simp [hh]))
      have Hno := Lib.hid (fun (hh : fitV l[k] o = false) => (show ((l.take (k + 1)).filter (fun a => fitV a o)).map Arrival.id = ((l.take k).filter (fun a => fitV a o)).map Arrival.id by rw [List.take_succ_eq_append_getElem hlt, List.filter_append]; simp [hh]))
      have hfl : (((l.take k).filter (fun a => fitV a o)).map Arrival.id).length ≤ 1048576 := by have h1 := List.length_filter_le (fun a => fitV a o) (l.take k); have h2 := List.length_take_le k l; (try rw [List.length_map]); omega
      obtain ⟨L, hL⟩ : ∃ L, ((l.take k).filter (fun a => fitV a o)).map Arrival.id = L := ⟨_, rfl⟩
      rw [hL] at Hyes Hno hown hfl
      generalize l[k] = a at *
      clear hL
      obtain ⟨A', c', rfl, hcc, _⟩ := Own.form (by intro x; rfl) hown.out
      obtain ⟨o0, o1, o2⟩ := box3 HB.out
      have k0 := cell_regrown c0
      have k1 := cell_regrown c1
      have k2 := cell_regrown c2
      have k3 := cell_regrown c3
      have k4 := cell_regrown c4
      have m0 := cell_regrown o0
      have m1 := cell_regrown o1
      have m2 := cell_regrown o2
      cases hv : fitV a o with
      | true =>
        have Hy := Lib.hid (Hyes.out hv)
        have cV : ∀ d os, Calls Try.prog 70 #[.agg #[.int .i64 a.id, .int .i64 a.x, .int .i64 a.y, .int .i64 a.tick, .int .i64 a.err], .agg #[.int .i64 o.x, .int .i64 o.y, .int .i64 o.tick]] (Go.Sort.grow (redrawn wr d) os) fun e w'' => e = .returned (.bool true) ∧ ∃ p : Regrown, w'' = Go.Sort.grow (redrawn wr p.d) p.os := fun d os => by (have q := l10Fits_any a o (Go.Sort.grow (redrawn wr d) os) hga ho); rw [hv] at q; exact Calls.regrown_of q
        clear o0 o1 o2 Hyes Hno
        go_wp2_with fail
        refine wp_region_quiet_below (by kernel_rfl) (by kernel_rfl) ?_
        repeat (go_big_quiet_step ((exact cV _ _)))
        refine wpQuiet_nil ?_
        intro _ hw'
        obtain ⟨⟨dq, osq⟩, hw''⟩ := hw'
        subst hw''
        have hBq := hbl.trans ((below_regrown wr dq osq).mono hbl.size)
        have HBq := Lib.hid (HB.out.after (below_regrown wr dq osq))
        have hbg := below_regrown wr dq osq
        have Hoq := Lib.hid (hown.out.keep hbg)
        have hszq := hbg.size
        have x0 := keepCell hbg c0
        have x1 := keepCell hbg c1
        have x2 := keepCell hbg c2
        have x3 := keepCell hbg c3
        have x4 := keepCell hbg c4
        clear hbg
        generalize Go.Sort.grow (redrawn wr dq) osq = wq at hBq HBq Hoq hszq x0 x1 x2 x3 x4 ⊢
        clear k0 k1 k2 k3 k4 m0 m1 m2 cV c0 c1 c2 c3 c4 hv
        go_wp2_with (at_builtin; refine wpList_app1 rfl _ _ 57 rfl (w.heap.size + 1) 3 i0 _ 1 8 Try.underlying57 hi hz0 hz1 hz2 rfl (by omega) (by omega) encI (by intro x; rfl) encI_one (.slice A' L.length c') L a.id wq _ rfl _ rfl Hoq.out rfl hfl (by omega) ?_; intro v' w2 hown2 hb2 _)
        have Hown2 := Lib.hid hown2
        have HB2 := Lib.hid (HBq.out.below hb2 (by omega))
        have hbl2 := hBq.trans (hb2.mono (by omega))
        have hs2 := hb2.size
        clear hown2 hb2 x0 x1 x2 x3 x4
        go_wp2
        go_roundw
        case rel => exact ⟨k + 1, by omega, by go_num, by rw [Hy.out]; exact Hown2.out, HB2.out, hbl2, by omega⟩
        case measure => simp [intOf]; omega
      | false =>
        have Hn := Lib.hid (Hno.out hv)
        have cV : ∀ d os, Calls Try.prog 70 #[.agg #[.int .i64 a.id, .int .i64 a.x, .int .i64 a.y, .int .i64 a.tick, .int .i64 a.err], .agg #[.int .i64 o.x, .int .i64 o.y, .int .i64 o.tick]] (Go.Sort.grow (redrawn wr d) os) fun e w'' => e = .returned (.bool false) ∧ ∃ p : Regrown, w'' = Go.Sort.grow (redrawn wr p.d) p.os := fun d os => by (have q := l10Fits_any a o (Go.Sort.grow (redrawn wr d) os) hga ho); rw [hv] at q; exact Calls.regrown_of q
        clear o0 o1 o2 Hyes Hno
        go_wp2_with fail
        refine wp_region_quiet_below (by kernel_rfl) (by kernel_rfl) ?_
        repeat (go_big_quiet_step ((exact cV _ _)))
        refine wpQuiet_nil ?_
        intro _ hw'
        obtain ⟨⟨dq, osq⟩, hw''⟩ := hw'
        subst hw''
        have hBq := hbl.trans ((below_regrown wr dq osq).mono hbl.size)
        have HBq := Lib.hid (HB.out.after (below_regrown wr dq osq))
        have hbg := below_regrown wr dq osq
        have Hoq := Lib.hid (hown.out.keep hbg)
        have hszq := hbg.size
        have x0 := keepCell hbg c0
        have x1 := keepCell hbg c1
        have x2 := keepCell hbg c2
        have x3 := keepCell hbg c3
        have x4 := keepCell hbg c4
        clear hbg
        generalize Go.Sort.grow (redrawn wr dq) osq = wq at hBq HBq Hoq hszq x0 x1 x2 x3 x4 ⊢
        clear k0 k1 k2 k3 k4 m0 m1 m2 cV c0 c1 c2 c3 c4 hv x0 x1 x2 x3 x4
        go_wp2
        go_roundw
        case rel => exact ⟨k + 1, by omega, by go_num, by rw [Hn.out]; exact Hoq.out, HBq.out, hBq, by omega⟩
        case measure => simp [intOf]; omega
    · have hkl : l.take k = l := List.take_of_length_le (by omega)
      rw [hkl] at hown
      clear hkl
      go_wp2
      go_ret
      exact ⟨_, rfl, hown.out.mono (by omega), hbl⟩

set_option maxRecDepth 100000 in
set_option maxHeartbeats 1000000 in
theorem l10Rest_any (A : Option Addr) (c : Nat) (l : List Arrival) (o : Origin) (w : World) (h : Rd encA 5 w w.heap.size A l) (hg : goodAs l = true) (ho : goodO o = true) :
    Calls Try.prog 83 #[.slice A l.length c, .agg #[.int .i64 o.x, .int .i64 o.y, .int .i64 o.tick]] w fun e w' => ∃ v, e = .returned v ∧ Own encA 5 w' w.heap.size 37 v ((l).filter (fun a => !fitV a o)) ∧ Below w.heap.size w w' := by
  have hl := goodAs_len hg
  have HO := Lib.hid (Blk.new w 39 #[.int .i64 o.x, .int .i64 o.y, .int .i64 o.tick])
  obtain ⟨i0, hi, hz0, hz1, hz2⟩ := info_parts infoA
  have hgm := Lib.hid (fun a (ha : a ∈ l) => goodAs_mem hg ha)
  clear hg
  go_enter Try.func83, Try.ntmps83
  go_wp2
  go_loopw [5, 6] (fun v i wr => ∃ k : Nat, k ≤ l.length ∧ i = .int .i64 k ∧ Hid (Own encA 5 wr (w.heap.size + 1) 37 v ((l.take k).filter (fun a => !fitV a o))) ∧ Hid (Blk wr w.heap.size 39 #[.int .i64 o.x, .int .i64 o.y, .int .i64 o.tick]) ∧ Below w.heap.size w wr ∧ w.heap.size + 1 ≤ wr.heap.size) (fun _ i _ => l.length - (intOf i).toNat)
  case atStart =>
    refine ⟨0, Nat.zero_le _, rfl, ?_, HO.out.alloc _, ?_, ?_⟩
    · have := Own.empty (enc := encA) (k := 5) (w.alloc (.cells #[.int .i64 o.x, .int .i64 o.y, .int .i64 o.tick] 39)) (w.heap.size + 1) 37 (by simp)
      simp at this
      exact this
    · (repeat (first | with_reducible exact Below.refl _ _ | with_reducible assumption | with_reducible refine Below.setCell ?_ (by simp <;> omega) _ | with_reducible refine Below.alloc ?_ (by first | omega | (simp <;> omega)) _ | with_reducible refine Below.drew ?_ | with_reducible refine below_drewN ?_ _))
    · simp
  case round =>
    obtain ⟨k, hk, rfl, hown, HB, hbl, hsz⟩ := hrel
    clear HO
    by_cases hlt : k < l.length
    · obtain ⟨b, off, rfl, hb, c0, c1, c2, c3, c4⟩ := cellsA (h.below hbl) hlt
      have hga := hgm.out _ (List.getElem_mem hlt)
      have Hyes := Lib.hid (fun (hh : fitV l[k] o = false) => (show (l.take (k + 1)).filter (fun a => !fitV a o) = (l.take k).filter (fun a => !fitV a o) ++ [l[k]] by rw [List.take_succ_eq_append_getElem hlt, List.filter_append]; simp [hh]))
      have Hno := Lib.hid (fun (hh : fitV l[k] o = true) => (show (l.take (k + 1)).filter (fun a => !fitV a o) = (l.take k).filter (fun a => !fitV a o) by rw [List.take_succ_eq_append_getElem hlt, List.filter_append]; simp [hh]))
      have hfl : ((l.take k).filter (fun a => !fitV a o)).length ≤ 1048576 := by have h1 := List.length_filter_le (fun a => !fitV a o) (l.take k); have h2 := List.length_take_le k l; (try rw [List.length_map]); omega
      obtain ⟨L, hL⟩ : ∃ L, (l.take k).filter (fun a => !fitV a o) = L := ⟨_, rfl⟩
      rw [hL] at Hyes Hno hown hfl
      generalize l[k] = a at *
      clear hL
      obtain ⟨A', c', rfl, hcc, _⟩ := Own.form (by intro x; rfl) hown.out
      obtain ⟨o0, o1, o2⟩ := box3 HB.out
      have k0 := cell_regrown c0
      have k1 := cell_regrown c1
      have k2 := cell_regrown c2
      have k3 := cell_regrown c3
      have k4 := cell_regrown c4
      have m0 := cell_regrown o0
      have m1 := cell_regrown o1
      have m2 := cell_regrown o2
      cases hv : fitV a o with
      | false =>
        have Hy := Lib.hid (Hyes.out hv)
        have cV : ∀ d os, Calls Try.prog 70 #[.agg #[.int .i64 a.id, .int .i64 a.x, .int .i64 a.y, .int .i64 a.tick, .int .i64 a.err], .agg #[.int .i64 o.x, .int .i64 o.y, .int .i64 o.tick]] (Go.Sort.grow (redrawn wr d) os) fun e w'' => e = .returned (.bool false) ∧ ∃ p : Regrown, w'' = Go.Sort.grow (redrawn wr p.d) p.os := fun d os => by (have q := l10Fits_any a o (Go.Sort.grow (redrawn wr d) os) hga ho); rw [hv] at q; exact Calls.regrown_of q
        clear o0 o1 o2 Hyes Hno
        go_wp2_with fail
        refine wp_region_quiet_below (by kernel_rfl) (by kernel_rfl) ?_
        repeat (go_big_quiet_step ((exact cV _ _)))
        refine wpQuiet_nil ?_
        intro _ hw'
        obtain ⟨⟨dq, osq⟩, hw''⟩ := hw'
        subst hw''
        have hBq := hbl.trans ((below_regrown wr dq osq).mono hbl.size)
        have HBq := Lib.hid (HB.out.after (below_regrown wr dq osq))
        have hbg := below_regrown wr dq osq
        have Hoq := Lib.hid (hown.out.keep hbg)
        have hszq := hbg.size
        have x0 := keepCell hbg c0
        have x1 := keepCell hbg c1
        have x2 := keepCell hbg c2
        have x3 := keepCell hbg c3
        have x4 := keepCell hbg c4
        clear hbg
        generalize Go.Sort.grow (redrawn wr dq) osq = wq at hBq HBq Hoq hszq x0 x1 x2 x3 x4 ⊢
        clear k0 k1 k2 k3 k4 m0 m1 m2 cV c0 c1 c2 c3 c4 hv
        go_wp2_with (at_builtin; refine wpList_app1 rfl _ _ 45 rfl (w.heap.size + 1) 37 i0 _ 5 40 Try.underlying45 hi hz0 hz1 hz2 rfl (by omega) (by omega) encA (by intro x; rfl) encA_one (.slice A' L.length c') L a wq _ rfl _ rfl Hoq.out rfl hfl (by omega) ?_; intro v' w2 hown2 hb2 _)
        have Hown2 := Lib.hid hown2
        have HB2 := Lib.hid (HBq.out.below hb2 (by omega))
        have hbl2 := hBq.trans (hb2.mono (by omega))
        have hs2 := hb2.size
        clear hown2 hb2 x0 x1 x2 x3 x4
        go_wp2
        go_roundw
        case rel => exact ⟨k + 1, by omega, by go_num, by rw [Hy.out]; exact Hown2.out, HB2.out, hbl2, by omega⟩
        case measure => simp [intOf]; omega
      | true =>
        have Hn := Lib.hid (Hno.out hv)
        have cV : ∀ d os, Calls Try.prog 70 #[.agg #[.int .i64 a.id, .int .i64 a.x, .int .i64 a.y, .int .i64 a.tick, .int .i64 a.err], .agg #[.int .i64 o.x, .int .i64 o.y, .int .i64 o.tick]] (Go.Sort.grow (redrawn wr d) os) fun e w'' => e = .returned (.bool true) ∧ ∃ p : Regrown, w'' = Go.Sort.grow (redrawn wr p.d) p.os := fun d os => by (have q := l10Fits_any a o (Go.Sort.grow (redrawn wr d) os) hga ho); rw [hv] at q; exact Calls.regrown_of q
        clear o0 o1 o2 Hyes Hno
        go_wp2_with fail
        refine wp_region_quiet_below (by kernel_rfl) (by kernel_rfl) ?_
        repeat (go_big_quiet_step ((exact cV _ _)))
        refine wpQuiet_nil ?_
        intro _ hw'
        obtain ⟨⟨dq, osq⟩, hw''⟩ := hw'
        subst hw''
        have hBq := hbl.trans ((below_regrown wr dq osq).mono hbl.size)
        have HBq := Lib.hid (HB.out.after (below_regrown wr dq osq))
        have hbg := below_regrown wr dq osq
        have Hoq := Lib.hid (hown.out.keep hbg)
        have hszq := hbg.size
        have x0 := keepCell hbg c0
        have x1 := keepCell hbg c1
        have x2 := keepCell hbg c2
        have x3 := keepCell hbg c3
        have x4 := keepCell hbg c4
        clear hbg
        generalize Go.Sort.grow (redrawn wr dq) osq = wq at hBq HBq Hoq hszq x0 x1 x2 x3 x4 ⊢
        clear k0 k1 k2 k3 k4 m0 m1 m2 cV c0 c1 c2 c3 c4 hv x0 x1 x2 x3 x4
        go_wp2
        go_roundw
        case rel => exact ⟨k + 1, by omega, by go_num, by rw [Hn.out]; exact Hoq.out, HBq.out, hBq, by omega⟩
        case measure => simp [intOf]; omega
    · have hkl : l.take k = l := List.take_of_length_le (by omega)
      rw [hkl] at hown
      clear hkl
      go_wp2
      go_ret
      exact ⟨_, rfl, hown.out.mono (by omega), hbl⟩

end Go.Proofs.Ytdadcbcanjmoeaa
