/-
  Contracts of WithoutVoters and VotersFor. (Printed by gen_D8.py.)
-/
import Derived.Test.YtdadcbcanjmoeaaVotes
namespace Go.Proofs.Ytdadcbcanjmoeaa
set_option linter.unusedVariables false
open Go.RowKit

set_option maxRecDepth 100000 in
set_option maxHeartbeats 1000000 in
theorem WithoutVoters_any (A : Option Addr) (c : Nat) (l : List Arrival) (o : Origin) (w : World) (h : Rd encA 5 w w.heap.size A l) (hl : l.length ≤ 1048576) :
    Calls Try.prog 34 #[.slice A l.length c, .agg #[.int .i64 o.x, .int .i64 o.y, .int .i64 o.tick]] w fun e w' => ∃ A' c', e = .returned (.tuple #[.slice A' (WVl l o).length c', .bool (okVF l o)]) ∧ ((WVl l o).length ≤ c' ∧ c' ≤ maxLen) ∧ Own encA 5 w' w.heap.size 37 (.slice A' (WVl l o).length c') (WVl l o) ∧ Below w.heap.size w w' := by
  have HO := Lib.hid (Blk.new w 39 #[.int .i64 o.x, .int .i64 o.y, .int .i64 o.tick])
  have hB0 : Below w.heap.size w (w.alloc (.cells #[.int .i64 o.x, .int .i64 o.y, .int .i64 o.tick] 39)) := by (repeat (first | with_reducible exact Below.refl _ _ | with_reducible assumption | with_reducible refine Below.setCell ?_ (by simp <;> omega) _ | with_reducible refine Below.alloc ?_ (by first | omega | (simp <;> omega)) _ | with_reducible refine Below.drew ?_ | with_reducible refine below_drewN ?_ _))
  have hr := (h.below hB0).more hB0.size
  obtain ⟨o0, o1, o2⟩ := box3 HO.out
  cases hg : goodAs l with
  | false =>
    have hk : okVF l o = false := by simp [okVF, hg]
    simp only [WVl, hk, Bool.false_eq_true, if_false]
    go_enter Try.func34, Try.ntmps34
    go_wp2_with (go_at_call 27; refine (AreArrivals_any A c l _ hr hl).mono ?_; rintro e w1 ⟨rfl, hb1⟩; rw [hg]; have HO1 := Lib.hid (HO.out.after hb1); have hB1 := hB0.trans (hb1.mono hB0.size); have hr1 := hr.after hb1; clear o0 o1 o2; obtain ⟨o0, o1, o2⟩ := box3 HO1.out)
    go_ret2
    exact ⟨none, 0, rfl, ⟨Nat.le_refl _, Nat.zero_le _⟩, Own.none_ _ _ _, hB1⟩
  | true =>
    cases hgo : goodO o with
    | false =>
      have hk : okVF l o = false := by simp [okVF, hgo]
      simp only [WVl, hk, Bool.false_eq_true, if_false]
      go_enter Try.func34, Try.ntmps34
      go_wp2_with (first | (go_at_call 27; refine (AreArrivals_any A c l _ hr hl).mono ?_; rintro e w1 ⟨rfl, hb1⟩; rw [hg]; have HO1 := Lib.hid (HO.out.after hb1); have hB1 := hB0.trans (hb1.mono hB0.size); have hr1 := hr.after hb1; clear o0 o1 o2; obtain ⟨o0, o1, o2⟩ := box3 HO1.out) | (go_at_call 72; refine (isOrigin_any o _).mono ?_; rintro e w2 ⟨rfl, hb2⟩; rw [hgo]; have HO2 := Lib.hid (HO1.out.after hb2); have hB2 := hB1.trans (hb2.mono hB1.size); have hr2 := hr1.after hb2; clear o0 o1 o2; obtain ⟨o0, o1, o2⟩ := box3 HO2.out))
      go_ret2
      exact ⟨none, 0, rfl, ⟨Nat.le_refl _, Nat.zero_le _⟩, Own.none_ _ _ _, hB2⟩
    | true =>
      have hk : okVF l o = true := by simp [okVF, hg, hgo]
      simp only [WVl, hk, if_true]
      go_enter Try.func34, Try.ntmps34
      go_wp2_with (first | (go_at_call 27; refine (AreArrivals_any A c l _ hr hl).mono ?_; rintro e w1 ⟨rfl, hb1⟩; rw [hg]; have HO1 := Lib.hid (HO.out.after hb1); have hB1 := hB0.trans (hb1.mono hB0.size); have hr1 := hr.after hb1; clear o0 o1 o2; obtain ⟨o0, o1, o2⟩ := box3 HO1.out) | (go_at_call 72; refine (isOrigin_any o _).mono ?_; rintro e w2 ⟨rfl, hb2⟩; rw [hgo]; have HO2 := Lib.hid (HO1.out.after hb2); have hB2 := hB1.trans (hb2.mono hB1.size); have hr2 := hr1.after hb2; clear o0 o1 o2; obtain ⟨o0, o1, o2⟩ := box3 HO2.out) | (go_at_call 84; refine (without_any A c l o _ hr2 hg hgo).mono ?_; rintro e w3 ⟨v, rfl, hown, hb3⟩; obtain ⟨A', c', rfl, hcc, _⟩ := Own.form encA_len hown))
      go_ret2
      exact ⟨A', c', rfl, hcc, hown.mono hB2.size, hB2.trans (hb3.mono hB2.size)⟩
set_option maxRecDepth 100000 in
set_option maxHeartbeats 1000000 in
theorem sWithoutVoters_any (A : Option Addr) (c : Nat) (l : List Arrival) (o : Origin) (w : World) (h : Rd encA 5 w w.heap.size A l) (hl : l.length ≤ 1048576) :
    Calls Try.prog 33 #[.slice A l.length c, .agg #[.int .i64 o.x, .int .i64 o.y, .int .i64 o.tick]] w fun e w' => ∃ A' c', e = .returned (.tuple #[.slice A' (WVl l o).length c', .bool (okVF l o)]) ∧ ((WVl l o).length ≤ c' ∧ c' ≤ maxLen) ∧ Own encA 5 w' w.heap.size 37 (.slice A' (WVl l o).length c') (WVl l o) ∧ Below w.heap.size w w' := by
  have HO := Lib.hid (Blk.new w 39 #[.int .i64 o.x, .int .i64 o.y, .int .i64 o.tick])
  have hB0 : Below w.heap.size w (w.alloc (.cells #[.int .i64 o.x, .int .i64 o.y, .int .i64 o.tick] 39)) := by (repeat (first | with_reducible exact Below.refl _ _ | with_reducible assumption | with_reducible refine Below.setCell ?_ (by simp <;> omega) _ | with_reducible refine Below.alloc ?_ (by first | omega | (simp <;> omega)) _ | with_reducible refine Below.drew ?_ | with_reducible refine below_drewN ?_ _))
  have hr := (h.below hB0).more hB0.size
  obtain ⟨o0, o1, o2⟩ := box3 HO.out
  cases hk : okVF l o with
  | false =>
    simp only [WVl, hk, Bool.false_eq_true, if_false]
    go_enter Try.func33, Try.ntmps33
    go_wp2_with (go_at_call 80; refine (l10Asked_any A c l o _ hr hl).mono ?_; rintro e w1 ⟨rfl, hb1⟩; rw [hk]; have HO1 := Lib.hid (HO.out.after hb1); have hB1 := hB0.trans (hb1.mono hB0.size); have hr1 := hr.after hb1; clear o0 o1 o2; obtain ⟨o0, o1, o2⟩ := box3 HO1.out)
    go_ret2
    exact ⟨_, 0, rfl, ⟨Nat.le_refl _, Nat.zero_le _⟩, Own.empty _ _ _ hB1.size, hB1.alloc hB1.size _⟩
  | true =>
    obtain ⟨hg, hgo⟩ : goodAs l = true ∧ goodO o = true := by simpa [okVF] using hk
    simp only [WVl, hk, if_true]
    go_enter Try.func33, Try.ntmps33
    go_wp2_with (first | (go_at_call 80; refine (l10Asked_any A c l o _ hr hl).mono ?_; rintro e w1 ⟨rfl, hb1⟩; rw [hk]; have HO1 := Lib.hid (HO.out.after hb1); have hB1 := hB0.trans (hb1.mono hB0.size); have hr1 := hr.after hb1; clear o0 o1 o2; obtain ⟨o0, o1, o2⟩ := box3 HO1.out) | (go_at_call 83; refine (l10Rest_any A c l o _ hr1 hg hgo).mono ?_; rintro e w3 ⟨v, rfl, hown, hb3⟩; obtain ⟨A', c', rfl, hcc, _⟩ := Own.form encA_len hown))
    go_ret2
    exact ⟨A', c', rfl, hcc, hown.mono hB1.size, hB1.trans (hb3.mono hB1.size)⟩
set_option maxRecDepth 100000 in
set_option maxHeartbeats 1000000 in
theorem sVotersFor_any (A : Option Addr) (c : Nat) (l : List Arrival) (o : Origin) (w : World) (h : Rd encA 5 w w.heap.size A l) (hl : l.length ≤ 1048576) :
    Calls Try.prog 37 #[.slice A l.length c, .agg #[.int .i64 o.x, .int .i64 o.y, .int .i64 o.tick]] w fun e w' => ∃ A' c', e = .returned (.tuple #[.slice A' (VFids l o).length c', .bool (okVF l o)]) ∧ ((VFids l o).length ≤ c' ∧ c' ≤ maxLen) ∧ Own encI 1 w' w.heap.size 3 (.slice A' (VFids l o).length c') (VFids l o) ∧ Below w.heap.size w w' := by
  have HO := Lib.hid (Blk.new w 39 #[.int .i64 o.x, .int .i64 o.y, .int .i64 o.tick])
  have hB0 : Below w.heap.size w (w.alloc (.cells #[.int .i64 o.x, .int .i64 o.y, .int .i64 o.tick] 39)) := by (repeat (first | with_reducible exact Below.refl _ _ | with_reducible assumption | with_reducible refine Below.setCell ?_ (by simp <;> omega) _ | with_reducible refine Below.alloc ?_ (by first | omega | (simp <;> omega)) _ | with_reducible refine Below.drew ?_ | with_reducible refine below_drewN ?_ _))
  have hr := (h.below hB0).more hB0.size
  obtain ⟨o0, o1, o2⟩ := box3 HO.out
  cases hk : okVF l o with
  | false =>
    simp only [VFids, hk, Bool.false_eq_true, if_false]
    go_enter Try.func37, Try.ntmps37
    go_wp2_with (go_at_call 80; refine (l10Asked_any A c l o _ hr hl).mono ?_; rintro e w1 ⟨rfl, hb1⟩; rw [hk]; have HO1 := Lib.hid (HO.out.after hb1); have hB1 := hB0.trans (hb1.mono hB0.size); have hr1 := hr.after hb1; clear o0 o1 o2; obtain ⟨o0, o1, o2⟩ := box3 HO1.out)
    go_ret2
    exact ⟨_, 0, rfl, ⟨Nat.le_refl _, Nat.zero_le _⟩, Own.empty _ _ _ hB1.size, hB1.alloc hB1.size _⟩
  | true =>
    obtain ⟨hg, hgo⟩ : goodAs l = true ∧ goodO o = true := by simpa [okVF] using hk
    simp only [VFids, hk, if_true]
    unfold votL
    go_enter Try.func37, Try.ntmps37
    go_wp2_with (first | (go_at_call 80; refine (l10Asked_any A c l o _ hr hl).mono ?_; rintro e w1 ⟨rfl, hb1⟩; rw [hk]; have HO1 := Lib.hid (HO.out.after hb1); have hB1 := hB0.trans (hb1.mono hB0.size); have hr1 := hr.after hb1; clear o0 o1 o2; obtain ⟨o0, o1, o2⟩ := box3 HO1.out) | (go_at_call 81; refine (l10Voters_any A c l o _ hr1 hg hgo).mono ?_; rintro e w3 ⟨v, rfl, hown, hb3⟩; obtain ⟨A', c', rfl, hcc, _⟩ := Own.form encI_len hown))
    go_ret2
    refine ⟨A', c', ?_, hcc, hown.mono hB1.size, hB1.trans (hb3.mono hB1.size)⟩
    rw [List.length_map]
    rfl
set_option maxRecDepth 100000 in
set_option maxHeartbeats 1000000 in
theorem VotersFor_any (A : Option Addr) (c : Nat) (l : List Arrival) (o : Origin) (w : World) (h : Rd encA 5 w w.heap.size A l) (hl : l.length ≤ 1048576) :
    Calls Try.prog 38 #[.slice A l.length c, .agg #[.int .i64 o.x, .int .i64 o.y, .int .i64 o.tick]] w fun e w' => ∃ A' c', e = .returned (.tuple #[.slice A' (VFids l o).length c', .bool (okVF l o)]) ∧ ((VFids l o).length ≤ c' ∧ c' ≤ maxLen) ∧ Own encI 1 w' w.heap.size 3 (.slice A' (VFids l o).length c') (VFids l o) ∧ Below w.heap.size w w' := by
  have HO := Lib.hid (Blk.new w 39 #[.int .i64 o.x, .int .i64 o.y, .int .i64 o.tick])
  have hB0 : Below w.heap.size w (w.alloc (.cells #[.int .i64 o.x, .int .i64 o.y, .int .i64 o.tick] 39)) := by (repeat (first | with_reducible exact Below.refl _ _ | with_reducible assumption | with_reducible refine Below.setCell ?_ (by simp <;> omega) _ | with_reducible refine Below.alloc ?_ (by first | omega | (simp <;> omega)) _ | with_reducible refine Below.drew ?_ | with_reducible refine below_drewN ?_ _))
  have hr := (h.below hB0).more hB0.size
  obtain ⟨o0, o1, o2⟩ := box3 HO.out
  cases hg : goodAs l with
  | false =>
    have hk : okVF l o = false := by simp [okVF, hg]
    simp only [VFids, hk, Bool.false_eq_true, if_false]
    go_enter Try.func38, Try.ntmps38
    go_wp2_with (go_at_call 27; refine (AreArrivals_any A c l _ hr hl).mono ?_; rintro e w1 ⟨rfl, hb1⟩; rw [hg]; have HO1 := Lib.hid (HO.out.after hb1); have hB1 := hB0.trans (hb1.mono hB0.size); have hr1 := hr.after hb1; clear o0 o1 o2; obtain ⟨o0, o1, o2⟩ := box3 HO1.out)
    go_ret2
    exact ⟨none, 0, rfl, ⟨Nat.le_refl _, Nat.zero_le _⟩, Own.none_ _ _ _, hB1⟩
  | true =>
    cases hgo : goodO o with
    | false =>
      have hk : okVF l o = false := by simp [okVF, hgo]
      simp only [VFids, hk, Bool.false_eq_true, if_false]
      go_enter Try.func38, Try.ntmps38
      go_wp2_with (first | (go_at_call 27; refine (AreArrivals_any A c l _ hr hl).mono ?_; rintro e w1 ⟨rfl, hb1⟩; rw [hg]; have HO1 := Lib.hid (HO.out.after hb1); have hB1 := hB0.trans (hb1.mono hB0.size); have hr1 := hr.after hb1; clear o0 o1 o2; obtain ⟨o0, o1, o2⟩ := box3 HO1.out) | (go_at_call 72; refine (isOrigin_any o _).mono ?_; rintro e w2 ⟨rfl, hb2⟩; rw [hgo]; have HO2 := Lib.hid (HO1.out.after hb2); have hB2 := hB1.trans (hb2.mono hB1.size); have hr2 := hr1.after hb2; clear o0 o1 o2; obtain ⟨o0, o1, o2⟩ := box3 HO2.out))
      go_ret2
      exact ⟨none, 0, rfl, ⟨Nat.le_refl _, Nat.zero_le _⟩, Own.none_ _ _ _, hB2⟩
    | true =>
      have hk : okVF l o = true := by simp [okVF, hg, hgo]
      simp only [VFids, hk, if_true]
      unfold votL
      have hlen := List.length_filter_le (fun a => fitV a o) l
      have hl8 := goodAs_len hg
      have Hvot := Lib.hid (fun W (hW : Rd encA 5 W W.heap.size A l) => voters_any A c l o W hW hg hgo)
      obtain ⟨L, hL⟩ : ∃ L, l.filter (fun a => fitV a o) = L := ⟨_, rfl⟩
      rw [hL] at Hvot hlen ⊢
      clear hL
      obtain ⟨i0, hi, hz0, hz1, hz2⟩ := info_parts infoI
      go_enter Try.func38, Try.ntmps38
      go_wp2_with (first | (go_at_call 27; refine (AreArrivals_any A c l _ hr hl).mono ?_; rintro e w1 ⟨rfl, hb1⟩; rw [hg]; have HO1 := Lib.hid (HO.out.after hb1); have hB1 := hB0.trans (hb1.mono hB0.size); have hr1 := hr.after hb1; clear o0 o1 o2; obtain ⟨o0, o1, o2⟩ := box3 HO1.out) | (go_at_call 72; refine (isOrigin_any o _).mono ?_; rintro e w2 ⟨rfl, hb2⟩; rw [hgo]; have HO2 := Lib.hid (HO1.out.after hb2); have hB2 := hB1.trans (hb2.mono hB1.size); have hr2 := hr1.after hb2; clear o0 o1 o2; obtain ⟨o0, o1, o2⟩ := box3 HO2.out; have hlw := HO2.out.lt; have hlw2 : ¬ w.heap.size = w2.heap.size := Nat.ne_of_lt hlw))
      have hs2 : w.heap.size + 1 ≤ w2.heap.size := by
        have q0 := hb1.size
        have q1 := hb2.size
        simp only [World.alloc, Array.size_push] at q0
        omega
      have hB2e := Own.empty (enc := encI) (k := 1) w2 (w.heap.size + 1) 3 hs2
      have hB2a := hB2.alloc hB2.size (.cells #[] 3)
      have hr3 := (h.below hB2a).more hB2a.size
      refine (Hvot.out _ hr3).mono ?_
      rintro e w3 ⟨v, rfl, hown, hb3⟩
      obtain ⟨A', c', rfl, hcc, _⟩ := Own.form encA_len hown
      have He := Lib.hid (hB2e.keep hb3)
      have Hown := Lib.hid (hown.mono hB2a.size)
      have hB3 := hB2a.trans (hb3.mono hB2a.size)
      have hs3 : w.heap.size + 1 ≤ w3.heap.size := by have q0 := hb3.size; simp only [World.alloc, Array.size_push] at q0; omega
      clear hB2e hown o0 o1 o2
      go_wp2
      go_loopw [6, 22] (fun v i wr => ∃ k : Nat, k ≤ L.length ∧ i = .int .i64 k ∧ Hid (Own encI 1 wr (w.heap.size + 1) 3 v ((L.take k).map Arrival.id)) ∧ Hid (Own encA 5 wr w.heap.size 37 (.slice A' L.length c') L) ∧ Below w.heap.size w wr ∧ w.heap.size + 1 ≤ wr.heap.size) (fun _ i _ => L.length - (intOf i).toNat)
      case atStart => exact ⟨0, Nat.zero_le _, rfl, He, Hown, hB3, hs3⟩
      case round =>
        obtain ⟨k, hk2, rfl, ho, hL2, hbl, hsz⟩ := hrel
        clear He Hown
        by_cases hlt : k < L.length
        · obtain ⟨b, off, rfl, hb, c0, c1, c2, c3, c4⟩ := cellsA (Own.rd' encA_len hL2.out) hlt
          have Hy := Lib.hid (show (L.take (k + 1)).map Arrival.id = (L.take k).map Arrival.id ++ [L[k].id] by rw [List.take_succ_eq_append_getElem hlt, List.map_append]; rfl)
          have hfl : ((L.take k).map Arrival.id).length ≤ 1048576 := by rw [List.length_map]; have := List.length_take_le k L; omega
          obtain ⟨M, hM⟩ : ∃ M, (L.take k).map Arrival.id = M := ⟨_, rfl⟩
          rw [hM] at ho hfl Hy
          generalize L[k] = a at *
          clear hM
          obtain ⟨A2, c2', rfl, hcc2, _⟩ := Own.form encI_len ho.out
          have HoA := Lib.hid (ho.out.alloc (.cells #[.int .i64 a.id, .int .i64 a.x, .int .i64 a.y, .int .i64 a.tick, .int .i64 a.err] 37))
          have HLA := Lib.hid (hL2.out.alloc (.cells #[.int .i64 a.id, .int .i64 a.x, .int .i64 a.y, .int .i64 a.tick, .int .i64 a.err] 37))
          have hblA := hbl.alloc hbl.size (.cells #[.int .i64 a.id, .int .i64 a.x, .int .i64 a.y, .int .i64 a.tick, .int .i64 a.err] 37)
          have hsA : w.heap.size + 1 ≤ (wr.alloc (.cells #[.int .i64 a.id, .int .i64 a.x, .int .i64 a.y, .int .i64 a.tick, .int .i64 a.err] 37)).heap.size := by simp only [World.alloc, Array.size_push]; omega
          clear ho hL2
          go_wp2_with (at_builtin; refine wpList_app1N rfl _ _ 57 rfl (w.heap.size + 1) 3 i0 _ 1 8 Try.underlying57 hi hz0 hz1 hz2 rfl (by omega) (by omega) encI encI_len encI_one (.slice A2 M.length c2') M a.id (wr.alloc (.cells #[.int .i64 a.id, .int .i64 a.x, .int .i64 a.y, .int .i64 a.tick, .int .i64 a.err] 37)) _ rfl _ rfl HoA.out (wr.heap.size + 1) (by simp) rfl hfl hsA ?_; intro v' w4 hown2 hb2 hgr)
          have Ho4 := Lib.hid hown2
          have HL4 := Lib.hid (HLA.out.apart HoA.out (by decide) hgr)
          have hB4 := hblA.trans (hb2.mono (by omega))
          have hs4 := hb2.size
          simp only [World.alloc, Array.size_push] at hs4
          clear hown2 hb2 hgr c0 c1 c2 c3 c4
          go_wp2
          go_roundw
          case rel => exact ⟨k + 1, by omega, by go_num, by rw [Hy.out]; exact Ho4.out, HL4.out, hB4, by omega⟩
          case measure => simp [intOf]; omega
        · have hkl : L.take k = L := List.take_of_length_le (by omega)
          rw [hkl] at ho
          clear hkl
          obtain ⟨A2, c2', rfl, hcc2, _⟩ := Own.form encI_len ho.out
          go_wp2
          go_ret2
          exact ⟨A2, c2', rfl, hcc2, ho.out.mono (by omega), hbl⟩
end Go.Proofs.Ytdadcbcanjmoeaa
