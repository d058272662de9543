/-
  Contracts of the exported functions on votes. (Printed by gen_D8.py.)
-/
import Derived.Test.YtdadcbcanjmoeaaVoters
namespace Go.Proofs.Ytdadcbcanjmoeaa
set_option linter.unusedVariables false
open Go.RowKit

theorem Own.apart {α β : Type} {enc : α → List Value} {enc2 : β → List Value} {k k2 : Nat} {w w' : World} {base base2 : Nat} {E E2 : TypeId} {v v2 : Value} {l : List α} {l2 : List β}
    (h : Own enc k w base E v l) (h2 : Own enc2 k2 w base2 E2 v2 l2) (hne : E ≠ E2) (hg : w.grownBy w' v2.ownBlock) : Own enc k w' base E v l := by
  refine h.grown hg ?_
  intro g hg2 hv
  obtain ⟨_, h⟩ := h
  obtain ⟨_, h2⟩ := h2
  rcases h with ⟨rfl, _⟩ | ⟨g1, c1, cur1, rfl, _, hh1, _⟩
  · simp [Value.ownBlock] at hv
  · rcases h2 with ⟨rfl, _⟩ | ⟨g2, c2, cur2, rfl, _, hh2, _⟩
    · simp [Value.ownBlock] at hg2
    · simp [Value.ownBlock] at hv hg2
      subst hv hg2
      rw [hh1] at hh2
      injection hh2 with hh2
      injection hh2 with _ ht
      exact hne ht

def okVF (l : List Arrival) (o : Origin) : Bool := goodAs l && goodO o
def votL (l : List Arrival) (o : Origin) : List Arrival := l.filter (fun a => fitV a o)
def VFn (l : List Arrival) (o : Origin) : Int := if okVF l o then ((votL l o).length : Int) else 0
def VFids (l : List Arrival) (o : Origin) : List Int := if okVF l o then (votL l o).map Arrival.id else []
def WVl (l : List Arrival) (o : Origin) : List Arrival := if okVF l o then l.filter (fun a => !fitV a o) else []
theorem votL_len (l : List Arrival) (o : Origin) : (votL l o).length ≤ l.length := List.length_filter_le _ _
theorem VFids_len {l : List Arrival} {o : Origin} : (VFids l o).length ≤ 8 := by
  unfold VFids
  split
  · rename_i h
    have h1 := goodAs_len (by simp only [okVF, Bool.and_eq_true] at h; exact h.1)
    have h2 := votL_len l o
    rw [List.length_map]; omega
  · simp
theorem WVl_len {l : List Arrival} {o : Origin} : (WVl l o).length ≤ 8 := by
  unfold WVl
  split
  · rename_i h
    have h1 := goodAs_len (by simp only [okVF, Bool.and_eq_true] at h; exact h.1)
    have h2 := List.length_filter_le (fun a => !fitV a o) l
    omega
  · simp

theorem l10Asked_any (A : Option Addr) (c : Nat) (l : List Arrival) (o : Origin) (w : World) (h : Rd encA 5 w w.heap.size A l) (hl : l.length ≤ 1048576) :
    Calls Try.prog 80 #[.slice A l.length c, .agg #[.int .i64 o.x, .int .i64 o.y, .int .i64 o.tick]] w fun e w' => e = .returned (.bool (okVF l o)) ∧ Below w.heap.size w w' := by
  unfold okVF
  have HO := Lib.hid (Blk.new w 39 #[.int .i64 o.x, .int .i64 o.y, .int .i64 o.tick])
  have hB0 : Below w.heap.size w (w.alloc (.cells #[.int .i64 o.x, .int .i64 o.y, .int .i64 o.tick] 39)) := by (repeat (first | with_reducible exact Below.refl _ _ | with_reducible assumption | with_reducible refine Below.setCell ?_ (by simp <;> omega) _ | with_reducible refine Below.alloc ?_ (by first | omega | (simp <;> omega)) _ | with_reducible refine Below.drew ?_ | with_reducible refine below_drewN ?_ _))
  have hr := (h.below hB0).more hB0.size
  obtain ⟨o0, o1, o2⟩ := box3 HO.out
  cases hg : goodAs l with
  | false =>
    go_enter Try.func80, Try.ntmps80
    go_wp2_with (go_at_call 74; refine (l10Good_any A c l _ hr hl).mono ?_; rintro e w1 ⟨rfl, hb1⟩; rw [hg])
    go_ret
    exact ⟨rfl, hB0.trans (hb1.mono (by simp))⟩
  | true =>
    go_enter Try.func80, Try.ntmps80
    go_wp2_with (first | (go_at_call 74; refine (l10Good_any A c l _ hr hl).mono ?_; rintro e w1 ⟨rfl, hb1⟩; rw [hg]; clear o0 o1 o2; obtain ⟨o0, o1, o2⟩ := box3 (HO.out.after hb1)) | (go_at_call 69; refine (l10Origin_any o _).mono ?_; rintro e w2 ⟨rfl, hb2⟩))
    go_ret
    exact ⟨ret_bool (by simp), (hB0.trans (hb1.mono hB0.size)).trans (hb2.mono (hB0.trans (hb1.mono hB0.size)).size)⟩

set_option maxRecDepth 100000 in
set_option maxHeartbeats 1000000 in
theorem VotesFor_any (A : Option Addr) (c : Nat) (l : List Arrival) (o : Origin) (w : World) (h : Rd encA 5 w w.heap.size A l) (hl : l.length ≤ 1048576) :
    Calls Try.prog 32 #[.slice A l.length c, .agg #[.int .i64 o.x, .int .i64 o.y, .int .i64 o.tick]] w fun e w' => e = .returned (.tuple #[.int .i64 (VFn l o), .bool (okVF l o)]) ∧ Below w.heap.size w w' := by
  have HO := Lib.hid (Blk.new w 39 #[.int .i64 o.x, .int .i64 o.y, .int .i64 o.tick])
  have hB0 : Below w.heap.size w (w.alloc (.cells #[.int .i64 o.x, .int .i64 o.y, .int .i64 o.tick] 39)) := by (repeat (first | with_reducible exact Below.refl _ _ | with_reducible assumption | with_reducible refine Below.setCell ?_ (by simp <;> omega) _ | with_reducible refine Below.alloc ?_ (by first | omega | (simp <;> omega)) _ | with_reducible refine Below.drew ?_ | with_reducible refine below_drewN ?_ _))
  have hr := (h.below hB0).more hB0.size
  obtain ⟨o0, o1, o2⟩ := box3 HO.out
  cases hg : goodAs l with
  | false =>
    have hk : okVF l o = false := by simp [okVF, hg]
    simp only [VFn, hk, Bool.false_eq_true, if_false]
    go_enter Try.func32, Try.ntmps32
    go_wp2_with (go_at_call 27; refine (AreArrivals_any A c l _ hr hl).mono ?_; rintro e w1 ⟨rfl, hb1⟩; rw [hg]; have HO1 := Lib.hid (HO.out.after hb1); have hB1 := hB0.trans (hb1.mono hB0.size); have hr1 := hr.after hb1; clear o0 o1 o2; obtain ⟨o0, o1, o2⟩ := box3 HO1.out)
    go_ret2
    exact ⟨rfl, hB1⟩
  | true =>
    cases hgo : goodO o with
    | false =>
      have hk : okVF l o = false := by simp [okVF, hgo]
      simp only [VFn, hk, Bool.false_eq_true, if_false]
      go_enter Try.func32, Try.ntmps32
      go_wp2_with (first | (go_at_call 27; refine (AreArrivals_any A c l _ hr hl).mono ?_; rintro e w1 ⟨rfl, hb1⟩; rw [hg]; have HO1 := Lib.hid (HO.out.after hb1); have hB1 := hB0.trans (hb1.mono hB0.size); have hr1 := hr.after hb1; clear o0 o1 o2; obtain ⟨o0, o1, o2⟩ := box3 HO1.out) | (go_at_call 72; refine (isOrigin_any o _).mono ?_; rintro e w2 ⟨rfl, hb2⟩; rw [hgo]; have HO2 := Lib.hid (HO1.out.after hb2); have hB2 := hB1.trans (hb2.mono hB1.size); have hr2 := hr1.after hb2; clear o0 o1 o2; obtain ⟨o0, o1, o2⟩ := box3 HO2.out))
      go_ret2
      exact ⟨rfl, hB2⟩
    | true =>
      have hk : okVF l o = true := by simp [okVF, hg, hgo]
      simp only [VFn, hk, if_true]
      unfold votL
      go_enter Try.func32, Try.ntmps32
      go_wp2_with (first | (go_at_call 27; refine (AreArrivals_any A c l _ hr hl).mono ?_; rintro e w1 ⟨rfl, hb1⟩; rw [hg]; have HO1 := Lib.hid (HO.out.after hb1); have hB1 := hB0.trans (hb1.mono hB0.size); have hr1 := hr.after hb1; clear o0 o1 o2; obtain ⟨o0, o1, o2⟩ := box3 HO1.out) | (go_at_call 72; refine (isOrigin_any o _).mono ?_; rintro e w2 ⟨rfl, hb2⟩; rw [hgo]; have HO2 := Lib.hid (HO1.out.after hb2); have hB2 := hB1.trans (hb2.mono hB1.size); have hr2 := hr1.after hb2; clear o0 o1 o2; obtain ⟨o0, o1, o2⟩ := box3 HO2.out) | (go_at_call 82; refine (voters_any A c l o _ hr2 hg hgo).mono ?_; rintro e w3 ⟨v, rfl, hown, hb3⟩; obtain ⟨A', c', rfl, hcc, _⟩ := Own.form encA_len hown))
      go_ret2
      exact ⟨rfl, hB2.trans (hb3.mono hB2.size)⟩
set_option maxRecDepth 100000 in
set_option maxHeartbeats 1000000 in
theorem sVotesFor_any (A : Option Addr) (c : Nat) (l : List Arrival) (o : Origin) (w : World) (h : Rd encA 5 w w.heap.size A l) (hl : l.length ≤ 1048576) :
    Calls Try.prog 31 #[.slice A l.length c, .agg #[.int .i64 o.x, .int .i64 o.y, .int .i64 o.tick]] w fun e w' => e = .returned (.tuple #[.int .i64 (VFn l o), .bool (okVF l o)]) ∧ Below w.heap.size w w' := by
  have HO := Lib.hid (Blk.new w 39 #[.int .i64 o.x, .int .i64 o.y, .int .i64 o.tick])
  have hB0 : Below w.heap.size w (w.alloc (.cells #[.int .i64 o.x, .int .i64 o.y, .int .i64 o.tick] 39)) := by (repeat (first | with_reducible exact Below.refl _ _ | with_reducible assumption | with_reducible refine Below.setCell ?_ (by simp <;> omega) _ | with_reducible refine Below.alloc ?_ (by first | omega | (simp <;> omega)) _ | with_reducible refine Below.drew ?_ | with_reducible refine below_drewN ?_ _))
  have hr := (h.below hB0).more hB0.size
  obtain ⟨o0, o1, o2⟩ := box3 HO.out
  cases hk : okVF l o with
  | false =>
    simp only [VFn, hk, Bool.false_eq_true, if_false]
    go_enter Try.func31, Try.ntmps31
    go_wp2_with (go_at_call 80; refine (l10Asked_any A c l o _ hr hl).mono ?_; rintro e w1 ⟨rfl, hb1⟩; rw [hk]; have HO1 := Lib.hid (HO.out.after hb1); have hB1 := hB0.trans (hb1.mono hB0.size); have hr1 := hr.after hb1; clear o0 o1 o2; obtain ⟨o0, o1, o2⟩ := box3 HO1.out)
    go_ret2
    exact ⟨rfl, hB1⟩
  | true =>
    obtain ⟨hg, hgo⟩ : goodAs l = true ∧ goodO o = true := by simpa [okVF] using hk
    simp only [VFn, hk, if_true]
    unfold votL
    go_enter Try.func31, Try.ntmps31
    go_wp2_with (first | (go_at_call 80; refine (l10Asked_any A c l o _ hr hl).mono ?_; rintro e w1 ⟨rfl, hb1⟩; rw [hk]; have HO1 := Lib.hid (HO.out.after hb1); have hB1 := hB0.trans (hb1.mono hB0.size); have hr1 := hr.after hb1; clear o0 o1 o2; obtain ⟨o0, o1, o2⟩ := box3 HO1.out) | (go_at_call 81; refine (l10Voters_any A c l o _ hr1 hg hgo).mono ?_; rintro e w3 ⟨v, rfl, hown, hb3⟩; obtain ⟨A', c', rfl, hcc, _⟩ := Own.form encI_len hown))
    go_ret2
    exact ⟨rfl, hB1.trans (hb3.mono hB1.size)⟩
end Go.Proofs.Ytdadcbcanjmoeaa
