/-
  Contracts of MostVotesAt. (Printed by gen_D9.py.)
-/
import Derived.Test.YtdadcbcanjmoeaaVotes
namespace Go.Proofs.Ytdadcbcanjmoeaa
set_option linter.unusedVariables false
open Go.RowKit

def mvN (l : List Arrival) (x y : Int) (a : Arrival) : Int := ((votL l ⟨x, y, lo a x y⟩).length : Int)
def mvStep (l : List Arrival) (x y : Int) (s : Int × Int) (a : Arrival) : Int × Int :=
  if hi a x y < lo a x y then s
  else if decide (s.1 < mvN l x y a) || ((mvN l x y a == s.1) && decide (lo a x y < s.2)) then (mvN l x y a, lo a x y) else s
def mvTo (l : List Arrival) (x y : Int) (m : List Arrival) : Int × Int := m.foldl (mvStep l x y) (0, 0)
theorem mvTo_succ (l : List Arrival) (x y : Int) (k : Nat) (hk : k < l.length) : mvTo l x y (l.take (k + 1)) = mvStep l x y (mvTo l x y (l.take k)) l[k] := by
  rw [mvTo, List.take_succ_eq_append_getElem hk, List.foldl_append]; rfl
theorem mvTo_inv {l : List Arrival} {x y : Int} (hg : goodAs l = true) (hp : placeB x y = true) : ∀ k, k ≤ l.length →
    (0 ≤ (mvTo l x y (l.take k)).1 ∧ (mvTo l x y (l.take k)).1 ≤ 8) ∧ (0 ≤ (mvTo l x y (l.take k)).2 ∧ (mvTo l x y (l.take k)).2 ≤ 1000000) ∧ ((mvTo l x y (l.take k)).1 = 0 → (mvTo l x y (l.take k)).2 = 0) := by
  intro k
  induction k with
  | zero => intro _; simp [mvTo]
  | succ k ih =>
    intro hk
    have i0 := ih (by omega)
    rw [mvTo_succ l x y k (by omega)]
    have ha := goodAs_mem hg (List.getElem_mem (show k < l.length by omega))
    have hb := lo_bd ha hp
    have hn := votL_len l ⟨x, y, lo l[k] x y⟩
    have h8 := goodAs_len hg
    have hN : mvN l x y l[k] = ((votL l ⟨x, y, lo l[k] x y⟩).length : Int) := rfl
    generalize mvTo l x y (l.take k) = s at *
    obtain ⟨p, q⟩ := s
    simp only at i0
    unfold mvStep
    split
    · exact i0
    · simp only
      split
      · rename_i hc
        simp only [Bool.or_eq_true, Bool.and_eq_true, decide_eq_true_eq, beq_iff_eq] at hc
        simp only
        omega
      · exact i0
def mvP (l : List Arrival) (x y : Int) : Bool := goodAs l && placeB x y
def MVn (l : List Arrival) (x y : Int) : Int := if mvP l x y then (mvTo l x y l).1 else 0
def MVt (l : List Arrival) (x y : Int) : Int := if mvP l x y then (mvTo l x y l).2 else 0
def MVk (l : List Arrival) (x y : Int) : Bool := mvP l x y && decide (0 < (mvTo l x y l).1)

set_option maxRecDepth 100000 in
set_option maxHeartbeats 1000000 in
theorem mostVotes_any (A : Option Addr) (c : Nat) (l : List Arrival) (x y : Int) (w : World) (h : Rd encA 5 w w.heap.size A l) (hg : goodAs l = true) (hp : placeB x y = true) :
    Calls Try.prog 86 #[.slice A l.length c, .int .i64 x, .int .i64 y] w fun e w' => e = .returned (.tuple #[.int .i64 (mvTo l x y l).1, .int .i64 (mvTo l x y l).2]) ∧ Below w.heap.size w w' := by
  have hl := goodAs_len hg
  go_enter Try.func86, Try.ntmps86
  go_wp2
  go_loopw [8, 9, 17] (fun p q i wr => ∃ k : Nat, k ≤ l.length ∧ i = .int .i64 k ∧ p = .int .i64 (mvTo l x y (l.take k)).1 ∧ q = .int .i64 (mvTo l x y (l.take k)).2 ∧ Below w.heap.size w wr) (fun _ _ i _ => l.length - (intOf i).toNat)
  case atStart => exact ⟨0, Nat.zero_le _, rfl, rfl, rfl, Below.refl _ _⟩
  case round =>
    obtain ⟨k, hk, rfl, rfl, rfl, hbl⟩ := hrel
    by_cases hlt : k < l.length
    · obtain ⟨b, off, rfl, hb, c0, c1, c2, c3, c4⟩ := cellsA (h.below hbl) hlt
      have hga := goodAs_mem hg (List.getElem_mem hlt)
      have hst := mvTo_succ l x y k hlt
      obtain ⟨⟨i1, i2⟩, ⟨i3, i4⟩, _⟩ := mvTo_inv hg hp k hk
      generalize l[k] = a at *
      generalize mvTo l x y (l.take k) = s at *
      obtain ⟨p, q⟩ := s
      simp only at i1 i2 i3 i4
      obtain ⟨⟨l1, l2⟩, ⟨l3, l4⟩⟩ := lo_bd hga hp
      have hgo : goodO ⟨x, y, lo a x y⟩ = true := by
        simp only [goodO, hp, Bool.true_and]
        exact tickB_iff.2 ⟨l1, l2⟩
      have hnl := votL_len l ⟨x, y, lo a x y⟩
      have Htk := Lib.hid (fun W => ticks_any a x y W hga hp)
      have hvt : ∀ W, Rd encA 5 W W.heap.size (some ⟨b, off, none⟩) l → Calls Try.prog 82 #[.slice (some ⟨b, off, none⟩) l.length c, .agg #[.int .i64 x, .int .i64 y, .int .i64 (lo a x y)]] W fun e w' => ∃ A' c', e = .returned (.slice A' (votL l ⟨x, y, lo a x y⟩).length c') ∧ Below W.heap.size W w' := fun W hW => (voters_any (some ⟨b, off, none⟩) c l ⟨x, y, lo a x y⟩ W hW hg hgo).mono fun e w' ⟨v, he, ho, hbw⟩ => by
        obtain ⟨A', c', rfl, _, _⟩ := Own.form encA_len ho
        exact ⟨A', c', by first | exact he | (rw [List.length_map] at he; exact he), hbw⟩
      have Hvt := Lib.hid hvt
      have hN : mvN l x y a = ((votL l ⟨x, y, lo a x y⟩).length : Int) := rfl
      unfold mvStep at hst
      rw [hN] at hst
      clear hvt hga hgo hN
      generalize (votL l ⟨x, y, lo a x y⟩).length = n at *
      generalize lo a x y = u at *
      generalize hi a x y = v at *
      have hn63 : (n : Int) ≤ 8 := by omega
      have hblA := hbl.alloc hbl.size (.cells #[.int .i64 a.id, .int .i64 a.x, .int .i64 a.y, .int .i64 a.tick, .int .i64 a.err] 37)
      by_cases huv : v < u
      · rw [if_pos huv] at hst
        have Hs := Lib.hid (show mvTo l x y (l.take (k + 1)) = (p, q) from hst)
        clear hst
        go_wp2_with fail
        refine (Htk.out _).mono ?_
        rintro e w1 ⟨rfl, hb1⟩
        have hr1 := (h.below (hblA.trans (hb1.mono hblA.size))).more (hblA.trans (hb1.mono hblA.size)).size
        have hB1 := hblA.trans (hb1.mono hblA.size)
        clear c0 c1 c2 c3 c4 hr1
        go_wp2
        go_roundw
        case rel => exact ⟨k + 1, by omega, by go_num, by rw [Hs.out], by rw [Hs.out], hB1⟩
        case measure => simp [intOf]; omega
      · rw [if_neg huv] at hst
        simp only at hst
        cases t1 : decide (p < (n : Int)) with
        | true =>
          rw [t1] at hst
          simp only [Bool.true_or, if_true] at hst
          have Hs := Lib.hid (show mvTo l x y (l.take (k + 1)) = ((n : Int), u) from hst)
          clear hst
          go_wp2_with fail
          refine (Htk.out _).mono ?_
          rintro e w1 ⟨rfl, hb1⟩
          have hr1 := (h.below (hblA.trans (hb1.mono hblA.size))).more (hblA.trans (hb1.mono hblA.size)).size
          have hB1 := hblA.trans (hb1.mono hblA.size)
          clear c0 c1 c2 c3 c4 hr1
          have hr1 := (h.below hB1).more hB1.size
          go_wp2_with fail
          refine (Hvt.out _ hr1).mono ?_
          rintro e w2 ⟨A', c', rfl, hb2⟩
          have hB2 := hB1.trans (hb2.mono hB1.size)
          clear hr1
          go_wp2
          go_roundw
          case rel => exact ⟨k + 1, by omega, by go_num, by rw [Hs.out], by rw [Hs.out], hB2⟩
          case measure => simp [intOf]; omega
        | false =>
          cases t2 : ((n : Int) == p) with
          | false =>
            rw [t1, t2] at hst
            simp only [Bool.false_or, Bool.false_and, Bool.false_eq_true, if_false] at hst
            have Hs := Lib.hid (show mvTo l x y (l.take (k + 1)) = (p, q) from hst)
            clear hst
            go_wp2_with fail
            refine (Htk.out _).mono ?_
            rintro e w1 ⟨rfl, hb1⟩
            have hr1 := (h.below (hblA.trans (hb1.mono hblA.size))).more (hblA.trans (hb1.mono hblA.size)).size
            have hB1 := hblA.trans (hb1.mono hblA.size)
            clear c0 c1 c2 c3 c4 hr1
            have hr1 := (h.below hB1).more hB1.size
            go_wp2_with fail
            refine (Hvt.out _ hr1).mono ?_
            rintro e w2 ⟨A', c', rfl, hb2⟩
            have hB2 := hB1.trans (hb2.mono hB1.size)
            clear hr1
            go_wp2
            go_roundw
            case rel => exact ⟨k + 1, by omega, by go_num, by rw [Hs.out], by rw [Hs.out], hB2⟩
            case measure => simp [intOf]; omega
          | true =>
            cases t3 : decide (u < q) with
            | true =>
              rw [t1, t2, t3] at hst
              simp only [Bool.false_or, Bool.and_true, if_true] at hst
              have Hs := Lib.hid (show mvTo l x y (l.take (k + 1)) = ((n : Int), u) from hst)
              clear hst
              go_wp2_with fail
              refine (Htk.out _).mono ?_
              rintro e w1 ⟨rfl, hb1⟩
              have hr1 := (h.below (hblA.trans (hb1.mono hblA.size))).more (hblA.trans (hb1.mono hblA.size)).size
              have hB1 := hblA.trans (hb1.mono hblA.size)
              clear c0 c1 c2 c3 c4 hr1
              have hr1 := (h.below hB1).more hB1.size
              go_wp2_with fail
              refine (Hvt.out _ hr1).mono ?_
              rintro e w2 ⟨A', c', rfl, hb2⟩
              have hB2 := hB1.trans (hb2.mono hB1.size)
              clear hr1
              go_wp2
              go_roundw
              case rel => exact ⟨k + 1, by omega, by go_num, by rw [Hs.out], by rw [Hs.out], hB2⟩
              case measure => simp [intOf]; omega
            | false =>
              rw [t1, t2, t3] at hst
              simp only [Bool.false_or, Bool.and_false, Bool.false_eq_true, if_false] at hst
              have Hs := Lib.hid (show mvTo l x y (l.take (k + 1)) = (p, q) from hst)
              clear hst
              go_wp2_with fail
              refine (Htk.out _).mono ?_
              rintro e w1 ⟨rfl, hb1⟩
              have hr1 := (h.below (hblA.trans (hb1.mono hblA.size))).more (hblA.trans (hb1.mono hblA.size)).size
              have hB1 := hblA.trans (hb1.mono hblA.size)
              clear c0 c1 c2 c3 c4 hr1
              have hr1 := (h.below hB1).more hB1.size
              go_wp2_with fail
              refine (Hvt.out _ hr1).mono ?_
              rintro e w2 ⟨A', c', rfl, hb2⟩
              have hB2 := hB1.trans (hb2.mono hB1.size)
              clear hr1
              go_wp2
              go_roundw
              case rel => exact ⟨k + 1, by omega, by go_num, by rw [Hs.out], by rw [Hs.out], hB2⟩
              case measure => simp [intOf]; omega
    · have hkl : l.take k = l := List.take_of_length_le (by omega)
      rw [hkl]
      clear hkl
      go_wp2
      go_ret2
      exact ⟨rfl, hbl⟩

set_option maxRecDepth 100000 in
set_option maxHeartbeats 1000000 in
theorem l10Most_any (A : Option Addr) (c : Nat) (l : List Arrival) (x y : Int) (w : World) (h : Rd encA 5 w w.heap.size A l) (hg : goodAs l = true) (hp : placeB x y = true) :
    Calls Try.prog 85 #[.slice A l.length c, .int .i64 x, .int .i64 y] w fun e w' => e = .returned (.tuple #[.int .i64 (mvTo l x y l).1, .int .i64 (mvTo l x y l).2]) ∧ Below w.heap.size w w' := by
  have hl := goodAs_len hg
  go_enter Try.func85, Try.ntmps85
  go_wp2
  go_loopw [8, 9, 10] (fun p q i wr => ∃ k : Nat, k ≤ l.length ∧ i = .int .i64 k ∧ p = .int .i64 (mvTo l x y (l.take k)).1 ∧ q = .int .i64 (mvTo l x y (l.take k)).2 ∧ Below w.heap.size w wr) (fun _ _ i _ => l.length - (intOf i).toNat)
  case atStart => exact ⟨0, Nat.zero_le _, rfl, rfl, rfl, Below.refl _ _⟩
  case round =>
    obtain ⟨k, hk, rfl, rfl, rfl, hbl⟩ := hrel
    by_cases hlt : k < l.length
    · obtain ⟨b, off, rfl, hb, c0, c1, c2, c3, c4⟩ := cellsA (h.below hbl) hlt
      have hga := goodAs_mem hg (List.getElem_mem hlt)
      have hst := mvTo_succ l x y k hlt
      obtain ⟨⟨i1, i2⟩, ⟨i3, i4⟩, _⟩ := mvTo_inv hg hp k hk
      generalize l[k] = a at *
      generalize mvTo l x y (l.take k) = s at *
      obtain ⟨p, q⟩ := s
      simp only at i1 i2 i3 i4
      obtain ⟨⟨l1, l2⟩, ⟨l3, l4⟩⟩ := lo_bd hga hp
      have hgo : goodO ⟨x, y, lo a x y⟩ = true := by
        simp only [goodO, hp, Bool.true_and]
        exact tickB_iff.2 ⟨l1, l2⟩
      have hnl := votL_len l ⟨x, y, lo a x y⟩
      have Htk := Lib.hid (fun W => l10Ticks_any a x y W hga hp)
      have hvt : ∀ W, Rd encA 5 W W.heap.size (some ⟨b, off, none⟩) l → Calls Try.prog 81 #[.slice (some ⟨b, off, none⟩) l.length c, .agg #[.int .i64 x, .int .i64 y, .int .i64 (lo a x y)]] W fun e w' => ∃ A' c', e = .returned (.slice A' (votL l ⟨x, y, lo a x y⟩).length c') ∧ Below W.heap.size W w' := fun W hW => (l10Voters_any (some ⟨b, off, none⟩) c l ⟨x, y, lo a x y⟩ W hW hg hgo).mono fun e w' ⟨v, he, ho, hbw⟩ => by
        obtain ⟨A', c', rfl, _, _⟩ := Own.form encI_len ho
        exact ⟨A', c', by first | exact he | (rw [List.length_map] at he; exact he), hbw⟩
      have Hvt := Lib.hid hvt
      have hN : mvN l x y a = ((votL l ⟨x, y, lo a x y⟩).length : Int) := rfl
      unfold mvStep at hst
      rw [hN] at hst
      clear hvt hga hgo hN
      generalize (votL l ⟨x, y, lo a x y⟩).length = n at *
      generalize lo a x y = u at *
      generalize hi a x y = v at *
      have hn63 : (n : Int) ≤ 8 := by omega
      have hblA := hbl
      by_cases huv : v < u
      · rw [if_pos huv] at hst
        have Hs := Lib.hid (show mvTo l x y (l.take (k + 1)) = (p, q) from hst)
        clear hst
        go_wp2_with fail
        refine (Htk.out _).mono ?_
        rintro e w1 ⟨rfl, hb1⟩
        have hr1 := (h.below (hblA.trans (hb1.mono hblA.size))).more (hblA.trans (hb1.mono hblA.size)).size
        have hB1 := hblA.trans (hb1.mono hblA.size)
        clear c0 c1 c2 c3 c4 hr1
        go_wp2
        go_roundw
        case rel => exact ⟨k + 1, by omega, by go_num, by rw [Hs.out], by rw [Hs.out], hB1⟩
        case measure => simp [intOf]; omega
      · rw [if_neg huv] at hst
        simp only at hst
        cases t1 : decide (p < (n : Int)) with
        | true =>
          rw [t1] at hst
          simp only [Bool.true_or, if_true] at hst
          have Hs := Lib.hid (show mvTo l x y (l.take (k + 1)) = ((n : Int), u) from hst)
          clear hst
          go_wp2_with fail
          refine (Htk.out _).mono ?_
          rintro e w1 ⟨rfl, hb1⟩
          have hr1 := (h.below (hblA.trans (hb1.mono hblA.size))).more (hblA.trans (hb1.mono hblA.size)).size
          have hB1 := hblA.trans (hb1.mono hblA.size)
          clear c0 c1 c2 c3 c4 hr1
          have hr1 := (h.below hB1).more hB1.size
          go_wp2_with fail
          refine (Hvt.out _ hr1).mono ?_
          rintro e w2 ⟨A', c', rfl, hb2⟩
          have hB2 := hB1.trans (hb2.mono hB1.size)
          clear hr1
          go_wp2
          go_roundw
          case rel => exact ⟨k + 1, by omega, by go_num, by rw [Hs.out], by rw [Hs.out], hB2⟩
          case measure => simp [intOf]; omega
        | false =>
          cases t2 : ((n : Int) == p) with
          | false =>
            rw [t1, t2] at hst
            simp only [Bool.false_or, Bool.false_and, Bool.false_eq_true, if_false] at hst
            have Hs := Lib.hid (show mvTo l x y (l.take (k + 1)) = (p, q) from hst)
            clear hst
            go_wp2_with fail
            refine (Htk.out _).mono ?_
            rintro e w1 ⟨rfl, hb1⟩
            have hr1 := (h.below (hblA.trans (hb1.mono hblA.size))).more (hblA.trans (hb1.mono hblA.size)).size
            have hB1 := hblA.trans (hb1.mono hblA.size)
            clear c0 c1 c2 c3 c4 hr1
            have hr1 := (h.below hB1).more hB1.size
            go_wp2_with fail
            refine (Hvt.out _ hr1).mono ?_
            rintro e w2 ⟨A', c', rfl, hb2⟩
            have hB2 := hB1.trans (hb2.mono hB1.size)
            clear hr1
            go_wp2
            go_roundw
            case rel => exact ⟨k + 1, by omega, by go_num, by rw [Hs.out], by rw [Hs.out], hB2⟩
            case measure => simp [intOf]; omega
          | true =>
            cases t3 : decide (u < q) with
            | true =>
              rw [t1, t2, t3] at hst
              simp only [Bool.false_or, Bool.and_true, if_true] at hst
              have Hs := Lib.hid (show mvTo l x y (l.take (k + 1)) = ((n : Int), u) from hst)
              clear hst
              go_wp2_with fail
              refine (Htk.out _).mono ?_
              rintro e w1 ⟨rfl, hb1⟩
              have hr1 := (h.below (hblA.trans (hb1.mono hblA.size))).more (hblA.trans (hb1.mono hblA.size)).size
              have hB1 := hblA.trans (hb1.mono hblA.size)
              clear c0 c1 c2 c3 c4 hr1
              have hr1 := (h.below hB1).more hB1.size
              go_wp2_with fail
              refine (Hvt.out _ hr1).mono ?_
              rintro e w2 ⟨A', c', rfl, hb2⟩
              have hB2 := hB1.trans (hb2.mono hB1.size)
              clear hr1
              go_wp2
              go_roundw
              case rel => exact ⟨k + 1, by omega, by go_num, by rw [Hs.out], by rw [Hs.out], hB2⟩
              case measure => simp [intOf]; omega
            | false =>
              rw [t1, t2, t3] at hst
              simp only [Bool.false_or, Bool.and_false, Bool.false_eq_true, if_false] at hst
              have Hs := Lib.hid (show mvTo l x y (l.take (k + 1)) = (p, q) from hst)
              clear hst
              go_wp2_with fail
              refine (Htk.out _).mono ?_
              rintro e w1 ⟨rfl, hb1⟩
              have hr1 := (h.below (hblA.trans (hb1.mono hblA.size))).more (hblA.trans (hb1.mono hblA.size)).size
              have hB1 := hblA.trans (hb1.mono hblA.size)
              clear c0 c1 c2 c3 c4 hr1
              have hr1 := (h.below hB1).more hB1.size
              go_wp2_with fail
              refine (Hvt.out _ hr1).mono ?_
              rintro e w2 ⟨A', c', rfl, hb2⟩
              have hB2 := hB1.trans (hb2.mono hB1.size)
              clear hr1
              go_wp2
              go_roundw
              case rel => exact ⟨k + 1, by omega, by go_num, by rw [Hs.out], by rw [Hs.out], hB2⟩
              case measure => simp [intOf]; omega
    · have hkl : l.take k = l := List.take_of_length_le (by omega)
      rw [hkl]
      clear hkl
      go_wp2
      go_ret2
      exact ⟨rfl, hbl⟩

theorem MostVotesAt_any (A : Option Addr) (c : Nat) (l : List Arrival) (x y : Int) (w : World) (h : Rd encA 5 w w.heap.size A l) (hl : l.length ≤ 1048576) :
    Calls Try.prog 43 #[.slice A l.length c, .int .i64 x, .int .i64 y] w fun e w' => e = .returned (.tuple #[.int .i64 (MVn l x y), .int .i64 (MVt l x y), .bool (MVk l x y)]) ∧ Below w.heap.size w w' := by
  unfold MVn MVt MVk mvP
  cases hg : goodAs l with
  | false =>
    simp only [Bool.false_and, Bool.false_eq_true, if_false]
    go_enter Try.func43, Try.ntmps43
    go_wp2_with (go_at_call 27; refine (AreArrivals_any A c l _ h hl).mono ?_; rintro e w1 ⟨rfl, hb1⟩; rw [hg]; have hr1 := h.after hb1)
    go_ret3
    exact ⟨rfl, hb1⟩
  | true =>
    cases hp : placeB x y with
    | false =>
      simp only [Bool.and_false, Bool.false_and, Bool.false_eq_true, if_false]
      go_enter Try.func43, Try.ntmps43
      go_wp2_with (first | (go_at_call 27; refine (AreArrivals_any A c l _ h hl).mono ?_; rintro e w1 ⟨rfl, hb1⟩; rw [hg]; have hr1 := h.after hb1) | (go_at_call 63; refine (isPlace_any _ _ _).mono ?_; rintro e w2 ⟨rfl, rfl⟩; rw [hp]))
      go_ret3
      exact ⟨rfl, hb1⟩
    | true =>
      simp only [Bool.and_true, Bool.true_and, if_true]
      have Hc := Lib.hid (fun W (hW : Rd encA 5 W W.heap.size A l) => mostVotes_any A c l x y W hW hg hp)
      have hinv := mvTo_inv hg hp l.length (Nat.le_refl _)
      rw [List.take_length] at hinv
      obtain ⟨⟨i1, i2⟩, ⟨i3, i4⟩, i5⟩ := hinv
      generalize mvTo l x y l = s at *
      obtain ⟨p, q⟩ := s
      simp only at *
      by_cases hz : p = 0
      · have hq0 := i5 hz
        subst hz hq0
        go_enter Try.func43, Try.ntmps43
        go_wp2_with (first | (go_at_call 27; refine (AreArrivals_any A c l _ h hl).mono ?_; rintro e w1 ⟨rfl, hb1⟩; rw [hg]; have hr1 := h.after hb1) | (go_at_call 63; refine (isPlace_any _ _ _).mono ?_; rintro e w2 ⟨rfl, rfl⟩; rw [hp]) | (go_at_call 86; refine (Hc.out _ hr1).mono ?_; rintro e w3 ⟨rfl, hb3⟩))
        go_ret3
        exact ⟨rfl, hb1.trans (hb3.mono hb1.size)⟩
      · have hz0 : (p == 0) = false := by simpa using hz
        have hz1 : decide (0 < p) = true := by simp; omega
        rw [hz1]
        clear i5
        go_enter Try.func43, Try.ntmps43
        go_wp2_with (first | (go_at_call 27; refine (AreArrivals_any A c l _ h hl).mono ?_; rintro e w1 ⟨rfl, hb1⟩; rw [hg]; have hr1 := h.after hb1) | (go_at_call 63; refine (isPlace_any _ _ _).mono ?_; rintro e w2 ⟨rfl, rfl⟩; rw [hp]) | (go_at_call 86; refine (Hc.out _ hr1).mono ?_; rintro e w3 ⟨rfl, hb3⟩))
        go_ret3
        exact ⟨rfl, hb1.trans (hb3.mono hb1.size)⟩

theorem sMostVotesAt_any (A : Option Addr) (c : Nat) (l : List Arrival) (x y : Int) (w : World) (h : Rd encA 5 w w.heap.size A l) (hl : l.length ≤ 1048576) :
    Calls Try.prog 42 #[.slice A l.length c, .int .i64 x, .int .i64 y] w fun e w' => e = .returned (.tuple #[.int .i64 (MVn l x y), .int .i64 (MVt l x y), .bool (MVk l x y)]) ∧ Below w.heap.size w w' := by
  unfold MVn MVt MVk mvP
  cases hg : goodAs l with
  | false =>
    simp only [Bool.false_and, Bool.false_eq_true, if_false]
    go_enter Try.func42, Try.ntmps42
    go_wp2_with (go_at_call 74; refine (l10Good_any A c l _ h hl).mono ?_; rintro e w1 ⟨rfl, hb1⟩; rw [hg]; have hr1 := h.after hb1)
    go_ret3
    exact ⟨rfl, hb1⟩
  | true =>
    cases hp : placeB x y with
    | false =>
      simp only [Bool.and_false, Bool.false_and, Bool.false_eq_true, if_false]
      go_enter Try.func42, Try.ntmps42
      go_wp2_with (first | (go_at_call 74; refine (l10Good_any A c l _ h hl).mono ?_; rintro e w1 ⟨rfl, hb1⟩; rw [hg]; have hr1 := h.after hb1) | (go_at_call 65; refine (l2Place_any _ _ _).mono ?_; rintro e w2 ⟨rfl, rfl⟩; rw [hp]))
      go_ret3
      exact ⟨rfl, hb1⟩
    | true =>
      simp only [Bool.and_true, Bool.true_and, if_true]
      have Hc := Lib.hid (fun W (hW : Rd encA 5 W W.heap.size A l) => l10Most_any A c l x y W hW hg hp)
      have hinv := mvTo_inv hg hp l.length (Nat.le_refl _)
      rw [List.take_length] at hinv
      obtain ⟨⟨i1, i2⟩, ⟨i3, i4⟩, i5⟩ := hinv
      generalize mvTo l x y l = s at *
      obtain ⟨p, q⟩ := s
      simp only at *
      by_cases hz : p = 0
      · have hq0 := i5 hz
        subst hz hq0
        go_enter Try.func42, Try.ntmps42
        go_wp2_with (first | (go_at_call 74; refine (l10Good_any A c l _ h hl).mono ?_; rintro e w1 ⟨rfl, hb1⟩; rw [hg]; have hr1 := h.after hb1) | (go_at_call 65; refine (l2Place_any _ _ _).mono ?_; rintro e w2 ⟨rfl, rfl⟩; rw [hp]) | (go_at_call 85; refine (Hc.out _ hr1).mono ?_; rintro e w3 ⟨rfl, hb3⟩))
        go_ret3
        exact ⟨rfl, hb1.trans (hb3.mono hb1.size)⟩
      · have hz0 : (p == 0) = false := by simpa using hz
        have hz1 : decide (0 < p) = true := by simp; omega
        rw [hz1]
        clear i5
        go_enter Try.func42, Try.ntmps42
        go_wp2_with (first | (go_at_call 74; refine (l10Good_any A c l _ h hl).mono ?_; rintro e w1 ⟨rfl, hb1⟩; rw [hg]; have hr1 := h.after hb1) | (go_at_call 65; refine (l2Place_any _ _ _).mono ?_; rintro e w2 ⟨rfl, rfl⟩; rw [hp]) | (go_at_call 85; refine (Hc.out _ hr1).mono ?_; rintro e w3 ⟨rfl, hb3⟩))
        go_ret3
        exact ⟨rfl, hb1.trans (hb3.mono hb1.size)⟩

end Go.Proofs.Ytdadcbcanjmoeaa
