/-
  Contracts of the functions over models of the earth, but for the draws.
-/
import Derived.Test.YtadaaooldlaahaaTravel
namespace Go.Proofs.Ytadaaooldlaahaa
set_option linter.unusedVariables false
open Go.RowKit

theorem IsModel1_pred (l : List Earth) (w : World) : PredE 46 #[] l okE w := by
  intro W x _ _
  show Calls _ _ #[.agg #[.int .i64 x.thick, .int .i64 x.speed]] W _
  unfold okE
  cases h1 : inB x.thick 1 200 with
  | true =>
    go_enter Try.func46, Try.ntmps46
    go_wp2_with (go_at_call 44; refine (in_any _ _ _ _).mono ?_; rintro e w' ⟨rfl, rfl⟩)
    go_ret
    refine ⟨ret_bool (by simp), ?_⟩
    (repeat (first | with_reducible exact Below.refl _ _ | with_reducible assumption | with_reducible refine Below.setCell ?_ (by simp <;> omega) _ | with_reducible refine Below.alloc ?_ (by first | omega | (simp <;> omega)) _ | with_reducible refine Below.drew ?_ | with_reducible refine below_drewN ?_ _))
  | false =>
    go_enter Try.func46, Try.ntmps46
    go_wp2_with (go_at_call 44; refine (in_any _ _ _ _).mono ?_; rintro e w' ⟨rfl, rfl⟩)
    go_ret
    refine ⟨ret_bool (by simp), ?_⟩
    (repeat (first | with_reducible exact Below.refl _ _ | with_reducible assumption | with_reducible refine Below.setCell ?_ (by simp <;> omega) _ | with_reducible refine Below.alloc ?_ (by first | omega | (simp <;> omega)) _ | with_reducible refine Below.drew ?_ | with_reducible refine below_drewN ?_ _))

theorem IsModel_any (A : Option Addr) (c : Nat) (l : List Earth) (w : World) (h : Rd encE 2 w w.heap.size A l) (hl : l.length ≤ 1048576) :
    Calls Try.prog 17 #[.slice A l.length c] w fun e w' => e = .returned (.bool (goodE l)) ∧ Below w.heap.size w w' := by
  have hall := allE_any 46 #[] (enters_of Try.func46 (by kernel_rfl) rfl) A c l okE w h hl (IsModel1_pred l w)
  unfold goodE
  generalize l.all okE = r at *
  have Hall := Lib.hid hall
  clear hall
  cases h1 : inB l.length 1 5 with
  | true =>
    go_enter Try.func17, Try.ntmps17
    go_wp2_with (first | (go_at_call 44; refine (in_any _ _ _ _).mono ?_; rintro e w' ⟨rfl, rfl⟩) | (go_at_call 45; refine Hall.out.mono ?_; rintro e w1 ⟨rfl, hb1⟩))
    go_ret
    exact ⟨ret_bool (by simp), hb1⟩
  | false =>
    go_enter Try.func17, Try.ntmps17
    go_wp2_with (first | (go_at_call 44; refine (in_any _ _ _ _).mono ?_; rintro e w' ⟨rfl, rfl⟩) | (go_at_call 45; refine Hall.out.mono ?_; rintro e w1 ⟨rfl, hb1⟩))
    go_ret
    exact ⟨ret_bool (by simp), Below.refl _ _⟩

set_option maxHeartbeats 400000 in
theorem l8Good_any (A : Option Addr) (c : Nat) (l : List Earth) (w : World) (B : Nat) (h : Rd encE 2 w B A l) (hl : l.length ≤ 1048576) :
    Calls Try.prog 42 #[.slice A l.length c] w fun e w' => e = .returned (.bool (goodE l)) ∧ w = w' := by
  go_enter Try.func42, Try.ntmps42
  go_wp2
  go_loop [3] (fun i => ∃ k : Nat, k ≤ l.length ∧ i = .int .i64 k ∧ Hid ((l.take k).all okE = true)) (fun i => l.length - (intOf i).toNat)
  case atStart => exact ⟨0, Nat.zero_le _, rfl, rfl⟩
  case round =>
    obtain ⟨k, hk, rfl, Hg⟩ := hrel
    by_cases hlt : k < l.length
    · obtain ⟨b, off, rfl, hb, c0, c1⟩ := cellsE h hlt
      have hs := all_take_succ okE l k hlt
      have hf := all_false_of okE l k hlt
      generalize l[k] = x at *
      have Hs := Lib.hid hs
      have Hf := Lib.hid hf
      clear hs hf
      cases hok1 : inB x.thick 1 200 with
      | true =>
        cases hok2 : inB x.speed 1 50 with
        | true =>
          go_wp2_with (go_at_call 50; refine (l1In_any _ _ _ _).mono ?_; rintro e w' ⟨rfl, rfl⟩)
          go_round
          case rel => exact ⟨k + 1, by omega, by go_num, by show List.all _ _ = true; rw [Hs.out, Hg.out]; simp [okE, hok1, hok2]⟩
          case measure => simp [intOf]; omega
        | false =>
          go_wp2_with (go_at_call 50; refine (l1In_any _ _ _ _).mono ?_; rintro e w' ⟨rfl, rfl⟩)
          go_ret
          exact ⟨ret_bool (by simp [goodE, Hf.out (by simp [okE, hok2])]), rfl⟩
      | false =>
        go_wp2_with (go_at_call 50; refine (l1In_any _ _ _ _).mono ?_; rintro e w' ⟨rfl, rfl⟩)
        go_ret
        exact ⟨ret_bool (by simp [goodE, Hf.out (by simp [okE, hok1])]), rfl⟩
    · have hkl : (l.take k) = l := List.take_of_length_le (by omega)
      rw [hkl] at Hg
      have Hkl := Lib.hid hkl
      clear hkl
      go_wp2_with (go_at_call 50; refine (l1In_any _ _ _ _).mono ?_; rintro e w' ⟨rfl, rfl⟩)
      go_ret
      exact ⟨ret_bool (by simp only [goodE, Hg.out, Bool.and_true]), rfl⟩

theorem sIsModel_any (A : Option Addr) (c : Nat) (l : List Earth) (w : World) (B : Nat) (h : Rd encE 2 w B A l) (hl : l.length ≤ 1048576) :
    Calls Try.prog 15 #[.slice A l.length c] w fun e w' => e = .returned (.bool (goodE l)) ∧ w = w' := by
  go_enter Try.func15, Try.ntmps15
  go_wp2_with (go_at_call 42; refine (l8Good_any _ _ l _ B h hl).mono ?_; rintro e w' ⟨rfl, rfl⟩)
  go_ret
  exact ⟨rfl, rfl⟩

theorem depthOf_any (A : Option Addr) (n c : Nat) (l : List Earth) (w : World) (hn : l.length = n) (h : Rd encE 2 w w.heap.size A l) (ho : Oks l) (h5 : l.length ≤ 5) :
    Calls Try.prog 49 #[.slice A n c] w fun e w' => e = .returned (.int .i64 (depthL l)) ∧ Below w.heap.size w w' := by
  subst hn
  go_enter Try.func49, Try.ntmps49
  go_wp2
  go_loopw [3, 8] (fun t i wr => ∃ k : Nat, k ≤ l.length ∧ i = .int .i64 k ∧ t = .int .i64 (depthL (l.take k)) ∧ Below w.heap.size w wr) (fun _ i _ => l.length - (intOf i).toNat)
  case atStart => exact ⟨0, Nat.zero_le _, rfl, rfl, Below.refl _ _⟩
  case round =>
    obtain ⟨k, hk, rfl, rfl, hbl⟩ := hrel
    by_cases hlt : k < l.length
    · obtain ⟨b, off, rfl, hb, c0, c1⟩ := cellsE (h.below hbl) hlt
      have hbd := depthL_bd ho k hk
      have hok := ho.get hlt
      have hs := depthL_succ l k hlt
      generalize l[k] = x at *
      have Hs := Lib.hid hs
      clear hs
      go_wp2
      go_roundw
      case rel =>
        refine ⟨k + 1, by omega, by go_num, by rw [Hs.out], ?_⟩
        exact hbl.alloc hbl.size _
      case measure => simp [intOf]; omega
    · have hkl : (l.take k) = l := List.take_of_length_le (by omega)
      rw [hkl]
      clear hkl
      go_wp2
      go_ret
      exact ⟨rfl, hbl⟩

theorem l8Depth_any (A : Option Addr) (n c : Nat) (l : List Earth) (w : World) (B : Nat) (hn : l.length = n) (h : Rd encE 2 w B A l) (ho : Oks l) (h5 : l.length ≤ 5) :
    Calls Try.prog 48 #[.slice A n c] w fun e w' => e = .returned (.int .i64 (depthL l)) ∧ w = w' := by
  subst hn
  go_enter Try.func48, Try.ntmps48
  go_wp2
  go_loop [3, 4] (fun t i => ∃ k : Nat, k ≤ l.length ∧ i = .int .i64 k ∧ t = .int .i64 (depthL (l.take k))) (fun _ i => l.length - (intOf i).toNat)
  case atStart => exact ⟨0, Nat.zero_le _, rfl, rfl⟩
  case round =>
    obtain ⟨k, hk, rfl, rfl⟩ := hrel
    by_cases hlt : k < l.length
    · obtain ⟨b, off, rfl, hb, c0, c1⟩ := cellsE h hlt
      have hbd := depthL_bd ho k hk
      have hok := ho.get hlt
      have hs := depthL_succ l k hlt
      generalize l[k] = x at *
      have Hs := Lib.hid hs
      clear hs
      go_wp2
      go_round
      case rel => exact ⟨k + 1, by omega, by go_num, by rw [Hs.out]⟩
      case measure => simp [intOf]; omega
    · have hkl : (l.take k) = l := List.take_of_length_le (by omega)
      rw [hkl]
      clear hkl
      go_wp2
      go_ret
      exact ⟨rfl, rfl⟩

def DPv (l : List Earth) : Int := if goodE l then depthL l else 0

theorem ModelDepth_any (A : Option Addr) (c : Nat) (l : List Earth) (w : World) (h : Rd encE 2 w w.heap.size A l) (hl : l.length ≤ 1048576) :
    Calls Try.prog 20 #[.slice A l.length c] w fun e w' => e = .returned (.tuple #[.int .i64 (DPv l), .bool (goodE l)]) ∧ Below w.heap.size w w' := by
  cases hg : goodE l with
  | true =>
    obtain ⟨ho, hl1, hl5⟩ := good_oks hg
    have hv : DPv l = depthL l := by simp [DPv, hg]
    rw [hv]
    clear hv
    go_enter Try.func20, Try.ntmps20
    go_wp2_with (first | (go_at_call 17; refine (IsModel_any A c l _ h hl).mono ?_; rintro e w1 ⟨rfl, hb1⟩) | (go_at_call 49; refine (depthOf_any A _ c l _ rfl (h.after hb1) ho hl5).mono ?_; rintro e w2 ⟨rfl, hb2⟩))
    go_ret2
    exact ⟨rfl, hb1.trans (hb2.mono hb1.size)⟩
  | false =>
    have hv : DPv l = 0 := by simp [DPv, hg]
    rw [hv]
    clear hv
    go_enter Try.func20, Try.ntmps20
    go_wp2_with (first | (go_at_call 17; refine (IsModel_any A c l _ h hl).mono ?_; rintro e w1 ⟨rfl, hb1⟩))
    go_ret2
    exact ⟨rfl, hb1⟩

theorem sModelDepth_any (A : Option Addr) (c : Nat) (l : List Earth) (w : World) (B : Nat) (h : Rd encE 2 w B A l) (hl : l.length ≤ 1048576) :
    Calls Try.prog 19 #[.slice A l.length c] w fun e w' => e = .returned (.tuple #[.int .i64 (DPv l), .bool (goodE l)]) ∧ w = w' := by
  cases hg : goodE l with
  | true =>
    obtain ⟨ho, hl1, hl5⟩ := good_oks hg
    have hv : DPv l = depthL l := by simp [DPv, hg]
    rw [hv]
    clear hv
    go_enter Try.func19, Try.ntmps19
    go_wp2_with (first | (go_at_call 42; refine (l8Good_any A c l _ B h hl).mono ?_; rintro e w1 ⟨rfl, rfl⟩) | (go_at_call 48; refine (l8Depth_any A _ c l _ B rfl h ho hl5).mono ?_; rintro e w2 ⟨rfl, rfl⟩))
    go_ret2
    exact ⟨rfl, rfl⟩
  | false =>
    have hv : DPv l = 0 := by simp [DPv, hg]
    rw [hv]
    clear hv
    go_enter Try.func19, Try.ntmps19
    go_wp2_with (first | (go_at_call 42; refine (l8Good_any A c l _ B h hl).mono ?_; rintro e w1 ⟨rfl, rfl⟩))
    go_ret2
    exact ⟨rfl, rfl⟩

end Go.Proofs.Ytadaaooldlaahaa
