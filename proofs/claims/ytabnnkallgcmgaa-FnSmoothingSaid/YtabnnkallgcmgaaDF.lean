/-
  Contracts of the functions that draw weights, and of the exported draws. (Printed by gen_F6.py.)
-/
import Derived.Test.YtabnnkallgcmgaaSampF
namespace Go.Proofs.Ytabnnkallgcmgaa
set_option linter.unusedVariables false
open Go.RowKit

theorem ISt.new {w : World} {g M : Nat} (h : Cur w g M) : ISt w g (w.alloc (.cells #[] 3)) (.slice (some ⟨w.heap.size, 0, none⟩) 0 0) [] M :=
  ⟨Own.empty _ _ _ (Nat.le_refl _), h.after (by (repeat (first | with_reducible exact Below.refl _ _ | with_reducible assumption | with_reducible refine Below.setCell ?_ (by simp <;> omega) _ | with_reducible refine Below.alloc ?_ (by first | omega | (simp <;> omega)) _ | with_reducible refine Below.drew ?_ | with_reducible refine below_drewN ?_ _))), only_of_below (by (repeat (first | with_reducible exact Below.refl _ _ | with_reducible assumption | with_reducible refine Below.setCell ?_ (by simp <;> omega) _ | with_reducible refine Below.alloc ?_ (by first | omega | (simp <;> omega)) _ | with_reducible refine Below.drew ?_ | with_reducible refine below_drewN ?_ _))) _⟩
set_option maxRecDepth 100000 in
set_option maxHeartbeats 8000000 in
theorem weights_any (g m : Nat) (w : World) (h : Cur w g m) (hm : m ≤ 700000000) :
    Calls Try.prog 64 #[.pointer (some ⟨g, 0, none⟩)] w fun e w' => ∃ v l, e = .returned v ∧ l.length ≤ 20 ∧ Own encI 1 w' w.heap.size 3 v l ∧ Cur w' g (m + 1000) ∧ w.grownBy w' (some g) := by
  obtain ⟨i0, hi, hz0, hz1, hz2⟩ := info_parts infoI
  have hgl := h.lt
  have HD0 := Lib.hid (ISt.new h)
  clear h
  go_enter Try.func64, Try.ntmps64
  go_wp2_with fail
  refine (pick_any g m 5 _ HD0.out.2.1 (by omega) (by omega)).mono ?_
  rintro e w1 ⟨n0, rfl, ⟨hn0, hx⟩, hC, hg⟩
  have HD1 := Lib.hid (HD0.out.step hC hg)
  have hn1 : n0 ≤ 4 := by omega
  clear hC hg hx
  obtain ⟨nn, rfl⟩ := Int.eq_ofNat_of_zero_le hn0
  go_wp2
  go_loopw [3, 4] (fun v i wr => ∃ (q : Nat) (A : Option Addr) (cp : Nat) (l : List Int) (M : Nat), i = .int .i64 q ∧ v = .slice A l.length cp ∧ l.length + q ≤ 5 ∧ q ≤ 5 ∧ M + q * 10 ≤ m + 60 ∧ Hid (ISt w g wr (.slice A l.length cp) l M)) (fun _ i _ => (intOf i).toNat)
  case atStart => exact ⟨nn + 1, _, 0, [], m + 2, by go_num, rfl, by simp; omega, by omega, by omega, HD1.out⟩
  case round =>
    obtain ⟨q, A, cp, l, M, rfl, rfl, hlq, hq5, hMq, HD⟩ := hrel
    have hsw := HD.out.size
    by_cases hq : q = 0
    · subst hq
      go_wp2_with fail
      refine (pick_any g M 32 _ HD.out.2.1 (by omega) (by omega)).mono ?_
      rintro e w2 ⟨sw, rfl, ⟨hs0, hx⟩, hC, hg⟩
      have HD2 := Lib.hid (HD.out.step hC hg)
      have hs2 := HD2.out.size
      clear hC hg hx
      by_cases e0 : sw = 0
      · subst e0
        go_wp2_with fail
        refine (among_lit g _ [101, -101] _ 2 _ _ (by rfl) (by rfl) (by simp) HD2.out.2.1 (by omega) (by omega) (by omega)).mono ?_
        rintro e w3 ⟨y, rfl, _, hC, hg⟩
        have HD3 := Lib.hid (HD2.out.step hC hg)
        have hs3 := HD3.out.size
        clear hC hg
        go_wp2_with (at_builtin; refine wpList_app1 rfl _ _ 22 rfl w.heap.size 3 i0 _ 1 8 Try.underlying22 hi hz0 hz1 hz2 rfl (by omega) (by omega) encI encI_len encI_one (.slice A l.length cp) l y w3 _ rfl _ rfl HD3.out.1 rfl (by omega) (by omega) ?_; intro v9 w9 hown9 hb9 _)
        have HD9 := Lib.hid (HD3.out.app hown9 hb9 hgl)
        clear hown9 hb9
        go_wp2
        go_ret
        exact ⟨_, _, rfl, (by simp; omega), HD9.out.1, HD9.out.2.1.more (by omega), HD9.out.2.2⟩
      · have n0 : (sw == 0) = false := by simp [e0]
        by_cases e1 : sw = 1
        · subst e1
          have hbe : Below w2.heap.size w2 (w2.alloc (.cells #[] 3)) := by (repeat (first | with_reducible exact Below.refl _ _ | with_reducible assumption | with_reducible refine Below.setCell ?_ (by simp <;> omega) _ | with_reducible refine Below.alloc ?_ (by first | omega | (simp <;> omega)) _ | with_reducible refine Below.drew ?_ | with_reducible refine below_drewN ?_ _))
          have HDe : Hid (ISt w g (w2.alloc (.cells #[] 3)) (.slice (some ⟨w2.heap.size, 0, none⟩) 0 0) [] (M + 2)) := ⟨Own.empty _ _ _ hs2, HD2.out.2.1.after hbe, only_belowB HD2.out.2.2 hbe hs2⟩
          clear hbe
          go_wp2
          go_ret
          exact ⟨_, [], rfl, by simp, HDe.out.1, HDe.out.2.1.more (by omega), HDe.out.2.2⟩
        · have n1 : (sw == 1) = false := by simp [e1]
          by_cases e2 : sw = 2
          · subst e2
            go_wp2
            go_loopw [3] (fun v wr => ∃ (A : Option Addr) (cp : Nat) (l : List Int) (M : Nat), v = .slice A l.length cp ∧ l.length ≤ 6 ∧ M ≤ m + 100 + l.length * 4 ∧ Hid (ISt w g wr (.slice A l.length cp) l M)) (fun v _ => match v with | .slice _ n _ => 10 - n | _ => 0)
            case atStart => exact ⟨A, cp, l, M + 2, rfl, by omega, by omega, HD2.out⟩
            case round =>
              obtain ⟨A2, c2, l2, M2, rfl, hl2, hM2, HDl⟩ := hrel
              go_wp2_with fail
              refine (pick_any g M2 2 _ HDl.out.2.1 (by omega) (by omega)).mono ?_
              rintro e w3 ⟨pk, rfl, ⟨hp0, hx⟩, hC, hg⟩
              have HD3 := Lib.hid (HDl.out.step hC hg)
              have hs3 := HD3.out.size
              have hp1 : pk ≤ 1 := by omega
              clear hC hg hx
              by_cases hlt : (l2.length : Int) < 5 + pk
              · go_wp2_with (at_builtin; refine wpList_app1 rfl _ _ 22 rfl w.heap.size 3 i0 _ 1 8 Try.underlying22 hi hz0 hz1 hz2 rfl (by omega) (by omega) encI encI_len encI_one (.slice A2 l2.length c2) l2 3 w3 _ rfl _ rfl HD3.out.1 rfl (by omega) (by omega) ?_; intro v9 w9 hown9 hb9 _)
                have HD9 := Lib.hid (HD3.out.app hown9 hb9 hgl)
                obtain ⟨A9, c9, rfl, _, _⟩ := Own.form encI_len hown9
                clear hown9 hb9
                go_wp2
                go_roundw
                case rel => exact ⟨A9, c9, l2 ++ [3], M2 + 2, by simp, by simp; omega, by simp; omega, HD9.out⟩
                case measure => simp; omega
              · go_wp2
                go_ret
                exact ⟨_, l2, rfl, (by omega), HD3.out.1, HD3.out.2.1.more (by omega), HD3.out.2.2⟩
          · have n2 : (sw == 2) = false := by simp [e2]
            go_wp2
            go_ret
            exact ⟨_, l, rfl, (by omega), HD2.out.1, HD2.out.2.1.more (by omega), HD2.out.2.2⟩
    · obtain ⟨q', rfl⟩ : ∃ q', q = q' + 1 := ⟨q - 1, by omega⟩
      go_wp2_with fail
      refine (among_lit g M [0, 1, -1, 2, 50, -100, 100] _ 7 _ _ (by rfl) (by rfl) (by simp) HD.out.2.1 (by omega) (by omega) (by omega)).mono ?_
      rintro e w3 ⟨y, rfl, _, hC, hg⟩
      have HD3 := Lib.hid (HD.out.step hC hg)
      have hs3 := HD3.out.size
      clear hC hg
      go_wp2_with (at_builtin; refine wpList_app1 rfl _ _ 22 rfl w.heap.size 3 i0 _ 1 8 Try.underlying22 hi hz0 hz1 hz2 rfl (by omega) (by omega) encI encI_len encI_one (.slice A l.length cp) l y w3 _ rfl _ rfl HD3.out.1 rfl (by omega) (by omega) ?_; intro v9 w9 hown9 hb9 _)
      have HD9 := Lib.hid (HD3.out.app hown9 hb9 hgl)
      obtain ⟨A9, c9, rfl, _, _⟩ := Own.form encI_len hown9
      clear hown9 hb9
      go_wp2
      go_roundw
      case rel => exact ⟨q', A9, c9, l ++ [y], M + 2, by go_num, by simp, by simp; omega, by omega, by omega, HD9.out⟩
      case measure => simp [intOf]
set_option maxRecDepth 100000 in
set_option maxHeartbeats 2000000 in
theorem DrawMovingSums_any (A : Option Addr) (c : Nat) (code : List Int) (w : World) (h : Rd encB 1 w w.heap.size A code) (hl : code.length ≤ 1048576) (hby : ∀ n ∈ code, 0 ≤ n ∧ n ≤ 255) :
    Calls Try.prog 26 #[.slice A code.length c] w fun e w' => ∃ A' c' l d1, e = .returned (.tuple #[.slice A' l.length c', .int .i64 d1]) ∧ l.length ≤ 60 ∧ (l.length ≤ c' ∧ c' ≤ maxLen) ∧ Own encI 1 w' w.heap.size 3 (.slice A' l.length c') l ∧ Below w.heap.size w w' := by
  have hC0 := Cur.new (c := c) h hl hby
  have hb0 : Below w.heap.size w (w.alloc (.cells #[.slice A code.length c, .int .i64 0, .int .u64 0] 51)) := by (repeat (first | with_reducible exact Below.refl _ _ | with_reducible assumption | with_reducible refine Below.setCell ?_ (by simp <;> omega) _ | with_reducible refine Below.alloc ?_ (by first | omega | (simp <;> omega)) _ | with_reducible refine Below.drew ?_ | with_reducible refine below_drewN ?_ _))
  clear hby
  go_enter Try.func26, Try.ntmps26
  go_wp2_with fail
  refine (samples_any w.heap.size 0 _ hC0 (by omega)).mono ?_
  rintro e w1 ⟨v, l, rfl, hll, _, hown, hC, hg⟩
  have HB1 := Lib.hid (below_of_cur hb0 (Nat.le_refl _) hg)
  have HO := Lib.hid (hown.mono (show w.heap.size ≤ _ by simp))
  have HC1 := Lib.hid hC
  have hs1 := HB1.out.size
  obtain ⟨A1, c1, rfl, hcc, _⟩ := Own.form encI_len hown
  clear hC hg hown hC0 hb0
  go_wp2_with fail
  refine (among_lit w.heap.size _ [1, 2, 3, 5, 10, 0, 11] _ 7 _ _ (by rfl) (by rfl) (by simp) HC1.out (by omega) (by omega) (by omega)).mono ?_
  rintro e w2 ⟨x1, rfl, _, hC, hg⟩
  have HB2 := Lib.hid (below_of_cur HB1.out (by omega) hg)
  have HO_2 := Lib.hid (HO.out.cur HC1.out hg (by decide))
  clear HO
  have HC2 := Lib.hid hC
  have hs2 := HB2.out.size
  clear hC hg HC1
  go_wp2
  go_ret2
  exact ⟨A1, c1, l, x1, rfl, by omega, hcc, HO_2.out, HB2.out⟩
set_option maxRecDepth 100000 in
set_option maxHeartbeats 2000000 in
theorem DrawMovingMedians_any (A : Option Addr) (c : Nat) (code : List Int) (w : World) (h : Rd encB 1 w w.heap.size A code) (hl : code.length ≤ 1048576) (hby : ∀ n ∈ code, 0 ≤ n ∧ n ≤ 255) :
    Calls Try.prog 35 #[.slice A code.length c] w fun e w' => ∃ A' c' l d1, e = .returned (.tuple #[.slice A' l.length c', .int .i64 d1]) ∧ l.length ≤ 60 ∧ (l.length ≤ c' ∧ c' ≤ maxLen) ∧ Own encI 1 w' w.heap.size 3 (.slice A' l.length c') l ∧ Below w.heap.size w w' := by
  have hC0 := Cur.new (c := c) h hl hby
  have hb0 : Below w.heap.size w (w.alloc (.cells #[.slice A code.length c, .int .i64 0, .int .u64 0] 51)) := by (repeat (first | with_reducible exact Below.refl _ _ | with_reducible assumption | with_reducible refine Below.setCell ?_ (by simp <;> omega) _ | with_reducible refine Below.alloc ?_ (by first | omega | (simp <;> omega)) _ | with_reducible refine Below.drew ?_ | with_reducible refine below_drewN ?_ _))
  clear hby
  go_enter Try.func35, Try.ntmps35
  go_wp2_with fail
  refine (samples_any w.heap.size 0 _ hC0 (by omega)).mono ?_
  rintro e w1 ⟨v, l, rfl, hll, _, hown, hC, hg⟩
  have HB1 := Lib.hid (below_of_cur hb0 (Nat.le_refl _) hg)
  have HO := Lib.hid (hown.mono (show w.heap.size ≤ _ by simp))
  have HC1 := Lib.hid hC
  have hs1 := HB1.out.size
  obtain ⟨A1, c1, rfl, hcc, _⟩ := Own.form encI_len hown
  clear hC hg hown hC0 hb0
  go_wp2_with fail
  refine (among_lit w.heap.size _ [0, 1, 1, 2, 3, 4, -1] _ 7 _ _ (by rfl) (by rfl) (by simp) HC1.out (by omega) (by omega) (by omega)).mono ?_
  rintro e w2 ⟨x1, rfl, _, hC, hg⟩
  have HB2 := Lib.hid (below_of_cur HB1.out (by omega) hg)
  have HO_2 := Lib.hid (HO.out.cur HC1.out hg (by decide))
  clear HO
  have HC2 := Lib.hid hC
  have hs2 := HB2.out.size
  clear hC hg HC1
  go_wp2
  go_ret2
  exact ⟨A1, c1, l, x1, rfl, by omega, hcc, HO_2.out, HB2.out⟩
set_option maxRecDepth 100000 in
set_option maxHeartbeats 2000000 in
theorem DrawSmoothed_any (A : Option Addr) (c : Nat) (code : List Int) (w : World) (h : Rd encB 1 w w.heap.size A code) (hl : code.length ≤ 1048576) (hby : ∀ n ∈ code, 0 ≤ n ∧ n ≤ 255) :
    Calls Try.prog 37 #[.slice A code.length c] w fun e w' => ∃ A' c' l d1, e = .returned (.tuple #[.slice A' l.length c', .int .i64 d1]) ∧ l.length ≤ 60 ∧ (l.length ≤ c' ∧ c' ≤ maxLen) ∧ Own encI 1 w' w.heap.size 3 (.slice A' l.length c') l ∧ Below w.heap.size w w' := by
  have hC0 := Cur.new (c := c) h hl hby
  have hb0 : Below w.heap.size w (w.alloc (.cells #[.slice A code.length c, .int .i64 0, .int .u64 0] 51)) := by (repeat (first | with_reducible exact Below.refl _ _ | with_reducible assumption | with_reducible refine Below.setCell ?_ (by simp <;> omega) _ | with_reducible refine Below.alloc ?_ (by first | omega | (simp <;> omega)) _ | with_reducible refine Below.drew ?_ | with_reducible refine below_drewN ?_ _))
  clear hby
  go_enter Try.func37, Try.ntmps37
  go_wp2_with fail
  refine (samples_any w.heap.size 0 _ hC0 (by omega)).mono ?_
  rintro e w1 ⟨v, l, rfl, hll, _, hown, hC, hg⟩
  have HB1 := Lib.hid (below_of_cur hb0 (Nat.le_refl _) hg)
  have HO := Lib.hid (hown.mono (show w.heap.size ≤ _ by simp))
  have HC1 := Lib.hid hC
  have hs1 := HB1.out.size
  obtain ⟨A1, c1, rfl, hcc, _⟩ := Own.form encI_len hown
  clear hC hg hown hC0 hb0
  go_wp2_with fail
  refine (among_lit w.heap.size _ [1, 2, 3, 10, 100, 0, 101] _ 7 _ _ (by rfl) (by rfl) (by simp) HC1.out (by omega) (by omega) (by omega)).mono ?_
  rintro e w2 ⟨x1, rfl, _, hC, hg⟩
  have HB2 := Lib.hid (below_of_cur HB1.out (by omega) hg)
  have HO_2 := Lib.hid (HO.out.cur HC1.out hg (by decide))
  clear HO
  have HC2 := Lib.hid hC
  have hs2 := HB2.out.size
  clear hC hg HC1
  go_wp2
  go_ret2
  exact ⟨A1, c1, l, x1, rfl, by omega, hcc, HO_2.out, HB2.out⟩
set_option maxRecDepth 100000 in
set_option maxHeartbeats 2000000 in
theorem DrawClipped_any (A : Option Addr) (c : Nat) (code : List Int) (w : World) (h : Rd encB 1 w w.heap.size A code) (hl : code.length ≤ 1048576) (hby : ∀ n ∈ code, 0 ≤ n ∧ n ≤ 255) :
    Calls Try.prog 38 #[.slice A code.length c] w fun e w' => ∃ A' c' l d1, e = .returned (.tuple #[.slice A' l.length c', .int .i64 d1]) ∧ l.length ≤ 60 ∧ (l.length ≤ c' ∧ c' ≤ maxLen) ∧ Own encI 1 w' w.heap.size 3 (.slice A' l.length c') l ∧ Below w.heap.size w w' := by
  have hC0 := Cur.new (c := c) h hl hby
  have hb0 : Below w.heap.size w (w.alloc (.cells #[.slice A code.length c, .int .i64 0, .int .u64 0] 51)) := by (repeat (first | with_reducible exact Below.refl _ _ | with_reducible assumption | with_reducible refine Below.setCell ?_ (by simp <;> omega) _ | with_reducible refine Below.alloc ?_ (by first | omega | (simp <;> omega)) _ | with_reducible refine Below.drew ?_ | with_reducible refine below_drewN ?_ _))
  clear hby
  go_enter Try.func38, Try.ntmps38
  go_wp2_with fail
  refine (samples_any w.heap.size 0 _ hC0 (by omega)).mono ?_
  rintro e w1 ⟨v, l, rfl, hll, _, hown, hC, hg⟩
  have HB1 := Lib.hid (below_of_cur hb0 (Nat.le_refl _) hg)
  have HO := Lib.hid (hown.mono (show w.heap.size ≤ _ by simp))
  have HC1 := Lib.hid hC
  have hs1 := HB1.out.size
  obtain ⟨A1, c1, rfl, hcc, _⟩ := Own.form encI_len hown
  clear hC hg hown hC0 hb0
  go_wp2_with fail
  refine (among_lit w.heap.size _ [0, 1, 20, 100, 3000, 100000, 100001, -1] _ 8 _ _ (by rfl) (by rfl) (by simp) HC1.out (by omega) (by omega) (by omega)).mono ?_
  rintro e w2 ⟨x1, rfl, _, hC, hg⟩
  have HB2 := Lib.hid (below_of_cur HB1.out (by omega) hg)
  have HO_2 := Lib.hid (HO.out.cur HC1.out hg (by decide))
  clear HO
  have HC2 := Lib.hid hC
  have hs2 := HB2.out.size
  clear hC hg HC1
  go_wp2
  go_ret2
  exact ⟨A1, c1, l, x1, rfl, by omega, hcc, HO_2.out, HB2.out⟩
set_option maxRecDepth 100000 in
set_option maxHeartbeats 2000000 in
theorem DrawEveryNth_any (A : Option Addr) (c : Nat) (code : List Int) (w : World) (h : Rd encB 1 w w.heap.size A code) (hl : code.length ≤ 1048576) (hby : ∀ n ∈ code, 0 ≤ n ∧ n ≤ 255) :
    Calls Try.prog 32 #[.slice A code.length c] w fun e w' => ∃ A' c' l d1, e = .returned (.tuple #[.slice A' l.length c', .int .i64 d1]) ∧ l.length ≤ 60 ∧ (l.length ≤ c' ∧ c' ≤ maxLen) ∧ Own encI 1 w' w.heap.size 3 (.slice A' l.length c') l ∧ Below w.heap.size w w' := by
  go_enter Try.func32, Try.ntmps32
  go_wp2_with fail
  refine (DrawMovingSums_any A c code w h hl hby).mono ?_
  rintro e w1 ⟨A1, c1, l, d1, rfl, hll, hcc, hown, hb⟩
  have HO1 := Lib.hid hown
  clear hown
  go_wp2
  go_ret2
  exact ⟨A1, c1, l, d1, rfl, hll, hcc, HO1.out, hb⟩
set_option maxRecDepth 100000 in
set_option maxHeartbeats 2000000 in
theorem DrawComb_any (A : Option Addr) (c : Nat) (code : List Int) (w : World) (h : Rd encB 1 w w.heap.size A code) (hl : code.length ≤ 1048576) (hby : ∀ n ∈ code, 0 ≤ n ∧ n ≤ 255) :
    Calls Try.prog 27 #[.slice A code.length c] w fun e w' => ∃ A' c' l d1, e = .returned (.tuple #[.slice A' l.length c', .int .i64 d1]) ∧ l.length ≤ 60 ∧ (l.length ≤ c' ∧ c' ≤ maxLen) ∧ Own encI 1 w' w.heap.size 3 (.slice A' l.length c') l ∧ Below w.heap.size w w' := by
  go_enter Try.func27, Try.ntmps27
  go_wp2_with fail
  refine (DrawMovingSums_any A c code w h hl hby).mono ?_
  rintro e w1 ⟨A1, c1, l, d1, rfl, hll, hcc, hown, hb⟩
  have HO1 := Lib.hid hown
  clear hown
  go_wp2
  go_ret2
  exact ⟨A1, c1, l, d1, rfl, hll, hcc, HO1.out, hb⟩
set_option maxRecDepth 100000 in
set_option maxHeartbeats 2000000 in
theorem DrawDifferences_any (A : Option Addr) (c : Nat) (code : List Int) (w : World) (h : Rd encB 1 w w.heap.size A code) (hl : code.length ≤ 1048576) (hby : ∀ n ∈ code, 0 ≤ n ∧ n ≤ 255) :
    Calls Try.prog 71 #[.slice A code.length c] w fun e w' => ∃ A' c' l, e = .returned (.slice A' l.length c') ∧ l.length ≤ 60 ∧ (l.length ≤ c' ∧ c' ≤ maxLen) ∧ Own encI 1 w' w.heap.size 3 (.slice A' l.length c') l ∧ Below w.heap.size w w' := by
  have hC0 := Cur.new (c := c) h hl hby
  have hb0 : Below w.heap.size w (w.alloc (.cells #[.slice A code.length c, .int .i64 0, .int .u64 0] 51)) := by (repeat (first | with_reducible exact Below.refl _ _ | with_reducible assumption | with_reducible refine Below.setCell ?_ (by simp <;> omega) _ | with_reducible refine Below.alloc ?_ (by first | omega | (simp <;> omega)) _ | with_reducible refine Below.drew ?_ | with_reducible refine below_drewN ?_ _))
  clear hby
  go_enter Try.func71, Try.ntmps71
  go_wp2_with fail
  refine (samples_any w.heap.size 0 _ hC0 (by omega)).mono ?_
  rintro e w1 ⟨v, l, rfl, hll, _, hown, hC, hg⟩
  have HB1 := Lib.hid (below_of_cur hb0 (Nat.le_refl _) hg)
  have HO := Lib.hid (hown.mono (show w.heap.size ≤ _ by simp))
  have HC1 := Lib.hid hC
  have hs1 := HB1.out.size
  obtain ⟨A1, c1, rfl, hcc, _⟩ := Own.form encI_len hown
  clear hC hg hown hC0 hb0
  go_wp2
  go_ret
  exact ⟨A1, c1, l, rfl, by omega, hcc, HO.out, HB1.out⟩
set_option maxRecDepth 100000 in
set_option maxHeartbeats 2000000 in
theorem DrawTurningPoints_any (A : Option Addr) (c : Nat) (code : List Int) (w : World) (h : Rd encB 1 w w.heap.size A code) (hl : code.length ≤ 1048576) (hby : ∀ n ∈ code, 0 ≤ n ∧ n ≤ 255) :
    Calls Try.prog 41 #[.slice A code.length c] w fun e w' => ∃ A' c' l, e = .returned (.slice A' l.length c') ∧ l.length ≤ 60 ∧ (l.length ≤ c' ∧ c' ≤ maxLen) ∧ Own encI 1 w' w.heap.size 3 (.slice A' l.length c') l ∧ Below w.heap.size w w' := by
  go_enter Try.func41, Try.ntmps41
  go_wp2_with fail
  refine (DrawDifferences_any A c code w h hl hby).mono ?_
  rintro e w1 ⟨A1, c1, l, rfl, hll, hcc, hown, hb⟩
  have HO1 := Lib.hid hown
  clear hown
  go_wp2
  go_ret
  exact ⟨A1, c1, l, rfl, hll, hcc, HO1.out, hb⟩
set_option maxRecDepth 100000 in
set_option maxHeartbeats 2000000 in
theorem DrawWeightBound_any (A : Option Addr) (c : Nat) (code : List Int) (w : World) (h : Rd encB 1 w w.heap.size A code) (hl : code.length ≤ 1048576) (hby : ∀ n ∈ code, 0 ≤ n ∧ n ≤ 255) :
    Calls Try.prog 30 #[.slice A code.length c] w fun e w' => ∃ A' c' l, e = .returned (.slice A' l.length c') ∧ l.length ≤ 60 ∧ (l.length ≤ c' ∧ c' ≤ maxLen) ∧ Own encI 1 w' w.heap.size 3 (.slice A' l.length c') l ∧ Below w.heap.size w w' := by
  have hC0 := Cur.new (c := c) h hl hby
  have hb0 : Below w.heap.size w (w.alloc (.cells #[.slice A code.length c, .int .i64 0, .int .u64 0] 51)) := by (repeat (first | with_reducible exact Below.refl _ _ | with_reducible assumption | with_reducible refine Below.setCell ?_ (by simp <;> omega) _ | with_reducible refine Below.alloc ?_ (by first | omega | (simp <;> omega)) _ | with_reducible refine Below.drew ?_ | with_reducible refine below_drewN ?_ _))
  clear hby
  go_enter Try.func30, Try.ntmps30
  go_wp2_with fail
  refine (weights_any w.heap.size 0 _ hC0 (by omega)).mono ?_
  rintro e w1 ⟨v, l, rfl, hll, hown, hC, hg⟩
  have HB1 := Lib.hid (below_of_cur hb0 (Nat.le_refl _) hg)
  have HO := Lib.hid (hown.mono (show w.heap.size ≤ _ by simp))
  have HC1 := Lib.hid hC
  have hs1 := HB1.out.size
  obtain ⟨A1, c1, rfl, hcc, _⟩ := Own.form encI_len hown
  clear hC hg hown hC0 hb0
  go_wp2
  go_ret
  exact ⟨A1, c1, l, rfl, by omega, hcc, HO.out, HB1.out⟩
set_option maxRecDepth 100000 in
set_option maxHeartbeats 2000000 in
theorem DrawWeighted_any (A : Option Addr) (c : Nat) (code : List Int) (w : World) (h : Rd encB 1 w w.heap.size A code) (hl : code.length ≤ 1048576) (hby : ∀ n ∈ code, 0 ≤ n ∧ n ≤ 255) :
    Calls Try.prog 22 #[.slice A code.length c] w fun e w' => ∃ A' c' l A2' c2' l2, e = .returned (.tuple #[.slice A' l.length c', .slice A2' l2.length c2']) ∧ l.length ≤ 60 ∧ (l.length ≤ c' ∧ c' ≤ maxLen) ∧ Own encI 1 w' w.heap.size 3 (.slice A' l.length c') l ∧ l2.length ≤ 60 ∧ (l2.length ≤ c2' ∧ c2' ≤ maxLen) ∧ Own encI 1 w' w.heap.size 3 (.slice A2' l2.length c2') l2 ∧ Below w.heap.size w w' := by
  have hC0 := Cur.new (c := c) h hl hby
  have hb0 : Below w.heap.size w (w.alloc (.cells #[.slice A code.length c, .int .i64 0, .int .u64 0] 51)) := by (repeat (first | with_reducible exact Below.refl _ _ | with_reducible assumption | with_reducible refine Below.setCell ?_ (by simp <;> omega) _ | with_reducible refine Below.alloc ?_ (by first | omega | (simp <;> omega)) _ | with_reducible refine Below.drew ?_ | with_reducible refine below_drewN ?_ _))
  clear hby
  go_enter Try.func22, Try.ntmps22
  go_wp2_with fail
  refine (samples_any w.heap.size 0 _ hC0 (by omega)).mono ?_
  rintro e w1 ⟨v, l, rfl, hll, _, hown, hC, hg⟩
  have HB1 := Lib.hid (below_of_cur hb0 (Nat.le_refl _) hg)
  have HO := Lib.hid (hown.mono (show w.heap.size ≤ _ by simp))
  have HC1 := Lib.hid hC
  have hs1 := HB1.out.size
  obtain ⟨A1, c1, rfl, hcc, _⟩ := Own.form encI_len hown
  clear hC hg hown hC0 hb0
  go_wp2_with fail
  refine (weights_any w.heap.size _ _ HC1.out (by omega)).mono ?_
  rintro e w2 ⟨v2, l2, rfl, hll2, hown2, hC, hg⟩
  have HB2 := Lib.hid (below_of_cur HB1.out (by omega) hg)
  have HO_2 := Lib.hid (HO.out.cur HC1.out hg (by decide))
  clear HO
  have HC2 := Lib.hid hC
  have hs2 := HB2.out.size
  clear hC hg HC1
  have HO2 := Lib.hid (hown2.mono (show w.heap.size ≤ _ by omega))
  obtain ⟨A2, c2, rfl, hcc2, _⟩ := Own.form encI_len hown2
  clear hown2
  go_wp2
  go_ret2
  exact ⟨A1, c1, l, A2, c2, l2, rfl, by omega, hcc, HO_2.out, by omega, hcc2, HO2.out, HB2.out⟩

end Go.Proofs.Ytabnnkallgcmgaa
