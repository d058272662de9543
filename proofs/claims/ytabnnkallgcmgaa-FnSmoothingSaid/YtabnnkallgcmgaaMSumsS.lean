/-
  Contracts of the reference's MovingSums. (Printed by gen_F1.py.)
-/
import Derived.Test.YtabnnkallgcmgaaMSums
namespace Go.Proofs.Ytabnnkallgcmgaa
set_option linter.unusedVariables false
open Go.RowKit

theorem l6Asked_any (A : Option Addr) (c : Nat) (l : List Int) (n a b : Int) (w : World) (B : Nat) (h : Rd encI 1 w B A l) (hl : l.length ≤ 1048576) :
    Calls Try.prog 44 #[.slice A l.length c, .int .i64 n, .int .i64 a, .int .i64 b] w fun e w' => e = .returned (.bool (goodS l && inB n a b)) ∧ w = w' := by
  cases hs : goodS l with
  | true =>
    go_enter Try.func44, Try.ntmps44
    go_wp2_with (first | (go_at_call 51; refine (l2Samples_any A c l _ _ h hl).mono ?_; rintro e w1 ⟨rfl, rfl⟩) | (go_at_call 72; refine (l1In_any _ _ _ _).mono ?_; rintro e w' ⟨rfl, rfl⟩))
    go_ret
    exact ⟨ret_bool (by simp), rfl⟩
  | false =>
    go_enter Try.func44, Try.ntmps44
    go_wp2_with (go_at_call 51; refine (l2Samples_any A c l _ _ h hl).mono ?_; rintro e w1 ⟨rfl, rfl⟩)
    go_ret
    exact ⟨ret_bool (by simp), rfl⟩

set_option maxRecDepth 100000 in
set_option maxHeartbeats 1000000 in
theorem sMovingSums_any (A : Option Addr) (c : Nat) (l : List Int) (n : Int) (w : World) (h : Rd encI 1 w w.heap.size A l) (hl : l.length ≤ 1048576) (hc : l.length ≤ c ∧ c ≤ maxLen) :
    Calls Try.prog 9 #[.slice A l.length c, .int .i64 n] w fun e w' => ∃ A' c', e = .returned (.tuple #[.slice A' (msL l n).length c', .bool (okMS l n)]) ∧ ((msL l n).length ≤ c' ∧ c' ≤ maxLen) ∧ Own encI 1 w' w.heap.size 3 (.slice A' (msL l n).length c') (msL l n) ∧ Below w.heap.size w w' := by
  have hb0 : Below w.heap.size w (w.alloc (.cells #[] 3)) := by (repeat (first | with_reducible exact Below.refl _ _ | with_reducible assumption | with_reducible refine Below.setCell ?_ (by simp <;> omega) _ | with_reducible refine Below.alloc ?_ (by first | omega | (simp <;> omega)) _ | with_reducible refine Below.drew ?_ | with_reducible refine below_drewN ?_ _))
  have hr0 := (h.below hb0).more hb0.size
  have Ho := Lib.hid (Own.empty (enc := encI) (k := 1) w w.heap.size 3 (Nat.le_refl _))
  have hask := fun W B hW => l6Asked_any A c l n 1 10 W B hW hl
  rw [show (goodS l && inB n 1 10) = okMS l n from rfl] at hask
  cases hk : okMS l n with
  | false =>
    have hm : msL l n = [] := by unfold msL; rw [hk]; rfl
    rw [hm]
    rw [hk] at hask
    have Hask := Lib.hid hask
    clear hask hm hk
    go_enter Try.func9, Try.ntmps9
    go_wp2_with (go_at_call 44; refine (Hask.out _ _ hr0).mono ?_; rintro e w1 ⟨rfl, rfl⟩)
    go_ret2
    exact ⟨_, 0, rfl, ⟨Nat.le_refl _, Nat.zero_le _⟩, Ho.out, hb0⟩
  | true =>
    obtain ⟨⟨hl24, hsm⟩, hn1, hn2⟩ := okMS_iff.1 hk
    obtain ⟨m, rfl⟩ := Int.eq_ofNat_of_zero_le (show 0 ≤ n by omega)
    obtain ⟨i0, hi, hz0, hz1, hz2⟩ := info_parts infoI
    obtain ⟨M, hM⟩ : ∃ M, msL l m = M := ⟨_, rfl⟩
    have hMv : M = (List.range l.length).map fun i => sumI (winB l m i) := by rw [← hM]; unfold msL; rw [if_pos hk]; rfl
    have hMl : M.length = l.length := by rw [hMv]; simp
    rw [hM, hMl]
    have HM := Lib.hid hMv
    rw [hk] at hask
    have Hask := Lib.hid hask
    clear hask hM hMv hMl hk
    go_enter Try.func9, Try.ntmps9
    go_wp2_with (go_at_call 44; refine (Hask.out _ _ hr0).mono ?_; rintro e w1 ⟨rfl, rfl⟩)
    go_loopw [6, 7] (fun v i wr => ∃ k : Nat, k ≤ l.length ∧ i = .int .i64 k ∧ Hid (Own encI 1 wr w.heap.size 3 v ((List.range k).map fun i => sumI (winB l m i))) ∧ Below w.heap.size w wr) (fun _ i _ => l.length - (intOf i).toNat)
    case atStart => exact ⟨0, Nat.zero_le _, rfl, Ho.out, hb0⟩
    case round =>
      obtain ⟨k, hkl, rfl, hown, hbl⟩ := hrel
      obtain ⟨wo, rfl⟩ : ∃ wo : World, wo = wr := ⟨_, rfl⟩
      by_cases hlt : k < l.length
      · have hnx : (List.range (k + 1)).map (fun i => sumI (winB l m i)) = (List.range k).map (fun i => sumI (winB l m i)) ++ [sumI (winB l m k)] := by rw [List.range_succ, List.map_append]; rfl
        have hfl : ((List.range k).map fun i => sumI (winB l m i)).length ≤ 1048576 := by rw [List.length_map, List.length_range]; omega
        obtain ⟨M2, hM2⟩ : ∃ M2, (List.range k).map (fun i => sumI (winB l m i)) = M2 := ⟨_, rfl⟩
        rw [hM2] at hnx hown hfl
        have Hnx := Lib.hid hnx
        obtain ⟨B', d', rfl, hcd, _⟩ := Own.form encI_len hown.out
        have hsz := hbl.size
        have hwl := winB_len (l := l) (n := m) hlt
        have hws : Sm (winB l m k) := (hsm.drop _).take _
        obtain ⟨lo, hlo⟩ : ∃ lo, k + 1 - m = lo := ⟨_, rfl⟩
        have hwg : ∀ j (hj : j < (winB l m k).length) (h2 : lo + j < l.length), (winB l m k)[j] = l[lo + j] := by subst hlo; intro j hj h2; simp [winB]
        have Hwg := Lib.hid hwg
        have hlow : max (0 : Int) ((k : Int) - m + 1) = (lo : Int) := by omega
        have hmo := fun W => l1Most_any 0 ((k : Int) - m + 1) W
        rw [hlow] at hmo
        rw [hlo] at hwl
        have hlk : lo ≤ k := by omega
        have Hmo := Lib.hid hmo
        generalize winB l m k = V at *
        have Hwl := Lib.hid hwl
        clear hM2 hnx hlow hmo hlo hwg
        skip
        go_wp2_with fail
        refine (Hmo.out _).mono ?_
        rintro e w2 ⟨rfl, rfl⟩
        go_wp2
        go_loop [8, 9] (fun t j => ∃ q : Nat, q ≤ V.length ∧ j = .int .i64 ((lo + q : Nat) : Int) ∧ t = .int .i64 (sumI (V.take q))) (fun _ j => k + 1 - (intOf j).toNat)
        case atStart => exact ⟨0, Nat.zero_le _, rfl, rfl⟩
        case round =>
          obtain ⟨q, hq, rfl, rfl⟩ := hrel
          by_cases hqlt : q < V.length
          · have hql : lo + q < l.length := by have := Hwl.out; omega
            obtain ⟨b, off, rfl, hb, c0⟩ := cellsI (h.below hbl) hql
            have hbd := sumI_bd hws q hq
            have hok := hws _ (List.getElem_mem hqlt)
            have hsu := sumI_succ V q hqlt
            have hg := Hwg.out q hqlt hql
            rw [← hg] at c0
            generalize V[q] = x at *
            have Hs := Lib.hid hsu
            have hle : ((lo + q : Nat) : Int) ≤ (k : Int) := by have := Hwl.out; omega
            have hle2 : lo + q ≤ k := by omega
            have hq24 : q ≤ 24 := by have := Hwl.out; omega
            clear hsu hg
            obtain ⟨p, hp⟩ : ∃ p, lo + q = p := ⟨_, rfl⟩
            have hp1 : ((lo + (q + 1) : Nat) : Int) = (p : Int) + 1 := by omega
            rw [hp] at c0 hle hle2 ⊢
            have Hp1 := Lib.hid hp1
            clear hp hp1
            go_wp2
            go_round
            case rel => exact ⟨q + 1, by omega, by rw [Hp1.out], by rw [Hs.out]⟩
            case measure => simp [intOf]; omega
          · have hq2 : q = V.length := by omega
            have hle : ¬ ((lo + q : Nat) : Int) ≤ (k : Int) := by have := Hwl.out; omega
            have hle2 : ¬ lo + q ≤ k := by omega
            have htk : V.take q = V := List.take_of_length_le (by omega)
            rw [htk]
            generalize sumI V = S at *
            obtain ⟨p, hp⟩ : ∃ p, lo + q = p := ⟨_, rfl⟩
            rw [hp] at hle hle2 ⊢
            clear htk hq2 hp
            go_wp2_with (at_builtin; refine wpList_app1 rfl _ _ 22 rfl w.heap.size 3 i0 _ 1 8 Try.underlying22 hi hz0 hz1 hz2 rfl (by omega) (by omega) encI encI_len encI_one (.slice B' M2.length d') M2 S wo _ rfl _ rfl hown.out rfl hfl (by omega) ?_; intro v' w2 hown2 hb2 _)
            have Hown2 := Lib.hid hown2
            have hbl2 := hbl.trans hb2
            clear hown2 hb2
            go_wp2
            go_roundw
            case rel => exact ⟨k + 1, by omega, by go_num, by rw [Hnx.out]; exact Hown2.out, hbl2⟩
            case measure => simp [intOf]; omega
      · have hke : k = l.length := by omega
        have hown' : Own encI 1 wo w.heap.size 3 u6 M := by rw [HM.out, ← hke]; exact hown.out
        obtain ⟨B', d', e6, hcd, _⟩ := Own.form encI_len hown'
        have hMl : M.length = l.length := by rw [HM.out]; simp
        rw [hMl] at e6 hcd
        subst e6
        have Hown := Lib.hid hown'
        clear hown hown' hke hMl
        go_wp2
        go_ret2
        exact ⟨_, _, rfl, hcd, Hown.out, hbl⟩

end Go.Proofs.Ytabnnkallgcmgaa
