/-
  Contracts of Weighted. (Printed by gen_F2.py.)
-/
import Derived.Test.YtabnnkallgcmgaaWts
namespace Go.Proofs.Ytabnnkallgcmgaa
set_option linter.unusedVariables false
open Go.RowKit

set_option maxRecDepth 100000 in
set_option maxHeartbeats 1000000 in
theorem Weighted1_any (A A2 : Option Addr) (c c2 : Nat) (l ws : List Int) (i : Nat) (q0 q1 : Nat) (W : World) (h0 : Blk W q0 22 #[.slice A l.length c]) (h1 : Blk W q1 22 #[.slice A2 ws.length c2]) (h : Rd encI 1 W W.heap.size A l) (h2 : Rd encI 1 W W.heap.size A2 ws) (hs : Sm l) (hl : l.length ≤ 24) (hw : ∀ x ∈ ws, -100 ≤ x ∧ x ≤ 100) (hwl : ws.length ≤ 5) (hi : i < l.length) :
    Calls Try.prog 54 #[.int .i64 i, .pointer (some ⟨q1, 0, none⟩), .pointer (some ⟨q0, 0, none⟩)] W fun e w' => e = .returned (.int .i64 (wtS l ws i ws.length)) ∧ W = w' := by
  have c0 := h0.cell 0
  have c1 := h1.cell 0
  simp only [List.getElem?_toArray, List.getElem?_cons_zero] at c0 c1
  obtain ⟨S, hS⟩ : ∃ S : Nat → Int, wtS l ws i = S := ⟨_, rfl⟩
  have hbd := wtS_bd hs hw i hi
  rw [hS] at hbd ⊢
  have HS := Lib.hid hS
  have Hbd := Lib.hid hbd
  clear hS hbd
  go_enter Try.func54, Try.ntmps54
  go_wp2
  go_loop [5, 10] (fun t j => ∃ k : Nat, k ≤ ws.length ∧ j = .int .i64 k ∧ t = .int .i64 (S k)) (fun _ j => ws.length - (intOf j).toNat)
  case atStart => exact ⟨0, Nat.zero_le _, rfl, by rw [← HS.out]; rfl⟩
  case round =>
    obtain ⟨k, hk, rfl, rfl⟩ := hrel
    by_cases hlt : k < ws.length
    · obtain ⟨b, off, rfl, hb, d0⟩ := cellsI h2 hlt
      have hwk := hw _ (List.getElem_mem hlt)
      have hb1 := Hbd.out k hk
      have hst : S (k + 1) = if k ≤ i then S k + ws.getD k 0 * l.getD (i - k) 0 else S k := by rw [← HS.out]; rfl
      have ha : ws.getD k 0 = ws[k] := by rw [List.getD_eq_getElem?_getD, List.getElem?_eq_getElem hlt]; rfl
      rw [ha] at hst
      clear ha
      by_cases hki : k ≤ i
      · have hik : i - k < l.length := by omega
        obtain ⟨b', off', rfl, hb', e0⟩ := cellsI h hik
        have hlk := hs _ (List.getElem_mem hik)
        have ha : l.getD (i - k) 0 = l[i - k] := by rw [List.getD_eq_getElem?_getD, List.getElem?_eq_getElem hik]; rfl
        rw [if_pos hki, ha] at hst
        clear ha
        generalize l[i - k] = y at *
        generalize ws[k] = x at *
        have hm := mul_bd hwk.1 hwk.2 hlk.1 hlk.2
        obtain ⟨m1, m2⟩ := hm
        have Hst := Lib.hid hst
        have hki' : (k : Int) ≤ (i : Int) := by omega
        clear hst
        generalize hT : S k = T at *
        clear hT
        go_wp2
        go_round
        case rel => exact ⟨k + 1, by omega, by go_num, by rw [Hst.out]⟩
        case measure => simp [intOf]; omega
      · rw [if_neg hki] at hst
        generalize ws[k] = x at *
        have Hst := Lib.hid hst
        clear hst
        have hki' : ¬ (k : Int) ≤ (i : Int) := by omega
        generalize hT : S k = T at *
        clear hT
        go_wp2
        go_round
        case rel => exact ⟨k + 1, by omega, by go_num, by rw [Hst.out]⟩
        case measure => simp [intOf]; omega
    · have hke : k = ws.length := by omega
      have Hke := Lib.hid hke
      clear hke
      go_wp2
      go_ret
      exact ⟨ret_int (by rw [Hke.out]), rfl⟩

end Go.Proofs.Ytabnnkallgcmgaa
