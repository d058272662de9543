/-
  Contracts of IsOnAt. (Printed by gen_B6.py.)
-/
import Derived.Test.YtaemdldpcpefbaaOnPl
namespace Go.Proofs.Ytaemdldpcpefbaa
set_option linter.unusedVariables false
open Go.RowKit

def okOA (l : List Int) (s : Setting) (p : Int) : Bool := okT l s && inB p 0 ((l.length : Int) - 1)
def isIn (p : Int) (x : Int × Int) : Bool := inB p x.1 (x.2 - 1)
def oaV (l : List Int) (s : Setting) (p : Int) : Bool := if okOA l s p then (spans l s).any (isIn p) else false

theorem IsOnAt1_any (x : Int × Int) (p : Int) (q : Nat) (W : World) (hq : Blk W q 3 #[.int .i64 p]) (h1 : 0 ≤ x.2) (h2 : x.2 ≤ 1000) :
    Calls Try.prog 61 #[.agg #[.int .i64 x.1, .int .i64 x.2], .pointer (some ⟨q, 0, none⟩)] W fun e w' => e = .returned (.bool (isIn p x)) ∧ Below W.heap.size W w' := by
  have hlt := hq.lt
  have hne : ¬ q = W.heap.size := by omega
  have c0 := hq.cell 0
  simp only [List.getElem?_toArray, List.getElem?_cons_zero] at c0
  clear hq
  unfold isIn
  obtain ⟨x0, x1⟩ := x
  simp only at *
  go_enter Try.func61, Try.ntmps61
  go_wp2_with (go_at_call 51; refine (in_any _ _ _ _).mono ?_; rintro e w' ⟨rfl, rfl⟩)
  go_ret
  exact ⟨rfl, (Below.refl _ _).alloc (Nat.le_refl _) _⟩

set_option maxRecDepth 100000 in
set_option maxHeartbeats 1000000 in
theorem IsOnAt_any (A : Option Addr) (c : Nat) (l : List Int) (s : Setting) (p : Int) (w : World) (h : Rd encI 1 w w.heap.size A l) (hl : l.length ≤ 1048576) (hc : l.length ≤ c ∧ c ≤ maxLen) :
    Calls Try.prog 28 #[.slice A l.length c, .agg #[.int .i64 s.short, .int .i64 s.long, .int .i64 s.on, .int .i64 s.off], .int .i64 p] w fun e w' => e = .returned (.tuple #[.bool (oaV l s p), .bool (okOA l s p)]) ∧ Below w.heap.size w w' := by
  unfold oaV
  obtain ⟨sho, lon, on, of⟩ := s
  have hb0 : Below w.heap.size w ((w.alloc (.cells #[.int .i64 sho, .int .i64 lon, .int .i64 on, .int .i64 of] 25)).alloc (.cells #[.int .i64 p] 3)) := by (repeat (first | with_reducible exact Below.refl _ _ | with_reducible assumption | with_reducible refine Below.setCell ?_ (by simp <;> omega) _ | with_reducible refine Below.alloc ?_ (by first | omega | (simp <;> omega)) _ | with_reducible refine Below.drew ?_ | with_reducible refine below_drewN ?_ _))
  have HB0 := Lib.hid ((Blk.new w 25 #[.int .i64 sho, .int .i64 lon, .int .i64 on, .int .i64 of]).alloc (.cells #[.int .i64 p] 3))
  have HP0 : Hid (Blk ((w.alloc (.cells #[.int .i64 sho, .int .i64 lon, .int .i64 on, .int .i64 of] 25)).alloc (.cells #[.int .i64 p] 3)) (w.heap.size + 1) 3 #[.int .i64 p]) := by
    have hq := Blk.new (w.alloc (.cells #[.int .i64 sho, .int .i64 lon, .int .i64 on, .int .i64 of] 25)) 3 #[.int .i64 p]
    simp at hq; exact hq
  have hr := (h.below hb0).more hb0.size
  cases ht : okT l ⟨sho, lon, on, of⟩ with
  | false =>
    have hk : okOA l ⟨sho, lon, on, of⟩ p = false := by simp [okOA, ht]
    simp only [hk, Bool.false_eq_true, if_false]
    go_enter Try.func28, Try.ntmps28
    go_wp2_with (go_at_call 56; refine (isTriggered_any A c l ⟨sho, lon, on, of⟩ _ hr hl).mono ?_; rintro e w1 ⟨rfl, hb1⟩; have HB1 := Lib.hid (HB0.out.after hb1); have HP1 := Lib.hid (HP0.out.after hb1); obtain ⟨b0, b1, b2, b3⟩ := box4 HB1.out; have p0 := HP1.out.cell 0; simp only [List.getElem?_toArray, List.getElem?_cons_zero] at p0; have hB1 := hb0.trans (hb1.mono hb0.size); have hr1 := hr.after hb1)
    go_ret2
    exact ⟨rfl, hB1⟩
  | true =>
    cases hi : inB p 0 ((l.length : Int) - 1) with
    | false =>
      have hk : okOA l ⟨sho, lon, on, of⟩ p = false := by simp [okOA, hi]
      simp only [hk, Bool.false_eq_true, if_false]
      go_enter Try.func28, Try.ntmps28
      go_wp2_with (first | (go_at_call 56; refine (isTriggered_any A c l ⟨sho, lon, on, of⟩ _ hr hl).mono ?_; rintro e w1 ⟨rfl, hb1⟩; have HB1 := Lib.hid (HB0.out.after hb1); have HP1 := Lib.hid (HP0.out.after hb1); obtain ⟨b0, b1, b2, b3⟩ := box4 HB1.out; have p0 := HP1.out.cell 0; simp only [List.getElem?_toArray, List.getElem?_cons_zero] at p0; have hB1 := hb0.trans (hb1.mono hb0.size); have hr1 := hr.after hb1) | (go_at_call 51; refine (in_any _ _ _ _).mono ?_; rintro e w' ⟨rfl, rfl⟩))
      go_ret2
      exact ⟨rfl, hB1⟩
    | true =>
      have hk : okOA l ⟨sho, lon, on, of⟩ p = true := by simp [okOA, hi, ht]
      simp only [hk, if_true]
      clear hk
      obtain ⟨⟨hl24, hsm⟩, hg⟩ := okT_iff.1 ht
      have hbd := spans_bd' (l := l) hg
      have hsl := spans_len l ⟨sho, lon, on, of⟩
      obtain ⟨L, hL⟩ : ∃ L, spans l ⟨sho, lon, on, of⟩ = L := ⟨_, rfl⟩
      rw [hL] at hbd hsl ⊢
      have HL := Lib.hid hL
      have Hbd := Lib.hid hbd
      obtain ⟨M, hM⟩ : ∃ M, L.filter (isIn p) = M := ⟨_, rfl⟩
      have hany : L.any (isIn p) = decide (0 < M.length) := by
        rw [← hM, Bool.eq_iff_iff, List.any_eq_true, decide_eq_true_eq]
        constructor
        · rintro ⟨x, hx, hp⟩
          have := List.length_pos_of_mem (List.mem_filter.2 ⟨hx, hp⟩)
          omega
        · intro h0
          obtain ⟨x, hx⟩ := List.exists_mem_of_length_pos (show 0 < (L.filter (isIn p)).length by omega)
          exact ⟨x, (List.mem_filter.1 hx).1, (List.mem_filter.1 hx).2⟩
      rw [hany]
      have HM := Lib.hid hM
      clear hL hbd hany hM
      have hmf : ∀ (fn : Fn) (first cap : Array Value) (w : World), (Instr.makeFunc fn first cap).run Try.prog w = .ok (.func fn first cap) w := fun _ _ _ _ => rfl
      go_enter Try.func28, Try.ntmps28
      go_wp2_with (first | (go_at_call 56; refine (isTriggered_any A c l ⟨sho, lon, on, of⟩ _ hr hl).mono ?_; rintro e w1 ⟨rfl, hb1⟩; have HB1 := Lib.hid (HB0.out.after hb1); have HP1 := Lib.hid (HP0.out.after hb1); obtain ⟨b0, b1, b2, b3⟩ := box4 HB1.out; have p0 := HP1.out.cell 0; simp only [List.getElem?_toArray, List.getElem?_cons_zero] at p0; have hB1 := hb0.trans (hb1.mono hb0.size); have hr1 := hr.after hb1) | (go_at_call 51; refine (in_any _ _ _ _).mono ?_; rintro e w' ⟨rfl, rfl⟩))
      refine (spans_any A c l ⟨sho, lon, on, of⟩ _ hr1 hsm hl24 hc hg).mono ?_
      rintro e w2 ⟨v, rfl, hown, hb2⟩
      rw [HL.out] at hown
      obtain ⟨A', c', rfl, hcc, hrd⟩ := Own.form enc2_len hown
      have hB2 := hB1.trans (hb2.mono hB1.size)
      have HP2 := Lib.hid (HP1.out.after hb2)
      have hcon := filter2_any 61 #[.pointer (some ⟨w.heap.size + 1, 0, none⟩)] (enters_of Try.func61 (by kernel_rfl) rfl) A' c' L (isIn p) w2 hrd (by omega) (fun W x hx hW => by
        have := Hbd.out x hx
        exact IsOnAt1_any x p (w.heap.size + 1) W (HP2.out.after hW) (by omega) (by omega))
      rw [HM.out] at hcon
      have Hcon := Lib.hid hcon
      clear hcon hown hrd b0 b1 b2 b3 p0 ht hi
      go_wp2_with fail
      refine Hcon.out.mono ?_
      rintro e w3 ⟨v, rfl, hown3, hb3⟩
      obtain ⟨A3, c3, rfl, hcc3, _⟩ := Own.form enc2_len hown3
      clear hown3
      go_wp2
      go_ret2
      exact ⟨rfl, hB2.trans (hb3.mono hB2.size)⟩

set_option maxRecDepth 100000 in
set_option maxHeartbeats 1000000 in
theorem sIsOnAt_any (A : Option Addr) (c : Nat) (l : List Int) (s : Setting) (p : Int) (w : World) (h : Rd encI 1 w w.heap.size A l) (hl : l.length ≤ 1048576) (hc : l.length ≤ c ∧ c ≤ maxLen) :
    Calls Try.prog 27 #[.slice A l.length c, .agg #[.int .i64 s.short, .int .i64 s.long, .int .i64 s.on, .int .i64 s.off], .int .i64 p] w fun e w' => e = .returned (.tuple #[.bool (oaV l s p), .bool (okOA l s p)]) ∧ Below w.heap.size w w' := by
  unfold oaV
  obtain ⟨sho, lon, on, of⟩ := s
  have HB0 := Lib.hid (Blk.new w 25 #[.int .i64 sho, .int .i64 lon, .int .i64 on, .int .i64 of])
  have hr := (h.alloc (Nat.le_refl _) (.cells #[.int .i64 sho, .int .i64 lon, .int .i64 on, .int .i64 of] 25)).more (B' := (w.alloc (.cells #[.int .i64 sho, .int .i64 lon, .int .i64 on, .int .i64 of] 25)).heap.size) (by simp)
  have hb0 : Below w.heap.size w (w.alloc (.cells #[.int .i64 sho, .int .i64 lon, .int .i64 on, .int .i64 of] 25)) := (Below.refl _ _).alloc (Nat.le_refl _) _
  cases ht : okT l ⟨sho, lon, on, of⟩ with
  | false =>
    have hk : okOA l ⟨sho, lon, on, of⟩ p = false := by simp [okOA, ht]
    simp only [hk, Bool.false_eq_true, if_false]
    go_enter Try.func27, Try.ntmps27
    go_wp2_with (go_at_call 52; refine (l9Asked_any A c l ⟨sho, lon, on, of⟩ _ hr hl).mono ?_; rintro e w1 ⟨rfl, hb1⟩; have HB1 := Lib.hid (HB0.out.after hb1); obtain ⟨b0, b1, b2, b3⟩ := box4 HB1.out; have hB1 := hb0.trans (hb1.mono (by simp)); have hr1 := hr.after hb1)
    go_ret2
    exact ⟨rfl, hB1⟩
  | true =>
    cases hi : inB p 0 ((l.length : Int) - 1) with
    | false =>
      have hk : okOA l ⟨sho, lon, on, of⟩ p = false := by simp [okOA, hi]
      simp only [hk, Bool.false_eq_true, if_false]
      go_enter Try.func27, Try.ntmps27
      go_wp2_with (first | (go_at_call 52; refine (l9Asked_any A c l ⟨sho, lon, on, of⟩ _ hr hl).mono ?_; rintro e w1 ⟨rfl, hb1⟩; have HB1 := Lib.hid (HB0.out.after hb1); obtain ⟨b0, b1, b2, b3⟩ := box4 HB1.out; have hB1 := hb0.trans (hb1.mono (by simp)); have hr1 := hr.after hb1) | (go_at_call 53; refine (l1In_any _ _ _ _).mono ?_; rintro e w' ⟨rfl, rfl⟩))
      go_ret2
      exact ⟨rfl, hB1⟩
    | true =>
      have hk : okOA l ⟨sho, lon, on, of⟩ p = true := by simp [okOA, hi, ht]
      simp only [hk, if_true]
      clear hk
      obtain ⟨⟨hl24, hsm⟩, hg⟩ := okT_iff.1 ht
      have hbd := spans_bd' (l := l) hg
      have hsl := spans_len l ⟨sho, lon, on, of⟩
      obtain ⟨L, hL⟩ : ∃ L, spans l ⟨sho, lon, on, of⟩ = L := ⟨_, rfl⟩
      rw [hL] at hbd hsl ⊢
      have HL := Lib.hid hL
      have Hbd := Lib.hid hbd
      obtain ⟨r, hr0⟩ : ∃ r, L.any (isIn p) = r := ⟨_, rfl⟩
      rw [hr0]
      have Hr := Lib.hid hr0
      clear hL hbd hr0
      go_enter Try.func27, Try.ntmps27
      go_wp2_with (first | (go_at_call 52; refine (l9Asked_any A c l ⟨sho, lon, on, of⟩ _ hr hl).mono ?_; rintro e w1 ⟨rfl, hb1⟩; have HB1 := Lib.hid (HB0.out.after hb1); obtain ⟨b0, b1, b2, b3⟩ := box4 HB1.out; have hB1 := hb0.trans (hb1.mono (by simp)); have hr1 := hr.after hb1) | (go_at_call 53; refine (l1In_any _ _ _ _).mono ?_; rintro e w' ⟨rfl, rfl⟩))
      refine (l9On_any A c l ⟨sho, lon, on, of⟩ _ hr1 hsm hl24 hg).mono ?_
      rintro e w2 ⟨v, rfl, hown, hb2⟩
      rw [HL.out] at hown
      obtain ⟨A', c', rfl, hcc, hrd⟩ := Own.form enc2_len hown
      have hB2 := hB1.trans (hb2.mono hB1.size)
      have hrd' : Rd enc2 2 w2 w2.heap.size A' L := hrd
      clear hown hrd b0 b1 b2 b3 ht hi
      go_wp2
      go_loopw [9] (fun i wr => ∃ k : Nat, k ≤ L.length ∧ i = .int .i64 k ∧ Hid ((L.take k).any (isIn p) = false) ∧ Below w2.heap.size w2 wr) (fun i _ => L.length - (intOf i).toNat)
      case atStart => exact ⟨0, Nat.zero_le _, rfl, rfl, Below.refl _ _⟩
      case round =>
        obtain ⟨k, hk, rfl, Hn, hbl⟩ := hrel
        by_cases hlt : k < L.length
        · obtain ⟨b, off, rfl, hb, c0, c1⟩ := cells2 (hrd'.below hbl) hlt
          have hx := Hbd.out _ (List.getElem_mem hlt)
          have hyes := fun (h1 : isIn p L[k] = true) => any_true_of (isIn p) L k hlt h1
          have hno := any_take_succ (isIn p) L k hlt
          rw [Hn.out, Bool.false_or] at hno
          rw [Hr.out] at hyes
          generalize L[k] = x at *
          obtain ⟨x0, x1⟩ := x
          simp only at c0 c1 hx
          have Hyes := Lib.hid hyes
          have Hno := Lib.hid hno
          clear hyes hno
          have hin := fun W => l1In_any p x0 (x1 - 1) W
          cases hc : inB p x0 (x1 - 1) with
          | true =>
            have h1 := Lib.hid (Hyes.out hc)
            rw [hc] at hin
            have Hin := Lib.hid hin
            clear hc hin
            go_wp2_with fail
            go_quiet ((go_at_call 53; exact quiet_left (Hin.out _)))
            go_wp2
            go_ret2
            exact ⟨by rw [h1.out]; rfl, below_drewN (hB2.trans (hbl.mono hB2.size)) _⟩
          | false =>
            have h1 : Hid ((L.take (k + 1)).any (isIn p) = false) := Lib.hid (Hno.out.trans hc)
            rw [hc] at hin
            have Hin := Lib.hid hin
            clear hc hin
            go_wp2_with fail
            go_quiet ((go_at_call 53; exact quiet_left (Hin.out _)))
            go_wp2
            go_roundw
            case rel => exact ⟨k + 1, by omega, by go_num, h1.out, below_drewN hbl _⟩
            case measure => simp [intOf]; omega
        · have he := Hn.out
          rw [List.take_of_length_le (by omega), Hr.out] at he
          have He := Lib.hid he
          clear he
          go_wp2
          go_ret2
          exact ⟨by rw [He.out]; rfl, hB2.trans (hbl.mono hB2.size)⟩

end Go.Proofs.Ytaemdldpcpefbaa
