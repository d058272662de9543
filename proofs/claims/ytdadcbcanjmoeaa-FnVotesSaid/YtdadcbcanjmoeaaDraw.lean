/-
  Words for the functions that draw: a cursor's start, a number among literals, an owned list beside the cursor.
-/
import Derived.Test.YtdadcbcanjmoeaaCur
import Derived.Test.YtdadcbcanjmoeaaInts
namespace Go.Proofs.Ytdadcbcanjmoeaa
set_option linter.unusedVariables false
open Go.RowKit

/-- A new cursor. -/
theorem Cur.new {w : World} {A : Option Addr} {c : Nat} {l : List Int} (h : Rd encB 1 w w.heap.size A l) (hl : l.length ≤ 1048576) (hb : ∀ n ∈ l, 0 ≤ n ∧ n ≤ 255) :
    Cur (w.alloc (.cells #[.slice A l.length c, .int .i64 0, .int .u64 0] 107)) w.heap.size 0 :=
  ⟨A, c, l, 0, 0, Blk.new _ _ _, h.alloc (Nat.le_refl _) _, hl, by omega, by omega, hb⟩
/-- A byte slice's numbers are bytes. -/
theorem bytes_of {l : List Int} (h : ∀ n ∈ l, (Lit.int .u8 n).wf = true) : ∀ n ∈ l, 0 ≤ n ∧ n ≤ 255 := fun n hn => by
  have := h n hn
  have e1 : IntKind.u8.min = 0 := by decide
  have e2 : IntKind.u8.max = 255 := by decide
  simp [Lit.wf, e1, e2] at this
  omega

theorem Own.cur {α : Type} {enc : α → List Value} {k : Nat} {w w' : World} {base : Nat} {E : TypeId} {v : Value} {l : List α} {g m : Nat} (h : Own enc k w base E v l) (hC : Cur w g m) (hg : w.grownBy w' (some g)) (hne : E ≠ 107) : Own enc k w' base E v l := by
  obtain ⟨cs, hB⟩ := hC.blk
  exact h.only hg hB hne
theorem only_belowB {a b c : World} {row : Option Nat} {base : Nat} (h : a.grownBy b row) (k : Below base b c) (hb : a.heap.size ≤ base) : a.grownBy c row :=
  ⟨k.os.trans h.os, k.tape.trans h.tape, k.output.trans h.output, Nat.le_trans h.size k.size, fun i hi hne => (k.block i (Nat.lt_of_lt_of_le hi hb)).trans (h.block i hi hne)⟩
theorem Cur.belowB {w w' : World} {g m base : Nat} (h : Cur w g m) (hb : Below base w w') (hg : g < base) : Cur w' g m := h.below (hb.mono hg)
/-- Where the cursor is the call's own, all that lay below stands. -/
theorem below_of_cur {w w0 w' : World} {g : Nat} (h0 : Below w.heap.size w w0) (hg : w.heap.size ≤ g) (h : w0.grownBy w' (some g)) : Below w.heap.size w w' :=
  ⟨h.os.trans h0.os, h.tape.trans h0.tape, h.output.trans h0.output, Nat.le_trans h0.size h.size, fun i hi => (h.block i (Nat.lt_of_lt_of_le hi h0.size) (by intro e; injection e; omega)).trans (h0.block i hi)⟩

/-- One of some numbers, written out. -/
theorem among_lit (g m : Nat) (ls : List Int) (cs : Array Value) (n : Nat) (w : World) (q : Nat) (hcs : cs.toList = ls.map fun x => Value.int .i64 x) (hn : ls.length = n) (hq : q = w.heap.size) (h : Cur w g m) (hm : m ≤ 900000000) (h1 : 1 ≤ n) (h2 : n ≤ 1000) :
    Calls Try.prog 98 #[.pointer (some ⟨g, 0, none⟩), .slice (some ⟨q, 0, none⟩) n n] (w.alloc (.cells cs 3)) fun e w' => ∃ x : Int, e = .returned (.int .i64 x) ∧ x ∈ ls ∧ Cur w' g (m + 2) ∧ w.grownBy w' (some g) := by
  subst hn hq
  have hb : Below w.heap.size w (w.alloc (.cells cs 3)) := by (repeat (first | with_reducible exact Below.refl _ _ | with_reducible assumption | with_reducible refine Below.setCell ?_ (by simp <;> omega) _ | with_reducible refine Below.alloc ?_ (by first | omega | (simp <;> omega)) _ | with_reducible refine Below.drew ?_ | with_reducible refine below_drewN ?_ _))
  have hr : Rd encI 1 (w.alloc (.cells cs 3)) (w.alloc (.cells cs 3)).heap.size (some ⟨w.heap.size, 0, none⟩) ls := fun _ =>
    ⟨w.heap.size, 0, rfl, by simp, fun j x hx i v hv => by
      have hi : i = 0 := by
        have := (List.getElem?_eq_some_iff.1 hv).1
        simp [encI] at this; omega
      subst hi
      rw [(Blk.new w 3 cs).cell, ← Array.getElem?_toList, hcs, List.getElem?_map]
      simp [hx]
      simpa [encI] using hv⟩
  refine (among_any g m _ _ ls _ (h.after hb) hm ⟨_, _, rfl, by have := h.lt; omega⟩ hr h1 h2).mono ?_
  rintro e w' ⟨x, he, hx, hc, hg⟩
  exact ⟨x, he, hx, hc, only_trans (only_of_below hb _) hg⟩

/-- A row in which one element has been written over. -/
theorem Own.set_ {α : Type} {enc : α → List Value} {k : Nat} (hk : ∀ x, (enc x).length = k) {w : World} {base g c j : Nat} {E : TypeId} {cs : Array Value} {l : List α} {y : α} (hb : base ≤ g) (hB : Blk w g E (storeL cs (j * k) (enc y))) (hs : cs.size = c * k) (hn : l.length ≤ c) (hm : c ≤ maxLen) (hj : j < l.length)
    (htk : cs.toList.take (l.length * k) = flat enc l) : Own enc k w base E (.slice (some ⟨g, 0, none⟩) l.length c) (l.set j y) := by
  refine Own.over hk hb hB (by rw [storeL_size, hs]) (by simp) hn hm ?_
  intro q x hx i v hv
  have hi : i < k := by
    have := (List.getElem?_eq_some_iff.1 hv).1
    rwa [hk] at this
  have hql : q < l.length := by
    have := (List.getElem?_eq_some_iff.1 hx).1
    simpa using this
  have hjc : (j + 1) * k ≤ c * k := Nat.mul_le_mul_right k (by omega)
  rw [Nat.add_mul] at hjc
  by_cases e : q = j
  · subst e
    rw [List.getElem?_set_self hql] at hx
    injection hx with hx
    subst hx
    rw [storeL_at _ _ _ _ (by rw [hk]; exact hi) (by rw [hk, hs]; omega)]
    exact hv
  · rw [List.getElem?_set_ne (fun h => e h.symm)] at hx
    have h1 := flat_get hk l q x hx i hi
    rw [← htk, List.getElem?_take_of_lt (by have : (q + 1) * k ≤ l.length * k := Nat.mul_le_mul_right k hql; rw [Nat.add_mul] at this; omega), hv] at h1
    rw [Array.getElem?_toList] at h1
    rcases Nat.lt_or_gt_of_ne e with h2 | h2
    · have : (q + 1) * k ≤ j * k := Nat.mul_le_mul_right k h2
      rw [Nat.add_mul] at this
      rw [storeL_before _ _ _ _ (by omega)]
      exact h1
    · have : (j + 1) * k ≤ q * k := Nat.mul_le_mul_right k h2
      rw [Nat.add_mul] at this
      rw [storeL_after _ _ _ _ (by rw [hk]; omega)]
      exact h1

end Go.Proofs.Ytdadcbcanjmoeaa
