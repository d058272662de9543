/-
  Contracts over slices of pairs: comparisons, marks, filter. (Printed by gen_B4.py.)
-/
import Derived.Test.YtaemdldpcpefbaaLongest
import Derived.Test.YtaemdldpcpefbaaInts
namespace Go.Proofs.Ytaemdldpcpefbaa
set_option linter.unusedVariables false
open Go.RowKit

def eqb2 (x y : Int × Int) : Bool := x.1 == y.1 && x.2 == y.2
theorem eqb2_iff {x y : Int × Int} : eqb2 x y = true ↔ x = y := by
  simp only [eqb2, Bool.and_eq_true, beq_iff_eq]
  constructor
  · rintro ⟨h1, h2⟩; exact Prod.ext h1 h2
  · rintro rfl; exact ⟨rfl, rfl⟩
def eqs2 (l m : List (Int × Int)) : Bool := decide (l = m)
theorem eqs2_iff {l m : List (Int × Int)} : eqs2 l m = true ↔ l = m := by simp [eqs2]
theorem eqs2_no {l m : List (Int × Int)} {j : Nat} (h1 : j < l.length) (h2 : j < m.length) (h : eqb2 l[j] m[j] = false) : eqs2 l m = false := by
  rw [Bool.eq_false_iff]
  intro ht
  rw [eqs2_iff] at ht
  subst ht
  rw [eqb2_iff.2 rfl] at h
  cases h

set_option maxHeartbeats 1000000 in
theorem eq2_any (x0 x1 y0 y1 : Int) (w : World) :
    Calls Try.prog 63 #[.agg #[.int .i64 x0, .int .i64 x1], .agg #[.int .i64 y0, .int .i64 y1]] w fun e w' => e = .returned (.bool (eqb2 (x0, x1) (y0, y1))) ∧ Below w.heap.size w w' := by
  by_cases h0 : x0 = y0
  · have e0 : (x0 != y0) = false := by simp [h0]
    by_cases h1 : x1 = y1
    · have e1 : (x1 != y1) = false := by simp [h1]
      have hv : eqb2 (x0, x1) (y0, y1) = true := by rw [h0, h1]; simp [eqb2]
      rw [hv]
      clear hv h0 h1
      go_enter Try.func63, Try.ntmps63
      go_wp2
      refine wp_loop_rounds 3 ?_
      rw [rounds_succ]
      go_wp2_with fail
      go_quiet (fail)
      go_wp2
      rw [rounds_succ]
      go_wp2_with fail
      go_quiet (fail)
      go_wp2
      rw [rounds_succ]
      go_wp2
      go_ret
      refine ⟨rfl, ?_⟩
      (repeat (first | with_reducible exact Below.refl _ _ | with_reducible assumption | with_reducible refine Below.setCell ?_ (by simp <;> omega) _ | with_reducible refine Below.alloc ?_ (by first | omega | (simp <;> omega)) _ | with_reducible refine Below.drew ?_ | with_reducible refine below_drewN ?_ _))
    · have e1 : (x1 != y1) = true := by simp [h1]
      have hv : eqb2 (x0, x1) (y0, y1) = false := by simp [eqb2, h1]
      rw [hv]
      clear hv h0 h1
      go_enter Try.func63, Try.ntmps63
      go_wp2
      refine wp_loop_rounds 2 ?_
      rw [rounds_succ]
      go_wp2_with fail
      go_quiet (fail)
      go_wp2
      rw [rounds_succ]
      go_wp2_with fail
      go_quiet (fail)
      go_wp2
      go_ret
      refine ⟨rfl, ?_⟩
      (repeat (first | with_reducible exact Below.refl _ _ | with_reducible assumption | with_reducible refine Below.setCell ?_ (by simp <;> omega) _ | with_reducible refine Below.alloc ?_ (by first | omega | (simp <;> omega)) _ | with_reducible refine Below.drew ?_ | with_reducible refine below_drewN ?_ _))
  · have e0 : (x0 != y0) = true := by simp [h0]
    have hv : eqb2 (x0, x1) (y0, y1) = false := by simp [eqb2, h0]
    rw [hv]
    clear hv h0
    go_enter Try.func63, Try.ntmps63
    go_wp2
    refine wp_loop_rounds 1 ?_
    rw [rounds_succ]
    go_wp2_with fail
    go_quiet (fail)
    go_wp2
    go_ret
    refine ⟨rfl, ?_⟩
    (repeat (first | with_reducible exact Below.refl _ _ | with_reducible assumption | with_reducible refine Below.setCell ?_ (by simp <;> omega) _ | with_reducible refine Below.alloc ?_ (by first | omega | (simp <;> omega)) _ | with_reducible refine Below.drew ?_ | with_reducible refine below_drewN ?_ _))

set_option maxRecDepth 100000 in
set_option maxHeartbeats 400000 in
theorem eq2S_any (A A' : Option Addr) (c c' : Nat) (l m : List (Int × Int)) (w : World) (h : Rd enc2 2 w w.heap.size A l) (h' : Rd enc2 2 w w.heap.size A' m) (hl : l.length ≤ 1048576) :
    Calls Try.prog 37 #[.slice A l.length c, .slice A' m.length c'] w fun e w' => e = .returned (.bool (eqs2 l m)) ∧ Below w.heap.size w w' := by
  by_cases hn : l.length = m.length
  · have hb : ((l.length : Int) != (m.length : Int)) = false := by simp [hn]
    have Hn := Lib.hid hn
    clear hn
    go_enter Try.func37, Try.ntmps37
    go_wp2
    go_loopw [5] (fun i wr => ∃ k : Nat, k ≤ l.length ∧ i = .int .i64 k ∧ Hid (∀ j (h1 : j < l.length) (h2 : j < m.length), j < k → eqb2 l[j] m[j] = true) ∧ Below w.heap.size w wr)
      (fun i _ => l.length - (intOf i).toNat)
    case atStart => exact ⟨0, Nat.zero_le _, rfl, fun j _ _ hj => absurd hj (Nat.not_lt_zero _), Below.refl _ _⟩
    case round =>
      obtain ⟨k, hk, rfl, hq, hbl⟩ := hrel
      by_cases hlt : k < l.length
      · have hlt' : k < m.length := by have := Hn.out; omega
        obtain ⟨b, off, rfl, hb1, c0, c1⟩ := cells2 (h.below hbl) hlt
        obtain ⟨b', off', rfl, hb2, d0, d1⟩ := cells2 (h'.below hbl) hlt'
        have hno := eqs2_no hlt hlt'
        have hyes : eqb2 l[k] m[k] = true → ∀ j (h1 : j < l.length) (h2 : j < m.length), j < k + 1 → eqb2 l[j] m[j] = true := by
          intro hy j h1 h2 hj
          rcases Nat.lt_or_ge j k with h3 | h3
          · exact hq.out j h1 h2 h3
          · obtain rfl : j = k := by omega
            exact hy
        generalize l[k] = x at *
        generalize m[k] = y at *
        obtain ⟨x0, x1⟩ := x
        obtain ⟨y0, y1⟩ := y
        simp only at c0 c1 d0 d1
        have Hno := Lib.hid hno
        have Hyes := Lib.hid hyes
        clear hno hyes
        go_wp2_with fail
        go_still_tail 8, (by kernel_rfl)
        change wpList _ _ _ _ _ wr.drew
        have hbl2 := hbl.drew
        generalize wr.drew = w2 at hbl2
        clear c0 c1 d0 d1
        cases hxy : eqb2 (x0, x1) (y0, y1) with
        | true =>
          go_wp2_with fail
          refine (eq2_any x0 x1 y0 y1 _).mono ?_
          rintro e w3 ⟨rfl, hb3⟩
          rw [hxy]
          have Hxy := Lib.hid hxy
          clear hxy
          go_wp2
          go_roundw
          case rel => exact ⟨k + 1, by omega, by go_num, Hyes.out Hxy.out, hbl2.trans (hb3.mono hbl2.size)⟩
          case measure => simp [intOf]; omega
        | false =>
          go_wp2_with fail
          refine (eq2_any x0 x1 y0 y1 _).mono ?_
          rintro e w3 ⟨rfl, hb3⟩
          rw [hxy]
          have Hxy := Lib.hid hxy
          clear hxy
          go_wp2
          go_ret
          exact ⟨ret_bool (Hno.out Hxy.out).symm, hbl2.trans (hb3.mono hbl2.size)⟩
      · have hq' : l = m := List.ext_getElem Hn.out fun j h1 h2 => eqb2_iff.1 (hq.out j h1 h2 (by omega))
        have Hq := Lib.hid hq'
        clear hq'
        go_wp2
        go_ret
        exact ⟨ret_bool (eqs2_iff.2 Hq.out).symm, hbl⟩
  · have hb : ((l.length : Int) != (m.length : Int)) = true := by simp; omega
    go_enter Try.func37, Try.ntmps37
    go_wp2
    go_ret
    exact ⟨ret_bool (by rw [eq_comm, Bool.eq_false_iff]; intro ht; rw [eqs2_iff] at ht; subst ht; exact hn rfl), Below.refl _ _⟩

/-- The marks k, k + 1 .. -/
def marks2 (k : Int) (n : Nat) : List (Int × Int) := (List.range n).map fun i : Nat => (k + i * 2, k + i * 2 + 1)
theorem marks2_len (k : Int) (n : Nat) : (marks2 k n).length = n := by simp [marks2]
theorem marks2_get (k : Int) (n j : Nat) (hj : j < (marks2 k n).length) : (marks2 k n)[j] = (k + j * 2, k + j * 2 + 1) := by simp [marks2]

set_option maxRecDepth 100000 in
set_option maxHeartbeats 1000000 in
theorem mark2S_any (A : Option Addr) (n c : Nat) (k0 : Int) (l : List (Int × Int)) (w : World) (base : Nat) (h : Own enc2 2 w base 54 (.slice A n c) l) (hn : n ≤ 1048576) (hk0 : 0 ≤ k0) (hk1 : k0 ≤ 1000000000) :
    Calls Try.prog 38 #[.slice A n c, .int .i64 k0] w fun e w' => e = .returned (.int .i64 (k0 + n * 2)) ∧ Own enc2 2 w' base 54 (.slice A n c) (marks2 k0 n) ∧ w.grownBy w' (Value.ownBlock (.slice A n c)) := by
  rcases Nat.eq_zero_or_pos n with h0 | h0
  · subst h0
    have hl : l = [] := List.eq_nil_of_length_eq_zero h.len
    subst hl
    have Ho := Lib.hid h
    clear h
    go_enter Try.func38, Try.ntmps38
    go_wp2
    refine wp_loop_rounds 1 ?_
    rw [rounds_succ]
    go_wp2
    go_ret
    exact ⟨ret_int (by omega), Ho.out, only_refl _ _⟩
  · obtain ⟨g, cs, rfl, hb, hB, hs, hl, hnc, hm, _⟩ := h.blk h0
    have HB := Lib.hid hB
    have Hs := Lib.hid hs
    clear h hl hB hs
    go_enter Try.func38, Try.ntmps38
    go_wp2
    go_loopw [1, 5] (fun q i wr => ∃ (k : Nat) (z : Int), k ≤ n ∧ i = .int .i64 k ∧ q = .int .i64 z ∧ (0 ≤ z ∧ z = k0 + k * 2) ∧ ∃ cs : Array Value, Hid (Blk wr g 54 cs) ∧ Hid (cs.size = c * 2) ∧ Hid (∀ j x, j < k → (marks2 k0 n)[j]? = some x → ∀ i v, (enc2 x)[i]? = some v → cs[j * 2 + i]? = some v) ∧ Hid (w.grownBy wr (some g)))
      (fun _ i _ => n - (intOf i).toNat)
    case atStart => exact ⟨0, k0, Nat.zero_le _, rfl, rfl, ⟨hk0, by simp⟩, cs, HB.out, Hs.out, fun j x hj => absurd hj (Nat.not_lt_zero _), only_refl _ _⟩
    case round =>
      obtain ⟨k, z, hk, rfl, rfl, ⟨hz0, hz1⟩, cs, hB, hs, hc, hgr⟩ := hrel
      have hzb : z ≤ 2000000000 := by omega
      have Hz := Lib.hid hz1
      clear hz1
      by_cases hlt : k < n
      · have hlm : k < (marks2 k0 n).length := by rw [marks2_len]; exact hlt
        have hst := over_step enc2_len (l := marks2 k0 n) (cs := cs) (by rw [marks2_len, hs.out]; omega) hlm hc.out
        have hgk : (marks2 k0 n)[k] = (z, z + 1) := by rw [marks2_get, Hz.out]
        rw [hgk] at hst
        have h1 : k * 2 + 2 ≤ cs.size := by rw [hs.out]; omega
        have d0 := hB.out.cell (k * 2)
        have f0 := hB.out.frozen (k * 2)
        have d1 := hB.out.cell (k * 2 + 1)
        have f1 := hB.out.frozen (k * 2 + 1)
        rw [Array.getElem?_eq_getElem (by omega)] at d0 d1
        have Hst := Lib.hid hst
        clear hst hgk
        go_wp2
        refine wp_loop_rounds 3 ?_
        rw [rounds_succ]
        go_wp2
        rw [rounds_succ]
        go_wp2
        rw [rounds_succ]
        go_wp2
        go_roundw
        case rel => exact ⟨k + 1, _, by omega, by go_num, rfl, ⟨by omega, by have := Hz.out; omega⟩, _, (hB.out.set_ _ _).set_ _ _, by show Array.size _ = _; simp [hs.out], Hst.out, only_setCell (only_setCell hgr.out (.inl rfl) _) (.inl rfl) _⟩
        case measure => simp [intOf]; omega
      · obtain rfl : k = n := by omega
        go_wp2
        go_ret
        refine ⟨ret_int Hz.out, Own.over enc2_len hb hB.out hs.out (marks2_len _ _) hnc hm (fun j x hx i v hv => hc.out j x ?_ hx i v hv), hgr.out⟩
        have := (List.getElem?_eq_some_iff.1 hx).1
        rwa [marks2_len] at this

set_option maxRecDepth 100000 in
set_option maxHeartbeats 1000000 in
theorem held2S_any (A : Option Addr) (n c : Nat) (k0 : Int) (w : World) (h : Rd enc2 2 w w.heap.size A (marks2 k0 n)) (hn : n ≤ 1048576) (hk0 : 0 ≤ k0) (hk1 : k0 ≤ 1000000000) :
    Calls Try.prog 39 #[.slice A n c, .int .i64 k0] w fun e w' => e = .returned (.int .i64 (k0 + n * 2)) ∧ w = w' := by
  go_enter Try.func39, Try.ntmps39
  go_wp2
  go_loop [1, 5] (fun q i => ∃ (k : Nat) (z : Int), k ≤ n ∧ i = .int .i64 k ∧ q = .int .i64 z ∧ (0 ≤ z ∧ z = k0 + k * 2)) (fun _ i => n - (intOf i).toNat)
  case atStart => exact ⟨0, k0, Nat.zero_le _, rfl, rfl, ⟨hk0, by simp⟩⟩
  case round =>
    obtain ⟨k, z, hk, rfl, rfl, ⟨hz0, hz1⟩⟩ := hrel
    have hzb : z ≤ 2000000000 := by omega
    have Hz := Lib.hid hz1
    clear hz1
    by_cases hlt : k < n
    · have hlm : k < (marks2 k0 n).length := by rw [marks2_len]; exact hlt
      obtain ⟨b, off, rfl, hb1, c0, c1⟩ := cells2 h hlm
      have hgk : (marks2 k0 n)[k] = (z, z + 1) := by rw [marks2_get, Hz.out]
      rw [hgk] at c0 c1
      simp only at c0 c1
      clear hgk
      have n1 : (z + 1 != z + 1) = false := by simp
      go_wp2
      refine wp_loop_rounds 3 ?_
      rw [rounds_succ]
      go_wp2
      rw [rounds_succ]
      go_wp2
      rw [rounds_succ]
      go_wp2
      go_round
      case rel => exact ⟨k + 1, _, by omega, by go_num, rfl, ⟨by omega, by have := Hz.out; omega⟩⟩
      case measure => simp [intOf]; omega
    · obtain rfl : k = n := by omega
      go_wp2
      go_ret
      exact ⟨ret_int Hz.out, rfl⟩

def Pred2 (g : Nat) (lb : Array Value) (l : List (Int × Int)) (p : Int × Int → Bool) (w : World) : Prop :=
  ∀ (W : World) (x : Int × Int), x ∈ l → Below w.heap.size w W → Calls Try.prog g (#[.agg #[.int .i64 x.1, .int .i64 x.2]] ++ lb) W fun e w' => e = .returned (.bool (p x)) ∧ Below W.heap.size W w'
set_option maxRecDepth 100000 in
set_option maxHeartbeats 1000000 in
theorem filter2_any (g : Nat) (lb : Array Value) (eg : Enters Try.prog g) (A : Option Addr) (c : Nat) (l : List (Int × Int)) (p : Int × Int → Bool) (w : World) (h : Rd enc2 2 w w.heap.size A l) (hl : l.length ≤ 1048576) (hp : Pred2 g lb l p w) :
    Calls Try.prog 60 #[.slice A l.length c, .func (.func g) #[] lb] w fun e w' => ∃ v, e = .returned v ∧ Own enc2 2 w' w.heap.size 54 v (l.filter p) ∧ Below w.heap.size w w' := by
  have eg' : ∀ args w, (callFunc g args).run Try.prog w = .ok (.enter g args) w := eg
  obtain ⟨i0, hi, hz0, hz1, hz2⟩ := info_parts info2
  go_enter Try.func60, Try.ntmps60
  go_wp2
  go_loopw [5, 11] (fun v i wr => ∃ k : Nat, k ≤ l.length ∧ i = .int .i64 k ∧ Hid (Own enc2 2 wr w.heap.size 54 v ((l.take k).filter p)) ∧ Below w.heap.size w wr) (fun _ i _ => l.length - (intOf i).toNat)
  case atStart => exact ⟨0, Nat.zero_le _, rfl, Own.empty _ _ _ (Nat.le_refl _), (Below.refl _ _).alloc (Nat.le_refl _) _⟩
  case round =>
    obtain ⟨k, hk, rfl, hown, hbl⟩ := hrel
    by_cases hlt : k < l.length
    · obtain ⟨b, off, rfl, hb, c0, c1⟩ := cells2 (h.below hbl) hlt
      have hcall := fun W hW => hp W l[k] (List.getElem_mem hlt) hW
      have Hyes := Lib.hid (fun (hh : p l[k] = true) => (show (l.take (k + 1)).filter p = (l.take k).filter p ++ [l[k]] by rw [List.take_succ_eq_append_getElem hlt, List.filter_append]; simp [hh]))
      have Hno := Lib.hid (fun (hh : p l[k] = false) => (show (l.take (k + 1)).filter p = (l.take k).filter p by rw [List.take_succ_eq_append_getElem hlt, List.filter_append]; simp [hh]))
      have hfl : ((l.take k).filter p).length ≤ 1048576 := by have h1 := List.length_filter_le p (l.take k); have h2 := List.length_take_le k l; omega
      obtain ⟨L, hL⟩ : ∃ L, (l.take k).filter p = L := ⟨_, rfl⟩
      rw [hL] at Hyes Hno hown hfl
      generalize l[k] = x at *
      have Hcall := Lib.hid hcall
      clear hcall hp hL
      obtain ⟨A', c', rfl, hcc, _⟩ := Own.form enc2_len hown.out
      have HX0 := Lib.hid (Blk.new wr 54 #[.int .i64 x.1, .int .i64 x.2])
      have hblA := hbl.alloc hbl.size (.cells #[.int .i64 x.1, .int .i64 x.2] 54)
      have HownA := Lib.hid (hown.out.alloc (.cells #[.int .i64 x.1, .int .i64 x.2] 54))
      have hsz := hbl.size
      clear hown
      cases hpx : p x with
      | true =>
        have Hy := Lib.hid (Hyes.out hpx)
        go_wp2_with fail
        refine (Hcall.out _ hblA).mono ?_
        rintro e w1 ⟨rfl, hb1⟩
        rw [hpx]
        have Hown1 := Lib.hid (HownA.out.keep hb1)
        obtain ⟨x0, x1⟩ := box2 (HX0.out.after hb1)
        have hs1 := hb1.size
        have hB1 := hblA.trans (hb1.mono hblA.size)
        simp only [World.alloc, Array.size_push] at hs1
        clear c0 c1 hpx Hyes Hno HownA HX0
        go_wp2_with (at_builtin; refine wpList_app1 rfl _ _ 45 rfl w.heap.size 54 i0 _ 2 16 Try.underlying45 hi hz0 hz1 hz2 rfl (by omega) (by omega) enc2 enc2_len enc2_one (.slice A' L.length c') L x w1 _ rfl _ rfl Hown1.out rfl hfl (by omega) ?_; intro v' w2 hown2 hb2 _)
        have Hown2 := Lib.hid hown2
        have hbl2 := hB1.trans hb2
        clear hown2 hb2 x0 x1
        go_wp2
        go_roundw
        case rel => exact ⟨k + 1, by omega, by go_num, by rw [Hy.out]; exact Hown2.out, hbl2⟩
        case measure => simp [intOf]; omega
      | false =>
        have Hn := Lib.hid (Hno.out hpx)
        go_wp2_with fail
        refine (Hcall.out _ hblA).mono ?_
        rintro e w1 ⟨rfl, hb1⟩
        rw [hpx]
        clear hpx Hyes Hno c0 c1
        go_wp2
        go_roundw
        case rel => exact ⟨k + 1, by omega, by go_num, by rw [Hn.out]; exact HownA.out.keep hb1, hblA.trans (hb1.mono hblA.size)⟩
        case measure => simp [intOf]; omega
    · have hkl : l.take k = l := List.take_of_length_le (by omega)
      rw [hkl] at hown
      clear hkl
      go_wp2
      go_ret
      exact ⟨_, rfl, hown.out, hbl⟩

end Go.Proofs.Ytaemdldpcpefbaa
