/-
  Contracts over slices of Arrival: copies, comparisons, tests of all elements. (Printed by gen_struct.py.)
-/
import Derived.Test.YtdadcbcanjmoeaaPure
import Derived.StillTailTactics
import Derived.Laws.EntriesVeiled
namespace Go.Proofs.Ytdadcbcanjmoeaa
set_option linter.unusedVariables false
open Go.RowKit

structure Arrival where
  id : Int
  x : Int
  y : Int
  tick : Int
  err : Int
def encA (e : Arrival) : List Value := [.int .i64 e.id, .int .i64 e.x, .int .i64 e.y, .int .i64 e.tick, .int .i64 e.err]
def valA (e : Arrival) : Value := .agg #[.int .i64 e.id, .int .i64 e.x, .int .i64 e.y, .int .i64 e.tick, .int .i64 e.err]
theorem encA_len (e : Arrival) : (encA e).length = 5 := rfl
theorem infoA : (Try.prog.info? 37).map (fun i => (i.zero, i.size, i.bytes)) = some (some (.agg #[.int .i64 0, .int .i64 0, .int .i64 0, .int .i64 0, .int .i64 0]), 5, 40) := by kernel_rfl
theorem extA {x y : Arrival} (h0 : x.id = y.id) (h1 : x.x = y.x) (h2 : x.y = y.y) (h3 : x.tick = y.tick) (h4 : x.err = y.err) : x = y := by cases x; cases y; simp_all
def eqbA (x y : Arrival) : Bool := x.id == y.id && x.x == y.x && x.y == y.y && x.tick == y.tick && x.err == y.err
theorem eqbA_iff {x y : Arrival} : eqbA x y = true ↔ x = y := by
  constructor
  · intro h; simp [eqbA] at h; exact extA (by simp [h]) (by simp [h]) (by simp [h]) (by simp [h]) (by simp [h])
  · rintro rfl; simp [eqbA]

theorem cellsA {w : World} {B : Nat} {A : Option Addr} {l : List Arrival} (h : Rd encA 5 w B A l) {j : Nat} (hj : j < l.length) :
    ∃ b off, A = some ⟨b, off, none⟩ ∧ b < B ∧ w.cell? ⟨b, off + j * 5, none⟩ = some (.int .i64 l[j].id) ∧ w.cell? ⟨b, off + j * 5 + 1, none⟩ = some (.int .i64 l[j].x) ∧ w.cell? ⟨b, off + j * 5 + 2, none⟩ = some (.int .i64 l[j].y) ∧ w.cell? ⟨b, off + j * 5 + 3, none⟩ = some (.int .i64 l[j].tick) ∧ w.cell? ⟨b, off + j * 5 + 4, none⟩ = some (.int .i64 l[j].err) := by
  obtain ⟨b, off, e, hb, hc⟩ := h.at_ (List.getElem?_eq_getElem hj)
  exact ⟨b, off, e, hb, hc 0 _ rfl, hc 1 _ rfl, hc 2 _ rfl, hc 3 _ rfl, hc 4 _ rfl⟩

theorem toA_any (a0 a1 a2 a3 a4 : Int) (w : World) :
    Calls Try.prog 21 #[.agg #[.int .i64 a0, .int .i64 a1, .int .i64 a2, .int .i64 a3, .int .i64 a4]] w fun e w' => e = .returned (.agg #[.int .i64 a0, .int .i64 a1, .int .i64 a2, .int .i64 a3, .int .i64 a4]) ∧ Below w.heap.size w w' := by
  go_enter Try.func21, Try.ntmps21
  go_wp2
  refine bodyPost_ret (v := .agg #[.int .i64 a0, .int .i64 a1, .int .i64 a2, .int .i64 a3, .int .i64 a4]) (by simp [results, Try.results21, go_sem]) rfl ⟨rfl, ?_⟩
  (repeat (first | with_reducible exact Below.refl _ _ | with_reducible assumption | with_reducible refine Below.setCell ?_ (by simp <;> omega) _ | with_reducible refine Below.alloc ?_ (by first | omega | (simp <;> omega)) _ | with_reducible refine Below.drew ?_ | with_reducible refine below_drewN ?_ _))
theorem toAS_any (A : Option Addr) (c : Nat) (l : List Arrival) (w : World) (h : Rd encA 5 w w.heap.size A l) (hl : l.length ≤ 1048576) :
    Calls Try.prog 26 #[.slice A l.length c] w fun e w' => ∃ v, e = .returned v ∧ Own encA 5 w' w.heap.size 37 v l ∧ Below w.heap.size w w' := by
  obtain ⟨i0, hi, hz0, hz1, hz2⟩ := info_parts infoA
  have hmk := fun W => run_make_rowN (P := Try.prog) 45 37 i0 _ Try.underlying45 hi hz0 .i64 .i64 l.length l.length (Nat.le_refl _) (by rw [hz2]; omega) (by omega) W
  rw [hz1] at hmk
  clear hi hz0 hz1 hz2
  go_enter Try.func26, Try.ntmps26
  go_wp2
  clear hmk
  go_loopw [4] (fun i wr => ∃ k : Nat, k ≤ l.length ∧ i = .int .i64 k ∧ ∃ cs : Array Value, Hid (Blk wr w.heap.size 37 cs) ∧ Hid (cs.size = l.length * 5) ∧ Hid (∀ j x, j < k → l[j]? = some x → ∀ i v, (encA x)[i]? = some v → cs[j * 5 + i]? = some v) ∧ Below w.heap.size w wr)
    (fun i _ => l.length - (intOf i).toNat)
  case atStart => exact ⟨0, Nat.zero_le _, rfl, _, Blk.new _ _ _, size_madeCells _ _, fun j x hj => absurd hj (Nat.not_lt_zero _), (Below.refl _ _).alloc (Nat.le_refl _) _⟩
  case round =>
    obtain ⟨k, hk, rfl, cs, hB, hs, hc, hbl⟩ := hrel
    by_cases hlt : k < l.length
    · obtain ⟨b, off, rfl, hb, c0, c1, c2, c3, c4⟩ := cellsA (h.below hbl) hlt
      have hst := filled_step encA_len hs.out hlt hc.out
      have hss := (storeL_size (encA l[k]) cs (k * 5)).trans hs.out
      have h0 : k * 5 + 5 ≤ cs.size := by have := hs.out; omega
      generalize l[k] = x at *
      have Hst := Lib.hid hst
      have Hss := Lib.hid hss
      clear hst hss
      go_wp2_with fail
      refine (toA_any _ _ _ _ _ _).mono ?_
      rintro e w1 ⟨rfl, hb1⟩
      have hB1 := hB.out.after hb1
      have d0 := hB1.cell (k * 5)
      have f0 := hB1.frozen (k * 5)
      have d1 := hB1.cell (k * 5 + 1)
      have f1 := hB1.frozen (k * 5 + 1)
      have d2 := hB1.cell (k * 5 + 2)
      have f2 := hB1.frozen (k * 5 + 2)
      have d3 := hB1.cell (k * 5 + 3)
      have f3 := hB1.frozen (k * 5 + 3)
      have d4 := hB1.cell (k * 5 + 4)
      have f4 := hB1.frozen (k * 5 + 4)
      rw [Array.getElem?_eq_getElem (by omega)] at d0 d1 d2 d3 d4
      have HB1 := Lib.hid hB1
      clear hB1 c0 c1 c2 c3 c4
      go_wp2
      go_roundw
      case rel => exact ⟨k + 1, by omega, by go_num, _, ((((HB1.out.set_ _ _).set_ _ _).set_ _ _).set_ _ _).set_ _ _, Hss.out, Hst.out, (((((hbl.trans (hb1.mono hbl.size)).setCell (Nat.le_refl _) _).setCell (Nat.le_refl _) _).setCell (Nat.le_refl _) _).setCell (Nat.le_refl _) _).setCell (Nat.le_refl _) _⟩
      case measure => simp [intOf]; omega
    · obtain rfl : k = l.length := by omega
      go_wp2
      go_ret
      refine ⟨_, rfl, Own.of_blk encA_len (Nat.le_refl _) hB.out hs.out (by unfold maxLen; omega) (fun j x hx i v hv => hc.out j x ?_ hx i v hv), hbl⟩
      exact (List.getElem?_eq_some_iff.1 hx).1
/-- The same, the new slice written out. -/
theorem toAS_at (A : Option Addr) (c : Nat) (l : List Arrival) (w : World) (h : Rd encA 5 w w.heap.size A l) (hl : l.length ≤ 1048576) :
    Calls Try.prog 26 #[.slice A l.length c] w fun e w' => ∃ A' c', e = .returned (.slice A' l.length c') ∧ (l.length ≤ c' ∧ c' ≤ maxLen) ∧ Own encA 5 w' w.heap.size 37 (.slice A' l.length c') l ∧ Rd encA 5 w' w'.heap.size A' l ∧ Below w.heap.size w w' :=
  (toAS_any A c l w h hl).mono fun e w' ⟨v, he, ho, hb⟩ => by
    obtain ⟨A', c', rfl, hcc, hr⟩ := Own.form encA_len ho
    exact ⟨A', c', he, hcc, ho, hr, hb⟩

theorem szAS_any (A : Option Addr) (n c : Nat) (left : Int) (w : World) (h1 : 0 ≤ left) (h2 : left ≤ 1048576) (hn : n ≤ 9223372036854775807) :
    Calls Try.prog 24 #[.slice A n c, .int .i64 left] w fun e w' => e = .returned (.int .i64 (szRes left n)) ∧ w = w' := by
  by_cases h : left - n < 0
  all_goals
    go_enter Try.func24, Try.ntmps24
    go_wp2
    go_ret
    exact ⟨ret_int (by unfold szRes; split <;> omega), rfl⟩

theorem eqA_any (x y : Arrival) (w : World) :
    Calls Try.prog 77 #[.agg #[.int .i64 x.id, .int .i64 x.x, .int .i64 x.y, .int .i64 x.tick, .int .i64 x.err], .agg #[.int .i64 y.id, .int .i64 y.x, .int .i64 y.y, .int .i64 y.tick, .int .i64 y.err]] w fun e w' => e = .returned (.bool (eqbA x y)) ∧ Below w.heap.size w w' := by
  obtain ⟨a0, a1, a2, a3, a4⟩ := x
  obtain ⟨b0, b1, b2, b3, b4⟩ := y
  dsimp only
  go_enter Try.func77, Try.ntmps77
  go_wp2
  all_goals
    go_ret
    refine ⟨ret_bool (by simp_all [eqbA]), ?_⟩
    (repeat (first | with_reducible exact Below.refl _ _ | with_reducible assumption | with_reducible refine Below.setCell ?_ (by simp <;> omega) _ | with_reducible refine Below.alloc ?_ (by first | omega | (simp <;> omega)) _ | with_reducible refine Below.drew ?_ | with_reducible refine below_drewN ?_ _))

/-- Equal, element by element. -/
def eqsA (l m : List Arrival) : Bool := l.length == m.length && (List.range l.length).all fun j => match l[j]?, m[j]? with | some x, some y => eqbA x y | _, _ => false
theorem eqsA_iff {l m : List Arrival} : eqsA l m = true ↔ l = m := by
  unfold eqsA
  rw [Bool.and_eq_true, List.all_eq_true, beq_iff_eq]
  constructor
  · rintro ⟨hn, h⟩
    apply List.ext_getElem hn
    intro j h1 h2
    have := h j (by simpa using h1)
    simp only [List.getElem?_eq_getElem h1, List.getElem?_eq_getElem h2] at this
    exact eqbA_iff.1 this
  · rintro rfl
    refine ⟨rfl, fun j hj => ?_⟩
    have hj' : j < l.length := by simpa using hj
    simp only [List.getElem?_eq_getElem hj']
    exact eqbA_iff.2 rfl
theorem eqsA_no {l m : List Arrival} {j : Nat} (h1 : j < l.length) (h2 : j < m.length) (h : eqbA l[j] m[j] = false) : eqsA l m = false := by
  rw [Bool.eq_false_iff]
  intro ht
  rw [eqsA_iff] at ht
  subst ht
  rw [eqbA_iff.2 rfl] at h
  cases h
set_option maxRecDepth 100000 in
set_option maxHeartbeats 400000 in
theorem eqAS_any (A A' : Option Addr) (c c' : Nat) (l m : List Arrival) (w : World) (h : Rd encA 5 w w.heap.size A l) (h' : Rd encA 5 w w.heap.size A' m) (hl : l.length ≤ 1048576) :
    Calls Try.prog 28 #[.slice A l.length c, .slice A' m.length c'] w fun e w' => e = .returned (.bool (eqsA l m)) ∧ Below w.heap.size w w' := by
  by_cases hn : l.length = m.length
  · have hb : ((l.length : Int) != (m.length : Int)) = false := by simp [hn]
    have Hn := Lib.hid hn
    clear hn
    go_enter Try.func28, Try.ntmps28
    go_wp2
    go_loopw [5] (fun i wr => ∃ k : Nat, k ≤ l.length ∧ i = .int .i64 k ∧ Hid (∀ j (h1 : j < l.length) (h2 : j < m.length), j < k → eqbA l[j] m[j] = true) ∧ Below w.heap.size w wr)
      (fun i _ => l.length - (intOf i).toNat)
    case atStart => exact ⟨0, Nat.zero_le _, rfl, fun j _ _ hj => absurd hj (Nat.not_lt_zero _), Below.refl _ _⟩
    case round =>
      obtain ⟨k, hk, rfl, hq, hbl⟩ := hrel
      by_cases hlt : k < l.length
      · have hlt' : k < m.length := by have := Hn.out; omega
        obtain ⟨b, off, rfl, hb1, c0, c1, c2, c3, c4⟩ := cellsA (h.below hbl) hlt
        obtain ⟨b', off', rfl, hb2, d0, d1, d2, d3, d4⟩ := cellsA (h'.below hbl) hlt'
        have hno := eqsA_no hlt hlt'
        have hyes : eqbA l[k] m[k] = true → ∀ j (h1 : j < l.length) (h2 : j < m.length), j < k + 1 → eqbA l[j] m[j] = true := by
          intro hy j h1 h2 hj
          rcases Nat.lt_or_ge j k with h3 | h3
          · exact hq.out j h1 h2 h3
          · obtain rfl : j = k := by omega
            exact hy
        generalize l[k] = x at *
        generalize m[k] = y at *
        have Hno := Lib.hid hno
        have Hyes := Lib.hid hyes
        clear hno hyes
        go_wp2_with fail
        go_still_tail 8, (by kernel_rfl)
        change wpList _ _ _ _ _ wr.drew
        have hbl2 := hbl.drew
        generalize wr.drew = w2 at hbl2
        clear c0 c1 c2 c3 c4 d0 d1 d2 d3 d4
        cases hxy : eqbA x y with
        | true =>
          go_wp2_with fail
          refine (eqA_any x y _).mono ?_
          rintro e w3 ⟨rfl, hb3⟩
          rw [hxy]
          have Hxy := Lib.hid hxy
          clear hxy
          go_wp2
          go_roundw
          case rel => exact ⟨k + 1, by omega, by go_num, Hyes.out Hxy.out, hbl2.trans (hb3.mono hbl2.size)⟩
          case measure => simp [intOf]; omega
        | false =>
          go_wp2_with fail
          refine (eqA_any x y _).mono ?_
          rintro e w3 ⟨rfl, hb3⟩
          rw [hxy]
          have Hxy := Lib.hid hxy
          clear hxy
          go_wp2
          go_ret
          exact ⟨ret_bool (Hno.out Hxy.out).symm, hbl2.trans (hb3.mono hbl2.size)⟩
      · have hq' : l = m := List.ext_getElem Hn.out fun j h1 h2 => eqbA_iff.1 (hq.out j h1 h2 (by omega))
        have Hq := Lib.hid hq'
        clear hq'
        go_wp2
        go_ret
        exact ⟨ret_bool (eqsA_iff.2 Hq.out).symm, hbl⟩
  · have hb : ((l.length : Int) != (m.length : Int)) = true := by simp; omega
    go_enter Try.func28, Try.ntmps28
    go_wp2
    go_ret
    exact ⟨ret_bool (by simp [eqsA, hn]), Below.refl _ _⟩

/-- What is asked of a function that is handed on: called with any element of l, in whatever world in which all that lay in w lies unturned, it answers p, and turns nothing that lay there. -/
def PredA (g : Nat) (lb : Array Value) (l : List Arrival) (p : Arrival → Bool) (w : World) : Prop :=
  ∀ (W : World) (x : Arrival), x ∈ l → Below w.heap.size w W → Calls Try.prog g (#[.agg #[.int .i64 x.id, .int .i64 x.x, .int .i64 x.y, .int .i64 x.tick, .int .i64 x.err]] ++ lb) W fun e w' => e = .returned (.bool (p x)) ∧ Below W.heap.size W w'

end Go.Proofs.Ytdadcbcanjmoeaa
