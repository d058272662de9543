/-
  Contracts over slices of TableRow: copies, comparisons, tests of all elements. (Printed by gen_struct.py.)
-/
import Derived.Test.YtjnaigpogloboaaDoorPure
import Derived.StillTailTactics
import Derived.Laws.EntriesVeiled
namespace Go.Proofs.YtjnaigpogloboaaDoor
set_option linter.unusedVariables false
open Go.RowKit

structure TableRow where
  far : Int
  bonus : Int
def encT (e : TableRow) : List Value := [.int .i64 e.far, .int .i64 e.bonus]
def valT (e : TableRow) : Value := .agg #[.int .i64 e.far, .int .i64 e.bonus]
theorem encT_len (e : TableRow) : (encT e).length = 2 := rfl
theorem infoT : (Tryd.prog.info? 76).map (fun i => (i.zero, i.size, i.bytes)) = some (some (.agg #[.int .i64 0, .int .i64 0]), 2, 16) := by kernel_rfl
theorem extT {x y : TableRow} (h0 : x.far = y.far) (h1 : x.bonus = y.bonus) : x = y := by cases x; cases y; simp_all
def eqbT (x y : TableRow) : Bool := x.far == y.far && x.bonus == y.bonus
theorem eqbT_iff {x y : TableRow} : eqbT x y = true ↔ x = y := by
  constructor
  · intro h; simp [eqbT] at h; exact extT (by simp [h]) (by simp [h])
  · rintro rfl; simp [eqbT]

theorem cellsT {w : World} {B : Nat} {A : Option Addr} {l : List TableRow} (h : Rd encT 2 w B A l) {j : Nat} (hj : j < l.length) :
    ∃ b off, A = some ⟨b, off, none⟩ ∧ b < B ∧ w.cell? ⟨b, off + j * 2, none⟩ = some (.int .i64 l[j].far) ∧ w.cell? ⟨b, off + j * 2 + 1, none⟩ = some (.int .i64 l[j].bonus) := by
  obtain ⟨b, off, e, hb, hc⟩ := h.at_ (List.getElem?_eq_getElem hj)
  exact ⟨b, off, e, hb, hc 0 _ rfl, hc 1 _ rfl⟩

theorem toT_any (a0 a1 : Int) (w : World) :
    Calls Tryd.prog 66 #[.agg #[.int .i64 a0, .int .i64 a1]] w fun e w' => e = .returned (.agg #[.int .i64 a0, .int .i64 a1]) ∧ Below w.heap.size w w' := by
  go_enter Tryd.func66, Tryd.ntmps66
  go_wp2
  refine bodyPost_ret (v := .agg #[.int .i64 a0, .int .i64 a1]) (by simp [results, Tryd.results66, go_sem]) rfl ⟨rfl, ?_⟩
  (repeat (first | with_reducible exact Below.refl _ _ | with_reducible assumption | with_reducible refine Below.setCell ?_ (by simp <;> omega) _ | with_reducible refine Below.alloc ?_ (by first | omega | (simp <;> omega)) _ | with_reducible refine Below.drew ?_ | with_reducible refine below_drewN ?_ _))
theorem toTS_any (A : Option Addr) (c : Nat) (l : List TableRow) (w : World) (h : Rd encT 2 w w.heap.size A l) (hl : l.length ≤ 1048576) :
    Calls Tryd.prog 18 #[.slice A l.length c] w fun e w' => ∃ v, e = .returned v ∧ Own encT 2 w' w.heap.size 76 v l ∧ Below w.heap.size w w' := by
  obtain ⟨i0, hi, hz0, hz1, hz2⟩ := info_parts infoT
  have hmk := fun W => run_make_rowN (P := Tryd.prog) 30 76 i0 _ Tryd.underlying30 hi hz0 .i64 .i64 l.length l.length (Nat.le_refl _) (by rw [hz2]; omega) (by omega) W
  rw [hz1] at hmk
  clear hi hz0 hz1 hz2
  go_enter Tryd.func18, Tryd.ntmps18
  go_wp2
  clear hmk
  go_loopw [4] (fun i wr => ∃ k : Nat, k ≤ l.length ∧ i = .int .i64 k ∧ ∃ cs : Array Value, Hid (Blk wr w.heap.size 76 cs) ∧ Hid (cs.size = l.length * 2) ∧ Hid (∀ j x, j < k → l[j]? = some x → ∀ i v, (encT x)[i]? = some v → cs[j * 2 + i]? = some v) ∧ Below w.heap.size w wr)
    (fun i _ => l.length - (intOf i).toNat)
  case atStart => exact ⟨0, Nat.zero_le _, rfl, _, Blk.new _ _ _, size_madeCells _ _, fun j x hj => absurd hj (Nat.not_lt_zero _), (Below.refl _ _).alloc (Nat.le_refl _) _⟩
  case round =>
    obtain ⟨k, hk, rfl, cs, hB, hs, hc, hbl⟩ := hrel
    by_cases hlt : k < l.length
    · obtain ⟨b, off, rfl, hb, c0, c1⟩ := cellsT (h.below hbl) hlt
      have hst := filled_step encT_len hs.out hlt hc.out
      have hss := (storeL_size (encT l[k]) cs (k * 2)).trans hs.out
      have h0 : k * 2 + 2 ≤ cs.size := by have := hs.out; omega
      generalize l[k] = x at *
      have Hst := Lib.hid hst
      have Hss := Lib.hid hss
      clear hst hss
      go_wp2_with fail
      refine (toT_any _ _ _).mono ?_
      rintro e w1 ⟨rfl, hb1⟩
      have hB1 := hB.out.after hb1
      have d0 := hB1.cell (k * 2)
      have f0 := hB1.frozen (k * 2)
      have d1 := hB1.cell (k * 2 + 1)
      have f1 := hB1.frozen (k * 2 + 1)
      rw [Array.getElem?_eq_getElem (by omega)] at d0 d1
      have HB1 := Lib.hid hB1
      clear hB1 c0 c1
      go_wp2
      go_roundw
      case rel => exact ⟨k + 1, by omega, by go_num, _, (HB1.out.set_ _ _).set_ _ _, Hss.out, Hst.out, ((hbl.trans (hb1.mono hbl.size)).setCell (Nat.le_refl _) _).setCell (Nat.le_refl _) _⟩
      case measure => simp [intOf]; omega
    · obtain rfl : k = l.length := by omega
      go_wp2
      go_ret
      refine ⟨_, rfl, Own.of_blk encT_len (Nat.le_refl _) hB.out hs.out (by unfold maxLen; omega) (fun j x hx i v hv => hc.out j x ?_ hx i v hv), hbl⟩
      exact (List.getElem?_eq_some_iff.1 hx).1
/-- The same, the new slice written out. -/
theorem toTS_at (A : Option Addr) (c : Nat) (l : List TableRow) (w : World) (h : Rd encT 2 w w.heap.size A l) (hl : l.length ≤ 1048576) :
    Calls Tryd.prog 18 #[.slice A l.length c] w fun e w' => ∃ A' c', e = .returned (.slice A' l.length c') ∧ (l.length ≤ c' ∧ c' ≤ maxLen) ∧ Own encT 2 w' w.heap.size 76 (.slice A' l.length c') l ∧ Rd encT 2 w' w'.heap.size A' l ∧ Below w.heap.size w w' :=
  (toTS_any A c l w h hl).mono fun e w' ⟨v, he, ho, hb⟩ => by
    obtain ⟨A', c', rfl, hcc, hr⟩ := Own.form encT_len ho
    exact ⟨A', c', he, hcc, ho, hr, hb⟩

theorem szTS_any (A : Option Addr) (n c : Nat) (left : Int) (w : World) (h1 : 0 ≤ left) (h2 : left ≤ 1048576) (hn : n ≤ 9223372036854775807) :
    Calls Tryd.prog 16 #[.slice A n c, .int .i64 left] w fun e w' => e = .returned (.int .i64 (szRes left n)) ∧ w = w' := by
  by_cases h : left - n < 0
  all_goals
    go_enter Tryd.func16, Tryd.ntmps16
    go_wp2
    go_ret
    exact ⟨ret_int (by unfold szRes; split <;> omega), rfl⟩

theorem eqT_any (x y : TableRow) (w : World) :
    Calls Tryd.prog 69 #[.agg #[.int .i64 x.far, .int .i64 x.bonus], .agg #[.int .i64 y.far, .int .i64 y.bonus]] w fun e w' => e = .returned (.bool (eqbT x y)) ∧ Below w.heap.size w w' := by
  obtain ⟨a0, a1⟩ := x
  obtain ⟨b0, b1⟩ := y
  dsimp only
  go_enter Tryd.func69, Tryd.ntmps69
  go_wp2
  all_goals
    go_ret
    refine ⟨ret_bool (by simp_all [eqbT]), ?_⟩
    (repeat (first | with_reducible exact Below.refl _ _ | with_reducible assumption | with_reducible refine Below.setCell ?_ (by simp <;> omega) _ | with_reducible refine Below.alloc ?_ (by first | omega | (simp <;> omega)) _ | with_reducible refine Below.drew ?_ | with_reducible refine below_drewN ?_ _))

/-- Equal, element by element. -/
def eqsT (l m : List TableRow) : Bool := l.length == m.length && (List.range l.length).all fun j => match l[j]?, m[j]? with | some x, some y => eqbT x y | _, _ => false
theorem eqsT_iff {l m : List TableRow} : eqsT l m = true ↔ l = m := by
  unfold eqsT
  rw [Bool.and_eq_true, List.all_eq_true, beq_iff_eq]
  constructor
  · rintro ⟨hn, h⟩
    apply List.ext_getElem hn
    intro j h1 h2
    have := h j (by simpa using h1)
    simp only [List.getElem?_eq_getElem h1, List.getElem?_eq_getElem h2] at this
    exact eqbT_iff.1 this
  · rintro rfl
    refine ⟨rfl, fun j hj => ?_⟩
    have hj' : j < l.length := by simpa using hj
    simp only [List.getElem?_eq_getElem hj']
    exact eqbT_iff.2 rfl
theorem eqsT_no {l m : List TableRow} {j : Nat} (h1 : j < l.length) (h2 : j < m.length) (h : eqbT l[j] m[j] = false) : eqsT l m = false := by
  rw [Bool.eq_false_iff]
  intro ht
  rw [eqsT_iff] at ht
  subst ht
  rw [eqbT_iff.2 rfl] at h
  cases h
set_option maxRecDepth 100000 in
set_option maxHeartbeats 400000 in
theorem eqTS_any (A A' : Option Addr) (c c' : Nat) (l m : List TableRow) (w : World) (h : Rd encT 2 w w.heap.size A l) (h' : Rd encT 2 w w.heap.size A' m) (hl : l.length ≤ 1048576) :
    Calls Tryd.prog 20 #[.slice A l.length c, .slice A' m.length c'] w fun e w' => e = .returned (.bool (eqsT l m)) ∧ Below w.heap.size w w' := by
  by_cases hn : l.length = m.length
  · have hb : ((l.length : Int) != (m.length : Int)) = false := by simp [hn]
    have Hn := Lib.hid hn
    clear hn
    go_enter Tryd.func20, Tryd.ntmps20
    go_wp2
    go_loopw [5] (fun i wr => ∃ k : Nat, k ≤ l.length ∧ i = .int .i64 k ∧ Hid (∀ j (h1 : j < l.length) (h2 : j < m.length), j < k → eqbT l[j] m[j] = true) ∧ Below w.heap.size w wr)
      (fun i _ => l.length - (intOf i).toNat)
    case atStart => exact ⟨0, Nat.zero_le _, rfl, fun j _ _ hj => absurd hj (Nat.not_lt_zero _), Below.refl _ _⟩
    case round =>
      obtain ⟨k, hk, rfl, hq, hbl⟩ := hrel
      by_cases hlt : k < l.length
      · have hlt' : k < m.length := by have := Hn.out; omega
        obtain ⟨b, off, rfl, hb1, c0, c1⟩ := cellsT (h.below hbl) hlt
        obtain ⟨b', off', rfl, hb2, d0, d1⟩ := cellsT (h'.below hbl) hlt'
        have hno := eqsT_no hlt hlt'
        have hyes : eqbT l[k] m[k] = true → ∀ j (h1 : j < l.length) (h2 : j < m.length), j < k + 1 → eqbT l[j] m[j] = true := by
          intro hy j h1 h2 hj
          rcases Nat.lt_or_ge j k with h3 | h3
          · exact hq.out j h1 h2 h3
          · obtain rfl : j = k := by omega
            exact hy
        generalize l[k] = x at *
        generalize m[k] = y at *
        have Hno := Lib.hid hno
        have Hyes := Lib.hid hyes
        clear hno hyes
        go_wp2_with fail
        go_still_tail 8, (by kernel_rfl)
        change wpList _ _ _ _ _ wr.drew
        have hbl2 := hbl.drew
        generalize wr.drew = w2 at hbl2
        clear c0 c1 d0 d1
        cases hxy : eqbT x y with
        | true =>
          go_wp2_with fail
          refine (eqT_any x y _).mono ?_
          rintro e w3 ⟨rfl, hb3⟩
          rw [hxy]
          have Hxy := Lib.hid hxy
          clear hxy
          go_wp2
          go_roundw
          case rel => exact ⟨k + 1, by omega, by go_num, Hyes.out Hxy.out, hbl2.trans (hb3.mono hbl2.size)⟩
          case measure => simp [intOf]; omega
        | false =>
          go_wp2_with fail
          refine (eqT_any x y _).mono ?_
          rintro e w3 ⟨rfl, hb3⟩
          rw [hxy]
          have Hxy := Lib.hid hxy
          clear hxy
          go_wp2
          go_ret
          exact ⟨ret_bool (Hno.out Hxy.out).symm, hbl2.trans (hb3.mono hbl2.size)⟩
      · have hq' : l = m := List.ext_getElem Hn.out fun j h1 h2 => eqbT_iff.1 (hq.out j h1 h2 (by omega))
        have Hq := Lib.hid hq'
        clear hq'
        go_wp2
        go_ret
        exact ⟨ret_bool (eqsT_iff.2 Hq.out).symm, hbl⟩
  · have hb : ((l.length : Int) != (m.length : Int)) = true := by simp; omega
    go_enter Tryd.func20, Tryd.ntmps20
    go_wp2
    go_ret
    exact ⟨ret_bool (by simp [eqsT, hn]), Below.refl _ _⟩

/-- What is asked of a function that is handed on: called with any element of l, in whatever world in which all that lay in w lies unturned, it answers p, and turns nothing that lay there. -/
def PredT (g : Nat) (lb : Array Value) (l : List TableRow) (p : TableRow → Bool) (w : World) : Prop :=
  ∀ (W : World) (x : TableRow), x ∈ l → Below w.heap.size w W → Calls Tryd.prog g (#[.agg #[.int .i64 x.far, .int .i64 x.bonus]] ++ lb) W fun e w' => e = .returned (.bool (p x)) ∧ Below W.heap.size W w'

end Go.Proofs.YtjnaigpogloboaaDoor
