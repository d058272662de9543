/-
  Contracts over slices of Cube: copies, comparisons, tests of all elements. (Printed by gen_struct.py.)
-/
import Derived.Test.YtdadcbcanjmoeaaPure
import Derived.StillTailTactics
import Derived.Laws.EntriesVeiled
namespace Go.Proofs.Ytdadcbcanjmoeaa
set_option linter.unusedVariables false
open Go.RowKit

structure Cube where
  west : Int
  south : Int
  side : Int
  from_ : Int
  to_ : Int
def encC (e : Cube) : List Value := [.int .i64 e.west, .int .i64 e.south, .int .i64 e.side, .int .i64 e.from_, .int .i64 e.to_]
def valC (e : Cube) : Value := .agg #[.int .i64 e.west, .int .i64 e.south, .int .i64 e.side, .int .i64 e.from_, .int .i64 e.to_]
theorem encC_len (e : Cube) : (encC e).length = 5 := rfl
theorem infoC : (Try.prog.info? 25).map (fun i => (i.zero, i.size, i.bytes)) = some (some (.agg #[.int .i64 0, .int .i64 0, .int .i64 0, .int .i64 0, .int .i64 0]), 5, 40) := by kernel_rfl
theorem extC {x y : Cube} (h0 : x.west = y.west) (h1 : x.south = y.south) (h2 : x.side = y.side) (h3 : x.from_ = y.from_) (h4 : x.to_ = y.to_) : x = y := by cases x; cases y; simp_all
def eqbC (x y : Cube) : Bool := x.west == y.west && x.south == y.south && x.side == y.side && x.from_ == y.from_ && x.to_ == y.to_
theorem eqbC_iff {x y : Cube} : eqbC x y = true ↔ x = y := by
  constructor
  · intro h; simp [eqbC] at h; exact extC (by simp [h]) (by simp [h]) (by simp [h]) (by simp [h]) (by simp [h])
  · rintro rfl; simp [eqbC]

theorem cellsC {w : World} {B : Nat} {A : Option Addr} {l : List Cube} (h : Rd encC 5 w B A l) {j : Nat} (hj : j < l.length) :
    ∃ b off, A = some ⟨b, off, none⟩ ∧ b < B ∧ w.cell? ⟨b, off + j * 5, none⟩ = some (.int .i64 l[j].west) ∧ w.cell? ⟨b, off + j * 5 + 1, none⟩ = some (.int .i64 l[j].south) ∧ w.cell? ⟨b, off + j * 5 + 2, none⟩ = some (.int .i64 l[j].side) ∧ w.cell? ⟨b, off + j * 5 + 3, none⟩ = some (.int .i64 l[j].from_) ∧ w.cell? ⟨b, off + j * 5 + 4, none⟩ = some (.int .i64 l[j].to_) := by
  obtain ⟨b, off, e, hb, hc⟩ := h.at_ (List.getElem?_eq_getElem hj)
  exact ⟨b, off, e, hb, hc 0 _ rfl, hc 1 _ rfl, hc 2 _ rfl, hc 3 _ rfl, hc 4 _ rfl⟩

theorem toC_any (a0 a1 a2 a3 a4 : Int) (w : World) :
    Calls Try.prog 16 #[.agg #[.int .i64 a0, .int .i64 a1, .int .i64 a2, .int .i64 a3, .int .i64 a4]] w fun e w' => e = .returned (.agg #[.int .i64 a0, .int .i64 a1, .int .i64 a2, .int .i64 a3, .int .i64 a4]) ∧ Below w.heap.size w w' := by
  go_enter Try.func16, Try.ntmps16
  go_wp2
  refine bodyPost_ret (v := .agg #[.int .i64 a0, .int .i64 a1, .int .i64 a2, .int .i64 a3, .int .i64 a4]) (by simp [results, Try.results16, go_sem]) rfl ⟨rfl, ?_⟩
  (repeat (first | with_reducible exact Below.refl _ _ | with_reducible assumption | with_reducible refine Below.setCell ?_ (by simp <;> omega) _ | with_reducible refine Below.alloc ?_ (by first | omega | (simp <;> omega)) _ | with_reducible refine Below.drew ?_ | with_reducible refine below_drewN ?_ _))
theorem toCS_any (A : Option Addr) (c : Nat) (l : List Cube) (w : World) (h : Rd encC 5 w w.heap.size A l) (hl : l.length ≤ 1048576) :
    Calls Try.prog 46 #[.slice A l.length c] w fun e w' => ∃ v, e = .returned v ∧ Own encC 5 w' w.heap.size 25 v l ∧ Below w.heap.size w w' := by
  obtain ⟨i0, hi, hz0, hz1, hz2⟩ := info_parts infoC
  have hmk := fun W => run_make_rowN (P := Try.prog) 67 25 i0 _ Try.underlying67 hi hz0 .i64 .i64 l.length l.length (Nat.le_refl _) (by rw [hz2]; omega) (by omega) W
  rw [hz1] at hmk
  clear hi hz0 hz1 hz2
  go_enter Try.func46, Try.ntmps46
  go_wp2
  clear hmk
  go_loopw [4] (fun i wr => ∃ k : Nat, k ≤ l.length ∧ i = .int .i64 k ∧ ∃ cs : Array Value, Hid (Blk wr w.heap.size 25 cs) ∧ Hid (cs.size = l.length * 5) ∧ Hid (∀ j x, j < k → l[j]? = some x → ∀ i v, (encC x)[i]? = some v → cs[j * 5 + i]? = some v) ∧ Below w.heap.size w wr)
    (fun i _ => l.length - (intOf i).toNat)
  case atStart => exact ⟨0, Nat.zero_le _, rfl, _, Blk.new _ _ _, size_madeCells _ _, fun j x hj => absurd hj (Nat.not_lt_zero _), (Below.refl _ _).alloc (Nat.le_refl _) _⟩
  case round =>
    obtain ⟨k, hk, rfl, cs, hB, hs, hc, hbl⟩ := hrel
    by_cases hlt : k < l.length
    · obtain ⟨b, off, rfl, hb, c0, c1, c2, c3, c4⟩ := cellsC (h.below hbl) hlt
      have hst := filled_step encC_len hs.out hlt hc.out
      have hss := (storeL_size (encC l[k]) cs (k * 5)).trans hs.out
      have h0 : k * 5 + 5 ≤ cs.size := by have := hs.out; omega
      generalize l[k] = x at *
      have Hst := Lib.hid hst
      have Hss := Lib.hid hss
      clear hst hss
      go_wp2_with fail
      refine (toC_any _ _ _ _ _ _).mono ?_
      rintro e w1 ⟨rfl, hb1⟩
      have hB1 := hB.out.after hb1
      have d0 := hB1.cell (k * 5)
      have f0 := hB1.frozen (k * 5)
      have d1 := hB1.cell (k * 5 + 1)
      have f1 := hB1.frozen (k * 5 + 1)
      have d2 := hB1.cell (k * 5 + 2)
      have f2 := hB1.frozen (k * 5 + 2)
      have d3 := hB1.cell (k * 5 + 3)
      have f3 := hB1.frozen (k * 5 + 3)
      have d4 := hB1.cell (k * 5 + 4)
      have f4 := hB1.frozen (k * 5 + 4)
      rw [Array.getElem?_eq_getElem (by omega)] at d0 d1 d2 d3 d4
      have HB1 := Lib.hid hB1
      clear hB1 c0 c1 c2 c3 c4
      go_wp2
      go_roundw
      case rel => exact ⟨k + 1, by omega, by go_num, _, ((((HB1.out.set_ _ _).set_ _ _).set_ _ _).set_ _ _).set_ _ _, Hss.out, Hst.out, (((((hbl.trans (hb1.mono hbl.size)).setCell (Nat.le_refl _) _).setCell (Nat.le_refl _) _).setCell (Nat.le_refl _) _).setCell (Nat.le_refl _) _).setCell (Nat.le_refl _) _⟩
      case measure => simp [intOf]; omega
    · obtain rfl : k = l.length := by omega
      go_wp2
      go_ret
      refine ⟨_, rfl, Own.of_blk encC_len (Nat.le_refl _) hB.out hs.out (by unfold maxLen; omega) (fun j x hx i v hv => hc.out j x ?_ hx i v hv), hbl⟩
      exact (List.getElem?_eq_some_iff.1 hx).1
/-- The same, the new slice written out. -/
theorem toCS_at (A : Option Addr) (c : Nat) (l : List Cube) (w : World) (h : Rd encC 5 w w.heap.size A l) (hl : l.length ≤ 1048576) :
    Calls Try.prog 46 #[.slice A l.length c] w fun e w' => ∃ A' c', e = .returned (.slice A' l.length c') ∧ (l.length ≤ c' ∧ c' ≤ maxLen) ∧ Own encC 5 w' w.heap.size 25 (.slice A' l.length c') l ∧ Rd encC 5 w' w'.heap.size A' l ∧ Below w.heap.size w w' :=
  (toCS_any A c l w h hl).mono fun e w' ⟨v, he, ho, hb⟩ => by
    obtain ⟨A', c', rfl, hcc, hr⟩ := Own.form encC_len ho
    exact ⟨A', c', he, hcc, ho, hr, hb⟩

theorem szCS_any (A : Option Addr) (n c : Nat) (left : Int) (w : World) (h1 : 0 ≤ left) (h2 : left ≤ 1048576) (hn : n ≤ 9223372036854775807) :
    Calls Try.prog 44 #[.slice A n c, .int .i64 left] w fun e w' => e = .returned (.int .i64 (szRes left n)) ∧ w = w' := by
  by_cases h : left - n < 0
  all_goals
    go_enter Try.func44, Try.ntmps44
    go_wp2
    go_ret
    exact ⟨ret_int (by unfold szRes; split <;> omega), rfl⟩

theorem eqC_any (x y : Cube) (w : World) :
    Calls Try.prog 90 #[.agg #[.int .i64 x.west, .int .i64 x.south, .int .i64 x.side, .int .i64 x.from_, .int .i64 x.to_], .agg #[.int .i64 y.west, .int .i64 y.south, .int .i64 y.side, .int .i64 y.from_, .int .i64 y.to_]] w fun e w' => e = .returned (.bool (eqbC x y)) ∧ Below w.heap.size w w' := by
  obtain ⟨a0, a1, a2, a3, a4⟩ := x
  obtain ⟨b0, b1, b2, b3, b4⟩ := y
  dsimp only
  go_enter Try.func90, Try.ntmps90
  go_wp2
  all_goals
    go_ret
    refine ⟨ret_bool (by simp_all [eqbC]), ?_⟩
    (repeat (first | with_reducible exact Below.refl _ _ | with_reducible assumption | with_reducible refine Below.setCell ?_ (by simp <;> omega) _ | with_reducible refine Below.alloc ?_ (by first | omega | (simp <;> omega)) _ | with_reducible refine Below.drew ?_ | with_reducible refine below_drewN ?_ _))

/-- Equal, element by element. -/
def eqsC (l m : List Cube) : Bool := l.length == m.length && (List.range l.length).all fun j => match l[j]?, m[j]? with | some x, some y => eqbC x y | _, _ => false
theorem eqsC_iff {l m : List Cube} : eqsC l m = true ↔ l = m := by
  unfold eqsC
  rw [Bool.and_eq_true, List.all_eq_true, beq_iff_eq]
  constructor
  · rintro ⟨hn, h⟩
    apply List.ext_getElem hn
    intro j h1 h2
    have := h j (by simpa using h1)
    simp only [List.getElem?_eq_getElem h1, List.getElem?_eq_getElem h2] at this
    exact eqbC_iff.1 this
  · rintro rfl
    refine ⟨rfl, fun j hj => ?_⟩
    have hj' : j < l.length := by simpa using hj
    simp only [List.getElem?_eq_getElem hj']
    exact eqbC_iff.2 rfl
theorem eqsC_no {l m : List Cube} {j : Nat} (h1 : j < l.length) (h2 : j < m.length) (h : eqbC l[j] m[j] = false) : eqsC l m = false := by
  rw [Bool.eq_false_iff]
  intro ht
  rw [eqsC_iff] at ht
  subst ht
  rw [eqbC_iff.2 rfl] at h
  cases h
set_option maxRecDepth 100000 in
set_option maxHeartbeats 400000 in
theorem eqCS_any (A A' : Option Addr) (c c' : Nat) (l m : List Cube) (w : World) (h : Rd encC 5 w w.heap.size A l) (h' : Rd encC 5 w w.heap.size A' m) (hl : l.length ≤ 1048576) :
    Calls Try.prog 48 #[.slice A l.length c, .slice A' m.length c'] w fun e w' => e = .returned (.bool (eqsC l m)) ∧ Below w.heap.size w w' := by
  by_cases hn : l.length = m.length
  · have hb : ((l.length : Int) != (m.length : Int)) = false := by simp [hn]
    have Hn := Lib.hid hn
    clear hn
    go_enter Try.func48, Try.ntmps48
    go_wp2
    go_loopw [5] (fun i wr => ∃ k : Nat, k ≤ l.length ∧ i = .int .i64 k ∧ Hid (∀ j (h1 : j < l.length) (h2 : j < m.length), j < k → eqbC l[j] m[j] = true) ∧ Below w.heap.size w wr)
      (fun i _ => l.length - (intOf i).toNat)
    case atStart => exact ⟨0, Nat.zero_le _, rfl, fun j _ _ hj => absurd hj (Nat.not_lt_zero _), Below.refl _ _⟩
    case round =>
      obtain ⟨k, hk, rfl, hq, hbl⟩ := hrel
      by_cases hlt : k < l.length
      · have hlt' : k < m.length := by have := Hn.out; omega
        obtain ⟨b, off, rfl, hb1, c0, c1, c2, c3, c4⟩ := cellsC (h.below hbl) hlt
        obtain ⟨b', off', rfl, hb2, d0, d1, d2, d3, d4⟩ := cellsC (h'.below hbl) hlt'
        have hno := eqsC_no hlt hlt'
        have hyes : eqbC l[k] m[k] = true → ∀ j (h1 : j < l.length) (h2 : j < m.length), j < k + 1 → eqbC l[j] m[j] = true := by
          intro hy j h1 h2 hj
          rcases Nat.lt_or_ge j k with h3 | h3
          · exact hq.out j h1 h2 h3
          · obtain rfl : j = k := by omega
            exact hy
        generalize l[k] = x at *
        generalize m[k] = y at *
        have Hno := Lib.hid hno
        have Hyes := Lib.hid hyes
        clear hno hyes
        go_wp2_with fail
        go_still_tail 8, (by kernel_rfl)
        change wpList _ _ _ _ _ wr.drew
        have hbl2 := hbl.drew
        generalize wr.drew = w2 at hbl2
        clear c0 c1 c2 c3 c4 d0 d1 d2 d3 d4
        cases hxy : eqbC x y with
        | true =>
          go_wp2_with fail
          refine (eqC_any x y _).mono ?_
          rintro e w3 ⟨rfl, hb3⟩
          rw [hxy]
          have Hxy := Lib.hid hxy
          clear hxy
          go_wp2
          go_roundw
          case rel => exact ⟨k + 1, by omega, by go_num, Hyes.out Hxy.out, hbl2.trans (hb3.mono hbl2.size)⟩
          case measure => simp [intOf]; omega
        | false =>
          go_wp2_with fail
          refine (eqC_any x y _).mono ?_
          rintro e w3 ⟨rfl, hb3⟩
          rw [hxy]
          have Hxy := Lib.hid hxy
          clear hxy
          go_wp2
          go_ret
          exact ⟨ret_bool (Hno.out Hxy.out).symm, hbl2.trans (hb3.mono hbl2.size)⟩
      · have hq' : l = m := List.ext_getElem Hn.out fun j h1 h2 => eqbC_iff.1 (hq.out j h1 h2 (by omega))
        have Hq := Lib.hid hq'
        clear hq'
        go_wp2
        go_ret
        exact ⟨ret_bool (eqsC_iff.2 Hq.out).symm, hbl⟩
  · have hb : ((l.length : Int) != (m.length : Int)) = true := by simp; omega
    go_enter Try.func48, Try.ntmps48
    go_wp2
    go_ret
    exact ⟨ret_bool (by simp [eqsC, hn]), Below.refl _ _⟩

/-- What is asked of a function that is handed on: called with any element of l, in whatever world in which all that lay in w lies unturned, it answers p, and turns nothing that lay there. -/
def PredC (g : Nat) (lb : Array Value) (l : List Cube) (p : Cube → Bool) (w : World) : Prop :=
  ∀ (W : World) (x : Cube), x ∈ l → Below w.heap.size w W → Calls Try.prog g (#[.agg #[.int .i64 x.west, .int .i64 x.south, .int .i64 x.side, .int .i64 x.from_, .int .i64 x.to_]] ++ lb) W fun e w' => e = .returned (.bool (p x)) ∧ Below W.heap.size W w'
set_option maxRecDepth 100000 in
set_option maxHeartbeats 400000 in
theorem IndexFuncC_any (g : Nat) (lb : Array Value) (eg : Enters Try.prog g) (A : Option Addr) (c : Nat) (l : List Cube) (p : Cube → Bool) (w : World) (h : Rd encC 5 w w.heap.size A l) (hl : l.length ≤ 1048576) (hp : PredC g lb l p w) :
    Calls Try.prog 120 #[.slice A l.length c, .func (.func g) #[] lb] w fun e w' => e = .returned (.int .i64 (idxOf p l)) ∧ Below w.heap.size w w' := by
  have eg' : ∀ args w, (callFunc g args).run Try.prog w = .ok (.enter g args) w := eg
  go_enter Try.func120, Try.ntmps120
  go_wp2
  go_loopw [8] (fun i wr => ∃ k : Nat, k ≤ l.length ∧ i = .int .i64 k ∧ Hid ((l.take k).any p = false) ∧ Below w.heap.size w wr) (fun i _ => l.length - (intOf i).toNat)
  case atStart => exact ⟨0, Nat.zero_le _, rfl, rfl, Below.refl _ _⟩
  case round =>
    obtain ⟨k, hk, rfl, hq, hbl⟩ := hrel
    by_cases hlt : k < l.length
    · obtain ⟨b, off, rfl, hb1, c0, c1, c2, c3, c4⟩ := cellsC (h.below hbl) hlt
      have hcall := hp wr l[k] (List.getElem_mem hlt) hbl
      have hhit := fun h1 => idxOf_hit p l k hlt h1 hq.out
      have hmiss : p l[k] = false → (l.take (k + 1)).any p = false := fun h1 => by rw [any_take_succ p l k hlt, hq.out, h1]; rfl
      generalize l[k] = x at *
      have Hcall := Lib.hid hcall
      have Hhit := Lib.hid hhit
      have Hmiss := Lib.hid hmiss
      clear hcall hhit hmiss hp
      cases hpx : p x with
      | true =>
        have Hpx := Lib.hid hpx
        clear hpx
        go_wp2_with fail
        refine Hcall.out.mono ?_
        rintro e w3 ⟨rfl, hb3⟩
        rw [Hpx.out]
        go_wp2
        go_ret
        exact ⟨ret_int (Hhit.out Hpx.out).symm, hbl.trans (hb3.mono hbl.size)⟩
      | false =>
        have Hpx := Lib.hid hpx
        clear hpx
        go_wp2_with fail
        refine Hcall.out.mono ?_
        rintro e w3 ⟨rfl, hb3⟩
        rw [Hpx.out]
        go_wp2
        go_roundw
        case rel => exact ⟨k + 1, by omega, by go_num, Hmiss.out Hpx.out, hbl.trans (hb3.mono hbl.size)⟩
        case measure => simp [intOf]; omega
    · have hq' := hq.out
      rw [List.take_of_length_le (by omega)] at hq'
      have Hq := Lib.hid hq'
      clear hq'
      go_wp2
      go_ret
      exact ⟨ret_int (idxOf_miss p l Hq.out).symm, hbl⟩
theorem ContainsFuncC_any (g : Nat) (lb : Array Value) (eg : Enters Try.prog g) (A : Option Addr) (c : Nat) (l : List Cube) (p : Cube → Bool) (w : World) (h : Rd encC 5 w w.heap.size A l) (hl : l.length ≤ 1048576) (hp : PredC g lb l p w) :
    Calls Try.prog 116 #[.slice A l.length c, .func (.func g) #[] lb] w fun e w' => e = .returned (.bool (l.any p)) ∧ Below w.heap.size w w' := by
  have hcon := IndexFuncC_any g lb eg A c l p w h hl hp
  rw [← idxOf_nonneg]
  generalize idxOf p l = r at *
  have Hcon := Lib.hid hcon
  clear hcon hp
  go_enter Try.func116, Try.ntmps116
  go_wp2_with fail
  refine Hcon.out.mono ?_
  rintro e w3 ⟨rfl, hb3⟩
  go_wp2
  go_ret
  exact ⟨rfl, hb3⟩
theorem allC_any (g : Nat) (lb : Array Value) (eg : Enters Try.prog g) (A : Option Addr) (c : Nat) (l : List Cube) (p : Cube → Bool) (w : World) (h : Rd encC 5 w w.heap.size A l) (hl : l.length ≤ 1048576) (hp : PredC g lb l p w) :
    Calls Try.prog 88 #[.slice A l.length c, .func (.func g) #[] lb] w fun e w' => e = .returned (.bool (l.all p)) ∧ Below w.heap.size w w' := by
  have eg' : ∀ args w, (callFunc g args).run Try.prog w = .ok (.enter g args) w := eg
  have hclo : PredC 117 #[.pointer (some ⟨w.heap.size, 0, none⟩)] l (fun x => !p x) (w.alloc (.cells #[.func (.func g) #[] lb] 24)) := by
    intro W x hx hW
    have hcell : W.cell? ⟨w.heap.size, 0, none⟩ = some (.func (.func g) #[] lb) := by
      rw [hW.cell (p := ⟨w.heap.size, 0, none⟩) (by simp)]; simp
    have hbw : Below w.heap.size w W := ((Below.refl _ _).alloc (Nat.le_refl _) _).trans (hW.mono (by simp))
    have hcall := fun W1 (hb : Below W.heap.size W W1) => hp W1 x hx (hbw.trans (hb.mono hbw.size))
    have Hcall := Lib.hid hcall
    have hlt : w.heap.size < W.heap.size := by have := hW.size; simp at this; omega
    clear hcall hp
    have hshow : #[.agg #[.int .i64 x.west, .int .i64 x.south, .int .i64 x.side, .int .i64 x.from_, .int .i64 x.to_]] ++ #[Value.pointer (some ⟨w.heap.size, 0, none⟩)] = #[.agg #[.int .i64 x.west, .int .i64 x.south, .int .i64 x.side, .int .i64 x.from_, .int .i64 x.to_], .pointer (some ⟨w.heap.size, 0, none⟩)] := rfl
    rw [hshow]
    go_enter Try.func117, Try.ntmps117
    go_wp2_with fail
    refine (Hcall.out _ ((Below.refl _ _).alloc (Nat.le_refl _) _)).mono ?_
    rintro e w3 ⟨rfl, hb3⟩
    go_wp2
    go_ret
    exact ⟨rfl, ((Below.refl _ _).alloc (Nat.le_refl _) _).trans (hb3.mono (by simp))⟩
  have hcon := ContainsFuncC_any 117 #[.pointer (some ⟨w.heap.size, 0, none⟩)] (enters_of Try.func117 (by kernel_rfl) rfl) A c l _ _ ((h.keep fun p hp => World.cell?_alloc_lt w _ p hp).more (by simp)) hl hclo
  have hno : (!l.any fun x => !p x) = l.all p := by simp [List.all_eq_not_any_not]
  rw [← hno]
  generalize (l.any fun x => !p x) = r at *
  have Hcon := Lib.hid hcon
  clear hcon hp hclo hno
  have hmf : ∀ (fn : Fn) (first cap : Array Value) (w : World), (Instr.makeFunc fn first cap).run Try.prog w = .ok (.func fn first cap) w := fun _ _ _ _ => rfl
  go_enter Try.func88, Try.ntmps88
  go_wp2_with fail
  refine Hcon.out.mono ?_
  rintro e w3 ⟨rfl, hb3⟩
  go_wp2
  go_ret
  exact ⟨rfl, ((Below.refl _ _).alloc (Nat.le_refl _) _).trans (hb3.mono (by simp))⟩

end Go.Proofs.Ytdadcbcanjmoeaa
