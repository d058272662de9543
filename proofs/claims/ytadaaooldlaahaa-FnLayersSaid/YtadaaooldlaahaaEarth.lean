/-
  Contracts over slices of Earth: copies, comparisons, tests of all elements. (Printed by gen_struct.py.)
-/
import Derived.Test.YtadaaooldlaahaaPure
import Derived.StillTailTactics
import Derived.Laws.EntriesVeiled
namespace Go.Proofs.Ytadaaooldlaahaa
set_option linter.unusedVariables false
open Go.RowKit

structure Earth where
  thick : Int
  speed : Int
def encE (e : Earth) : List Value := [.int .i64 e.thick, .int .i64 e.speed]
def valE (e : Earth) : Value := .agg #[.int .i64 e.thick, .int .i64 e.speed]
theorem encE_len (e : Earth) : (encE e).length = 2 := rfl
theorem infoE : (Try.prog.info? 45).map (fun i => (i.zero, i.size, i.bytes)) = some (some (.agg #[.int .i64 0, .int .i64 0]), 2, 16) := by kernel_rfl
theorem extE {x y : Earth} (h0 : x.thick = y.thick) (h1 : x.speed = y.speed) : x = y := by cases x; cases y; simp_all
def eqbE (x y : Earth) : Bool := x.thick == y.thick && x.speed == y.speed
theorem eqbE_iff {x y : Earth} : eqbE x y = true ↔ x = y := by
  constructor
  · intro h; simp [eqbE] at h; exact extE (by simp [h]) (by simp [h])
  · rintro rfl; simp [eqbE]

theorem cellsE {w : World} {B : Nat} {A : Option Addr} {l : List Earth} (h : Rd encE 2 w B A l) {j : Nat} (hj : j < l.length) :
    ∃ b off, A = some ⟨b, off, none⟩ ∧ b < B ∧ w.cell? ⟨b, off + j * 2, none⟩ = some (.int .i64 l[j].thick) ∧ w.cell? ⟨b, off + j * 2 + 1, none⟩ = some (.int .i64 l[j].speed) := by
  obtain ⟨b, off, e, hb, hc⟩ := h.at_ (List.getElem?_eq_getElem hj)
  exact ⟨b, off, e, hb, hc 0 _ rfl, hc 1 _ rfl⟩

theorem toE_any (a0 a1 : Int) (w : World) :
    Calls Try.prog 43 #[.agg #[.int .i64 a0, .int .i64 a1]] w fun e w' => e = .returned (.agg #[.int .i64 a0, .int .i64 a1]) ∧ Below w.heap.size w w' := by
  go_enter Try.func43, Try.ntmps43
  go_wp2
  refine bodyPost_ret (v := .agg #[.int .i64 a0, .int .i64 a1]) (by simp [results, Try.results43, go_sem]) rfl ⟨rfl, ?_⟩
  (repeat (first | with_reducible exact Below.refl _ _ | with_reducible assumption | with_reducible refine Below.setCell ?_ (by simp <;> omega) _ | with_reducible refine Below.alloc ?_ (by first | omega | (simp <;> omega)) _ | with_reducible refine Below.drew ?_ | with_reducible refine below_drewN ?_ _))
theorem toES_any (A : Option Addr) (c : Nat) (l : List Earth) (w : World) (h : Rd encE 2 w w.heap.size A l) (hl : l.length ≤ 1048576) :
    Calls Try.prog 16 #[.slice A l.length c] w fun e w' => ∃ v, e = .returned v ∧ Own encE 2 w' w.heap.size 45 v l ∧ Below w.heap.size w w' := by
  obtain ⟨i0, hi, hz0, hz1, hz2⟩ := info_parts infoE
  have hmk := fun W => run_make_rowN (P := Try.prog) 25 45 i0 _ Try.underlying25 hi hz0 .i64 .i64 l.length l.length (Nat.le_refl _) (by rw [hz2]; omega) (by omega) W
  rw [hz1] at hmk
  clear hi hz0 hz1 hz2
  go_enter Try.func16, Try.ntmps16
  go_wp2
  clear hmk
  go_loopw [4] (fun i wr => ∃ k : Nat, k ≤ l.length ∧ i = .int .i64 k ∧ ∃ cs : Array Value, Hid (Blk wr w.heap.size 45 cs) ∧ Hid (cs.size = l.length * 2) ∧ Hid (∀ j x, j < k → l[j]? = some x → ∀ i v, (encE x)[i]? = some v → cs[j * 2 + i]? = some v) ∧ Below w.heap.size w wr)
    (fun i _ => l.length - (intOf i).toNat)
  case atStart => exact ⟨0, Nat.zero_le _, rfl, _, Blk.new _ _ _, size_madeCells _ _, fun j x hj => absurd hj (Nat.not_lt_zero _), (Below.refl _ _).alloc (Nat.le_refl _) _⟩
  case round =>
    obtain ⟨k, hk, rfl, cs, hB, hs, hc, hbl⟩ := hrel
    by_cases hlt : k < l.length
    · obtain ⟨b, off, rfl, hb, c0, c1⟩ := cellsE (h.below hbl) hlt
      have hst := filled_step encE_len hs.out hlt hc.out
      have hss := (storeL_size (encE l[k]) cs (k * 2)).trans hs.out
      have h0 : k * 2 + 2 ≤ cs.size := by have := hs.out; omega
      generalize l[k] = x at *
      have Hst := Lib.hid hst
      have Hss := Lib.hid hss
      clear hst hss
      go_wp2_with fail
      refine (toE_any _ _ _).mono ?_
      rintro e w1 ⟨rfl, hb1⟩
      have hB1 := hB.out.after hb1
      have d0 := hB1.cell (k * 2)
      have f0 := hB1.frozen (k * 2)
      have d1 := hB1.cell (k * 2 + 1)
      have f1 := hB1.frozen (k * 2 + 1)
      rw [Array.getElem?_eq_getElem (by omega)] at d0 d1
      have HB1 := Lib.hid hB1
      clear hB1 c0 c1
      go_wp2
      go_roundw
      case rel => exact ⟨k + 1, by omega, by go_num, _, (HB1.out.set_ _ _).set_ _ _, Hss.out, Hst.out, ((hbl.trans (hb1.mono hbl.size)).setCell (Nat.le_refl _) _).setCell (Nat.le_refl _) _⟩
      case measure => simp [intOf]; omega
    · obtain rfl : k = l.length := by omega
      go_wp2
      go_ret
      refine ⟨_, rfl, Own.of_blk encE_len (Nat.le_refl _) hB.out hs.out (by unfold maxLen; omega) (fun j x hx i v hv => hc.out j x ?_ hx i v hv), hbl⟩
      exact (List.getElem?_eq_some_iff.1 hx).1
/-- The same, the new slice written out. -/
theorem toES_at (A : Option Addr) (c : Nat) (l : List Earth) (w : World) (h : Rd encE 2 w w.heap.size A l) (hl : l.length ≤ 1048576) :
    Calls Try.prog 16 #[.slice A l.length c] w fun e w' => ∃ A' c', e = .returned (.slice A' l.length c') ∧ (l.length ≤ c' ∧ c' ≤ maxLen) ∧ Own encE 2 w' w.heap.size 45 (.slice A' l.length c') l ∧ Rd encE 2 w' w'.heap.size A' l ∧ Below w.heap.size w w' :=
  (toES_any A c l w h hl).mono fun e w' ⟨v, he, ho, hb⟩ => by
    obtain ⟨A', c', rfl, hcc, hr⟩ := Own.form encE_len ho
    exact ⟨A', c', he, hcc, ho, hr, hb⟩

theorem szES_any (A : Option Addr) (n c : Nat) (left : Int) (w : World) (h1 : 0 ≤ left) (h2 : left ≤ 1048576) (hn : n ≤ 9223372036854775807) :
    Calls Try.prog 14 #[.slice A n c, .int .i64 left] w fun e w' => e = .returned (.int .i64 (szRes left n)) ∧ w = w' := by
  by_cases h : left - n < 0
  all_goals
    go_enter Try.func14, Try.ntmps14
    go_wp2
    go_ret
    exact ⟨ret_int (by unfold szRes; split <;> omega), rfl⟩

theorem eqE_any (x y : Earth) (w : World) :
    Calls Try.prog 47 #[.agg #[.int .i64 x.thick, .int .i64 x.speed], .agg #[.int .i64 y.thick, .int .i64 y.speed]] w fun e w' => e = .returned (.bool (eqbE x y)) ∧ Below w.heap.size w w' := by
  obtain ⟨a0, a1⟩ := x
  obtain ⟨b0, b1⟩ := y
  dsimp only
  go_enter Try.func47, Try.ntmps47
  go_wp2
  all_goals
    go_ret
    refine ⟨ret_bool (by simp_all [eqbE]), ?_⟩
    (repeat (first | with_reducible exact Below.refl _ _ | with_reducible assumption | with_reducible refine Below.setCell ?_ (by simp <;> omega) _ | with_reducible refine Below.alloc ?_ (by first | omega | (simp <;> omega)) _ | with_reducible refine Below.drew ?_ | with_reducible refine below_drewN ?_ _))

/-- Equal, element by element. -/
def eqsE (l m : List Earth) : Bool := l.length == m.length && (List.range l.length).all fun j => match l[j]?, m[j]? with | some x, some y => eqbE x y | _, _ => false
theorem eqsE_iff {l m : List Earth} : eqsE l m = true ↔ l = m := by
  unfold eqsE
  rw [Bool.and_eq_true, List.all_eq_true, beq_iff_eq]
  constructor
  · rintro ⟨hn, h⟩
    apply List.ext_getElem hn
    intro j h1 h2
    have := h j (by simpa using h1)
    simp only [List.getElem?_eq_getElem h1, List.getElem?_eq_getElem h2] at this
    exact eqbE_iff.1 this
  · rintro rfl
    refine ⟨rfl, fun j hj => ?_⟩
    have hj' : j < l.length := by simpa using hj
    simp only [List.getElem?_eq_getElem hj']
    exact eqbE_iff.2 rfl
theorem eqsE_no {l m : List Earth} {j : Nat} (h1 : j < l.length) (h2 : j < m.length) (h : eqbE l[j] m[j] = false) : eqsE l m = false := by
  rw [Bool.eq_false_iff]
  intro ht
  rw [eqsE_iff] at ht
  subst ht
  rw [eqbE_iff.2 rfl] at h
  cases h
set_option maxHeartbeats 400000 in
theorem eqES_any (A A' : Option Addr) (c c' : Nat) (l m : List Earth) (w : World) (h : Rd encE 2 w w.heap.size A l) (h' : Rd encE 2 w w.heap.size A' m) (hl : l.length ≤ 1048576) :
    Calls Try.prog 18 #[.slice A l.length c, .slice A' m.length c'] w fun e w' => e = .returned (.bool (eqsE l m)) ∧ Below w.heap.size w w' := by
  by_cases hn : l.length = m.length
  · have hb : ((l.length : Int) != (m.length : Int)) = false := by simp [hn]
    have Hn := Lib.hid hn
    clear hn
    go_enter Try.func18, Try.ntmps18
    go_wp2
    go_loopw [5] (fun i wr => ∃ k : Nat, k ≤ l.length ∧ i = .int .i64 k ∧ Hid (∀ j (h1 : j < l.length) (h2 : j < m.length), j < k → eqbE l[j] m[j] = true) ∧ Below w.heap.size w wr)
      (fun i _ => l.length - (intOf i).toNat)
    case atStart => exact ⟨0, Nat.zero_le _, rfl, fun j _ _ hj => absurd hj (Nat.not_lt_zero _), Below.refl _ _⟩
    case round =>
      obtain ⟨k, hk, rfl, hq, hbl⟩ := hrel
      by_cases hlt : k < l.length
      · have hlt' : k < m.length := by have := Hn.out; omega
        obtain ⟨b, off, rfl, hb1, c0, c1⟩ := cellsE (h.below hbl) hlt
        obtain ⟨b', off', rfl, hb2, d0, d1⟩ := cellsE (h'.below hbl) hlt'
        have hno := eqsE_no hlt hlt'
        have hyes : eqbE l[k] m[k] = true → ∀ j (h1 : j < l.length) (h2 : j < m.length), j < k + 1 → eqbE l[j] m[j] = true := by
          intro hy j h1 h2 hj
          rcases Nat.lt_or_ge j k with h3 | h3
          · exact hq.out j h1 h2 h3
          · obtain rfl : j = k := by omega
            exact hy
        generalize l[k] = x at *
        generalize m[k] = y at *
        have Hno := Lib.hid hno
        have Hyes := Lib.hid hyes
        clear hno hyes
        go_wp2_with fail
        go_still_tail 8, (by kernel_rfl)
        change wpList _ _ _ _ _ wr.drew
        have hbl2 := hbl.drew
        generalize wr.drew = w2 at hbl2
        clear c0 c1 d0 d1
        cases hxy : eqbE x y with
        | true =>
          go_wp2_with fail
          refine (eqE_any x y _).mono ?_
          rintro e w3 ⟨rfl, hb3⟩
          rw [hxy]
          have Hxy := Lib.hid hxy
          clear hxy
          go_wp2
          go_roundw
          case rel => exact ⟨k + 1, by omega, by go_num, Hyes.out Hxy.out, hbl2.trans (hb3.mono hbl2.size)⟩
          case measure => simp [intOf]; omega
        | false =>
          go_wp2_with fail
          refine (eqE_any x y _).mono ?_
          rintro e w3 ⟨rfl, hb3⟩
          rw [hxy]
          have Hxy := Lib.hid hxy
          clear hxy
          go_wp2
          go_ret
          exact ⟨ret_bool (Hno.out Hxy.out).symm, hbl2.trans (hb3.mono hbl2.size)⟩
      · have hq' : l = m := List.ext_getElem Hn.out fun j h1 h2 => eqbE_iff.1 (hq.out j h1 h2 (by omega))
        have Hq := Lib.hid hq'
        clear hq'
        go_wp2
        go_ret
        exact ⟨ret_bool (eqsE_iff.2 Hq.out).symm, hbl⟩
  · have hb : ((l.length : Int) != (m.length : Int)) = true := by simp; omega
    go_enter Try.func18, Try.ntmps18
    go_wp2
    go_ret
    exact ⟨ret_bool (by simp [eqsE, hn]), Below.refl _ _⟩

/-- What is asked of a function that is handed on: called with any element of l, in whatever world in which all that lay in w lies unturned, it answers p, and turns nothing that lay there. -/
def PredE (g : Nat) (lb : Array Value) (l : List Earth) (p : Earth → Bool) (w : World) : Prop :=
  ∀ (W : World) (x : Earth), x ∈ l → Below w.heap.size w W → Calls Try.prog g (#[.agg #[.int .i64 x.thick, .int .i64 x.speed]] ++ lb) W fun e w' => e = .returned (.bool (p x)) ∧ Below W.heap.size W w'
set_option maxHeartbeats 400000 in
theorem IndexFuncE_any (g : Nat) (lb : Array Value) (eg : Enters Try.prog g) (A : Option Addr) (c : Nat) (l : List Earth) (p : Earth → Bool) (w : World) (h : Rd encE 2 w w.heap.size A l) (hl : l.length ≤ 1048576) (hp : PredE g lb l p w) :
    Calls Try.prog 75 #[.slice A l.length c, .func (.func g) #[] lb] w fun e w' => e = .returned (.int .i64 (idxOf p l)) ∧ Below w.heap.size w w' := by
  have eg' : ∀ args w, (callFunc g args).run Try.prog w = .ok (.enter g args) w := eg
  go_enter Try.func75, Try.ntmps75
  go_wp2
  go_loopw [8] (fun i wr => ∃ k : Nat, k ≤ l.length ∧ i = .int .i64 k ∧ Hid ((l.take k).any p = false) ∧ Below w.heap.size w wr) (fun i _ => l.length - (intOf i).toNat)
  case atStart => exact ⟨0, Nat.zero_le _, rfl, rfl, Below.refl _ _⟩
  case round =>
    obtain ⟨k, hk, rfl, hq, hbl⟩ := hrel
    by_cases hlt : k < l.length
    · obtain ⟨b, off, rfl, hb1, c0, c1⟩ := cellsE (h.below hbl) hlt
      have hcall := hp wr l[k] (List.getElem_mem hlt) hbl
      have hhit := fun h1 => idxOf_hit p l k hlt h1 hq.out
      have hmiss : p l[k] = false → (l.take (k + 1)).any p = false := fun h1 => by rw [any_take_succ p l k hlt, hq.out, h1]; rfl
      generalize l[k] = x at *
      have Hcall := Lib.hid hcall
      have Hhit := Lib.hid hhit
      have Hmiss := Lib.hid hmiss
      clear hcall hhit hmiss hp
      cases hpx : p x with
      | true =>
        have Hpx := Lib.hid hpx
        clear hpx
        go_wp2_with fail
        refine Hcall.out.mono ?_
        rintro e w3 ⟨rfl, hb3⟩
        rw [Hpx.out]
        go_wp2
        go_ret
        exact ⟨ret_int (Hhit.out Hpx.out).symm, hbl.trans (hb3.mono hbl.size)⟩
      | false =>
        have Hpx := Lib.hid hpx
        clear hpx
        go_wp2_with fail
        refine Hcall.out.mono ?_
        rintro e w3 ⟨rfl, hb3⟩
        rw [Hpx.out]
        go_wp2
        go_roundw
        case rel => exact ⟨k + 1, by omega, by go_num, Hmiss.out Hpx.out, hbl.trans (hb3.mono hbl.size)⟩
        case measure => simp [intOf]; omega
    · have hq' := hq.out
      rw [List.take_of_length_le (by omega)] at hq'
      have Hq := Lib.hid hq'
      clear hq'
      go_wp2
      go_ret
      exact ⟨ret_int (idxOf_miss p l Hq.out).symm, hbl⟩
theorem ContainsFuncE_any (g : Nat) (lb : Array Value) (eg : Enters Try.prog g) (A : Option Addr) (c : Nat) (l : List Earth) (p : Earth → Bool) (w : World) (h : Rd encE 2 w w.heap.size A l) (hl : l.length ≤ 1048576) (hp : PredE g lb l p w) :
    Calls Try.prog 67 #[.slice A l.length c, .func (.func g) #[] lb] w fun e w' => e = .returned (.bool (l.any p)) ∧ Below w.heap.size w w' := by
  have hcon := IndexFuncE_any g lb eg A c l p w h hl hp
  rw [← idxOf_nonneg]
  generalize idxOf p l = r at *
  have Hcon := Lib.hid hcon
  clear hcon hp
  go_enter Try.func67, Try.ntmps67
  go_wp2_with fail
  refine Hcon.out.mono ?_
  rintro e w3 ⟨rfl, hb3⟩
  go_wp2
  go_ret
  exact ⟨rfl, hb3⟩
theorem allE_any (g : Nat) (lb : Array Value) (eg : Enters Try.prog g) (A : Option Addr) (c : Nat) (l : List Earth) (p : Earth → Bool) (w : World) (h : Rd encE 2 w w.heap.size A l) (hl : l.length ≤ 1048576) (hp : PredE g lb l p w) :
    Calls Try.prog 45 #[.slice A l.length c, .func (.func g) #[] lb] w fun e w' => e = .returned (.bool (l.all p)) ∧ Below w.heap.size w w' := by
  have eg' : ∀ args w, (callFunc g args).run Try.prog w = .ok (.enter g args) w := eg
  have hclo : PredE 68 #[.pointer (some ⟨w.heap.size, 0, none⟩)] l (fun x => !p x) (w.alloc (.cells #[.func (.func g) #[] lb] 50)) := by
    intro W x hx hW
    have hcell : W.cell? ⟨w.heap.size, 0, none⟩ = some (.func (.func g) #[] lb) := by
      rw [hW.cell (p := ⟨w.heap.size, 0, none⟩) (by simp)]; simp
    have hbw : Below w.heap.size w W := ((Below.refl _ _).alloc (Nat.le_refl _) _).trans (hW.mono (by simp))
    have hcall := fun W1 (hb : Below W.heap.size W W1) => hp W1 x hx (hbw.trans (hb.mono hbw.size))
    have Hcall := Lib.hid hcall
    have hlt : w.heap.size < W.heap.size := by have := hW.size; simp at this; omega
    clear hcall hp
    have hshow : #[.agg #[.int .i64 x.thick, .int .i64 x.speed]] ++ #[Value.pointer (some ⟨w.heap.size, 0, none⟩)] = #[.agg #[.int .i64 x.thick, .int .i64 x.speed], .pointer (some ⟨w.heap.size, 0, none⟩)] := rfl
    rw [hshow]
    go_enter Try.func68, Try.ntmps68
    go_wp2_with fail
    refine (Hcall.out _ ((Below.refl _ _).alloc (Nat.le_refl _) _)).mono ?_
    rintro e w3 ⟨rfl, hb3⟩
    go_wp2
    go_ret
    exact ⟨rfl, ((Below.refl _ _).alloc (Nat.le_refl _) _).trans (hb3.mono (by simp))⟩
  have hcon := ContainsFuncE_any 68 #[.pointer (some ⟨w.heap.size, 0, none⟩)] (enters_of Try.func68 (by kernel_rfl) rfl) A c l _ _ ((h.keep fun p hp => World.cell?_alloc_lt w _ p hp).more (by simp)) hl hclo
  have hno : (!l.any fun x => !p x) = l.all p := by simp [List.all_eq_not_any_not]
  rw [← hno]
  generalize (l.any fun x => !p x) = r at *
  have Hcon := Lib.hid hcon
  clear hcon hp hclo hno
  have hmf : ∀ (fn : Fn) (first cap : Array Value) (w : World), (Instr.makeFunc fn first cap).run Try.prog w = .ok (.func fn first cap) w := fun _ _ _ _ => rfl
  go_enter Try.func45, Try.ntmps45
  go_wp2_with fail
  refine Hcon.out.mono ?_
  rintro e w3 ⟨rfl, hb3⟩
  go_wp2
  go_ret
  exact ⟨rfl, ((Below.refl _ _).alloc (Nat.le_refl _) _).trans (hb3.mono (by simp))⟩

end Go.Proofs.Ytadaaooldlaahaa
