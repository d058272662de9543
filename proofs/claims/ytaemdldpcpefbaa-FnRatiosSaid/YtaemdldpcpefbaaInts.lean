/-
  Contracts over slices of ints: copies, comparisons, marks, tests of all elements.
-/
import Derived.Test.YtaemdldpcpefbaaPure
import Derived.Laws.EntriesVeiled
namespace Go.Proofs.Ytaemdldpcpefbaa
set_option linter.unusedVariables false
open Go.RowKit

theorem infoI : (Try.prog.info? 3).map (fun i => (i.zero, i.size, i.bytes)) = some (some (.int .i64 0), 1, 8) := by kernel_rfl

theorem toIS_any (A : Option Addr) (c : Nat) (l : List Int) (w : World) (h : Rd encI 1 w w.heap.size A l) (hl : l.length ≤ 1048576) :
    Calls Try.prog 18 #[.slice A l.length c] w fun e w' => ∃ v, e = .returned v ∧ Own encI 1 w' w.heap.size 3 v l ∧ Below w.heap.size w w' := by
  obtain ⟨i0, hi, hz0, hz1, hz2⟩ := info_parts infoI
  have hmk := fun W => run_make_rowN (P := Try.prog) 28 3 i0 _ Try.underlying28 hi hz0 .i64 .i64 l.length l.length (Nat.le_refl _) (by rw [hz2]; omega) (by omega) W
  rw [hz1] at hmk
  clear hi hz0 hz1 hz2
  go_enter Try.func18, Try.ntmps18
  go_wp2
  clear hmk
  go_loopw [4] (fun i wr => ∃ k : Nat, k ≤ l.length ∧ i = .int .i64 k ∧ ∃ cs : Array Value, Hid (Blk wr w.heap.size 3 cs) ∧ Hid (cs.size = l.length * 1) ∧ Hid (∀ j x, j < k → l[j]? = some x → ∀ i v, (encI x)[i]? = some v → cs[j * 1 + i]? = some v) ∧ Below w.heap.size w wr)
    (fun i _ => l.length - (intOf i).toNat)
  case atStart => exact ⟨0, Nat.zero_le _, rfl, _, Blk.new _ _ _, (by show Array.size _ = _; rw [size_madeCells, Nat.mul_one]), fun j x hj => absurd hj (Nat.not_lt_zero _), (Below.refl _ _).alloc (Nat.le_refl _) _⟩
  case round =>
    obtain ⟨k, hk, rfl, cs, hB, hs, hc, hbl⟩ := hrel
    by_cases hlt : k < l.length
    · obtain ⟨b, off, rfl, hb, c0⟩ := cellsI (h.below hbl) hlt
      have hst := filled_step encI_len hs.out hlt hc.out
      have hss := (storeL_size (encI l[k]) cs (k * 1)).trans hs.out
      have h0 : k < cs.size := by have := hs.out; omega
      generalize l[k] = x at *
      rw [Nat.mul_one] at hst hss
      have Hst := Lib.hid hst
      have Hss := Lib.hid hss
      clear hst hss
      have d0 := hB.out.cell k
      have f0 := hB.out.frozen k
      rw [Array.getElem?_eq_getElem (by omega)] at d0
      go_wp2
      go_roundw
      case rel => exact ⟨k + 1, by omega, by go_num, _, hB.out.set_ _ _, Hss.out, Hst.out, hbl.setCell (Nat.le_refl _) _⟩
      case measure => simp [intOf]; omega
    · obtain rfl : k = l.length := by omega
      go_wp2
      go_ret
      refine ⟨_, rfl, Own.of_blk encI_len (Nat.le_refl _) hB.out hs.out (by unfold maxLen; omega) (fun j x hx i v hv => hc.out j x ?_ hx i v hv), hbl⟩
      exact (List.getElem?_eq_some_iff.1 hx).1
theorem toIS_at (A : Option Addr) (c : Nat) (l : List Int) (w : World) (h : Rd encI 1 w w.heap.size A l) (hl : l.length ≤ 1048576) :
    Calls Try.prog 18 #[.slice A l.length c] w fun e w' => ∃ A' c', e = .returned (.slice A' l.length c') ∧ (l.length ≤ c' ∧ c' ≤ maxLen) ∧ Own encI 1 w' w.heap.size 3 (.slice A' l.length c') l ∧ Rd encI 1 w' w'.heap.size A' l ∧ Below w.heap.size w w' :=
  (toIS_any A c l w h hl).mono fun e w' ⟨v, he, ho, hb⟩ => by
    obtain ⟨A', c', rfl, hcc, hr⟩ := Own.form encI_len ho
    exact ⟨A', c', he, hcc, ho, hr, hb⟩

def eqsI (l m : List Int) : Bool := decide (l = m)
theorem eqsI_iff {l m : List Int} : eqsI l m = true ↔ l = m := by simp [eqsI]

set_option maxHeartbeats 400000 in
theorem eqIS_any (A A' : Option Addr) (c c' : Nat) (l m : List Int) (w : World) (h : Rd encI 1 w w.heap.size A l) (h' : Rd encI 1 w w.heap.size A' m) (hl : l.length ≤ 1048576) :
    Calls Try.prog 20 #[.slice A l.length c, .slice A' m.length c'] w fun e w' => e = .returned (.bool (eqsI l m)) ∧ Below w.heap.size w w' := by
  by_cases hn : l.length = m.length
  · have hb : ((l.length : Int) != (m.length : Int)) = false := by simp [hn]
    have Hn := Lib.hid hn
    clear hn
    go_enter Try.func20, Try.ntmps20
    go_wp2
    go_loopw [5] (fun i wr => ∃ k : Nat, k ≤ l.length ∧ i = .int .i64 k ∧ Hid (∀ j (h1 : j < l.length) (h2 : j < m.length), j < k → l[j] = m[j]) ∧ Below w.heap.size w wr)
      (fun i _ => l.length - (intOf i).toNat)
    case atStart => exact ⟨0, Nat.zero_le _, rfl, fun j _ _ hj => absurd hj (Nat.not_lt_zero _), Below.refl _ _⟩
    case round =>
      obtain ⟨k, hk, rfl, hq, hbl⟩ := hrel
      by_cases hlt : k < l.length
      · have hlt' : k < m.length := by have := Hn.out; omega
        obtain ⟨b, off, rfl, hb1, c0⟩ := cellsI (h.below hbl) hlt
        obtain ⟨b', off', rfl, hb2, d0⟩ := cellsI (h'.below hbl) hlt'
        have hno : l[k] ≠ m[k] → eqsI l m = false := by
          intro hne
          rw [Bool.eq_false_iff]
          intro ht
          rw [eqsI_iff] at ht
          subst ht
          exact hne rfl
        have hyes : l[k] = m[k] → ∀ j (h1 : j < l.length) (h2 : j < m.length), j < k + 1 → l[j] = m[j] := by
          intro hy j h1 h2 hj
          rcases Nat.lt_or_ge j k with h3 | h3
          · exact hq.out j h1 h2 h3
          · obtain rfl : j = k := by omega
            exact hy
        generalize l[k] = x at *
        generalize m[k] = y at *
        have Hno := Lib.hid hno
        have Hyes := Lib.hid hyes
        clear hno hyes
        by_cases hxy : x = y
        · have hbb : (x != y) = false := by simp [hxy]
          have Hxy := Lib.hid hxy
          clear hxy
          go_wp2_with fail
          go_quiet (fail)
          go_wp2
          go_roundw
          case rel => exact ⟨k + 1, by omega, by go_num, Hyes.out Hxy.out, below_drewN hbl _⟩
          case measure => simp [intOf]; omega
        · have hbb : (x != y) = true := by simp [hxy]
          have Hxy := Lib.hid hxy
          clear hxy
          go_wp2_with fail
          go_quiet (fail)
          go_wp2
          go_ret
          exact ⟨ret_bool (Hno.out Hxy.out).symm, below_drewN hbl _⟩
      · have hq' : l = m := List.ext_getElem Hn.out fun j h1 h2 => hq.out j h1 h2 (by omega)
        have Hq := Lib.hid hq'
        clear hq'
        go_wp2
        go_ret
        exact ⟨ret_bool (eqsI_iff.2 Hq.out).symm, hbl⟩
  · have hb : ((l.length : Int) != (m.length : Int)) = true := by simp; omega
    go_enter Try.func20, Try.ntmps20
    go_wp2
    go_ret
    exact ⟨ret_bool (by rw [eq_comm, Bool.eq_false_iff]; intro ht; rw [eqsI_iff] at ht; subst ht; exact hn rfl), Below.refl _ _⟩

/-- The marks k, k + 1 .. -/
def marksI (k : Int) (n : Nat) : List Int := (List.range n).map fun i : Nat => k + (i : Int)
theorem marksI_len (k : Int) (n : Nat) : (marksI k n).length = n := by simp [marksI]
theorem marksI_get (k : Int) (n j : Nat) (hj : j < n) : (marksI k n)[j]? = some (k + j) := by simp [marksI, hj]

/-- A row that is written over, element by element. -/
theorem over_step {α : Type} {enc : α → List Value} {K : Nat} (hK : ∀ x, (enc x).length = K) {l : List α} {k : Nat} {cs : Array Value} (hs : l.length * K ≤ cs.size) (hk : k < l.length)
    (hc : ∀ j x, j < k → l[j]? = some x → ∀ i v, (enc x)[i]? = some v → cs[j * K + i]? = some v) :
    ∀ j x, j < k + 1 → l[j]? = some x → ∀ i v, (enc x)[i]? = some v → (storeL cs (k * K) (enc l[k]))[j * K + i]? = some v := by
  intro j x hj hx i v hv
  have hi : i < K := by
    have := (List.getElem?_eq_some_iff.1 hv).1
    rwa [hK] at this
  rcases Nat.lt_or_ge j k with hlt | hge
  · have h1 : (j + 1) * K ≤ k * K := Nat.mul_le_mul_right K (by omega)
    rw [Nat.add_mul] at h1
    rw [storeL_before _ _ _ _ (by omega)]
    exact hc j x hlt hx i v hv
  · obtain rfl : j = k := by omega
    rw [List.getElem?_eq_getElem hk] at hx
    injection hx with hx
    subst hx
    have h1 : (j + 1) * K ≤ l.length * K := Nat.mul_le_mul_right K (by omega)
    rw [Nat.add_mul] at h1
    rw [storeL_at _ _ _ _ (by rw [hK]; exact hi) (by rw [hK]; omega)]
    exact hv

/-- A row that has been written over whole. -/
theorem Own.over {α : Type} {enc : α → List Value} {k : Nat} (hk : ∀ x, (enc x).length = k) {w : World} {base g n c : Nat} {E : TypeId} {cs : Array Value} {l : List α} (hb : base ≤ g) (hB : Blk w g E cs) (hs : cs.size = c * k) (hl : l.length = n) (hn : n ≤ c) (hm : c ≤ maxLen)
    (hc : ∀ j x, l[j]? = some x → ∀ i v, (enc x)[i]? = some v → cs[j * k + i]? = some v) : Own enc k w base E (.slice (some ⟨g, 0, none⟩) n c) l := by
  subst hl
  refine ⟨flat_length hk l, .inr ⟨g, c, cs, rfl, hb, hB, hn, hm, hs, ?_⟩⟩
  apply List.ext_getElem?
  intro m
  rw [List.getElem?_take]
  rcases Nat.lt_or_ge m (l.length * k) with hlt | hge
  · rw [if_pos hlt]
    have hk0 : 0 < k := by
      rcases Nat.eq_zero_or_pos k with h0 | h0
      · subst h0; simp at hlt
      · exact h0
    have hj : m / k < l.length := (Nat.div_lt_iff_lt_mul hk0).2 hlt
    have hi : m % k < k := Nat.mod_lt _ hk0
    have hm' : m = m / k * k + m % k := by rw [Nat.mul_comm]; exact (Nat.div_add_mod m k).symm
    have hx : l[m / k]? = some l[m / k] := List.getElem?_eq_getElem hj
    have hu : (enc l[m / k])[m % k]? = some ((enc l[m / k])[m % k]'(by rw [hk]; exact hi)) := List.getElem?_eq_getElem _
    have h1 := hc _ _ hx _ _ hu
    have h2 := flat_get hk l _ _ hx _ hi
    rw [hu] at h2
    rw [← hm'] at h1 h2
    rw [h2]
    simpa using h1
  · rw [if_neg (by omega)]
    symm
    rw [List.getElem?_eq_none_iff, flat_length hk]
    exact hge

set_option maxHeartbeats 400000 in
theorem markIS_any (A : Option Addr) (n c : Nat) (k0 : Int) (l : List Int) (w : World) (base : Nat) (h : Own encI 1 w base 3 (.slice A n c) l) (hn : n ≤ 1048576) (hk0 : 0 ≤ k0) (hk1 : k0 ≤ 1000000000) :
    Calls Try.prog 33 #[.slice A n c, .int .i64 k0] w fun e w' => e = .returned (.int .i64 (k0 + n)) ∧ Own encI 1 w' base 3 (.slice A n c) (marksI k0 n) ∧ w.grownBy w' (Value.ownBlock (.slice A n c)) := by
  rcases Nat.eq_zero_or_pos n with h0 | h0
  · subst h0
    have hl : l = [] := List.eq_nil_of_length_eq_zero h.len
    subst hl
    have Ho := Lib.hid h
    clear h
    go_enter Try.func33, Try.ntmps33
    go_wp2
    refine wp_loop_rounds 1 ?_
    rw [rounds_succ]
    go_wp2
    go_ret
    exact ⟨ret_int (by omega), Ho.out, only_refl _ _⟩
  · obtain ⟨g, cs, rfl, hb, hB, hs, hl, hnc, hm, _⟩ := h.blk h0
    have hs' : cs.size = c := by omega
    have Hl := Lib.hid hl
    have HB := Lib.hid hB
    have Hs := Lib.hid hs'
    clear h hl hB hs hs'
    go_enter Try.func33, Try.ntmps33
    go_wp2
    go_loopw [1, 5] (fun q i wr => ∃ k : Nat, k ≤ n ∧ i = .int .i64 k ∧ q = .int .i64 (k0 + k) ∧ ∃ cs : Array Value, Hid (Blk wr g 3 cs) ∧ Hid (cs.size = c) ∧ Hid (∀ j x, j < k → (marksI k0 n)[j]? = some x → ∀ i v, (encI x)[i]? = some v → cs[j * 1 + i]? = some v) ∧ Hid (w.grownBy wr (some g)))
      (fun _ i _ => n - (intOf i).toNat)
    case atStart => exact ⟨0, Nat.zero_le _, rfl, by simp, cs, HB.out, Hs.out, fun j x hj => absurd hj (Nat.not_lt_zero _), only_refl _ _⟩
    case round =>
      obtain ⟨k, hk, rfl, rfl, cs, hB, hs, hc, hgr⟩ := hrel
      by_cases hlt : k < n
      · have hlm : k < (marksI k0 n).length := by rw [marksI_len]; exact hlt
        have hst := over_step encI_len (l := marksI k0 n) (cs := cs) (by rw [marksI_len, hs.out]; omega) hlm hc.out
        have hgk : (marksI k0 n)[k] = k0 + k := by
          have := marksI_get k0 n k hlt
          rw [List.getElem?_eq_getElem hlm] at this
          injection this
        rw [hgk, Nat.mul_one] at hst
        have h1 : k < cs.size := by rw [hs.out]; omega
        have d0 := hB.out.cell k
        have f0 := hB.out.frozen k
        rw [Array.getElem?_eq_getElem h1] at d0
        have Hst := Lib.hid hst
        clear hst hgk
        go_wp2
        go_roundw
        case rel => exact ⟨k + 1, by omega, by go_num, by go_num, _, hB.out.set_ _ _, by show Array.size _ = _; simp [hs.out], Hst.out, only_setCell hgr.out (.inl rfl) _⟩
        case measure => simp [intOf]; omega
      · obtain rfl : k = n := by omega
        go_wp2
        go_ret
        refine ⟨rfl, Own.over encI_len hb hB.out (by rw [hs.out, Nat.mul_one]) (marksI_len _ _) hnc hm (fun j x hx i v hv => hc.out j x ?_ hx i v hv), hgr.out⟩
        have := (List.getElem?_eq_some_iff.1 hx).1
        rwa [marksI_len] at this

set_option maxHeartbeats 400000 in
theorem heldIS_any (A : Option Addr) (n c : Nat) (k0 : Int) (w : World) (h : Rd encI 1 w w.heap.size A (marksI k0 n)) (hn : n ≤ 1048576) (hk0 : 0 ≤ k0) (hk1 : k0 ≤ 1000000000) :
    Calls Try.prog 34 #[.slice A n c, .int .i64 k0] w fun e w' => e = .returned (.int .i64 (k0 + n)) ∧ w = w' := by
  go_enter Try.func34, Try.ntmps34
  go_wp2
  go_loop [1, 5] (fun q i => ∃ k : Nat, k ≤ n ∧ i = .int .i64 k ∧ q = .int .i64 (k0 + k)) (fun _ i => n - (intOf i).toNat)
  case atStart => exact ⟨0, Nat.zero_le _, rfl, by simp⟩
  case round =>
    obtain ⟨k, hk, rfl, rfl⟩ := hrel
    by_cases hlt : k < n
    · have hlm : k < (marksI k0 n).length := by rw [marksI_len]; exact hlt
      obtain ⟨b, off, rfl, hb1, c0⟩ := cellsI h hlm
      have hgk : (marksI k0 n)[k] = k0 + k := by
        have := marksI_get k0 n k hlt
        rw [List.getElem?_eq_getElem hlm] at this
        injection this
      rw [hgk] at c0
      clear hgk
      go_wp2
      go_round
      case rel => exact ⟨k + 1, by omega, by go_num, by go_num⟩
      case measure => simp [intOf]; omega
    · obtain rfl : k = n := by omega
      go_wp2
      go_ret
      exact ⟨rfl, rfl⟩

/-- What is asked of a function on ints that is handed on. -/
def PredI (g : Nat) (lb : Array Value) (l : List Int) (p : Int → Bool) (w : World) : Prop :=
  ∀ (W : World) (x : Int), x ∈ l → Below w.heap.size w W → Calls Try.prog g (#[.int .i64 x] ++ lb) W fun e w' => e = .returned (.bool (p x)) ∧ Below W.heap.size W w'
set_option maxHeartbeats 400000 in
theorem IndexFuncI_any (g : Nat) (lb : Array Value) (eg : Enters Try.prog g) (A : Option Addr) (c : Nat) (l : List Int) (p : Int → Bool) (w : World) (h : Rd encI 1 w w.heap.size A l) (hl : l.length ≤ 1048576) (hp : PredI g lb l p w) :
    Calls Try.prog 87 #[.slice A l.length c, .func (.func g) #[] lb] w fun e w' => e = .returned (.int .i64 (idxOf p l)) ∧ Below w.heap.size w w' := by
  have eg' : ∀ args w, (callFunc g args).run Try.prog w = .ok (.enter g args) w := eg
  go_enter Try.func87, Try.ntmps87
  go_wp2
  go_loopw [8] (fun i wr => ∃ k : Nat, k ≤ l.length ∧ i = .int .i64 k ∧ Hid ((l.take k).any p = false) ∧ Below w.heap.size w wr) (fun i _ => l.length - (intOf i).toNat)
  case atStart => exact ⟨0, Nat.zero_le _, rfl, rfl, Below.refl _ _⟩
  case round =>
    obtain ⟨k, hk, rfl, hq, hbl⟩ := hrel
    by_cases hlt : k < l.length
    · obtain ⟨b, off, rfl, hb1, c0⟩ := cellsI (h.below hbl) hlt
      have hcall := hp wr l[k] (List.getElem_mem hlt) hbl
      have hhit := fun h1 => idxOf_hit p l k hlt h1 hq.out
      have hmiss : p l[k] = false → (l.take (k + 1)).any p = false := fun h1 => by rw [any_take_succ p l k hlt, hq.out, h1]; rfl
      generalize l[k] = x at *
      have Hcall := Lib.hid hcall
      have Hhit := Lib.hid hhit
      have Hmiss := Lib.hid hmiss
      clear hcall hhit hmiss hp
      cases hpx : p x with
      | true =>
        have Hpx := Lib.hid hpx
        clear hpx
        go_wp2_with fail
        refine Hcall.out.mono ?_
        rintro e w3 ⟨rfl, hb3⟩
        rw [Hpx.out]
        go_wp2
        go_ret
        exact ⟨ret_int (Hhit.out Hpx.out).symm, hbl.trans (hb3.mono hbl.size)⟩
      | false =>
        have Hpx := Lib.hid hpx
        clear hpx
        go_wp2_with fail
        refine Hcall.out.mono ?_
        rintro e w3 ⟨rfl, hb3⟩
        rw [Hpx.out]
        go_wp2
        go_roundw
        case rel => exact ⟨k + 1, by omega, by go_num, Hmiss.out Hpx.out, hbl.trans (hb3.mono hbl.size)⟩
        case measure => simp [intOf]; omega
    · have hq' := hq.out
      rw [List.take_of_length_le (by omega)] at hq'
      have Hq := Lib.hid hq'
      clear hq'
      go_wp2
      go_ret
      exact ⟨ret_int (idxOf_miss p l Hq.out).symm, hbl⟩
theorem ContainsFuncI_any (g : Nat) (lb : Array Value) (eg : Enters Try.prog g) (A : Option Addr) (c : Nat) (l : List Int) (p : Int → Bool) (w : World) (h : Rd encI 1 w w.heap.size A l) (hl : l.length ≤ 1048576) (hp : PredI g lb l p w) :
    Calls Try.prog 85 #[.slice A l.length c, .func (.func g) #[] lb] w fun e w' => e = .returned (.bool (l.any p)) ∧ Below w.heap.size w w' := by
  have hcon := IndexFuncI_any g lb eg A c l p w h hl hp
  rw [← idxOf_nonneg]
  generalize idxOf p l = r at *
  have Hcon := Lib.hid hcon
  clear hcon hp
  go_enter Try.func85, Try.ntmps85
  go_wp2_with fail
  refine Hcon.out.mono ?_
  rintro e w3 ⟨rfl, hb3⟩
  go_wp2
  go_ret
  exact ⟨rfl, hb3⟩
theorem allI_any (g : Nat) (lb : Array Value) (eg : Enters Try.prog g) (A : Option Addr) (c : Nat) (l : List Int) (p : Int → Bool) (w : World) (h : Rd encI 1 w w.heap.size A l) (hl : l.length ≤ 1048576) (hp : PredI g lb l p w) :
    Calls Try.prog 79 #[.slice A l.length c, .func (.func g) #[] lb] w fun e w' => e = .returned (.bool (l.all p)) ∧ Below w.heap.size w w' := by
  have eg' : ∀ args w, (callFunc g args).run Try.prog w = .ok (.enter g args) w := eg
  have hclo : PredI 86 #[.pointer (some ⟨w.heap.size, 0, none⟩)] l (fun x => !p x) (w.alloc (.cells #[.func (.func g) #[] lb] 79)) := by
    intro W x hx hW
    have hcell : W.cell? ⟨w.heap.size, 0, none⟩ = some (.func (.func g) #[] lb) := by
      rw [hW.cell (p := ⟨w.heap.size, 0, none⟩) (by simp)]; simp
    have hbw : Below w.heap.size w W := ((Below.refl _ _).alloc (Nat.le_refl _) _).trans (hW.mono (by simp))
    have hcall := fun W1 (hb : Below W.heap.size W W1) => hp W1 x hx (hbw.trans (hb.mono hbw.size))
    have Hcall := Lib.hid hcall
    have hlt : w.heap.size < W.heap.size := by have := hW.size; simp at this; omega
    clear hcall hp
    have hshow : #[Value.int .i64 x] ++ #[Value.pointer (some ⟨w.heap.size, 0, none⟩)] = #[.int .i64 x, .pointer (some ⟨w.heap.size, 0, none⟩)] := rfl
    rw [hshow]
    go_enter Try.func86, Try.ntmps86
    go_wp2_with fail
    refine (Hcall.out _ (Below.refl _ _)).mono ?_
    rintro e w3 ⟨rfl, hb3⟩
    go_wp2
    go_ret
    exact ⟨rfl, hb3⟩
  have hcon := ContainsFuncI_any 86 #[.pointer (some ⟨w.heap.size, 0, none⟩)] (enters_of Try.func86 (by kernel_rfl) rfl) A c l _ _ ((h.keep fun p hp => World.cell?_alloc_lt w _ p hp).more (by simp)) hl hclo
  have hno : (!l.any fun x => !p x) = l.all p := by simp [List.all_eq_not_any_not]
  rw [← hno]
  generalize (l.any fun x => !p x) = r at *
  have Hcon := Lib.hid hcon
  clear hcon hp hclo hno
  have hmf : ∀ (fn : Fn) (first cap : Array Value) (w : World), (Instr.makeFunc fn first cap).run Try.prog w = .ok (.func fn first cap) w := fun _ _ _ _ => rfl
  go_enter Try.func79, Try.ntmps79
  go_wp2_with fail
  refine Hcon.out.mono ?_
  rintro e w3 ⟨rfl, hb3⟩
  go_wp2
  go_ret
  exact ⟨rfl, ((Below.refl _ _).alloc (Nat.le_refl _) _).trans (hb3.mono (by simp))⟩

def okS (x : Int) : Bool := inB x (-100000) 100000
def goodS (l : List Int) : Bool := decide ((l.length : Int) ≤ 24) && l.all okS
theorem isSample_pred (l : List Int) (w : World) : PredI 80 #[] l okS w := by
  intro W x _ _
  show Calls _ _ #[.int .i64 x] W _
  go_enter Try.func80, Try.ntmps80
  go_wp2_with (go_at_call 51; refine (in_any _ _ _ _).mono ?_; rintro e w' ⟨rfl, rfl⟩)
  go_ret
  exact ⟨rfl, Below.refl _ _⟩
theorem areSamples_any (A : Option Addr) (c : Nat) (l : List Int) (w : World) (h : Rd encI 1 w w.heap.size A l) (hl : l.length ≤ 1048576) :
    Calls Try.prog 71 #[.slice A l.length c] w fun e w' => e = .returned (.bool (goodS l)) ∧ Below w.heap.size w w' := by
  have hall := allI_any 80 #[] (enters_of Try.func80 (by kernel_rfl) rfl) A c l okS w h hl (isSample_pred l w)
  unfold goodS
  generalize l.all okS = r at *
  have Hall := Lib.hid hall
  clear hall
  by_cases hn : (l.length : Int) ≤ 24
  · have hd : decide ((l.length : Int) ≤ 24) = true := by simpa using hn
    rw [hd]
    go_enter Try.func71, Try.ntmps71
    go_wp2_with (go_at_call 79; refine Hall.out.mono ?_; rintro e w1 ⟨rfl, hb1⟩)
    go_ret
    exact ⟨ret_bool (by simp), hb1⟩
  · have hd : decide ((l.length : Int) ≤ 24) = false := by simpa using hn
    rw [hd]
    go_enter Try.func71, Try.ntmps71
    go_wp2_with (go_at_call 79; refine Hall.out.mono ?_; rintro e w1 ⟨rfl, hb1⟩)
    go_ret
    exact ⟨ret_bool (by simp), Below.refl _ _⟩
theorem goodS_iff {l : List Int} : goodS l = true ↔ l.length ≤ 24 ∧ ∀ x ∈ l, -100000 ≤ x ∧ x ≤ 100000 := by
  simp only [goodS, Bool.and_eq_true, decide_eq_true_eq, List.all_eq_true, okS, inB_iff]
  constructor
  · rintro ⟨a, b⟩; exact ⟨by omega, b⟩
  · rintro ⟨a, b⟩; exact ⟨by omega, b⟩
set_option maxHeartbeats 400000 in
theorem l2Samples_any (A : Option Addr) (c : Nat) (l : List Int) (w : World) (B : Nat) (h : Rd encI 1 w B A l) (hl : l.length ≤ 1048576) :
    Calls Try.prog 68 #[.slice A l.length c] w fun e w' => e = .returned (.bool (goodS l)) ∧ w = w' := by
  go_enter Try.func68, Try.ntmps68
  go_wp2
  go_loop [3] (fun i => ∃ k : Nat, k ≤ l.length ∧ i = .int .i64 k ∧ Hid ((l.take k).all okS = true)) (fun i => l.length - (intOf i).toNat)
  case atStart => exact ⟨0, Nat.zero_le _, rfl, rfl⟩
  case round =>
    obtain ⟨k, hk, rfl, Hg⟩ := hrel
    by_cases hlt : k < l.length
    · obtain ⟨b, off, rfl, hb, c0⟩ := cellsI h hlt
      have hs := all_take_succ okS l k hlt
      have hf := all_false_of okS l k hlt
      generalize l[k] = x at *
      have Hs := Lib.hid hs
      have Hf := Lib.hid hf
      clear hs hf
      cases hok1 : inB x (-100000) 100000 with
      | true =>
        go_wp2_with (go_at_call 53; refine (l1In_any _ _ _ _).mono ?_; rintro e w' ⟨rfl, rfl⟩)
        go_round
        case rel => exact ⟨k + 1, by omega, by go_num, by show List.all _ _ = true; rw [Hs.out, Hg.out]; simp [okS, hok1]⟩
        case measure => simp [intOf]; omega
      | false =>
        go_wp2_with (go_at_call 53; refine (l1In_any _ _ _ _).mono ?_; rintro e w' ⟨rfl, rfl⟩)
        go_ret
        exact ⟨ret_bool (by simp [goodS, Hf.out (by simp [okS, hok1])]), rfl⟩
    · have hkl : (l.take k) = l := List.take_of_length_le (by omega)
      rw [hkl] at Hg
      have Hkl := Lib.hid hkl
      clear hkl
      go_wp2
      go_ret
      exact ⟨ret_bool (by simp only [goodS, Hg.out, Bool.and_true]), rfl⟩

end Go.Proofs.Ytaemdldpcpefbaa
