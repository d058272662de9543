/-
  Contracts over slices of ints: copies, comparisons, marks, tests of all elements.
-/
import Derived.Test.YtdadcbcanjmoeaaPure
import Derived.Laws.EntriesVeiled
namespace Go.Proofs.Ytdadcbcanjmoeaa
set_option linter.unusedVariables false
open Go.RowKit

theorem infoI : (Try.prog.info? 3).map (fun i => (i.zero, i.size, i.bytes)) = some (some (.int .i64 0), 1, 8) := by kernel_rfl


def eqsI (l m : List Int) : Bool := decide (l = m)
theorem eqsI_iff {l m : List Int} : eqsI l m = true ↔ l = m := by simp [eqsI]

set_option maxHeartbeats 400000 in
theorem eqIS_any (A A' : Option Addr) (c c' : Nat) (l m : List Int) (w : World) (h : Rd encI 1 w w.heap.size A l) (h' : Rd encI 1 w w.heap.size A' m) (hl : l.length ≤ 1048576) :
    Calls Try.prog 39 #[.slice A l.length c, .slice A' m.length c'] w fun e w' => e = .returned (.bool (eqsI l m)) ∧ Below w.heap.size w w' := by
  by_cases hn : l.length = m.length
  · have hb : ((l.length : Int) != (m.length : Int)) = false := by simp [hn]
    have Hn := Lib.hid hn
    clear hn
    go_enter Try.func39, Try.ntmps39
    go_wp2
    go_loopw [5] (fun i wr => ∃ k : Nat, k ≤ l.length ∧ i = .int .i64 k ∧ Hid (∀ j (h1 : j < l.length) (h2 : j < m.length), j < k → l[j] = m[j]) ∧ Below w.heap.size w wr)
      (fun i _ => l.length - (intOf i).toNat)
    case atStart => exact ⟨0, Nat.zero_le _, rfl, fun j _ _ hj => absurd hj (Nat.not_lt_zero _), Below.refl _ _⟩
    case round =>
      obtain ⟨k, hk, rfl, hq, hbl⟩ := hrel
      by_cases hlt : k < l.length
      · have hlt' : k < m.length := by have := Hn.out; omega
        obtain ⟨b, off, rfl, hb1, c0⟩ := cellsI (h.below hbl) hlt
        obtain ⟨b', off', rfl, hb2, d0⟩ := cellsI (h'.below hbl) hlt'
        have hno : l[k] ≠ m[k] → eqsI l m = false := by
          intro hne
          rw [Bool.eq_false_iff]
          intro ht
          rw [eqsI_iff] at ht
          subst ht
          exact hne rfl
        have hyes : l[k] = m[k] → ∀ j (h1 : j < l.length) (h2 : j < m.length), j < k + 1 → l[j] = m[j] := by
          intro hy j h1 h2 hj
          rcases Nat.lt_or_ge j k with h3 | h3
          · exact hq.out j h1 h2 h3
          · obtain rfl : j = k := by omega
            exact hy
        generalize l[k] = x at *
        generalize m[k] = y at *
        have Hno := Lib.hid hno
        have Hyes := Lib.hid hyes
        clear hno hyes
        by_cases hxy : x = y
        · have hbb : (x != y) = false := by simp [hxy]
          have Hxy := Lib.hid hxy
          clear hxy
          go_wp2_with fail
          go_quiet (fail)
          go_wp2
          go_roundw
          case rel => exact ⟨k + 1, by omega, by go_num, Hyes.out Hxy.out, below_drewN hbl _⟩
          case measure => simp [intOf]; omega
        · have hbb : (x != y) = true := by simp [hxy]
          have Hxy := Lib.hid hxy
          clear hxy
          go_wp2_with fail
          go_quiet (fail)
          go_wp2
          go_ret
          exact ⟨ret_bool (Hno.out Hxy.out).symm, below_drewN hbl _⟩
      · have hq' : l = m := List.ext_getElem Hn.out fun j h1 h2 => hq.out j h1 h2 (by omega)
        have Hq := Lib.hid hq'
        clear hq'
        go_wp2
        go_ret
        exact ⟨ret_bool (eqsI_iff.2 Hq.out).symm, hbl⟩
  · have hb : ((l.length : Int) != (m.length : Int)) = true := by simp; omega
    go_enter Try.func39, Try.ntmps39
    go_wp2
    go_ret
    exact ⟨ret_bool (by rw [eq_comm, Bool.eq_false_iff]; intro ht; rw [eqsI_iff] at ht; subst ht; exact hn rfl), Below.refl _ _⟩

/-- The marks k, k + 1 .. -/
def marksI (k : Int) (n : Nat) : List Int := (List.range n).map fun i : Nat => k + (i : Int)
theorem marksI_len (k : Int) (n : Nat) : (marksI k n).length = n := by simp [marksI]
theorem marksI_get (k : Int) (n j : Nat) (hj : j < n) : (marksI k n)[j]? = some (k + j) := by simp [marksI, hj]

/-- A row that is written over, element by element. -/
theorem over_step {α : Type} {enc : α → List Value} {K : Nat} (hK : ∀ x, (enc x).length = K) {l : List α} {k : Nat} {cs : Array Value} (hs : l.length * K ≤ cs.size) (hk : k < l.length)
    (hc : ∀ j x, j < k → l[j]? = some x → ∀ i v, (enc x)[i]? = some v → cs[j * K + i]? = some v) :
    ∀ j x, j < k + 1 → l[j]? = some x → ∀ i v, (enc x)[i]? = some v → (storeL cs (k * K) (enc l[k]))[j * K + i]? = some v := by
  intro j x hj hx i v hv
  have hi : i < K := by
    have := (List.getElem?_eq_some_iff.1 hv).1
    rwa [hK] at this
  rcases Nat.lt_or_ge j k with hlt | hge
  · have h1 : (j + 1) * K ≤ k * K := Nat.mul_le_mul_right K (by omega)
    rw [Nat.add_mul] at h1
    rw [storeL_before _ _ _ _ (by omega)]
    exact hc j x hlt hx i v hv
  · obtain rfl : j = k := by omega
    rw [List.getElem?_eq_getElem hk] at hx
    injection hx with hx
    subst hx
    have h1 : (j + 1) * K ≤ l.length * K := Nat.mul_le_mul_right K (by omega)
    rw [Nat.add_mul] at h1
    rw [storeL_at _ _ _ _ (by rw [hK]; exact hi) (by rw [hK]; omega)]
    exact hv

/-- A row that has been written over whole. -/
theorem Own.over {α : Type} {enc : α → List Value} {k : Nat} (hk : ∀ x, (enc x).length = k) {w : World} {base g n c : Nat} {E : TypeId} {cs : Array Value} {l : List α} (hb : base ≤ g) (hB : Blk w g E cs) (hs : cs.size = c * k) (hl : l.length = n) (hn : n ≤ c) (hm : c ≤ maxLen)
    (hc : ∀ j x, l[j]? = some x → ∀ i v, (enc x)[i]? = some v → cs[j * k + i]? = some v) : Own enc k w base E (.slice (some ⟨g, 0, none⟩) n c) l := by
  subst hl
  refine ⟨flat_length hk l, .inr ⟨g, c, cs, rfl, hb, hB, hn, hm, hs, ?_⟩⟩
  apply List.ext_getElem?
  intro m
  rw [List.getElem?_take]
  rcases Nat.lt_or_ge m (l.length * k) with hlt | hge
  · rw [if_pos hlt]
    have hk0 : 0 < k := by
      rcases Nat.eq_zero_or_pos k with h0 | h0
      · subst h0; simp at hlt
      · exact h0
    have hj : m / k < l.length := (Nat.div_lt_iff_lt_mul hk0).2 hlt
    have hi : m % k < k := Nat.mod_lt _ hk0
    have hm' : m = m / k * k + m % k := by rw [Nat.mul_comm]; exact (Nat.div_add_mod m k).symm
    have hx : l[m / k]? = some l[m / k] := List.getElem?_eq_getElem hj
    have hu : (enc l[m / k])[m % k]? = some ((enc l[m / k])[m % k]'(by rw [hk]; exact hi)) := List.getElem?_eq_getElem _
    have h1 := hc _ _ hx _ _ hu
    have h2 := flat_get hk l _ _ hx _ hi
    rw [hu] at h2
    rw [← hm'] at h1 h2
    rw [h2]
    simpa using h1
  · rw [if_neg (by omega)]
    symm
    rw [List.getElem?_eq_none_iff, flat_length hk]
    exact hge

set_option maxHeartbeats 400000 in
theorem markIS_any (A : Option Addr) (n c : Nat) (k0 : Int) (l : List Int) (w : World) (base : Nat) (h : Own encI 1 w base 3 (.slice A n c) l) (hn : n ≤ 1048576) (hk0 : 0 ≤ k0) (hk1 : k0 ≤ 1000000000) :
    Calls Try.prog 40 #[.slice A n c, .int .i64 k0] w fun e w' => e = .returned (.int .i64 (k0 + n)) ∧ Own encI 1 w' base 3 (.slice A n c) (marksI k0 n) ∧ w.grownBy w' (Value.ownBlock (.slice A n c)) := by
  rcases Nat.eq_zero_or_pos n with h0 | h0
  · subst h0
    have hl : l = [] := List.eq_nil_of_length_eq_zero h.len
    subst hl
    have Ho := Lib.hid h
    clear h
    go_enter Try.func40, Try.ntmps40
    go_wp2
    refine wp_loop_rounds 1 ?_
    rw [rounds_succ]
    go_wp2
    go_ret
    exact ⟨ret_int (by omega), Ho.out, only_refl _ _⟩
  · obtain ⟨g, cs, rfl, hb, hB, hs, hl, hnc, hm, _⟩ := h.blk h0
    have hs' : cs.size = c := by omega
    have Hl := Lib.hid hl
    have HB := Lib.hid hB
    have Hs := Lib.hid hs'
    clear h hl hB hs hs'
    go_enter Try.func40, Try.ntmps40
    go_wp2
    go_loopw [1, 5] (fun q i wr => ∃ k : Nat, k ≤ n ∧ i = .int .i64 k ∧ q = .int .i64 (k0 + k) ∧ ∃ cs : Array Value, Hid (Blk wr g 3 cs) ∧ Hid (cs.size = c) ∧ Hid (∀ j x, j < k → (marksI k0 n)[j]? = some x → ∀ i v, (encI x)[i]? = some v → cs[j * 1 + i]? = some v) ∧ Hid (w.grownBy wr (some g)))
      (fun _ i _ => n - (intOf i).toNat)
    case atStart => exact ⟨0, Nat.zero_le _, rfl, by simp, cs, HB.out, Hs.out, fun j x hj => absurd hj (Nat.not_lt_zero _), only_refl _ _⟩
    case round =>
      obtain ⟨k, hk, rfl, rfl, cs, hB, hs, hc, hgr⟩ := hrel
      by_cases hlt : k < n
      · have hlm : k < (marksI k0 n).length := by rw [marksI_len]; exact hlt
        have hst := over_step encI_len (l := marksI k0 n) (cs := cs) (by rw [marksI_len, hs.out]; omega) hlm hc.out
        have hgk : (marksI k0 n)[k] = k0 + k := by
          have := marksI_get k0 n k hlt
          rw [List.getElem?_eq_getElem hlm] at this
          injection this
        rw [hgk, Nat.mul_one] at hst
        have h1 : k < cs.size := by rw [hs.out]; omega
        have d0 := hB.out.cell k
        have f0 := hB.out.frozen k
        rw [Array.getElem?_eq_getElem h1] at d0
        have Hst := Lib.hid hst
        clear hst hgk
        go_wp2
        go_roundw
        case rel => exact ⟨k + 1, by omega, by go_num, by go_num, _, hB.out.set_ _ _, by show Array.size _ = _; simp [hs.out], Hst.out, only_setCell hgr.out (.inl rfl) _⟩
        case measure => simp [intOf]; omega
      · obtain rfl : k = n := by omega
        go_wp2
        go_ret
        refine ⟨rfl, Own.over encI_len hb hB.out (by rw [hs.out, Nat.mul_one]) (marksI_len _ _) hnc hm (fun j x hx i v hv => hc.out j x ?_ hx i v hv), hgr.out⟩
        have := (List.getElem?_eq_some_iff.1 hx).1
        rwa [marksI_len] at this

set_option maxHeartbeats 400000 in
theorem heldIS_any (A : Option Addr) (n c : Nat) (k0 : Int) (w : World) (h : Rd encI 1 w w.heap.size A (marksI k0 n)) (hn : n ≤ 1048576) (hk0 : 0 ≤ k0) (hk1 : k0 ≤ 1000000000) :
    Calls Try.prog 41 #[.slice A n c, .int .i64 k0] w fun e w' => e = .returned (.int .i64 (k0 + n)) ∧ w = w' := by
  go_enter Try.func41, Try.ntmps41
  go_wp2
  go_loop [1, 5] (fun q i => ∃ k : Nat, k ≤ n ∧ i = .int .i64 k ∧ q = .int .i64 (k0 + k)) (fun _ i => n - (intOf i).toNat)
  case atStart => exact ⟨0, Nat.zero_le _, rfl, by simp⟩
  case round =>
    obtain ⟨k, hk, rfl, rfl⟩ := hrel
    by_cases hlt : k < n
    · have hlm : k < (marksI k0 n).length := by rw [marksI_len]; exact hlt
      obtain ⟨b, off, rfl, hb1, c0⟩ := cellsI h hlm
      have hgk : (marksI k0 n)[k] = k0 + k := by
        have := marksI_get k0 n k hlt
        rw [List.getElem?_eq_getElem hlm] at this
        injection this
      rw [hgk] at c0
      clear hgk
      go_wp2
      go_round
      case rel => exact ⟨k + 1, by omega, by go_num, by go_num⟩
      case measure => simp [intOf]; omega
    · obtain rfl : k = n := by omega
      go_wp2
      go_ret
      exact ⟨rfl, rfl⟩

/-- What is asked of a function on ints that is handed on. -/
def PredI (g : Nat) (lb : Array Value) (l : List Int) (p : Int → Bool) (w : World) : Prop :=
  ∀ (W : World) (x : Int), x ∈ l → Below w.heap.size w W → Calls Try.prog g (#[.int .i64 x] ++ lb) W fun e w' => e = .returned (.bool (p x)) ∧ Below W.heap.size W w'


end Go.Proofs.Ytdadcbcanjmoeaa
