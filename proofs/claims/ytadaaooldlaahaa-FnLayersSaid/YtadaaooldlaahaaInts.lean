/-
  Contracts over slices of ints: copies, comparisons, marks, tests of all elements.
-/
import Derived.Test.YtadaaooldlaahaaPure
import Derived.Laws.EntriesVeiled
namespace Go.Proofs.Ytadaaooldlaahaa
set_option linter.unusedVariables false
open Go.RowKit

theorem infoI : (Try.prog.info? 3).map (fun i => (i.zero, i.size, i.bytes)) = some (some (.int .i64 0), 1, 8) := by kernel_rfl


def eqsI (l m : List Int) : Bool := decide (l = m)
theorem eqsI_iff {l m : List Int} : eqsI l m = true ↔ l = m := by simp [eqsI]


/-- The marks k, k + 1 .. -/
def marksI (k : Int) (n : Nat) : List Int := (List.range n).map fun i : Nat => k + (i : Int)
theorem marksI_len (k : Int) (n : Nat) : (marksI k n).length = n := by simp [marksI]
theorem marksI_get (k : Int) (n j : Nat) (hj : j < n) : (marksI k n)[j]? = some (k + j) := by simp [marksI, hj]

/-- A row that is written over, element by element. -/
theorem over_step {α : Type} {enc : α → List Value} {K : Nat} (hK : ∀ x, (enc x).length = K) {l : List α} {k : Nat} {cs : Array Value} (hs : l.length * K ≤ cs.size) (hk : k < l.length)
    (hc : ∀ j x, j < k → l[j]? = some x → ∀ i v, (enc x)[i]? = some v → cs[j * K + i]? = some v) :
    ∀ j x, j < k + 1 → l[j]? = some x → ∀ i v, (enc x)[i]? = some v → (storeL cs (k * K) (enc l[k]))[j * K + i]? = some v := by
  intro j x hj hx i v hv
  have hi : i < K := by
    have := (List.getElem?_eq_some_iff.1 hv).1
    rwa [hK] at this
  rcases Nat.lt_or_ge j k with hlt | hge
  · have h1 : (j + 1) * K ≤ k * K := Nat.mul_le_mul_right K (by omega)
    rw [Nat.add_mul] at h1
    rw [storeL_before _ _ _ _ (by omega)]
    exact hc j x hlt hx i v hv
  · obtain rfl : j = k := by omega
    rw [List.getElem?_eq_getElem hk] at hx
    injection hx with hx
    subst hx
    have h1 : (j + 1) * K ≤ l.length * K := Nat.mul_le_mul_right K (by omega)
    rw [Nat.add_mul] at h1
    rw [storeL_at _ _ _ _ (by rw [hK]; exact hi) (by rw [hK]; omega)]
    exact hv

/-- A row that has been written over whole. -/
theorem Own.over {α : Type} {enc : α → List Value} {k : Nat} (hk : ∀ x, (enc x).length = k) {w : World} {base g n c : Nat} {E : TypeId} {cs : Array Value} {l : List α} (hb : base ≤ g) (hB : Blk w g E cs) (hs : cs.size = c * k) (hl : l.length = n) (hn : n ≤ c) (hm : c ≤ maxLen)
    (hc : ∀ j x, l[j]? = some x → ∀ i v, (enc x)[i]? = some v → cs[j * k + i]? = some v) : Own enc k w base E (.slice (some ⟨g, 0, none⟩) n c) l := by
  subst hl
  refine ⟨flat_length hk l, .inr ⟨g, c, cs, rfl, hb, hB, hn, hm, hs, ?_⟩⟩
  apply List.ext_getElem?
  intro m
  rw [List.getElem?_take]
  rcases Nat.lt_or_ge m (l.length * k) with hlt | hge
  · rw [if_pos hlt]
    have hk0 : 0 < k := by
      rcases Nat.eq_zero_or_pos k with h0 | h0
      · subst h0; simp at hlt
      · exact h0
    have hj : m / k < l.length := (Nat.div_lt_iff_lt_mul hk0).2 hlt
    have hi : m % k < k := Nat.mod_lt _ hk0
    have hm' : m = m / k * k + m % k := by rw [Nat.mul_comm]; exact (Nat.div_add_mod m k).symm
    have hx : l[m / k]? = some l[m / k] := List.getElem?_eq_getElem hj
    have hu : (enc l[m / k])[m % k]? = some ((enc l[m / k])[m % k]'(by rw [hk]; exact hi)) := List.getElem?_eq_getElem _
    have h1 := hc _ _ hx _ _ hu
    have h2 := flat_get hk l _ _ hx _ hi
    rw [hu] at h2
    rw [← hm'] at h1 h2
    rw [h2]
    simpa using h1
  · rw [if_neg (by omega)]
    symm
    rw [List.getElem?_eq_none_iff, flat_length hk]
    exact hge



/-- What is asked of a function on ints that is handed on. -/
def PredI (g : Nat) (lb : Array Value) (l : List Int) (p : Int → Bool) (w : World) : Prop :=
  ∀ (W : World) (x : Int), x ∈ l → Below w.heap.size w W → Calls Try.prog g (#[.int .i64 x] ++ lb) W fun e w' => e = .returned (.bool (p x)) ∧ Below W.heap.size W w'


end Go.Proofs.Ytadaaooldlaahaa
