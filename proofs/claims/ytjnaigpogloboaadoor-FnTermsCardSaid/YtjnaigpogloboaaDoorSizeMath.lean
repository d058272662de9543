/-
  Plain arithmetic, of no program: the size of a width, and the least width of a magnitude.
-/
import Derived.Test.YtjnaigpogloboaaDoorMath
namespace Go.Proofs.YtjnaigpogloboaaDoor
set_option linter.unusedVariables false

/-- The size of a width. -/
def szW (w : Nat) : Nat := if h : w < 10 then 11 * (w - 1) else 100 + szW (w / 10)
  termination_by w
  decreasing_by omega
theorem szW_small {w : Nat} (h : w < 10) : szW w = 11 * (w - 1) := by rw [szW, dif_pos h]
theorem szW_big {w : Nat} (h : 10 ≤ w) : szW w = 100 + szW (w / 10) := by rw [szW, dif_neg (by omega)]
theorem szW_mono : ∀ (b a : Nat), a ≤ b → szW a ≤ szW b := by
  intro b
  induction b using Nat.strongRecOn with
  | ind b ih =>
    intro a hab
    by_cases hb : b < 10
    · rw [szW_small hb, szW_small (w := a) (by omega)]; omega
    · rw [szW_big (w := b) (by omega)]
      by_cases ha : a < 10
      · rw [szW_small ha]; omega
      · rw [szW_big (w := a) (by omega)]
        have := ih (b / 10) (by omega) (a / 10) (by omega)
        omega
/-- Between two numbers of one digit and zeros the size stays. -/
theorem szW_same : ∀ (k d u : Nat), 1 ≤ d → d ≤ 9 → d * 10 ^ k ≤ u → u < (d + 1) * 10 ^ k → szW u = szW (d * 10 ^ k) := by
  intro k
  induction k with
  | zero => intro d u h1 h2 h3 h4; simp at h3 h4 ⊢; rw [show u = d by omega]
  | succ k ih =>
    intro d u h1 h2 h3 h4
    have hp : 0 < 10 ^ k := Nat.pow_pos (by omega)
    have e : ∀ x, x * 10 ^ (k + 1) = x * 10 ^ k * 10 := fun x => by rw [Nat.pow_succ, Nat.mul_assoc]
    rw [e] at h3 h4 ⊢
    have hd : 1 ≤ d * 10 ^ k := Nat.mul_pos (by omega) hp
    rw [szW_big (w := u) (by omega), szW_big (w := d * 10 ^ k * 10) (by omega), Nat.mul_div_cancel _ (by omega)]
    rw [ih d (u / 10) h1 h2 (by omega) (by omega)]
theorem szW_bd : ∀ (w : Nat), w ≤ 1000000 → szW w ≤ 600 := by
  intro w h
  have h1 := szW_mono 1000000 w h
  have h2 : szW 1000000 = 600 := by decide +kernel
  omega
/-- The least width whose size is at least n: at most a million. -/
def IsLW (n : Int) (w : Nat) : Prop := 1 ≤ w ∧ w ≤ 1000000 ∧ n ≤ szW w ∧ ∀ u, 1 ≤ u → u < w → (szW u : Int) < n
theorem IsLW.unique {n : Int} {a b : Nat} (h : IsLW n a) (k : IsLW n b) : a = b := by
  obtain ⟨h1, h2, h3, h4⟩ := h
  obtain ⟨k1, k2, k3, k4⟩ := k
  rcases Nat.lt_trichotomy a b with c | c | c
  · have := k4 a h1 c; omega
  · exact c
  · have := h4 b k1 c; omega
/-- What is told: a width, or none. -/
def LWout (n : Int) (w : Int) (ok : Bool) : Prop := if ok then ∃ a : Nat, w = a ∧ IsLW n a else w = 0 ∧ 600 < n
theorem LWout.unique {n w w' : Int} {ok ok' : Bool} (h : LWout n w ok) (k : LWout n w' ok') : w = w' ∧ ok = ok' := by
  unfold LWout at h k
  cases ok <;> cases ok' <;> simp at h k
  · exact ⟨by omega, rfl⟩
  · obtain ⟨a, _, k1, k2, k3, k4⟩ := k; have := szW_bd a k2; omega
  · obtain ⟨a, _, k1, k2, k3, k4⟩ := h; have := szW_bd a k2; omega
  · obtain ⟨a, rfl, h⟩ := h; obtain ⟨b, rfl, k⟩ := k; exact ⟨by rw [h.unique k], rfl⟩
/-- All widths below c are too small. -/
def Below_ (n : Int) (c : Nat) : Prop := ∀ u, 1 ≤ u → u < c → (szW u : Int) < n
theorem Below_.step {n : Int} {k d : Nat} (h1 : 1 ≤ d) (h2 : d ≤ 9) (h : Below_ n (d * 10 ^ k)) (hn : (szW (d * 10 ^ k) : Int) < n) : Below_ n ((d + 1) * 10 ^ k) := by
  intro u hu hlt
  rcases Nat.lt_or_ge u (d * 10 ^ k) with c | c
  · exact h u hu c
  · rw [szW_same k d u h1 h2 c hlt]; exact hn
theorem Below_.hit {n : Int} {c : Nat} (h : Below_ n c) (h1 : 1 ≤ c) (h2 : c ≤ 1000000) (hn : n ≤ szW c) : IsLW n c := ⟨h1, h2, hn, h⟩

end Go.Proofs.YtjnaigpogloboaaDoor
