/-
  Plain arithmetic, of no program: bounds, fractions in lowest terms.
-/
namespace Go.Proofs.Ytdadcbcanjmoeaa
set_option linter.unusedVariables false

/-- n lies within a and b. -/
def inB (n a b : Int) : Bool := decide (a ≤ n) && decide (n ≤ b)
theorem inB_iff {n a b : Int} : inB n a b = true ↔ a ≤ n ∧ n ≤ b := by simp [inB]

/-- A number without its sign. -/
def absI (n : Int) : Int := max n (-n)

/-- A fraction in lowest terms. -/
def redN (a b : Int) : Int := a / (Int.gcd a b : Int)
def redD (a b : Int) : Int := b / (Int.gcd a b : Int)

theorem gcd_step (x y : Int) (hx : 0 ≤ x) (hy : 0 ≤ y) : Int.gcd y (x % y) = Int.gcd x y := by
  obtain ⟨m, rfl⟩ := Int.eq_ofNat_of_zero_le hx
  obtain ⟨n, rfl⟩ := Int.eq_ofNat_of_zero_le hy
  rw [← Int.natCast_emod]
  simp only [Int.gcd_natCast_natCast]
  rw [Nat.gcd_comm m n, Nat.gcd_comm n (m % n), ← Nat.gcd_rec]

theorem red_facts (a b : Int) (ha : 0 ≤ a) (hb : 0 < b) : 0 ≤ redN a b ∧ redN a b ≤ a ∧ 0 < redD a b ∧ redD a b ≤ b ∧ redN a b * b = a * redD a b := by
  have hg : 0 < (Int.gcd a b : Int) := by
    have := Int.gcd_pos_of_ne_zero_right a (b := b) (by omega); omega
  obtain ⟨k, hk⟩ := Int.gcd_dvd_left a b
  obtain ⟨m, hm⟩ := Int.gcd_dvd_right a b
  unfold redN redD
  generalize (Int.gcd a b : Int) = g at *
  subst hk hm
  rw [Int.mul_ediv_cancel_left _ (by omega), Int.mul_ediv_cancel_left _ (by omega)]
  have hm0 : 0 < m := Int.pos_of_mul_pos_right hb hg
  have hk0 : 0 ≤ k := Int.nonneg_of_mul_nonneg_right ha hg
  refine ⟨hk0, ?_, hm0, ?_, ?_⟩
  · have := Int.mul_le_mul_of_nonneg_right (show 1 ≤ g by omega) hk0; omega
  · have := Int.mul_le_mul_of_nonneg_right (show 1 ≤ g by omega) (show 0 ≤ m by omega); omega
  · rw [← Int.mul_assoc, Int.mul_comm k g]


/-- Lowest terms: of what has no common factor, times whatever, the very same is left. -/
theorem red_mul (n d c : Int) (hn : 0 ≤ n) (hd : 0 < d) (hc : 0 < c) (hco : Int.gcd n d = 1) : redN (n * c) (d * c) = n ∧ redD (n * c) (d * c) = d := by
  unfold redN redD
  rw [Int.gcd_mul_right, hco, Nat.one_mul]
  have e : ((c.natAbs : Nat) : Int) = c := Int.natAbs_of_nonneg (by omega)
  rw [e, Int.mul_ediv_cancel _ (by omega), Int.mul_ediv_cancel _ (by omega)]
  exact ⟨rfl, rfl⟩

theorem red_coprime (a b : Int) (hb : 0 < b) : Int.gcd (redN a b) (redD a b) = 1 := by
  unfold redN redD
  have h := Int.gcd_pos_of_ne_zero_right a (b := b) (by omega)
  exact Int.gcd_ediv_gcd_ediv_gcd h

/-- Fractions: the first is at most the second. -/
theorem fle_trans {a b c d e f : Int} (hb : 0 < b) (hd : 0 < d) (hf : 0 < f) (h1 : a * d ≤ c * b) (h2 : c * f ≤ e * d) : a * f ≤ e * b := by
  have h3 : a * d * f ≤ c * b * f := Int.mul_le_mul_of_nonneg_right h1 (by omega)
  have h4 : c * f * b ≤ e * d * b := Int.mul_le_mul_of_nonneg_right h2 (by omega)
  have h5 : (a * f) * d ≤ (e * b) * d := by
    have e1 : a * f * d = a * d * f := by rw [Int.mul_assoc, Int.mul_comm f d, ← Int.mul_assoc]
    have e2 : c * b * f = c * f * b := by rw [Int.mul_assoc, Int.mul_comm b f, ← Int.mul_assoc]
    have e3 : e * b * d = e * d * b := by rw [Int.mul_assoc, Int.mul_comm b d, ← Int.mul_assoc]
    omega
  exact Int.le_of_mul_le_mul_right h5 hd

end Go.Proofs.Ytdadcbcanjmoeaa
