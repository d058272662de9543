/-
  Plain arithmetic, of no program: the root of a number, rounded down, and which ticks fit.
-/
import Derived.Test.YtdadcbcanjmoeaaMath
namespace Go.Proofs.Ytdadcbcanjmoeaa
set_option linter.unusedVariables false

def rtN : Nat → Nat
  | 0 => 0
  | n + 1 => if (rtN n + 1) * (rtN n + 1) ≤ n + 1 then rtN n + 1 else rtN n
theorem rtN_spec (n : Nat) : rtN n * rtN n ≤ n ∧ n < (rtN n + 1) * (rtN n + 1) := by
  induction n with
  | zero => simp [rtN]
  | succ n ih =>
    obtain ⟨h1, h2⟩ := ih
    unfold rtN
    split <;> rename_i h
    · refine ⟨h, ?_⟩
      have e : (rtN n + 1 + 1) * (rtN n + 1 + 1) = (rtN n + 1) * (rtN n + 1) + (rtN n + 1) + (rtN n + 1) + 1 := by
        simp only [Nat.add_mul, Nat.mul_add, Nat.mul_one, Nat.one_mul]; omega
      omega
    · omega
/-- The root of a number, rounded down. -/
def rt (n : Int) : Int := (rtN n.toNat : Int)
theorem rt_spec {n : Int} (h : 0 ≤ n) : 0 ≤ rt n ∧ rt n * rt n ≤ n ∧ n < (rt n + 1) * (rt n + 1) := by
  obtain ⟨m, rfl⟩ := Int.eq_ofNat_of_zero_le h
  have := rtN_spec m
  unfold rt
  simp only [Int.toNat_natCast]
  refine ⟨by omega, ?_, ?_⟩
  · rw [← Int.natCast_mul]; omega
  · have e : ((rtN m : Int) + 1) * ((rtN m : Int) + 1) = (((rtN m + 1) * (rtN m + 1) : Nat) : Int) := by push_cast; rfl
    rw [e]; omega
theorem sq_le_sq {a b : Int} (h0 : 0 ≤ a) (h : a ≤ b) : a * a ≤ b * b := Int.mul_le_mul h h h0 (by omega)
theorem lt_of_sq {a b : Int} (hb : 0 ≤ b) (h : a * a < b * b) : a < b := by
  rcases Int.lt_or_le a b with h1 | h1
  · exact h1
  · have := sq_le_sq hb h1; omega
theorem rt_unique {n r : Int} (h0 : 0 ≤ r) (h1 : r * r ≤ n) (h2 : n < (r + 1) * (r + 1)) : rt n = r := by
  have hn : 0 ≤ n := by have := Int.mul_nonneg h0 h0; omega
  obtain ⟨k0, k1, k2⟩ := rt_spec hn
  have a : r < rt n + 1 := lt_of_sq (by omega) (by omega)
  have b : rt n < r + 1 := lt_of_sq (by omega) (by omega)
  omega
theorem rt_le {n a : Int} (hn : 0 ≤ n) (h0 : 0 ≤ a) : a ≤ rt n ↔ a * a ≤ n := by
  obtain ⟨k0, k1, k2⟩ := rt_spec hn
  constructor
  · intro h; have := sq_le_sq h0 h; omega
  · intro h; have := lt_of_sq (a := a) (b := rt n + 1) (by omega) (by omega); omega
theorem rt_lt {n b : Int} (hn : 0 ≤ n) (hb : n < b * b) (h0 : 0 ≤ b) : rt n < b := by
  obtain ⟨k0, k1, k2⟩ := rt_spec hn
  exact lt_of_sq h0 (by omega)
/-- The root, rounded up. -/
def rtU (n : Int) : Int := if rt n * rt n == n then rt n else rt n + 1
theorem rtU_le {n a : Int} (hn : 0 ≤ n) (h0 : 0 ≤ a) : rtU n ≤ a ↔ n ≤ a * a := by
  obtain ⟨k0, k1, k2⟩ := rt_spec hn
  unfold rtU
  split <;> rename_i h
  · rw [beq_iff_eq] at h
    constructor
    · intro h'; have := sq_le_sq k0 h'; omega
    · intro h'
      rcases Int.lt_or_le a (rt n) with h1 | h1
      · have := (Int.mul_lt_mul_of_pos_right h1 (show 0 < rt n by omega))
        have := Int.mul_le_mul_of_nonneg_left (show a ≤ rt n by omega) h0
        omega
      · exact h1
  · have hne : rt n * rt n ≠ n := by simpa using h
    constructor
    · intro h'; have := sq_le_sq (a := rt n + 1) (by omega) h'; omega
    · intro h'; have := lt_of_sq (a := rt n) (b := a) h0 (by omega); omega
theorem rtU_bd {n : Int} (hn : 0 ≤ n) : rt n ≤ rtU n ∧ rtU n ≤ rt n + 1 := by unfold rtU; split <;> omega

/-- 400 times the square of a distance. -/
def s400 (x y u v : Int) : Int := 400 * ((x - u) * (x - u) + (y - v) * (y - v))
theorem sq_of {d : Int} (h1 : -999 ≤ d) (h2 : d ≤ 999) : 0 ≤ d * d ∧ d * d ≤ 998001 := by
  rcases Int.le_total 0 d with h | h
  · exact ⟨Int.mul_nonneg h h, Int.mul_le_mul h2 h2 h (by omega)⟩
  · have e : d * d = (-d) * (-d) := by rw [Int.neg_mul_neg]
    rw [e]
    exact ⟨Int.mul_nonneg (by omega) (by omega), Int.mul_le_mul (show -d ≤ 999 by omega) (show -d ≤ 999 by omega) (by omega) (by omega)⟩
theorem s400_bd {x y u v : Int} (hx : 0 ≤ x ∧ x ≤ 999) (hy : 0 ≤ y ∧ y ≤ 999) (hu : 0 ≤ u ∧ u ≤ 999) (hv : 0 ≤ v ∧ v ≤ 999) : 0 ≤ s400 x y u v ∧ s400 x y u v ≤ 798400800 := by
  have h1 := sq_of (d := x - u) (by omega) (by omega)
  have h2 := sq_of (d := y - v) (by omega) (by omega)
  unfold s400; omega
theorem rt_bd {n : Int} (h : 0 ≤ n) (h2 : n ≤ 798400800) : 0 ≤ rt n ∧ rt n ≤ 28256 := by
  obtain ⟨k0, _, _⟩ := rt_spec h
  have := rt_lt (b := 28257) h (by omega) (by omega)
  omega

/-- The least and the greatest tick that fit. -/
def loT (x y tick err u v : Int) : Int := max 0 (tick - err - rt (s400 x y u v))
def hiT (x y tick err u v : Int) : Int := min 1000000 (tick + err - rtU (s400 x y u v))
/-- An origin fits. -/
def fitB (x y tick err u v t : Int) : Bool := decide (loT x y tick err u v ≤ t) && decide (t ≤ hiT x y tick err u v)
/-- The same without roots. -/
def fitS (x y tick err u v t : Int) : Bool :=
  decide (0 ≤ tick + err - t) && (decide (s400 x y u v ≤ (tick + err - t) * (tick + err - t)) && (decide (tick - err - t ≤ 0) || decide ((tick - err - t) * (tick - err - t) ≤ s400 x y u v)))
theorem fit_eq {x y tick err u v t : Int} (hs : 0 ≤ s400 x y u v) (h0 : 0 ≤ t) (h1 : t ≤ 1000000) : fitS x y tick err u v t = fitB x y tick err u v t := by
  obtain ⟨k0, _, _⟩ := rt_spec hs
  have ku := rtU_bd hs
  rw [Bool.eq_iff_iff]
  unfold fitS fitB loT hiT
  simp only [Bool.and_eq_true, Bool.or_eq_true, decide_eq_true_eq]
  generalize hS : s400 x y u v = S at *
  constructor
  · rintro ⟨a, b, c⟩
    have := (rtU_le hs a).2 b
    refine ⟨?_, by omega⟩
    rcases c with c | c
    · omega
    · rcases Int.le_total (tick - err - t) 0 with d | d
      · omega
      · have := (rt_le hs d).2 c; omega
  · rintro ⟨a, b⟩
    have hge : 0 ≤ tick + err - t := by omega
    refine ⟨hge, (rtU_le hs hge).1 (by omega), ?_⟩
    rcases Int.le_total (tick - err - t) 0 with d | d
    · exact .inl d
    · exact .inr ((rt_le hs d).1 (by omega))

end Go.Proofs.Ytdadcbcanjmoeaa
