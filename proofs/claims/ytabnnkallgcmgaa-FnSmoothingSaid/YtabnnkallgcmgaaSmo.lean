/-
  Contracts of Smoothed. (Printed by gen_F2.py.)
-/
import Derived.Test.YtabnnkallgcmgaaMSumsS
namespace Go.Proofs.Ytabnnkallgcmgaa
set_option linter.unusedVariables false
open Go.RowKit

theorem ediv_unique (a b q r : Int) (hb : 1 ≤ b) (h : a = r + b * q) (h0 : 0 ≤ r) (h1 : r < b) : a / b = q := by
  rw [h, Int.add_mul_ediv_left _ _ (by omega), Int.ediv_eq_zero_of_lt h0 h1, Int.zero_add]
theorem floor_neg (a b : Int) (hb : 1 ≤ b) : (-a + b - 1) / b = -(a / b) := by
  have e := Int.mul_ediv_add_emod a b
  have f := Int.emod_nonneg a (show b ≠ 0 by omega)
  have g := Int.emod_lt_of_pos a (show 0 < b by omega)
  refine ediv_unique _ b _ (b - 1 - a % b) hb ?_ (by omega) (by omega)
  rw [Int.mul_neg]
  omega
theorem tdiv_neg {a b : Int} (ha : a < 0) (hb : 1 ≤ b) (h1 : -1000000 ≤ a) : ∃ q r : Int, a.tdiv b = q ∧ a.tmod b = r ∧ (-1000000 ≤ q ∧ q ≤ 0) ∧ (r = 0 → a / b = q) ∧ (r ≠ 0 → a / b = q - 1) := by
  obtain ⟨c, hc⟩ : ∃ c, a = -c := ⟨-a, by omega⟩
  subst hc
  have hc0 : 0 ≤ c := by omega
  have e := Int.mul_ediv_add_emod c b
  have f := Int.emod_nonneg c (show b ≠ 0 by omega)
  have g := Int.emod_lt_of_pos c (show 0 < b by omega)
  have k1 := Int.ediv_nonneg hc0 (show 0 ≤ b by omega)
  have k2 := Int.ediv_le_self b hc0
  refine ⟨-(c / b), -(c % b), by rw [Int.neg_tdiv, Int.tdiv_eq_ediv_of_nonneg hc0], by rw [Int.neg_tmod, Int.tmod_eq_emod_of_nonneg hc0], by omega, fun h => ?_, fun h => ?_⟩
  · refine ediv_unique _ b _ 0 hb ?_ (by omega) (by omega)
    rw [Int.mul_neg]; omega
  · refine ediv_unique _ b _ (b - c % b) hb ?_ (by omega) (by omega)
    rw [Int.mul_sub, Int.mul_neg]; omega

theorem floorDiv_any (a b : Int) (w : World) (hb : 1 ≤ b) (hb2 : b ≤ 1000) (h1 : -1000000 ≤ a) (h2 : a ≤ 1000000) :
    Calls Try.prog 57 #[.int .i64 a, .int .i64 b] w fun e w' => e = .returned (.int .i64 (a / b)) ∧ w = w' := by
  by_cases h0 : 0 ≤ a
  · have hn : ¬ a < 0 := by omega
    by_cases hm : a % b = 0
    · have hm1 : (a % b == 0) = true := by simpa using hm
      have hm2 : (a % b != 0) = false := by simpa using hm
      clear hm
      go_enter Try.func57, Try.ntmps57
      go_wp2
      go_ret
      exact ⟨rfl, rfl⟩
    · have hm1 : (a % b == 0) = false := by simpa using hm
      have hm2 : (a % b != 0) = true := by simpa using hm
      have hbn : ¬ b < 0 := by omega
      clear hm
      go_enter Try.func57, Try.ntmps57
      go_wp2
      go_ret
      exact ⟨rfl, rfl⟩
  · have ha : a < 0 := by omega
    have hbn : ¬ b < 0 := by omega
    obtain ⟨q, r, e1, e2, ⟨q1, q2⟩, e3, e4⟩ := tdiv_neg ha hb h1
    have e1' : a.tdiv b = q := e1
    have HA := Lib.hid e3
    have HB := Lib.hid e4
    clear h0 e3 e4 e1'
    by_cases hm : r = 0
    · have H1 := Lib.hid (HA.out hm)
      have hm1 : (r == 0) = true := by simpa using hm
      have hm2 : (r != 0) = false := by simpa using hm
      clear hm
      go_enter Try.func57, Try.ntmps57
      go_wp2
      go_ret
      exact ⟨ret_int H1.out.symm, rfl⟩
    · have H1 := Lib.hid (HB.out hm)
      have hm1 : (r == 0) = false := by simpa using hm
      have hm2 : (r != 0) = true := by simpa using hm
      clear hm
      go_enter Try.func57, Try.ntmps57
      go_wp2
      go_ret
      exact ⟨ret_int H1.out.symm, rfl⟩
theorem l6Floor_any (a b : Int) (w : World) (hb : 1 ≤ b) (hb2 : b ≤ 1000) (h1 : -1000000 ≤ a) (h2 : a ≤ 1000000) :
    Calls Try.prog 55 #[.int .i64 a, .int .i64 b] w fun e w' => e = .returned (.int .i64 (a / b)) ∧ w = w' := by
  by_cases h0 : 0 ≤ a
  · go_enter Try.func55, Try.ntmps55
    go_wp2
    go_ret
    exact ⟨rfl, rfl⟩
  · have hn : a < 0 := by omega
    have e := floor_neg a b hb
    have k1 : 0 ≤ (-a + b - 1) / b := Int.ediv_nonneg (by omega) (by omega)
    have k2 : (-a + b - 1) / b ≤ -a + b - 1 := Int.ediv_le_self b (by omega)
    have k3 : (-a + b - 1) / b ≤ 1001000 := by omega
    have He := Lib.hid e
    clear e k2
    go_enter Try.func55, Try.ntmps55
    go_wp2
    go_ret
    exact ⟨ret_int (by rw [He.out]; omega), rfl⟩

/-- The smoothed sample at a place. -/
def smo (l : List Int) (k : Int) : Nat → Int
  | 0 => l.getD 0 0
  | i + 1 => smo l k i + (l.getD (i + 1) 0 - smo l k i) / k
theorem smo_step_bd {y x k lo hi : Int} (hk : 1 ≤ k) (h1 : lo ≤ y) (h2 : y ≤ hi) (h3 : lo ≤ x) (h4 : x ≤ hi) : lo ≤ y + (x - y) / k ∧ y + (x - y) / k ≤ hi := by
  rcases Int.le_total 0 (x - y) with h | h
  · have a := Int.ediv_nonneg h (show 0 ≤ k by omega)
    have b := Int.ediv_le_self k h
    omega
  · have a : (x - y) / k ≤ 0 := by
      have := Int.ediv_le_ediv (show 0 < k by omega) h
      simpa using this
    have b : x - y ≤ (x - y) / k := by
      have e := Int.mul_ediv_add_emod (x - y) k
      have f := Int.emod_nonneg (x - y) (show k ≠ 0 by omega)
      have g : k * ((x - y) / k) ≤ (x - y) / k := by
        have := Int.mul_le_mul_of_nonpos_right hk a
        simpa using this
      have f2 := Int.emod_lt_of_pos (x - y) (show 0 < k by omega)
      rcases (by omega : (x - y) / k < 0 ∨ 0 ≤ (x - y) / k) with c | c
      · by_cases hk1 : k = 1
        · subst hk1; simp
        · have : k * ((x - y) / k) + (k - 1) ≤ (x - y) / k := by
            have h5 : (k - 1) * ((x - y) / k) ≤ (k - 1) * (-1) := Int.mul_le_mul_of_nonneg_left (by omega) (by omega)
            rw [Int.sub_mul] at h5
            omega
          omega
      · have : (x - y) / k = 0 := by omega
        rw [this]
        omega
    omega
theorem smo_bd {l : List Int} (hs : Sm l) {k : Int} (hk : 1 ≤ k) : ∀ i, i < l.length → -100000 ≤ smo l k i ∧ smo l k i ≤ 100000 := by
  intro i
  induction i with
  | zero =>
    intro h0
    have := hs _ (List.getElem_mem h0)
    unfold smo
    rw [List.getD_eq_getElem?_getD, List.getElem?_eq_getElem h0]
    exact this
  | succ i ih =>
    intro h0
    have h1 := ih (by omega)
    have h2 := hs _ (List.getElem_mem h0)
    unfold smo
    have e : l.getD (i + 1) 0 = l[i + 1] := by rw [List.getD_eq_getElem?_getD, List.getElem?_eq_getElem h0]; rfl
    rw [e]
    exact smo_step_bd hk h1.1 h1.2 h2.1 h2.2
def okSm (l : List Int) (k : Int) : Bool := goodS l && inB k 1 100
theorem okSm_iff {l : List Int} {n : Int} : okSm l n = true ↔ (l.length ≤ 24 ∧ Sm l) ∧ 1 ≤ n ∧ n ≤ 100 := by
  simp only [okSm, Bool.and_eq_true, goodS_iff, inB_iff]; rfl
def smL (l : List Int) (k : Int) : List Int := if okSm l k then (List.range l.length).map (smo l k) else []
theorem smL_len {l : List Int} {n : Int} : (smL l n).length ≤ 1048576 := by
  unfold smL
  split
  · rename_i h
    have := (okSm_iff.1 h).1.1
    simp; omega
  · simp

end Go.Proofs.Ytabnnkallgcmgaa
