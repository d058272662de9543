/-
  Contracts of ratios and of the times that a trigger is on, plain parts first.
-/
import Derived.Test.YtaemdldpcpefbaaIsSetting
import Derived.Test.YtaemdldpcpefbaaInts
import Derived.Deep.RegionHeld3
import Derived.Deep.DeepMust
namespace Go.Proofs.Ytaemdldpcpefbaa
set_option linter.unusedVariables false
open Go.RowKit

theorem goodG_iff {s : Setting} : goodG s = true ↔ 1 ≤ s.short ∧ s.short ≤ 5 ∧ s.short + 1 ≤ s.long ∧ s.long ≤ 20 ∧ 10 ≤ s.on ∧ s.on ≤ 1000 ∧ 10 ≤ s.off ∧ s.off ≤ s.on := by
  simp only [goodG, Bool.and_eq_true, inB_iff]
  constructor
  · rintro ⟨⟨⟨⟨a, b⟩, c, d⟩, e, f⟩, g, h⟩; exact ⟨a, b, c, d, e, f, g, h⟩
  · rintro ⟨a, b, c, d, e, f, g, h⟩; exact ⟨⟨⟨⟨a, b⟩, c, d⟩, e, f⟩, g, h⟩

/-- The sum without signs. -/
def sumA (l : List Int) : Int := l.foldl (fun s x => s + absI x) 0
theorem sumA_succ (l : List Int) (k : Nat) (hk : k < l.length) : sumA (l.take (k + 1)) = sumA (l.take k) + absI l[k] := by
  rw [sumA, List.take_succ_eq_append_getElem hk, List.foldl_append]; rfl
/-- Samples are small. -/
def Sm (l : List Int) : Prop := ∀ x ∈ l, -100000 ≤ x ∧ x ≤ 100000
theorem sumA_bd {l : List Int} (h : Sm l) : ∀ k, k ≤ l.length → 0 ≤ sumA (l.take k) ∧ sumA (l.take k) ≤ 100000 * k := by
  intro k
  induction k with
  | zero => intro _; simp [sumA]
  | succ k ih =>
    intro hk
    have h1 := ih (by omega)
    have h2 := h _ (List.getElem_mem (show k < l.length by omega))
    rw [sumA_succ l k (by omega)]
    unfold absI
    omega
theorem Sm.drop {l : List Int} (h : Sm l) (n : Nat) : Sm (l.drop n) := fun x hx => h x (List.mem_of_mem_drop hx)
theorem Sm.take {l : List Int} (h : Sm l) (n : Nat) : Sm (l.take n) := fun x hx => h x (List.mem_of_mem_take hx)

/-- The samples of a window of n that ends at place p. -/
def win (l : List Int) (n p : Nat) : List Int := (l.drop (p + 1 - n)).take n
theorem win_len (l : List Int) (n p : Nat) (hn : n ≤ p + 1) (hp : p < l.length) : (win l n p).length = n := by
  simp [win]; omega
theorem win_sum_bd {l : List Int} (h : Sm l) (n p : Nat) (hn : n ≤ p + 1) (hp : p < l.length) : 0 ≤ sumA (win l n p) ∧ sumA (win l n p) ≤ 100000 * n := by
  have h1 := sumA_bd ((h.drop (p + 1 - n)).take n) n (by rw [show ((l.drop (p + 1 - n)).take n).length = n from win_len l n p hn hp]; exact Nat.le_refl _)
  rw [List.take_take, Nat.min_self] at h1
  exact h1

def lgS (l : List Int) (s : Setting) (p : Nat) : Int := sumA (win l s.long.toNat p)
def shS (l : List Int) (s : Setting) (p : Nat) : Int := sumA (win l s.short.toNat p)
/-- The ratio at a place, not in lowest terms; in lowest terms. -/
def rawN (l : List Int) (s : Setting) (p : Nat) : Int := if lgS l s p = 0 then 0 else shS l s p * s.long
def rawD (l : List Int) (s : Setting) (p : Nat) : Int := if lgS l s p = 0 then 1 else lgS l s p * s.short
def ratN (l : List Int) (s : Setting) (p : Nat) : Int := redN (rawN l s p) (rawD l s p)
def ratD (l : List Int) (s : Setting) (p : Nat) : Int := redD (rawN l s p) (rawD l s p)

theorem raw_bd {l : List Int} {s : Setting} (h : Sm l) (hg : goodG s = true) (p : Nat) (hp : s.long ≤ p + 1) (hl : p < l.length) :
    0 ≤ rawN l s p ∧ rawN l s p ≤ 10000000 ∧ 0 < rawD l s p ∧ rawD l s p ≤ 10000000 ∧ 0 ≤ lgS l s p ∧ lgS l s p ≤ 2000000 ∧ 0 ≤ shS l s p ∧ shS l s p ≤ 500000 := by
  obtain ⟨g1, g2, g3, g4, _⟩ := goodG_iff.1 hg
  have w1 := win_sum_bd h s.long.toNat p (by omega) hl
  have w2 := win_sum_bd h s.short.toNat p (by omega) hl
  have a1 : 0 ≤ lgS l s p ∧ lgS l s p ≤ 2000000 := by unfold lgS; omega
  have a2 : 0 ≤ shS l s p ∧ shS l s p ≤ 500000 := by unfold shS; omega
  unfold rawN rawD
  split
  · refine ⟨by omega, by omega, by omega, by omega, a1.1, a1.2, a2.1, a2.2⟩
  · have b1 : shS l s p * s.long ≤ shS l s p * 20 := Int.mul_le_mul_of_nonneg_left g4 a2.1
    have b2 : 0 ≤ shS l s p * s.long := Int.mul_nonneg a2.1 (by omega)
    have b3 : lgS l s p * s.short ≤ lgS l s p * 5 := Int.mul_le_mul_of_nonneg_left g2 a1.1
    have b4 : 0 < lgS l s p * s.short := Int.mul_pos (by omega) (by omega)
    refine ⟨by omega, by omega, by omega, by omega, a1.1, a1.2, a2.1, a2.2⟩

theorem rat_bd {l : List Int} {s : Setting} (h : Sm l) (hg : goodG s = true) (p : Nat) (hp : s.long ≤ p + 1) (hl : p < l.length) :
    0 ≤ ratN l s p ∧ ratN l s p ≤ 10000000 ∧ 0 < ratD l s p ∧ ratD l s p ≤ 10000000 ∧ ratN l s p * rawD l s p = rawN l s p * ratD l s p := by
  obtain ⟨r1, r2, r3, r4, _⟩ := raw_bd h hg p hp hl
  obtain ⟨f1, f2, f3, f4, f5⟩ := red_facts _ _ r1 r3
  exact ⟨f1, by unfold ratN; omega, f3, by unfold ratD; omega, f5⟩

theorem size_any (A : Option Addr) (n c : Nat) (l : List Int) (w : World) (B : Nat) (hn : l.length = n) (h : Rd encI 1 w B A l) (hs : Sm l) (hl : l.length ≤ 24) :
    Calls Try.prog 72 #[.slice A n c] w fun e w' => e = .returned (.int .i64 (sumA l)) ∧ w = w' := by
  subst hn
  go_enter Try.func72, Try.ntmps72
  go_wp2
  go_loop [3, 8] (fun t i => ∃ k : Nat, k ≤ l.length ∧ i = .int .i64 k ∧ t = .int .i64 (sumA (l.take k))) (fun _ i => l.length - (intOf i).toNat)
  case atStart => exact ⟨0, Nat.zero_le _, rfl, rfl⟩
  case round =>
    obtain ⟨k, hk, rfl, rfl⟩ := hrel
    by_cases hlt : k < l.length
    · obtain ⟨b, off, rfl, hb, c0⟩ := cellsI h hlt
      have hbd := sumA_bd hs k hk
      have hok := hs _ (List.getElem_mem hlt)
      have hsu := sumA_succ l k hlt
      generalize l[k] = x at *
      have hab : 0 ≤ absI x ∧ absI x ≤ 100000 := by unfold absI; omega
      have Hs := Lib.hid hsu
      clear hsu
      go_wp2_with (go_at_call 81; refine (abs_any _ _ (by omega) (by omega)).mono ?_; rintro e w' ⟨rfl, rfl⟩)
      go_round
      case rel => exact ⟨k + 1, by omega, by go_num, by rw [Hs.out]⟩
      case measure => simp [intOf]; omega
    · have hkl : (l.take k) = l := List.take_of_length_le (by omega)
      rw [hkl]
      clear hkl
      go_wp2
      go_ret
      exact ⟨rfl, rfl⟩

theorem l2Size_any (n : Int) (w : World) (h1 : -9223372036854775807 ≤ n) (h2 : n ≤ 9223372036854775807) :
    Calls Try.prog 78 #[.int .i64 n] w fun e w' => e = .returned (.int .i64 (absI n)) ∧ w = w' := by
  go_enter Try.func78, Try.ntmps78
  go_wp2_with (go_at_call 70; refine (l1Most_any _ _ _).mono ?_; rintro e w' ⟨rfl, rfl⟩)
  go_ret
  exact ⟨rfl, rfl⟩

theorem l9Sum_any (A : Option Addr) (c : Nat) (l : List Int) (n p : Nat) (w : World) (B : Nat) (h : Rd encI 1 w B A l) (hs : Sm l) (hl : l.length ≤ 24) (hn : n ≤ p + 1) (hp : p < l.length) :
    Calls Try.prog 69 #[.slice A l.length c, .int .i64 n, .int .i64 p] w fun e w' => e = .returned (.int .i64 (sumA (win l n p))) ∧ w = w' := by
  have hwl := win_len l n p hn hp
  have hws : Sm (win l n p) := (hs.drop _).take _
  go_enter Try.func69, Try.ntmps69
  go_wp2
  go_loop [7, 8] (fun t i => ∃ k : Nat, k ≤ n ∧ i = .int .i64 ((p + 1 - n + k : Nat) : Int) ∧ t = .int .i64 (sumA ((win l n p).take k))) (fun _ i => p + 1 - (intOf i).toNat)
  case atStart => exact ⟨0, Nat.zero_le _, by congr 1; omega, rfl⟩
  case round =>
    obtain ⟨k, hk, rfl, rfl⟩ := hrel
    obtain ⟨q, hq⟩ : ∃ q, p + 1 - n + k = q := ⟨_, rfl⟩
    rw [hq]
    by_cases hlt : k < n
    · have hql : q < l.length := by omega
      obtain ⟨b, off, rfl, hb, c0⟩ := cellsI h hql
      have hbd := sumA_bd hws k (by omega)
      have hok := hs _ (List.getElem_mem hql)
      have hsu := sumA_succ (win l n p) k (by omega)
      have hgk : (win l n p)[k]'(by omega) = l[q] := by simp [win, hq]
      rw [hgk] at hsu
      generalize l[q] = x at *
      have hab : 0 ≤ absI x ∧ absI x ≤ 100000 := by unfold absI; omega
      have hqp : q ≤ p := by omega
      have hq' : q + 1 = p + 1 - n + (k + 1) := by omega
      have Hs := Lib.hid hsu
      have Hq := Lib.hid hq
      have Hq' := Lib.hid hq'
      clear hsu hgk hq hq' hwl
      go_wp2_with (go_at_call 78; refine (l2Size_any _ _ (by omega) (by omega)).mono ?_; rintro e w' ⟨rfl, rfl⟩)
      go_round
      case rel => exact ⟨k + 1, by omega, by rw [← Hq'.out]; go_num, by rw [Hs.out]⟩
      case measure => simp [intOf]; omega
    · have hkl : ((win l n p).take k) = win l n p := List.take_of_length_le (by omega)
      rw [hkl]
      have hqp : ¬ q ≤ p := by omega
      clear hkl hq hwl
      go_wp2
      go_ret
      exact ⟨rfl, rfl⟩

end Go.Proofs.Ytaemdldpcpefbaa
