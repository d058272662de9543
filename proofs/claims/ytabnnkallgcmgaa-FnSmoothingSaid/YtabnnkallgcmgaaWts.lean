/-
  Contracts of weights. (Printed by gen_F2.py.)
-/
import Derived.Test.YtabnnkallgcmgaaMSumsS
namespace Go.Proofs.Ytabnnkallgcmgaa
set_option linter.unusedVariables false
open Go.RowKit

def okW (x : Int) : Bool := inB x (-100) 100
def goodW (ws : List Int) : Bool := inB (ws.length : Int) 1 5 && ws.all okW
theorem goodW_iff {ws : List Int} : goodW ws = true ↔ (1 ≤ ws.length ∧ ws.length ≤ 5) ∧ ∀ x ∈ ws, -100 ≤ x ∧ x ≤ 100 := by
  simp only [goodW, Bool.and_eq_true, List.all_eq_true, okW, inB_iff]
  constructor
  · rintro ⟨a, b⟩; exact ⟨by omega, b⟩
  · rintro ⟨a, b⟩; exact ⟨by omega, b⟩

theorem isWeight_pred (l : List Int) (w : World) : PredI 75 #[] l okW w := by
  intro W x _ _
  show Calls _ _ #[.int .i64 x] W _
  go_enter Try.func75, Try.ntmps75
  go_wp2_with (go_at_call 47; refine (in_any _ _ _ _).mono ?_; rintro e w' ⟨rfl, rfl⟩)
  go_ret
  exact ⟨rfl, Below.refl _ _⟩

theorem areWeights_any (A : Option Addr) (c : Nat) (l : List Int) (w : World) (h : Rd encI 1 w w.heap.size A l) (hl : l.length ≤ 1048576) :
    Calls Try.prog 53 #[.slice A l.length c] w fun e w' => e = .returned (.bool (goodW l)) ∧ Below w.heap.size w w' := by
  have hall := allI_any 75 #[] (enters_of Try.func75 (by kernel_rfl) rfl) A c l okW w h hl (isWeight_pred l w)
  unfold goodW
  generalize l.all okW = r at *
  have Hall := Lib.hid hall
  clear hall
  cases hn : inB (l.length : Int) 1 5 with
  | true =>
    go_enter Try.func53, Try.ntmps53
    go_wp2_with (first | (go_at_call 47; refine (in_any _ _ _ _).mono ?_; rintro e w' ⟨rfl, rfl⟩) | (go_at_call 73; refine Hall.out.mono ?_; rintro e w1 ⟨rfl, hb1⟩))
    go_ret
    exact ⟨ret_bool (by simp), hb1⟩
  | false =>
    go_enter Try.func53, Try.ntmps53
    go_wp2_with (go_at_call 47; refine (in_any _ _ _ _).mono ?_; rintro e w' ⟨rfl, rfl⟩)
    go_ret
    exact ⟨ret_bool (by simp), Below.refl _ _⟩

set_option maxHeartbeats 400000 in
theorem l6Weights_any (A : Option Addr) (c : Nat) (l : List Int) (w : World) (B : Nat) (h : Rd encI 1 w B A l) (hl : l.length ≤ 1048576) :
    Calls Try.prog 52 #[.slice A l.length c] w fun e w' => e = .returned (.bool (goodW l)) ∧ w = w' := by
  unfold goodW
  obtain ⟨r, hr⟩ : ∃ r, l.all okW = r := ⟨_, rfl⟩
  rw [hr]
  have Hr := Lib.hid hr
  clear hr
  go_enter Try.func52, Try.ntmps52
  go_wp2
  go_loop [3] (fun i => ∃ k : Nat, k ≤ l.length ∧ i = .int .i64 k ∧ Hid ((l.take k).all okW = true)) (fun i => l.length - (intOf i).toNat)
  case atStart => exact ⟨0, Nat.zero_le _, rfl, rfl⟩
  case round =>
    obtain ⟨k, hk, rfl, hq⟩ := hrel
    by_cases hlt : k < l.length
    · obtain ⟨b, off, rfl, hb, c0⟩ := cellsI h hlt
      have hyes : okW l[k] = true → (l.take (k + 1)).all okW = true := fun h1 => by rw [all_take_succ okW l k hlt, hq.out, h1]; rfl
      have hno : okW l[k] = false → r = false := fun h1 => by rw [← Hr.out]; exact all_false_of okW l k hlt h1
      have hin := fun W => l1In_any l[k] (-100) 100 W
      rw [show inB l[k] (-100) 100 = okW l[k] from rfl] at hin
      generalize okW l[k] = v at *
      generalize l[k] = x at *
      have Hyes := Lib.hid hyes
      have Hno := Lib.hid hno
      have Hin := Lib.hid hin
      clear hyes hno hin
      cases v with
      | true =>
        have Hy := Lib.hid (Hyes.out rfl)
        go_wp2_with (go_at_call 72; refine (Hin.out _).mono ?_; rintro e w' ⟨rfl, rfl⟩)
        go_round
        case rel => exact ⟨k + 1, by omega, by go_num, Hy.out⟩
        case measure => simp [intOf]; omega
      | false =>
        have Hn := Lib.hid (Hno.out rfl)
        go_wp2_with (go_at_call 72; refine (Hin.out _).mono ?_; rintro e w' ⟨rfl, rfl⟩)
        go_ret
        exact ⟨ret_bool (by rw [Hn.out]; simp), rfl⟩
    · have hq' := hq.out
      rw [List.take_of_length_le (by omega), Hr.out] at hq'
      have Hq := Lib.hid hq'
      clear hq'
      go_wp2_with (go_at_call 72; refine (l1In_any _ _ _ _).mono ?_; rintro e w' ⟨rfl, rfl⟩)
      go_ret
      exact ⟨ret_bool (by rw [Hq.out]; simp), rfl⟩

/-- The weighted sum at place i of the first k weights. -/
def wtS (l ws : List Int) (i : Nat) : Nat → Int
  | 0 => 0
  | k + 1 => if k ≤ i then wtS l ws i k + ws.getD k 0 * l.getD (i - k) 0 else wtS l ws i k
theorem mul_bd {a b : Int} (h1 : -100 ≤ a) (h2 : a ≤ 100) (h3 : -100000 ≤ b) (h4 : b ≤ 100000) : -10000000 ≤ a * b ∧ a * b ≤ 10000000 := by
  have q : (a * b).natAbs ≤ 10000000 := by
    rw [Int.natAbs_mul]
    exact Nat.le_trans (Nat.mul_le_mul (show a.natAbs ≤ 100 by omega) (show b.natAbs ≤ 100000 by omega)) (by decide)
  omega
theorem wtS_bd {l ws : List Int} (hs : Sm l) (hw : ∀ x ∈ ws, -100 ≤ x ∧ x ≤ 100) (i : Nat) (hi : i < l.length) : ∀ k, k ≤ ws.length → -(10000000 * (k : Int)) ≤ wtS l ws i k ∧ wtS l ws i k ≤ 10000000 * k := by
  intro k
  induction k with
  | zero => intro _; simp [wtS]
  | succ k ih =>
    intro hk
    have h1 := ih (by omega)
    unfold wtS
    split
    · have ha : ws.getD k 0 = ws[k] := by rw [List.getD_eq_getElem?_getD, List.getElem?_eq_getElem (by omega)]; rfl
      have hb : l.getD (i - k) 0 = l[i - k] := by rw [List.getD_eq_getElem?_getD, List.getElem?_eq_getElem (by omega)]; rfl
      rw [ha, hb]
      have h2 := hw _ (List.getElem_mem (show k < ws.length by omega))
      have h3 := hs _ (List.getElem_mem (show i - k < l.length by omega))
      have := mul_bd h2.1 h2.2 h3.1 h3.2
      omega
    · omega
theorem wtS_stop {l ws : List Int} {i : Nat} : ∀ k d, i < k → wtS l ws i (k + d) = wtS l ws i k := by
  intro k d hk
  induction d with
  | zero => rfl
  | succ d ih =>
    show (if k + d ≤ i then _ else wtS l ws i (k + d)) = _
    rw [if_neg (by omega), ih]
def okWd (l ws : List Int) : Bool := goodS l && goodW ws
def wdL (l ws : List Int) : List Int := if okWd l ws then (List.range l.length).map fun i => wtS l ws i ws.length else []
theorem wdL_len {l ws : List Int} : (wdL l ws).length ≤ 1048576 := by
  unfold wdL
  split
  · rename_i h
    simp only [okWd, Bool.and_eq_true] at h
    have := (goodS_iff.1 h.1).1
    simp; omega
  · simp

end Go.Proofs.Ytabnnkallgcmgaa
