/-
  Contracts of the reference's picks: find, current, valid. (Printed by gen_A4.py.)
-/
import Derived.Test.YtiakaglgfboepaaAreP
namespace Go.Proofs.Ytiakaglgfboepaa
set_option linter.unusedVariables false
open Go.RowKit

theorem l7Find_any (A : Option Addr) (n c : Nat) (l : List Pick) (id : Int) (w : World) (B : Nat) (hn : l.length = n) (h : Rd encP 7 w B A l) (hl : l.length ≤ 1048576) :
    Calls Try.prog 73 #[.slice A n c, .int .i64 id] w fun e w' => e = .returned (.int .i64 (findP l id)) ∧ w = w' := by
  subst hn
  obtain ⟨r, hr⟩ : ∃ r, findP l id = r := ⟨_, rfl⟩
  rw [hr]
  have Hr := Lib.hid hr
  clear hr
  go_enter Try.func73, Try.ntmps73
  go_wp2
  go_loop [5] (fun i => ∃ k : Nat, k ≤ l.length ∧ i = .int .i64 k ∧ Hid ((l.take k).any (fun p => p.id == id) = false)) (fun i => l.length - (intOf i).toNat)
  case atStart => exact ⟨0, Nat.zero_le _, rfl, rfl⟩
  case round =>
    obtain ⟨k, hk, rfl, hq⟩ := hrel
    by_cases hlt : k < l.length
    · obtain ⟨b, off, rfl, hb, c0, _⟩ := cellsP h hlt
      have hhit : (l[k].id == id) = true → r = (k : Int) := fun h1 => by rw [← Hr.out]; exact idxOf_hit (fun p : Pick => p.id == id) l k hlt h1 hq.out
      have hmiss : (l[k].id == id) = false → (l.take (k + 1)).any (fun p => p.id == id) = false := fun h1 => by rw [any_take_succ (fun p : Pick => p.id == id) l k hlt, hq.out, h1]; rfl
      generalize l[k] = x at *
      have Hhit := Lib.hid hhit
      have Hmiss := Lib.hid hmiss
      clear hhit hmiss
      cases hv : (x.id == id) with
      | true =>
        have H1 := Lib.hid (Hhit.out hv)
        go_wp2
        go_ret
        exact ⟨ret_int H1.out.symm, rfl⟩
      | false =>
        have H1 := Lib.hid (Hmiss.out hv)
        go_wp2
        go_round
        case rel => exact ⟨k + 1, by omega, by go_num, H1.out⟩
        case measure => simp [intOf]; omega
    · have hq' := hq.out
      rw [List.take_of_length_le (by omega)] at hq'
      have H1 : Hid (r = -1) := by rw [← Hr.out]; exact idxOf_miss _ l hq'
      clear hq'
      go_wp2
      go_ret
      exact ⟨ret_int H1.out.symm, rfl⟩

theorem l7Current_any (A : Option Addr) (n c : Nat) (l : List Pick) (id : Int) (w : World) (B : Nat) (hn : l.length = n) (h : Rd encP 7 w B A l) (hl : l.length ≤ 1048576) :
    Calls Try.prog 80 #[.slice A n c, .int .i64 id] w fun e w' => e = .returned (.bool (curP l id)) ∧ w = w' := by
  subst hn
  obtain ⟨r, hr⟩ : ∃ r, curP l id = r := ⟨_, rfl⟩
  rw [hr]
  have Hr := Lib.hid hr
  clear hr
  go_enter Try.func80, Try.ntmps80
  go_wp2
  go_loop [5] (fun i => ∃ k : Nat, k ≤ l.length ∧ i = .int .i64 k ∧ Hid ((l.take k).all (fun p => p.after_ != id) = true)) (fun i => l.length - (intOf i).toNat)
  case atStart => exact ⟨0, Nat.zero_le _, rfl, rfl⟩
  case round =>
    obtain ⟨k, hk, rfl, hq⟩ := hrel
    by_cases hlt : k < l.length
    · obtain ⟨b, off, rfl, hb, c0, c1, c2, c3, c4, c5, c6⟩ := cellsP h hlt
      have hno : (l[k].after_ == id) = true → r = false := fun h1 => by rw [← Hr.out]; exact all_false_of (fun p : Pick => p.after_ != id) l k hlt (by simp only [bne, h1]; rfl)
      have hyes : (l[k].after_ == id) = false → (l.take (k + 1)).all (fun p => p.after_ != id) = true := fun h1 => by rw [all_take_succ (fun p : Pick => p.after_ != id) l k hlt, hq.out]; simp only [bne, h1]; rfl
      generalize l[k] = x at *
      have Hno := Lib.hid hno
      have Hyes := Lib.hid hyes
      clear hno hyes
      cases hv : (x.after_ == id) with
      | true =>
        have H1 := Lib.hid (Hno.out hv)
        go_wp2
        go_ret
        exact ⟨ret_bool H1.out.symm, rfl⟩
      | false =>
        have H1 := Lib.hid (Hyes.out hv)
        go_wp2
        go_round
        case rel => exact ⟨k + 1, by omega, by go_num, H1.out⟩
        case measure => simp [intOf]; omega
    · have hq' := hq.out
      rw [List.take_of_length_le (by omega)] at hq'
      have H1 : Hid (r = true) := by rw [← Hr.out]; exact hq'
      clear hq'
      go_wp2
      go_ret
      exact ⟨ret_bool H1.out.symm, rfl⟩

end Go.Proofs.Ytiakaglgfboepaa
