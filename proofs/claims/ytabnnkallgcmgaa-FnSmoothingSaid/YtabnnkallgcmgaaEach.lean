/-
  Contracts of the functions over samples: each, the sum, moving sums. (Printed by gen_F1.py.)
-/
import Derived.Test.YtabnnkallgcmgaaInts
import Derived.BigQuiet
namespace Go.Proofs.Ytabnnkallgcmgaa
set_option linter.unusedVariables false
open Go.RowKit

theorem encI_one (e : Int) : ∀ u ∈ encI e, u.oneCell' = true := by intro u hu; simp [encI] at hu; rcases hu with rfl; rfl
theorem grown_below {a b c : World} {row : Option Nat} (h : a.grownBy b row) (k : Below a.heap.size b c) : a.grownBy c row :=
  ⟨k.os.trans h.os, k.tape.trans h.tape, k.output.trans h.output, Nat.le_trans h.size k.size, fun i hi hne => (k.block i hi).trans (h.block i hi hne)⟩
theorem below_of_grown {a b : World} (h : a.grownBy b none) : Below a.heap.size a b := ⟨h.os, h.tape, h.output, h.size, fun i hi => h.block i hi (by simp)⟩
def Sm (l : List Int) : Prop := ∀ x ∈ l, -100000 ≤ x ∧ x ≤ 100000
theorem goodS_iff' {l : List Int} : goodS l = true ↔ l.length ≤ 24 ∧ Sm l := goodS_iff
theorem Sm.drop {l : List Int} (h : Sm l) (n : Nat) : Sm (l.drop n) := fun x hx => h x (List.mem_of_mem_drop hx)
theorem Sm.take {l : List Int} (h : Sm l) (n : Nat) : Sm (l.take n) := fun x hx => h x (List.mem_of_mem_take hx)

set_option maxRecDepth 100000 in
set_option maxHeartbeats 1000000 in
/-- What is told for each place: tell may hold a state St, which lies in block row alone. -/
theorem each_any (g : Nat) (lb : Array Value) (eg : Enters Try.prog g) (A : Option Addr) (n c : Nat) (f : Nat → Int) (St : Nat → World → Prop) (row : Option Nat) (w : World) (hn : n ≤ 1048576) (hrow : ∀ q, row = some q → q < w.heap.size) (h0 : St 0 w)
    (hst : ∀ i W W', St i W → Below w.heap.size W W' → St i W')
    (hp : ∀ i W, i < n → w.grownBy W row → St i W → Calls Try.prog g (#[.int .i64 i] ++ lb) W fun e w' => e = .returned (.int .i64 (f i)) ∧ St (i + 1) w' ∧ W.grownBy w' row) :
    Calls Try.prog 48 #[.slice A n c, .func (.func g) #[] lb] w fun e w' => ∃ v, e = .returned v ∧ Own encI 1 w' w.heap.size 3 v ((List.range n).map f) ∧ St n w' ∧ w.grownBy w' row := by
  have eg' : ∀ args w, (callFunc g args).run Try.prog w = .ok (.enter g args) w := eg
  obtain ⟨i0, hi, hz0, hz1, hz2⟩ := info_parts infoI
  have Hst := Lib.hid hst
  have Hp := Lib.hid hp
  have Hrow := Lib.hid hrow
  have H0 := Lib.hid h0
  clear hst hp hrow h0
  go_enter Try.func48, Try.ntmps48
  go_wp2
  go_loopw [5, 10] (fun v i wr => ∃ k : Nat, k ≤ n ∧ i = .int .i64 k ∧ Hid (Own encI 1 wr w.heap.size 3 v ((List.range k).map f)) ∧ Hid (St k wr) ∧ Hid (w.grownBy wr row)) (fun _ i _ => n - (intOf i).toNat)
  case atStart => exact ⟨0, Nat.zero_le _, rfl, Own.empty _ _ _ (Nat.le_refl _), Hst.out _ _ _ H0.out ((Below.refl _ _).alloc (Nat.le_refl _) _), only_alloc (only_refl _ _) _⟩
  case round =>
    obtain ⟨k, hk, rfl, hown, hS, hgr⟩ := hrel
    by_cases hlt : k < n
    · have Hcall := Lib.hid (Hp.out k wr hlt hgr.out hS.out)
      have hnx : (List.range (k + 1)).map f = (List.range k).map f ++ [f k] := by rw [List.range_succ, List.map_append]; rfl
      have hfl : ((List.range k).map f).length ≤ 1048576 := by rw [List.length_map, List.length_range]; omega
      obtain ⟨M, hM⟩ : ∃ M, (List.range k).map f = M := ⟨_, rfl⟩
      rw [hM] at hnx hown hfl
      have Hnx := Lib.hid hnx
      generalize f k = y at *
      obtain ⟨B', d', rfl, hcd, _⟩ := Own.form encI_len hown.out
      have hsz := hgr.out.size
      clear hnx hM
      go_wp2_with fail
      refine Hcall.out.mono ?_
      rintro e w1 ⟨rfl, hS1, hg1⟩
      have HS1 := Lib.hid hS1
      have Hown1 := Lib.hid (hown.out.grown hg1 (fun q hq hv => by have h1 := Hrow.out q hq; have h2 := (hown.out.lt q hv).1; omega))
      have Hg1 := Lib.hid (only_trans hgr.out hg1)
      have hs1 := hg1.size
      clear hS1 hg1
      go_wp2_with (at_builtin; refine wpList_app1 rfl _ _ 22 rfl w.heap.size 3 i0 _ 1 8 Try.underlying22 hi hz0 hz1 hz2 rfl (by omega) (by omega) encI encI_len encI_one (.slice B' M.length d') M y w1 _ rfl _ rfl Hown1.out rfl hfl (by omega) ?_; intro v' w2 hown2 hb2 _)
      have Hown2 := Lib.hid hown2
      have Hb2 := Lib.hid hb2
      clear hown2 hb2
      go_wp2
      go_roundw
      case rel => exact ⟨k + 1, by omega, by go_num, by rw [Hnx.out]; exact Hown2.out, Hst.out _ _ _ HS1.out Hb2.out, grown_below Hg1.out Hb2.out⟩
      case measure => simp [intOf]; omega
    · obtain rfl : k = n := by omega
      go_wp2
      go_ret
      exact ⟨_, rfl, hown.out, hS.out, hgr.out⟩

/-- The sum of a list. -/
def sumI (l : List Int) : Int := l.foldl (· + ·) 0
theorem sumI_succ (l : List Int) (k : Nat) (hk : k < l.length) : sumI (l.take (k + 1)) = sumI (l.take k) + l[k] := by
  rw [sumI, List.take_succ_eq_append_getElem hk, List.foldl_append]; rfl
theorem sumI_bd {l : List Int} (h : Sm l) : ∀ k, k ≤ l.length → -(100000 * (k : Int)) ≤ sumI (l.take k) ∧ sumI (l.take k) ≤ 100000 * k := by
  intro k
  induction k with
  | zero => intro _; simp [sumI]
  | succ k ih =>
    intro hk
    have h1 := ih (by omega)
    have h2 := h _ (List.getElem_mem (show k < l.length by omega))
    rw [sumI_succ l k (by omega)]
    omega
theorem sum_any (A : Option Addr) (n c : Nat) (l : List Int) (w : World) (B : Nat) (hn : l.length = n) (h : Rd encI 1 w B A l) (hs : Sm l) (hl : l.length ≤ 24) :
    Calls Try.prog 50 #[.slice A n c] w fun e w' => e = .returned (.int .i64 (sumI l)) ∧ w = w' := by
  subst hn
  go_enter Try.func50, Try.ntmps50
  go_wp2
  go_loop [3, 8] (fun t i => ∃ k : Nat, k ≤ l.length ∧ i = .int .i64 k ∧ t = .int .i64 (sumI (l.take k))) (fun _ i => l.length - (intOf i).toNat)
  case atStart => exact ⟨0, Nat.zero_le _, rfl, rfl⟩
  case round =>
    obtain ⟨k, hk, rfl, rfl⟩ := hrel
    by_cases hlt : k < l.length
    · obtain ⟨b, off, rfl, hb, c0⟩ := cellsI h hlt
      have hbd := sumI_bd hs k hk
      have hok := hs _ (List.getElem_mem hlt)
      have hsu := sumI_succ l k hlt
      generalize l[k] = x at *
      have Hs := Lib.hid hsu
      clear hsu
      go_wp2
      go_round
      case rel => exact ⟨k + 1, by omega, by go_num, by rw [Hs.out]⟩
      case measure => simp [intOf]; omega
    · have hkl : (l.take k) = l := List.take_of_length_le (by omega)
      rw [hkl]
      clear hkl
      go_wp2
      go_ret
      exact ⟨rfl, rfl⟩

end Go.Proofs.Ytabnnkallgcmgaa
