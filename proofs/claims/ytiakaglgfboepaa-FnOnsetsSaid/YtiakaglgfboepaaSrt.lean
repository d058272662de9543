/-
  The library's stable sort at a few picks. (Printed by gen_A11.py.)
-/
import Derived.Test.YtiakaglgfboepaaCuP
import Derived.Test.YtiakaglgfboepaaCmp
import Derived.Test.YtiakaglgfboepaaSortW
import Derived.Test.YtiakaglgfboepaaPickL
namespace Go.Proofs.Ytiakaglgfboepaa
set_option linter.unusedVariables false
open Go.RowKit

open Go.Shelf Go.Sort Go.Lib
instance : Inhabited Pick := ⟨⟨0, 0, 0, 0, 0, 0, 0⟩⟩
/-- How this program numbers what the library's body names. -/
def renP : Ren := ⟨fun n => if n = 20 then 106 else 0, fun n => if n = 0 then 0 else if n = 3 then 3 else if n = 4 then 4 else if n = 22 then 31 else if n = 24 then 25 else if n = 25 then 80 else 0, fun _ => 0⟩
theorem laysP : SlLaysF0.n20 Try.prog renP :=
  { mixed := by kernel_rfl
    f20 := ⟨(Try.f106).name, by kernel_rfl, by kernel_rfl⟩
    t0 := by kernel_rfl
    a0 := fun _ => by kernel_rfl
    z0 := fun _ => by kernel_rfl
    v0 := fun _ => by kernel_rfl
    t3 := by kernel_rfl
    a3 := fun _ => by kernel_rfl
    z3 := fun _ => by kernel_rfl
    v3 := fun _ => by kernel_rfl
    t4 := by kernel_rfl
    a4 := fun _ => by kernel_rfl
    z4 := fun _ => by kernel_rfl
    v4 := fun _ => by kernel_rfl
    t22 := by kernel_rfl
    a22 := fun _ => by kernel_rfl
    z22 := fun _ => by kernel_rfl
    v22 := fun _ => by kernel_rfl
    t25 := by kernel_rfl
    a25 := fun _ => by kernel_rfl
    z25 := fun _ => by kernel_rfl
    v25 := fun _ => by kernel_rfl }

set_option maxHeartbeats 400000 in
theorem byTick_any (x y : Pick) (W : World) : Calls Try.prog 87 #[.agg #[.int .i64 x.id, .int .i64 x.station, .int .i64 x.wave, .int .i64 x.tick, .int .i64 x.err, .int .i64 x.by_, .int .i64 x.after_], .agg #[.int .i64 y.id, .int .i64 y.station, .int .i64 y.wave, .int .i64 y.tick, .int .i64 y.err, .int .i64 y.by_, .int .i64 y.after_]] W fun e w' => e = .returned (.int .i64 (cmpI x.tick y.tick)) ∧ ∃ q os', w' = grow (W.drewN q) os' := by
  have hcon := fun W' => cmpI_any x.tick y.tick W'
  generalize cmpI x.tick y.tick = r at hcon ⊢
  have Hcon := Lib.hid hcon
  clear hcon
  go_enter Try.func87, Try.ntmps87
  go_wp2_with (go_at_call 88; refine (Hcon.out _).mono ?_; rintro e w' ⟨rfl, rfl⟩)
  go_ret
  exact ⟨rfl, 0, _, by rw [alloc_eq_grow, alloc_eq_grow, grow_grow]; rfl⟩

/-- Of no element: nothing. -/
theorem insZero_any (A : Option Addr) (c : Nat) (w : World) : Calls Try.prog 106 #[.slice A 0 c, .int .i64 0, .int .i64 0, .func (.func 87) #[] #[]] w fun e w' => e = .returned (.tuple #[]) ∧ w = w' := by
  go_enter Try.func106, Try.ntmps106
  go_wp2
  refine wp_loop_rounds 1 ?_
  rw [rounds_succ]
  go_wp2
  go_end0
  exact ⟨rfl, rfl⟩

theorem insSort_any (A : Option Addr) (c base : Nat) (l : List Pick) (w : World) (h : Own encP 7 w base 25 (.slice A l.length c) l) (hl : l.length ≤ 12) :
    Calls Try.prog 106 #[.slice A l.length c, .int .i64 0, .int .i64 l.length, .func (.func 87) #[] #[]] w fun e w' => e = .returned (.tuple #[]) ∧ Own encP 7 w' base 25 (.slice A l.length c) (sortL Pick.tick l) ∧ w.grownBy w' (Value.ownBlock (.slice A l.length c)) := by
  rcases Nat.eq_zero_or_pos l.length with h0 | h0
  · obtain rfl : l = [] := List.eq_nil_of_length_eq_zero h0
    refine (insZero_any A c w).mono ?_
    rintro e w' ⟨rfl, rfl⟩
    exact ⟨rfl, h, only_refl _ _⟩
  · obtain ⟨g, cs, rfl, hb, hB, hs, _, hnc, hm, htk⟩ := h.blk h0
    have hH := holdsK_own (enc := encP) (k := 7) (base := base) (n := l.length) (c := c) encP_len (by omega) hB htk
    have eg : ∀ args w, (callFunc 87 args).run Try.prog w = .ok (.enter 87 args) w := enters_of Try.func87 (by kernel_rfl) rfl
    have hcon := AnyQ.insertionSortCmpFunc laysP 7 (fun _ => by kernel_rfl) (fun _ => by kernel_rfl) encP encP_len encP_one (fun x y => cmpI x.tick y.tick) 87 #[] g 0 c 0 l.length l.toArray w eg (fun m os dk _ x y => byTick_any x y _) hH hB.lt (Nat.zero_le _) (by simp) (by simp; omega)
    have hins := insertionSort_list Pick.tick (ltOf fun x y : Pick => cmpI x.tick y.tick) (fun x y => cmpI_neg x.tick y.tick) l
    have hins2 : insertionSort (ltOf fun x y : Pick => cmpI x.tick y.tick) l.toArray 0 l.length = (sortL Pick.tick l).toArray := by
      apply Array.ext'; rw [hins]
    rw [hins2] at hcon
    simp only [List.size_toArray] at hcon
    change Calls _ 106 _ _ _ at hcon
    refine hcon.mono ?_
    rintro e w' ⟨rfl, n, os, rfl⟩
    exact ⟨rfl, own_sortedK encP_len (by omega) (sortL_len _ _) hb hB hnc hm hs, grownBy_sortedK _⟩

set_option maxHeartbeats 400000 in
theorem sortStable_any (A : Option Addr) (c base : Nat) (l : List Pick) (w : World) (h : Own encP 7 w base 25 (.slice A l.length c) l) (hl : l.length ≤ 12) :
    Calls Try.prog 86 #[.slice A l.length c, .func (.func 87) #[] #[]] w fun e w' => e = .returned (.tuple #[]) ∧ Own encP 7 w' base 25 (.slice A l.length c) (sortL Pick.tick l) ∧ w.grownBy w' (Value.ownBlock (.slice A l.length c)) := by
  have hi := insSort_any A c base l w h hl
  have hst : Calls Try.prog 102 #[.slice A l.length c, .int .i64 l.length, .func (.func 87) #[] #[]] w fun e w' => e = .returned (.tuple #[]) ∧ Own encP 7 w' base 25 (.slice A l.length c) (sortL Pick.tick l) ∧ w.grownBy w' (Value.ownBlock (.slice A l.length c)) := by
    have Hi := Lib.hid hi
    have h1 : ¬ (20 : Int) ≤ (l.length : Int) := by omega
    have h2 : ¬ (20 : Int) < (l.length : Int) := by omega
    clear hi h
    go_enter Try.func102, Try.ntmps102
    go_wp2
    refine wp_loop_rounds 1 ?_
    rw [rounds_succ]
    go_wp2_with fail
    refine Hi.out.mono ?_
    rintro e w1 ⟨rfl, ho, hg⟩
    have Ho := Lib.hid ho
    clear ho
    go_wp2
    refine wp_loop_rounds 1 ?_
    rw [rounds_succ]
    go_wp2
    go_end0
    exact ⟨rfl, Ho.out, hg⟩
  have Hst := Lib.hid hst
  clear hst hi h
  go_enter Try.func86, Try.ntmps86
  go_wp2_with fail
  refine Hst.out.mono ?_
  rintro e w1 ⟨rfl, ho, hg⟩
  have Ho := Lib.hid ho
  clear ho
  go_wp2
  go_end0
  exact ⟨rfl, Ho.out, hg⟩

end Go.Proofs.Ytiakaglgfboepaa
