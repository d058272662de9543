/-
  Contracts of pickAt, isCurrent, replacing. (Printed by gen_A3.py.)
-/
import Derived.Test.YtiakaglgfboepaaDiffer
import Derived.Test.YtiakaglgfboepaaPickL
namespace Go.Proofs.Ytiakaglgfboepaa
set_option linter.unusedVariables false
open Go.RowKit

theorem pickAt1_any (x : Pick) (id : Int) (q : Nat) (W : World) (hq : Blk W q 3 #[.int .i64 id]) :
    Calls Try.prog 97 #[.agg #[.int .i64 x.id, .int .i64 x.station, .int .i64 x.wave, .int .i64 x.tick, .int .i64 x.err, .int .i64 x.by_, .int .i64 x.after_], .pointer (some ⟨q, 0, none⟩)] W fun e w' => e = .returned (.bool (x.id == id)) ∧ Below W.heap.size W w' := by
  have hlt := hq.lt
  have hne : ¬ q = W.heap.size := by omega
  have c0 := hq.cell 0
  simp only [List.getElem?_toArray, List.getElem?_cons_zero] at c0
  clear hq
  go_enter Try.func97, Try.ntmps97
  go_wp2
  go_ret
  exact ⟨rfl, (Below.refl _ _).alloc (Nat.le_refl _) _⟩

theorem pickAt_any (A : Option Addr) (c : Nat) (l : List Pick) (w : World) (h : Rd encP 7 w w.heap.size A l) (hl : l.length ≤ 1048576) (id : Int) :
    Calls Try.prog 65 #[.slice A l.length c, .int .i64 id] w fun e w' => e = .returned (.int .i64 (findP l id)) ∧ Below w.heap.size w w' := by
  have hB0 : Below w.heap.size w (w.alloc (.cells #[.int .i64 id] 3)) := by (repeat (first | with_reducible exact Below.refl _ _ | with_reducible assumption | with_reducible refine Below.setCell ?_ (by simp <;> omega) _ | with_reducible refine Below.alloc ?_ (by first | omega | (simp <;> omega)) _ | with_reducible refine Below.drew ?_ | with_reducible refine below_drewN ?_ _))
  have hq := Blk.new w 3 #[.int .i64 id]
  have hcon := IndexFuncP_any 97 #[.pointer (some ⟨w.heap.size, 0, none⟩)] (enters_of Try.func97 (by kernel_rfl) rfl) A c l (fun p => p.id == id) (w.alloc (.cells #[.int .i64 id] 3)) ((h.below hB0).more hB0.size) hl (fun W x _ hW => pickAt1_any x id w.heap.size W (hq.after hW))
  rw [show idxOf (fun p : Pick => p.id == id) l = findP l id from rfl] at hcon
  have Hcon := Lib.hid hcon
  have hmf : ∀ (fn : Fn) (first cap : Array Value) (w : World), (Instr.makeFunc fn first cap).run Try.prog w = .ok (.func fn first cap) w := fun _ _ _ _ => rfl
  clear hcon hq
  go_enter Try.func65, Try.ntmps65
  go_wp2_with fail
  refine Hcon.out.mono ?_
  rintro e w1 ⟨rfl, hb1⟩
  go_wp2
  go_ret
  exact ⟨rfl, hB0.trans (hb1.mono hB0.size)⟩

theorem isCurrent1_any (x p : Pick) (q : Nat) (W : World) (hq : Blk W q 25 #[.int .i64 p.id, .int .i64 p.station, .int .i64 p.wave, .int .i64 p.tick, .int .i64 p.err, .int .i64 p.by_, .int .i64 p.after_]) :
    Calls Try.prog 101 #[.agg #[.int .i64 x.id, .int .i64 x.station, .int .i64 x.wave, .int .i64 x.tick, .int .i64 x.err, .int .i64 x.by_, .int .i64 x.after_], .pointer (some ⟨q, 0, none⟩)] W fun e w' => e = .returned (.bool (x.after_ != p.id)) ∧ Below W.heap.size W w' := by
  have hlt := hq.lt
  have hne : ¬ q = W.heap.size := by omega
  obtain ⟨c0, c1, c2, c3, c4, c5, c6⟩ := box7 hq
  clear hq
  go_enter Try.func101, Try.ntmps101
  go_wp2
  go_ret
  exact ⟨rfl, (Below.refl _ _).alloc (Nat.le_refl _) _⟩

theorem isCurrent_any (A : Option Addr) (c : Nat) (l : List Pick) (w : World) (h : Rd encP 7 w w.heap.size A l) (hl : l.length ≤ 1048576) (p : Pick) :
    Calls Try.prog 81 #[.slice A l.length c, .agg #[.int .i64 p.id, .int .i64 p.station, .int .i64 p.wave, .int .i64 p.tick, .int .i64 p.err, .int .i64 p.by_, .int .i64 p.after_]] w fun e w' => e = .returned (.bool (curP l p.id)) ∧ Below w.heap.size w w' := by
  have hB0 : Below w.heap.size w (w.alloc (.cells #[.int .i64 p.id, .int .i64 p.station, .int .i64 p.wave, .int .i64 p.tick, .int .i64 p.err, .int .i64 p.by_, .int .i64 p.after_] 25)) := by (repeat (first | with_reducible exact Below.refl _ _ | with_reducible assumption | with_reducible refine Below.setCell ?_ (by simp <;> omega) _ | with_reducible refine Below.alloc ?_ (by first | omega | (simp <;> omega)) _ | with_reducible refine Below.drew ?_ | with_reducible refine below_drewN ?_ _))
  have hq := Blk.new w 25 #[.int .i64 p.id, .int .i64 p.station, .int .i64 p.wave, .int .i64 p.tick, .int .i64 p.err, .int .i64 p.by_, .int .i64 p.after_]
  have hcon := allP_any 101 #[.pointer (some ⟨w.heap.size, 0, none⟩)] (enters_of Try.func101 (by kernel_rfl) rfl) A c l (fun x => x.after_ != p.id) (w.alloc (.cells #[.int .i64 p.id, .int .i64 p.station, .int .i64 p.wave, .int .i64 p.tick, .int .i64 p.err, .int .i64 p.by_, .int .i64 p.after_] 25)) ((h.below hB0).more hB0.size) hl (fun W x _ hW => isCurrent1_any x p w.heap.size W (hq.after hW))
  rw [show l.all (fun x : Pick => x.after_ != p.id) = curP l p.id from rfl] at hcon
  have Hcon := Lib.hid hcon
  have hmf : ∀ (fn : Fn) (first cap : Array Value) (w : World), (Instr.makeFunc fn first cap).run Try.prog w = .ok (.func fn first cap) w := fun _ _ _ _ => rfl
  clear hcon hq
  go_enter Try.func81, Try.ntmps81
  go_wp2_with fail
  refine Hcon.out.mono ?_
  rintro e w1 ⟨rfl, hb1⟩
  go_wp2
  go_ret
  exact ⟨rfl, hB0.trans (hb1.mono hB0.size)⟩

theorem replacing1_any (x : Pick) (W : World) :
    Calls Try.prog 98 #[.agg #[.int .i64 x.id, .int .i64 x.station, .int .i64 x.wave, .int .i64 x.tick, .int .i64 x.err, .int .i64 x.by_, .int .i64 x.after_]] W fun e w' => e = .returned (.bool (x.after_ != 0)) ∧ Below W.heap.size W w' := by
  go_enter Try.func98, Try.ntmps98
  go_wp2
  go_ret
  exact ⟨rfl, (Below.refl _ _).alloc (Nat.le_refl _) _⟩

theorem replacing_any (A : Option Addr) (c : Nat) (l : List Pick) (w : World) (h : Rd encP 7 w w.heap.size A l) (hl : l.length ≤ 1048576) :
    Calls Try.prog 66 #[.slice A l.length c] w fun e w' => ∃ v, e = .returned v ∧ Own encP 7 w' w.heap.size 25 v (latP l) ∧ Below w.heap.size w w' := by
  have hcon := filterP_any 98 #[] (enters_of Try.func98 (by kernel_rfl) rfl) A c l (fun p => p.after_ != 0) w h hl (fun W x _ _ => replacing1_any x W)
  rw [show l.filter (fun p : Pick => p.after_ != 0) = latP l from rfl] at hcon
  have Hcon := Lib.hid hcon
  clear hcon
  go_enter Try.func66, Try.ntmps66
  go_wp2_with fail
  refine Hcon.out.mono ?_
  rintro e w1 ⟨v, rfl, hown, hb1⟩
  have Hown := Lib.hid hown
  clear hown
  go_wp2
  go_ret
  exact ⟨_, rfl, Hown.out, hb1⟩

theorem latP_mem {l : List Pick} {x : Pick} (h : x ∈ latP l) : x ∈ l ∧ x.after_ ≠ 0 := by
  unfold latP at h
  rw [List.mem_filter] at h
  exact ⟨h.1, by simpa using h.2⟩
theorem latP_le (l : List Pick) : (latP l).length ≤ l.length := List.length_filter_le _ _

end Go.Proofs.Ytiakaglgfboepaa
