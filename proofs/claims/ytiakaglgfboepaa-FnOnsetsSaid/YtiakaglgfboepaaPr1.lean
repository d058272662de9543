/-
  Contracts of the program's PairedPicks. (Printed by gen_A7.py.)
-/
import Derived.Test.YtiakaglgfboepaaPrP
import Derived.Test.YtiakaglgfboepaaSS
import Derived.BigQuiet
import Derived.Deep.RegionHeld3
namespace Go.Proofs.Ytiakaglgfboepaa
set_option linter.unusedVariables false
open Go.RowKit

set_option maxRecDepth 100000 in
set_option maxHeartbeats 1000000 in
theorem Paired11_any (x : Pick) (qs qw ql : Nat) (st wv : Int) (A : Option Addr) (c : Nat) (l : List Pick) (W : World) (hs : Blk W qs 3 #[.int .i64 st]) (hw : Blk W qw 3 #[.int .i64 wv]) (hq : Blk W ql 31 #[.slice A l.length c]) (h : Rd encP 7 W W.heap.size A l) (hl : l.length ≤ 1048576) :
    Calls Try.prog 84 #[.agg #[.int .i64 x.id, .int .i64 x.station, .int .i64 x.wave, .int .i64 x.tick, .int .i64 x.err, .int .i64 x.by_, .int .i64 x.after_], .pointer (some ⟨qs, 0, none⟩), .pointer (some ⟨qw, 0, none⟩), .pointer (some ⟨ql, 0, none⟩)] W fun e w' => e = .returned (.bool (okW l st wv x)) ∧ Below W.heap.size W w' := by
  have hB0 : Below W.heap.size W (W.alloc (.cells #[.int .i64 x.id, .int .i64 x.station, .int .i64 x.wave, .int .i64 x.tick, .int .i64 x.err, .int .i64 x.by_, .int .i64 x.after_] 25)) := by (repeat (first | with_reducible exact Below.refl _ _ | with_reducible assumption | with_reducible refine Below.setCell ?_ (by simp <;> omega) _ | with_reducible refine Below.alloc ?_ (by first | omega | (simp <;> omega)) _ | with_reducible refine Below.drew ?_ | with_reducible refine below_drewN ?_ _))
  have hr := (h.below hB0).more hB0.size
  have c0 := (hq.after hB0).cell 0
  have c1 := (hs.after hB0).cell 0
  have c2 := (hw.after hB0).cell 0
  have l0 := hq.lt
  have l1 := hs.lt
  have l2 := hw.lt
  have n0 : ¬ ql = W.heap.size := by omega
  have n1 : ¬ qs = W.heap.size := by omega
  have n2 : ¬ qw = W.heap.size := by omega
  have d0 := hq.cell 0
  have d1 := hs.cell 0
  have d2 := hw.cell 0
  simp only [List.getElem?_toArray, List.getElem?_cons_zero] at c0 c1 c2 d0 d1 d2
  have hcur : okW l st wv x = (x.station == st && x.wave == wv && curP l x.id) := rfl
  rw [hcur]
  have Hc := Lib.hid (isCurrent_any A c l _ hr hl x)
  generalize curP l x.id = cu at *
  clear hcur hq hs hw hr
  cases e1 : (x.station == st) with
  | false =>
    simp only [Bool.false_and]
    go_enter Try.func84, Try.ntmps84
    go_wp2
    go_ret
    exact ⟨rfl, hB0⟩
  | true =>
    cases e2 : (x.wave == wv) with
    | false =>
      simp only [Bool.false_and, Bool.and_false]
      go_enter Try.func84, Try.ntmps84
      go_wp2
      go_ret
      exact ⟨rfl, hB0⟩
    | true =>
      simp only [Bool.true_and]
      go_enter Try.func84, Try.ntmps84
      go_wp2_with fail
      refine Hc.out.mono ?_
      rintro e w1 ⟨rfl, hb1⟩
      go_wp2
      go_ret
      exact ⟨rfl, hB0.trans (hb1.mono hB0.size)⟩

/-- The closure that filters by wave. -/
theorem Paired1_any (qs ql : Nat) (st wv : Int) (A : Option Addr) (c : Nat) (l : List Pick) (W : World) (hs : Blk W qs 3 #[.int .i64 st]) (hq : Blk W ql 31 #[.slice A l.length c]) (h : Rd encP 7 W W.heap.size A l) (hl : l.length ≤ 1048576) :
    Calls Try.prog 83 #[.int .i64 wv, .pointer (some ⟨ql, 0, none⟩), .pointer (some ⟨qs, 0, none⟩)] W fun e w' => ∃ v, e = .returned v ∧ Own encP 7 w' W.heap.size 25 v (l.filter (okW l st wv)) ∧ Below W.heap.size W w' := by
  have hB0 : Below W.heap.size W (W.alloc (.cells #[.int .i64 wv] 3)) := by (repeat (first | with_reducible exact Below.refl _ _ | with_reducible assumption | with_reducible refine Below.setCell ?_ (by simp <;> omega) _ | with_reducible refine Below.alloc ?_ (by first | omega | (simp <;> omega)) _ | with_reducible refine Below.drew ?_ | with_reducible refine below_drewN ?_ _))
  have HS := Lib.hid (hs.after hB0)
  have HL := Lib.hid (hq.after hB0)
  have HW := Lib.hid (Blk.new W 3 #[.int .i64 wv])
  have hr := (h.below hB0).more hB0.size
  have hmf : ∀ (fn : Fn) (first cap : Array Value) (w : World), (Instr.makeFunc fn first cap).run Try.prog w = .ok (.func fn first cap) w := fun _ _ _ _ => rfl
  have c0 := HL.out.cell 0
  simp only [List.getElem?_toArray, List.getElem?_cons_zero] at c0
  have hcon := filterP_any 84 #[.pointer (some ⟨qs, 0, none⟩), .pointer (some ⟨W.heap.size, 0, none⟩), .pointer (some ⟨ql, 0, none⟩)] (enters_of Try.func84 (by kernel_rfl) rfl) A c l (okW l st wv) (W.alloc (.cells #[.int .i64 wv] 3)) hr hl (fun W' x _ hW => Paired11_any x qs W.heap.size ql st wv A c l W' (HS.out.after hW) (HW.out.after hW) (HL.out.after hW) (hr.after hW) hl)
  have Hcon := Lib.hid hcon
  clear hcon hs hq
  go_enter Try.func83, Try.ntmps83
  go_wp2_with fail
  refine Hcon.out.mono ?_
  rintro e w1 ⟨v, rfl, hown, hb1⟩
  have Hown := Lib.hid hown
  clear hown
  go_wp2
  go_ret
  exact ⟨_, rfl, Hown.out.mono (by simp), hB0.trans (hb1.mono hB0.size)⟩

end Go.Proofs.Ytiakaglgfboepaa
