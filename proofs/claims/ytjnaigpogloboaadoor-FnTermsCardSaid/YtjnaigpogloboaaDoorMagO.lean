/-
  Contracts of the magnitude of a swing.
-/
import Derived.Test.YtjnaigpogloboaaDoorLeast
import Derived.Test.YtjnaigpogloboaaDoorIsSwing
import Derived.Deep.QuietTactic
namespace Go.Proofs.YtjnaigpogloboaaDoor
set_option linter.unusedVariables false
open Go.RowKit

def magV (t : List TableRow) (s : Swing) : Int := (szW s.width.toNat : Int) + bonV t s.far + s.term
def magO (t : List TableRow) (s : Swing) : Int := if bonOk t s.far then magV t s else 0
def askMO (t : List TableRow) (s : Swing) : Bool := goodT t && goodW s
def MOok (t : List TableRow) (s : Swing) : Bool := askMO t s && bonOk t s.far
def MOv (t : List TableRow) (s : Swing) : Int := if askMO t s then magO t s else 0
theorem magV_bd {t : List TableRow} {s : Swing} (hg : goodT t = true) (hs : goodW s = true) : -50 ≤ magV t s ∧ magV t s ≤ 1250 := by
  have h1 := goodW_iff.1 hs
  have h2 := bonV_bd (far := s.far) hg
  have h3 := szW_bd s.width.toNat (by omega)
  unfold magV
  omega

theorem l11Magnitude_any (A : Option Addr) (c : Nat) (t : List TableRow) (s : Swing) (w : World) (h : Rd encT 2 w w.heap.size A t) (hg : goodT t = true) (hs : goodW s = true) :
    Calls Tryd.prog 72 #[.slice A t.length c, .agg #[.int .i64 s.station, .int .i64 s.far, .int .i64 s.width, .int .i64 s.term]] w fun e w' => e = .returned (.tuple #[.int .i64 (magO t s), .bool (bonOk t s.far)]) ∧ Below w.heap.size w w' := by
  have h1 := goodW_iff.1 hs
  have h2 := bonV_bd (far := s.far) hg
  have h3 := szW_bd s.width.toNat (by omega)
  have h4 := magV_bd hg hs
  have hC := l11Bonus_any A c t s.far (w.alloc (.cells #[.int .i64 s.station, .int .i64 s.far, .int .i64 s.width, .int .i64 s.term] 37)) ((h.below ((Below.refl _ _).alloc (Nat.le_refl _) _)).more (by simp)) hg (by omega)
  have HZ := Lib.hid (l11SizeZ s.width (by omega))
  have hB0 := (Below.refl w.heap.size w).alloc (Nat.le_refl _) (.cells #[.int .i64 s.station, .int .i64 s.far, .int .i64 s.width, .int .i64 s.term] 37)
  unfold bonS at hC
  cases hk : bonOk t s.far with
  | false =>
    have hv : magO t s = 0 := by unfold magO; rw [hk]; rfl
    rw [hv]
    rw [hk] at hC
    have HC := Lib.hid hC
    clear hC hk hv
    go_enter Tryd.func72, Tryd.ntmps72
    go_wp2_with (go_at_call 84; refine HC.out.mono ?_; rintro e w1 ⟨rfl, hb1⟩)
    go_ret2
    exact ⟨rfl, hB0.trans (hb1.mono hB0.size)⟩
  | true =>
    have hv : magO t s = magV t s := by unfold magO; rw [hk]; rfl
    rw [hv]
    rw [hk] at hC
    have HC := Lib.hid hC
    clear hC hk hv
    unfold magV at *
    generalize bonV t s.far = b at *
    have hn : ¬ b < 0 := by omega
    have HX := Lib.hid (Blk.new w 37 #[.int .i64 s.station, .int .i64 s.far, .int .i64 s.width, .int .i64 s.term])
    obtain ⟨z0, z1, z2, z3⟩ := box4 HX.out
    go_enter Tryd.func72, Tryd.ntmps72
    go_wp2_with fail
    refine HC.out.mono ?_
    rintro e w1 ⟨rfl, hb1⟩
    simp only [if_true]
    obtain ⟨y0, y1, y2, y3⟩ := box4 (HX.out.after hb1)
    have HB1 := Lib.hid (hB0.trans (hb1.mono hB0.size))
    clear hb1 z0 z1 z2 z3
    go_wp2_with fail
    go_quiet ((go_at_call 57; exact quiet_left (HZ.out _)))
    go_wp2
    go_ret2
    exact ⟨rfl, below_drewN HB1.out _⟩

theorem magnitude_any (A : Option Addr) (c : Nat) (t : List TableRow) (s : Swing) (w : World) (h : Rd encT 2 w w.heap.size A t) (hg : goodT t = true) (hs : goodW s = true) (hP : Pow10 w) :
    Calls Tryd.prog 74 #[.agg #[.int .i64 s.station, .int .i64 s.far, .int .i64 s.width, .int .i64 s.term], .slice A t.length c] w fun e w' => e = .returned (.tuple #[.int .i64 (magV t s), .bool (bonOk t s.far)]) ∧ Below w.heap.size w w' := by
  have h1 := goodW_iff.1 hs
  have h2 := bonV_bd (far := s.far) hg
  have h3 := szW_bd s.width.toNat (by omega)
  have h4 := magV_bd hg hs
  have hB0 := (Below.refl w.heap.size w).alloc (Nat.le_refl _) (.cells #[.int .i64 s.station, .int .i64 s.far, .int .i64 s.width, .int .i64 s.term] 37)
  have hC := bonus_any A c t s.far (w.alloc (.cells #[.int .i64 s.station, .int .i64 s.far, .int .i64 s.width, .int .i64 s.term] 37)) ((h.below hB0).more (by simp)) hg (by omega)
  have HZ := Lib.hid (fun W hb => sizeOfZ s.width (by omega) W (hP.after hb (Nat.le_refl _)))
  have HC := Lib.hid hC
  clear hC
  unfold magV at *
  generalize bonV t s.far = b at *
  generalize bonOk t s.far = k at *
  have HX := Lib.hid (Blk.new w 37 #[.int .i64 s.station, .int .i64 s.far, .int .i64 s.width, .int .i64 s.term])
  obtain ⟨z0, z1, z2, z3⟩ := box4 HX.out
  go_enter Tryd.func74, Tryd.ntmps74
  go_wp2_with fail
  refine HC.out.mono ?_
  rintro e w1 ⟨rfl, hb1⟩
  obtain ⟨y0, y1, y2, y3⟩ := box4 (HX.out.after hb1)
  have k2 := cell_regrown y2
  have k3 := cell_regrown y3
  have HB1 := Lib.hid (hB0.trans (hb1.mono hB0.size))
  have cV : ∀ d os, Calls Tryd.prog 59 #[.int .i64 s.width] (Go.Sort.grow (redrawn w1 d) os) fun e w'' => e = .returned (.int .i64 (szW s.width.toNat)) ∧ ∃ p : Regrown, w'' = Go.Sort.grow (redrawn w1 p.d) p.os := fun d os =>
    Calls.regrown_of (HZ.out _ (HB1.out.trans ((below_regrown w1 d os).mono HB1.out.size)))
  clear hb1 z0 z1 z2 z3 y0 y1 y2 y3
  go_wp2_with fail
  refine wp_region_quiet_below (by kernel_rfl) (by kernel_rfl) ?_
  repeat (go_big_quiet_step ((exact cV _ _)))
  refine wpQuiet_nil ?_
  intro _ hw'
  obtain ⟨⟨dq, osq⟩, hw''⟩ := hw'
  subst hw''
  have hBq := HB1.out.trans ((below_regrown w1 dq osq).mono HB1.out.size)
  generalize Go.Sort.grow (redrawn w1 dq) osq = wq at hBq ⊢
  go_wp2
  go_ret2
  exact ⟨rfl, hBq⟩
end Go.Proofs.YtjnaigpogloboaaDoor
