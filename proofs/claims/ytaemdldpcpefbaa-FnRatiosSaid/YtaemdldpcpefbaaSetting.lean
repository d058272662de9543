/-
  Contracts over slices of Setting: copies, comparisons, tests of all elements. (Printed by gen_struct.py.)
-/
import Derived.Test.YtaemdldpcpefbaaPure
import Derived.StillTailTactics
import Derived.Laws.EntriesVeiled
namespace Go.Proofs.Ytaemdldpcpefbaa
set_option linter.unusedVariables false
open Go.RowKit

structure Setting where
  short : Int
  long : Int
  on : Int
  off : Int
def encG (e : Setting) : List Value := [.int .i64 e.short, .int .i64 e.long, .int .i64 e.on, .int .i64 e.off]
def valG (e : Setting) : Value := .agg #[.int .i64 e.short, .int .i64 e.long, .int .i64 e.on, .int .i64 e.off]
theorem encG_len (e : Setting) : (encG e).length = 4 := rfl
theorem infoG : (Try.prog.info? 25).map (fun i => (i.zero, i.size, i.bytes)) = some (some (.agg #[.int .i64 0, .int .i64 0, .int .i64 0, .int .i64 0]), 4, 32) := by kernel_rfl
theorem extG {x y : Setting} (h0 : x.short = y.short) (h1 : x.long = y.long) (h2 : x.on = y.on) (h3 : x.off = y.off) : x = y := by cases x; cases y; simp_all
def eqbG (x y : Setting) : Bool := x.short == y.short && x.long == y.long && x.on == y.on && x.off == y.off
theorem eqbG_iff {x y : Setting} : eqbG x y = true ↔ x = y := by
  constructor
  · intro h; simp [eqbG] at h; exact extG (by simp [h]) (by simp [h]) (by simp [h]) (by simp [h])
  · rintro rfl; simp [eqbG]

theorem cellsG {w : World} {B : Nat} {A : Option Addr} {l : List Setting} (h : Rd encG 4 w B A l) {j : Nat} (hj : j < l.length) :
    ∃ b off, A = some ⟨b, off, none⟩ ∧ b < B ∧ w.cell? ⟨b, off + j * 4, none⟩ = some (.int .i64 l[j].short) ∧ w.cell? ⟨b, off + j * 4 + 1, none⟩ = some (.int .i64 l[j].long) ∧ w.cell? ⟨b, off + j * 4 + 2, none⟩ = some (.int .i64 l[j].on) ∧ w.cell? ⟨b, off + j * 4 + 3, none⟩ = some (.int .i64 l[j].off) := by
  obtain ⟨b, off, e, hb, hc⟩ := h.at_ (List.getElem?_eq_getElem hj)
  exact ⟨b, off, e, hb, hc 0 _ rfl, hc 1 _ rfl, hc 2 _ rfl, hc 3 _ rfl⟩

theorem toG_any (a0 a1 a2 a3 : Int) (w : World) :
    Calls Try.prog 15 #[.agg #[.int .i64 a0, .int .i64 a1, .int .i64 a2, .int .i64 a3]] w fun e w' => e = .returned (.agg #[.int .i64 a0, .int .i64 a1, .int .i64 a2, .int .i64 a3]) ∧ Below w.heap.size w w' := by
  go_enter Try.func15, Try.ntmps15
  go_wp2
  refine bodyPost_ret (v := .agg #[.int .i64 a0, .int .i64 a1, .int .i64 a2, .int .i64 a3]) (by simp [results, Try.results15, go_sem]) rfl ⟨rfl, ?_⟩
  (repeat (first | with_reducible exact Below.refl _ _ | with_reducible assumption | with_reducible refine Below.setCell ?_ (by simp <;> omega) _ | with_reducible refine Below.alloc ?_ (by first | omega | (simp <;> omega)) _ | with_reducible refine Below.drew ?_ | with_reducible refine below_drewN ?_ _))




/-- What is asked of a function that is handed on: called with any element of l, in whatever world in which all that lay in w lies unturned, it answers p, and turns nothing that lay there. -/
def PredG (g : Nat) (lb : Array Value) (l : List Setting) (p : Setting → Bool) (w : World) : Prop :=
  ∀ (W : World) (x : Setting), x ∈ l → Below w.heap.size w W → Calls Try.prog g (#[.agg #[.int .i64 x.short, .int .i64 x.long, .int .i64 x.on, .int .i64 x.off]] ++ lb) W fun e w' => e = .returned (.bool (p x)) ∧ Below W.heap.size W w'

end Go.Proofs.Ytaemdldpcpefbaa
