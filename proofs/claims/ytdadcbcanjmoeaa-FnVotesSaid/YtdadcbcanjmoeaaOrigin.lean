/-
  Contracts over slices of Origin: copies, comparisons, tests of all elements. (Printed by gen_struct.py.)
-/
import Derived.Test.YtdadcbcanjmoeaaPure
import Derived.StillTailTactics
import Derived.Laws.EntriesVeiled
namespace Go.Proofs.Ytdadcbcanjmoeaa
set_option linter.unusedVariables false
open Go.RowKit

structure Origin where
  x : Int
  y : Int
  tick : Int
def encO (e : Origin) : List Value := [.int .i64 e.x, .int .i64 e.y, .int .i64 e.tick]
def valO (e : Origin) : Value := .agg #[.int .i64 e.x, .int .i64 e.y, .int .i64 e.tick]
theorem encO_len (e : Origin) : (encO e).length = 3 := rfl
theorem infoO : (Try.prog.info? 39).map (fun i => (i.zero, i.size, i.bytes)) = some (some (.agg #[.int .i64 0, .int .i64 0, .int .i64 0]), 3, 24) := by kernel_rfl
theorem extO {x y : Origin} (h0 : x.x = y.x) (h1 : x.y = y.y) (h2 : x.tick = y.tick) : x = y := by cases x; cases y; simp_all
def eqbO (x y : Origin) : Bool := x.x == y.x && x.y == y.y && x.tick == y.tick
theorem eqbO_iff {x y : Origin} : eqbO x y = true ↔ x = y := by
  constructor
  · intro h; simp [eqbO] at h; exact extO (by simp [h]) (by simp [h]) (by simp [h])
  · rintro rfl; simp [eqbO]

theorem cellsO {w : World} {B : Nat} {A : Option Addr} {l : List Origin} (h : Rd encO 3 w B A l) {j : Nat} (hj : j < l.length) :
    ∃ b off, A = some ⟨b, off, none⟩ ∧ b < B ∧ w.cell? ⟨b, off + j * 3, none⟩ = some (.int .i64 l[j].x) ∧ w.cell? ⟨b, off + j * 3 + 1, none⟩ = some (.int .i64 l[j].y) ∧ w.cell? ⟨b, off + j * 3 + 2, none⟩ = some (.int .i64 l[j].tick) := by
  obtain ⟨b, off, e, hb, hc⟩ := h.at_ (List.getElem?_eq_getElem hj)
  exact ⟨b, off, e, hb, hc 0 _ rfl, hc 1 _ rfl, hc 2 _ rfl⟩

theorem toO_any (a0 a1 a2 : Int) (w : World) :
    Calls Try.prog 22 #[.agg #[.int .i64 a0, .int .i64 a1, .int .i64 a2]] w fun e w' => e = .returned (.agg #[.int .i64 a0, .int .i64 a1, .int .i64 a2]) ∧ Below w.heap.size w w' := by
  go_enter Try.func22, Try.ntmps22
  go_wp2
  refine bodyPost_ret (v := .agg #[.int .i64 a0, .int .i64 a1, .int .i64 a2]) (by simp [results, Try.results22, go_sem]) rfl ⟨rfl, ?_⟩
  (repeat (first | with_reducible exact Below.refl _ _ | with_reducible assumption | with_reducible refine Below.setCell ?_ (by simp <;> omega) _ | with_reducible refine Below.alloc ?_ (by first | omega | (simp <;> omega)) _ | with_reducible refine Below.drew ?_ | with_reducible refine below_drewN ?_ _))




/-- What is asked of a function that is handed on: called with any element of l, in whatever world in which all that lay in w lies unturned, it answers p, and turns nothing that lay there. -/
def PredO (g : Nat) (lb : Array Value) (l : List Origin) (p : Origin → Bool) (w : World) : Prop :=
  ∀ (W : World) (x : Origin), x ∈ l → Below w.heap.size w W → Calls Try.prog g (#[.agg #[.int .i64 x.x, .int .i64 x.y, .int .i64 x.tick]] ++ lb) W fun e w' => e = .returned (.bool (p x)) ∧ Below W.heap.size W w'

end Go.Proofs.Ytdadcbcanjmoeaa
