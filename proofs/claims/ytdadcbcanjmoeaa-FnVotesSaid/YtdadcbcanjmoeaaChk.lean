/-
  Lists whose elements are valid and stand in an order: plain lemmas, of no program.
-/
import Derived.Test.YtdadcbcanjmoeaaMem
import Derived.Lib.QuietBelow
import Derived.BigQuiet
namespace Go.Proofs.Ytdadcbcanjmoeaa
set_option linter.unusedVariables false
open Go.RowKit

/-- What stood in a cell ahead of a call that turns nothing old stands there behind it. -/
theorem keepCell {W w1 : World} (hb : Below W.heap.size W w1) {p : Addr} {v : Value} (h : W.cell? p = some v) : w1.cell? p = some v := (hb.cell (World.block_lt_of_cell? W _ h)).trans h

theorem same_regrown {P : Program} {f : FuncId} {args : Array Value} {w : World} {d : Nat} {os : Array Obj} {v : Value}
    (h : Calls P f args (Go.Sort.grow (redrawn w d) os) fun e w' => e = .returned v ∧ Go.Sort.grow (redrawn w d) os = w') : Calls P f args (Go.Sort.grow (redrawn w d) os) fun e w'' => e = .returned v ∧ ∃ p : Regrown, w'' = Go.Sort.grow (redrawn w p.d) p.os :=
  h.mono fun _ _ ⟨he, hw⟩ => ⟨he, ⟨d, os⟩, hw.symm⟩

/-- 'wpList_app1', the number of the new block said by itself. -/
theorem wpList_app1N {P : Program} {ops : Array Oper} {rest : List Oper} {o : Oper} {a : Act} {Q : Exit → Act → World → Prop} (hgd : o.guard = none) (s x : Operand) (t : TypeId)
    (ho : o.op = .call { callee := .builtin .append, args := #[s, x], argTypes := #[t, t] })
    (base : Nat) (E : TypeId) (i : TypeInfo) (z : Value) (K bytes : Nat) (ht : P.underlying t = some (.slice E)) (hi : P.info? E = some i) (hz : i.zero = some z)
    (hsize : i.size = K) (hby : i.bytes = bytes) (hzs : z.cells.size = K) (hsz : 0 < K) (hb1 : bytes ≤ 1000)
    {α : Type} (enc : α → List Value) (hK : ∀ x, (enc x).length = K) (h1 : ∀ x, ∀ u ∈ enc x, u.oneCell' = true) (v : Value) (l : List α) (y : α) (w : World) (cs : Array Value) (hcs : cs.toList = enc y) (c : Nat)
    (hs : a.eval s = v) (hown : Own enc K w base E v l) (N : Nat) (hN : w.heap.size = N) (hx : a.eval x = .slice (some ⟨N, 0, none⟩) 1 c) (hlen : l.length ≤ 1048576) (hbase : base ≤ w.heap.size)
    (h : ∀ v' w', Own enc K w' base E v' (l ++ [y]) → Below base w w' → w.grownBy w' v.ownBlock → wpList P ops Q rest (a.put o.dst v') w') : wpList P ops Q (o :: rest) a (w.alloc (.cells cs E)) := by
  subst hN
  exact wpList_app1 hgd s x t ho base E i z K bytes ht hi hz hsize hby hzs hsz hb1 enc hK h1 v l y w cs hcs c hs hown hx hlen hbase h

/-- The element at place k is valid and stands rightly behind the one ahead of it. -/
def okAt {α : Type} (ok : α → Bool) (lt : α → α → Bool) (l : List α) (k : Nat) : Bool :=
  match l[k]? with
  | none => true
  | some x => ok x && (match k with | 0 => true | k' + 1 => match l[k']? with | none => true | some y => lt y x)
def chk {α : Type} (ok : α → Bool) (lt : α → α → Bool) (l : List α) : Bool := (List.range l.length).all (okAt ok lt l)

section
variable {α : Type} {ok : α → Bool} {lt : α → α → Bool} {l : List α}
theorem okAt_zero (h : 0 < l.length) : okAt ok lt l 0 = ok l[0] := by simp [okAt, h]
theorem okAt_succ {k : Nat} (h : k + 1 < l.length) : okAt ok lt l (k + 1) = (ok l[k + 1] && lt (l[k]'(by omega)) l[k + 1]) := by
  have h' : k < l.length := by omega
  simp [okAt, h, h']
theorem chk_step {k : Nat} (h1 : (List.range k).all (okAt ok lt l) = true) (h2 : okAt ok lt l k = true) : (List.range (k + 1)).all (okAt ok lt l) = true := by
  rw [List.range_succ, List.all_append, h1]; simp [h2]
theorem chk_false {k : Nat} (hk : k < l.length) (h : okAt ok lt l k = false) : chk ok lt l = false := by
  unfold chk
  rw [List.all_eq_false]
  exact ⟨k, by simpa using hk, by simp [h]⟩
theorem chk_true {k : Nat} (hk : k ≤ l.length) (hn : ¬ k < l.length) (h : (List.range k).all (okAt ok lt l) = true) : chk ok lt l = true := by
  obtain rfl : k = l.length := by omega
  exact h
theorem chk_get (h : chk ok lt l = true) {k : Nat} (hk : k < l.length) : ok l[k] = true := by
  unfold chk at h
  rw [List.all_eq_true] at h
  have := h k (by simpa using hk)
  cases k with
  | zero => rwa [okAt_zero hk] at this
  | succ k => rw [okAt_succ hk, Bool.and_eq_true] at this; exact this.1
theorem chk_lt (h : chk ok lt l = true) {k : Nat} (hk : k + 1 < l.length) : lt (l[k]'(by omega)) l[k + 1] = true := by
  unfold chk at h
  rw [List.all_eq_true] at h
  have := h (k + 1) (by simpa using hk)
  rw [okAt_succ hk, Bool.and_eq_true] at this
  exact this.2
theorem chk_mem (h : chk ok lt l = true) {x : α} (hx : x ∈ l) : ok x = true := by
  obtain ⟨k, hk, rfl⟩ := List.mem_iff_getElem.1 hx
  exact chk_get h hk
end

end Go.Proofs.Ytdadcbcanjmoeaa
