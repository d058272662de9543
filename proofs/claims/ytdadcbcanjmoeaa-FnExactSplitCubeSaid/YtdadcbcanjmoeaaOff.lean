/-
  Blocks of other types stand behind an append; 'append' whose new element lies in a box of its own, the place spelled apart.
-/
import Derived.Test.YtdadcbcanjmoeaaMem
namespace Go.Proofs.Ytdadcbcanjmoeaa
set_option linter.unusedVariables false
open Go.RowKit

theorem Own.block_ne {α : Type} {enc : α → List Value} {k : Nat} {w : World} {base : Nat} {E T : TypeId} {v : Value} {l : List α} {g : Nat} {cs : Array Value} (o : Own enc k w base E v l) (hB : Blk w g T cs) (hne : E ≠ T) : some g ≠ v.ownBlock := by
  intro e
  obtain ⟨_, h2⟩ := o
  rcases h2 with ⟨rfl, _⟩ | ⟨g1, c1, cur1, rfl, _, hh1, _⟩
  · simp [Value.ownBlock] at e
  · simp [Value.ownBlock] at e
    subst e
    unfold Blk at hB
    rw [hh1] at hB
    injection hB with hB
    injection hB with _ ht
    exact hne ht
/-- All blocks but those of one type stand. -/
def Off (T : TypeId) (w w' : World) : Prop := w.heap.size ≤ w'.heap.size ∧ ∀ g t cs, Blk w g t cs → t ≠ T → Blk w' g t cs
theorem Off.refl (T : TypeId) (w : World) : Off T w w := ⟨Nat.le_refl _, fun _ _ _ h _ => h⟩
theorem Off.trans {T : TypeId} {a b c : World} (h : Off T a b) (k : Off T b c) : Off T a c := ⟨Nat.le_trans h.1 k.1, fun g t cs hB hn => k.2 g t cs (h.2 g t cs hB hn) hn⟩
theorem Off.of_below {T : TypeId} {a b : World} (h : Below a.heap.size a b) : Off T a b := ⟨h.size, fun g t cs hB _ => hB.after h⟩
theorem Off.of_grown {α : Type} {enc : α → List Value} {k : Nat} {w w' : World} {base : Nat} {T : TypeId} {v : Value} {l : List α} (o : Own enc k w base T v l) (h : w.grownBy w' v.ownBlock) : Off T w w' :=
  ⟨h.size, fun g t cs hB hn => hB.grown h (o.block_ne hB (fun e => hn e.symm))⟩
theorem Own.off {α : Type} {enc : α → List Value} {k : Nat} {w w' : World} {base : Nat} {E T : TypeId} {v : Value} {l : List α} (h : Own enc k w base E v l) (hne : E ≠ T) (ho : Off T w w') : Own enc k w' base E v l := by
  obtain ⟨h1, h2⟩ := h
  refine ⟨h1, ?_⟩
  rcases h2 with h2 | ⟨g, cap, cur, rfl, hb', hh, r⟩
  · exact .inl h2
  · exact .inr ⟨g, cap, cur, rfl, hb', ho.2 g E cur hh hne, r⟩
/-- wpList_app1, the place of the new element's box spelled apart. -/
theorem wpList_app1q {P : Program} {ops : Array Oper} {rest : List Oper} {o : Oper} {a : Act} {Q : Exit → Act → World → Prop} (hgd : o.guard = none) (s x : Operand) (t : TypeId)
    (ho : o.op = .call { callee := .builtin .append, args := #[s, x], argTypes := #[t, t] })
    (base : Nat) (E : TypeId) (i : TypeInfo) (z : Value) (K bytes : Nat) (ht : P.underlying t = some (.slice E)) (hi : P.info? E = some i) (hz : i.zero = some z)
    (hsize : i.size = K) (hby : i.bytes = bytes) (hzs : z.cells.size = K) (hsz : 0 < K) (hb1 : bytes ≤ 1000)
    {α : Type} (enc : α → List Value) (hK : ∀ x, (enc x).length = K) (h1 : ∀ x, ∀ u ∈ enc x, u.oneCell' = true) (v : Value) (l : List α) (y : α) (w : World) (cs : Array Value) (hcs : cs.toList = enc y) (c q : Nat) (hq : q = w.heap.size)
    (hs : a.eval s = v) (hown : Own enc K w base E v l) (hx : a.eval x = .slice (some ⟨q, 0, none⟩) 1 c) (hlen : l.length ≤ 1048576) (hbase : base ≤ w.heap.size)
    (h : ∀ v' w', Own enc K w' base E v' (l ++ [y]) → Below base w w' → w.grownBy w' v.ownBlock → wpList P ops Q rest (a.put o.dst v') w') : wpList P ops Q (o :: rest) a (w.alloc (.cells cs E)) := by
  subst hq
  exact wpList_app1 hgd s x t ho base E i z K bytes ht hi hz hsize hby hzs hsz hb1 enc hK h1 v l y w cs hcs c hs hown hx hlen hbase h

end Go.Proofs.Ytdadcbcanjmoeaa
