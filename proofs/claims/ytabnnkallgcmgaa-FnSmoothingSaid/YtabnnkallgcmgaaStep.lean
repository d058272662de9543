/-
  'append' at a step of a statement that draws its order: a list, or one element that lies in a block of its own, onto a row of the call's own.
-/
import Derived.Test.YtabnnkallgcmgaaApp
import Derived.Deep.AppendLies
namespace Go.Proofs.Ytabnnkallgcmgaa
set_option linter.unusedVariables false
open Go.RowKit

theorem step_appL {P : Program} {ops : Array Oper} {o : Oper} {a : Act} {KK : Act → World → Prop} {Q : Exit → Act → World → Prop} {Ep : Prop} (hgd : o.guard = none) (s x : Operand) (t : TypeId)
    (ho : o.op = .call { callee := .builtin .append, args := #[s, x], argTypes := #[t, t] })
    (base : Nat) (E : TypeId) (i : TypeInfo) (z : Value) (K bytes : Nat) (ht : P.underlying t = some (.slice E)) (hi : P.info? E = some i) (hz : i.zero = some z)
    (hsize : i.size = K) (hby : i.bytes = bytes) (hzs : z.cells.size = K) (hsz : 0 < K) (hb1 : bytes ≤ 1000)
    {α : Type} (enc : α → List Value) (hK : ∀ x, (enc x).length = K) (h1 : ∀ x, ∀ u ∈ enc x, u.oneCell' = true) (v : Value) (l L : List α) (w : World) (ad : Addr) (n c : Nat) (hs : a.eval s = v) (hx : a.eval x = .slice (some ad) n c) (hown : Own enc K w base E v l)
    (hn : L.length = n) (hr : ∀ j u, (flat enc L)[j]? = some u → w.cell? (ad.add j) = some u) (hlen : l.length + n ≤ 1048576) (hbase : base ≤ w.heap.size)
    (h : ∀ v' w', Own enc K w' base E v' (l ++ L) → Below base w w' → w.grownBy w' v.ownBlock → KK (a.put o.dst v') w') :
    if Region.wanted o (yielded ops a.tmps) = true then Oper.wp P o a w KK Q else Ep := by
  have hw : Region.wanted o (yielded ops a.tmps) = true := by simp [Region.wanted, hgd]
  rw [if_pos hw]
  subst hn
  obtain ⟨v', w', hr', h2, h3, _, h5⟩ := run_append_own_at (P := P) w base t o.type E i z K bytes ht hi hz hsize hby hzs hsz v l.length (flat enc l) hown ad L.length c (flat enc L) (flat_length hK L) hr (flat_mem h1 L) (by unfold maxLen; omega)
    (by have : (l.length + L.length) * bytes ≤ 1048576 * 1000 := Nat.mul_le_mul hlen hb1
        omega) hbase
  unfold Oper.wp execOp
  simp only [ho, resolve, invoke, builtin, Sem.run_bind, Sem.run_pure, Result.andThen_ok, List.map_toArray, List.map_cons, List.map_nil, hs, hx, hr']
  refine h v' w' ?_ ?_ h3
  · unfold Own
    rw [List.length_append, flat_append]
    exact h2
  · refine ⟨h3.os, h3.tape, h3.output, h3.size, fun k hk => h3.block k (by omega) (fun e => ?_)⟩
    have := (Own.lt hown k e.symm).1
    omega

theorem step_app1 {P : Program} {ops : Array Oper} {o : Oper} {a : Act} {KK : Act → World → Prop} {Q : Exit → Act → World → Prop} {Ep : Prop} (hgd : o.guard = none) (s x : Operand) (t : TypeId)
    (ho : o.op = .call { callee := .builtin .append, args := #[s, x], argTypes := #[t, t] })
    (base : Nat) (E : TypeId) (i : TypeInfo) (z : Value) (K bytes : Nat) (ht : P.underlying t = some (.slice E)) (hi : P.info? E = some i) (hz : i.zero = some z)
    (hsize : i.size = K) (hby : i.bytes = bytes) (hzs : z.cells.size = K) (hsz : 0 < K) (hb1 : bytes ≤ 1000)
    {α : Type} (enc : α → List Value) (hK : ∀ x, (enc x).length = K) (h1 : ∀ x, ∀ u ∈ enc x, u.oneCell' = true) (v : Value) (l : List α) (y : α) (cs : Array Value) (hcs : cs.toList = enc y) (w : World) (q c : Nat) (hs : a.eval s = v) (hx : a.eval x = .slice (some ⟨q, 0, none⟩) 1 c) (hown : Own enc K w base E v l)
    (hB : Blk w q E cs) (hlen : l.length + 1 ≤ 1048576) (hbase : base ≤ w.heap.size)
    (h : ∀ v' w', Own enc K w' base E v' (l ++ [y]) → Below base w w' → w.grownBy w' v.ownBlock → KK (a.put o.dst v') w') :
    if Region.wanted o (yielded ops a.tmps) = true then Oper.wp P o a w KK Q else Ep := by
  refine step_appL hgd s x t ho base E i z K bytes ht hi hz hsize hby hzs hsz hb1 enc hK h1 v l [y] w ⟨q, 0, none⟩ 1 c hs hx hown rfl ?_ hlen hbase h
  have e : flat enc [y] = cs.toList := by simp [flat, hcs]
  rw [e]
  exact World.news_of_block hB

end Go.Proofs.Ytabnnkallgcmgaa
