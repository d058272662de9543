/-
  'out = append(out, list...)' onto a row of the call's own, as lists.
-/
import Derived.Test.YtabnnkallgcmgaaMem
namespace Go.Proofs.Ytabnnkallgcmgaa
set_option linter.unusedVariables false
open Go.RowKit

theorem flat_append {α : Type} (enc : α → List Value) (l m : List α) : flat enc (l ++ m) = flat enc l ++ flat enc m := by simp [flat]
theorem flat_mem {α : Type} {enc : α → List Value} (h1 : ∀ x, ∀ u ∈ enc x, u.oneCell' = true) (l : List α) : ∀ u ∈ flat enc l, u.oneCell' = true := by
  intro u hu
  unfold flat at hu
  rw [List.mem_flatMap] at hu
  obtain ⟨x, _, hx⟩ := hu
  exact h1 x u hx
/-- What a list reads as, cell by cell. -/
theorem Rd.flat_ {α : Type} {enc : α → List Value} {k : Nat} (hk : ∀ x, (enc x).length = k) (hk0 : 0 < k) {w : World} {B b off : Nat} {l : List α} (h : Rd enc k w B (some ⟨b, off, none⟩) l) :
    ∀ j u, (flat enc l)[j]? = some u → w.cell? ((⟨b, off, none⟩ : Addr).add j) = some u := by
  intro j u hu
  have hlen := flat_length hk l
  have hj : j < l.length * k := by rw [← hlen]; exact (List.getElem?_eq_some_iff.1 hu).1
  have hjk : j / k < l.length := (Nat.div_lt_iff_lt_mul hk0).2 hj
  obtain ⟨b', off', e, _, hc⟩ := h.at_ (List.getElem?_eq_getElem hjk)
  injection e with e
  injection e with e1 e2
  subst e1 e2
  have hi : j % k < k := Nat.mod_lt _ hk0
  have h2 := flat_get hk l (j / k) _ (List.getElem?_eq_getElem hjk) (j % k) hi
  have hjm : j / k * k + j % k = j := by rw [Nat.mul_comm]; exact Nat.div_add_mod j k
  rw [hjm, hu] at h2
  have h3 := hc (j % k) u h2.symm
  rw [show (⟨b, off, none⟩ : Addr).add j = ⟨b, off + j / k * k + j % k, none⟩ by unfold Addr.add; split <;> simp_all <;> omega]
  exact h3

theorem wpList_appL {P : Program} {ops : Array Oper} {rest : List Oper} {o : Oper} {a : Act} {Q : Exit → Act → World → Prop} (hgd : o.guard = none) (s x : Operand) (t : TypeId)
    (ho : o.op = .call { callee := .builtin .append, args := #[s, x], argTypes := #[t, t] })
    (base : Nat) (E : TypeId) (i : TypeInfo) (z : Value) (K bytes : Nat) (ht : P.underlying t = some (.slice E)) (hi : P.info? E = some i) (hz : i.zero = some z)
    (hsize : i.size = K) (hby : i.bytes = bytes) (hzs : z.cells.size = K) (hsz : 0 < K) (hb1 : bytes ≤ 1000)
    {α : Type} (enc : α → List Value) (hK : ∀ x, (enc x).length = K) (h1 : ∀ x, ∀ u ∈ enc x, u.oneCell' = true) (v : Value) (l L : List α) (w : World) (b off n c B : Nat) (hs : a.eval s = v) (hown : Own enc K w base E v l)
    (hx : a.eval x = .slice (some ⟨b, off, none⟩) n c) (hn : L.length = n) (hr : Rd enc K w B (some ⟨b, off, none⟩) L) (hlen : l.length + L.length ≤ 1048576) (hbase : base ≤ w.heap.size)
    (h : ∀ v' w', Own enc K w' base E v' (l ++ L) → Below base w w' → w.grownBy w' v.ownBlock → wpList P ops Q rest (a.put o.dst v') w') : wpList P ops Q (o :: rest) a w := by
  subst hn
  refine wpList_append_own _ hgd s x t ho base E i z K bytes ht hi hz hsize hby hzs hsz v l.length (flat enc l) hs hown ⟨b, off, none⟩ L.length c (flat enc L) hx (flat_length hK L) (hr.flat_ hK hsz) (flat_mem h1 L) (by unfold maxLen; omega) ?_ hbase ?_
  · have : (l.length + L.length) * bytes ≤ 1048576 * 1000 := Nat.mul_le_mul hlen hb1
    omega
  · intro v' w' hown' hg _
    refine h v' w' ?_ ?_ hg
    · unfold Own
      rw [List.length_append, flat_append]
      exact hown'
    · refine ⟨hg.os, hg.tape, hg.output, hg.size, fun k hk => hg.block k (by omega) (fun e => ?_)⟩
      have := (Own.lt hown k e.symm).1
      omega
end Go.Proofs.Ytabnnkallgcmgaa
