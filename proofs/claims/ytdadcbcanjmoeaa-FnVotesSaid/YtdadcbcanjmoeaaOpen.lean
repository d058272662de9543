/-
  Opening a law's arguments: a slice of structs of ints, a slice of ints, a struct of ints by value. Of no program.
-/
import Derived.Test.YtdadcbcanjmoeaaMem
import Derived.ProofKit
import Derived.OpenShut
import Derived.ChangeOld
import Derived.Deep.Slices
import Derived.Deep.Fields
import Derived.Lib.SmallJoins
namespace Go.Proofs.Ytdadcbcanjmoeaa
set_option linter.unusedVariables false
open Go.RowKit Go.ChangeShapes Go.WideShapes Go.Deep

section
variable {H : Type} {enc : TypeId × Value → H} {P : Program} {w : World} {base : Nat} {spare : Nat → Bool} {held : Bool}

/-- A slice of structs, each field an int: it reads as a list. -/
theorem open_rd {α : Type} (encS : α → List Value) (K : Nat) (hK : ∀ x, (encS x).length = K) (hK0 : 0 < K) (mk : (Nat → Int) → α) (hmk : ∀ F i, i < K → (encS (mk F))[i]? = some (.int .i64 (F i)))
    {t e ti : TypeId} {fs : Array Field} {a0 : Option Addr} {len cap : Nat} {d : DataW H} {p : List MemPlace} (ht : P.underlying t = some (.slice e)) (he : P.underlying e = some (.struct fs)) (hti : P.underlying ti = some (.int .i64))
    (hone : oneCellFields P fs = true) (hC : P.cellsOf e = fs.size) (hsz : fs.size = K) (hall : fs.all (fun f => f.type == ti) = true) (h : DataW.Trod enc P w base spare held t (.slice a0 len cap) d p) :
    ∃ l : List α, l.length = len ∧ Rd encS K w w.heap.size a0 l ∧ len ≤ maxLen := by
  obtain ⟨fuel, h⟩ := h
  rcases open_slice ht h with ⟨hcs, _⟩ | ⟨a, len', cap', m, n, D, Pl, hcs, hb, hl, hm, hmm, hx, hi⟩
  · simp [Value.cells] at hcs
    obtain ⟨rfl, rfl, rfl⟩ := hcs
    exact ⟨[], rfl, Rd.nil_, Nat.zero_le _⟩
  · simp [Value.cells] at hcs
    obtain ⟨rfl, rfl, rfl⟩ := hcs
    have hlm : len ≤ m := by rw [hmm]; split <;> omega
    have cell : ∀ i, i < len → ∀ j, j < K → ∃ z : Int, w.cell? (a.add (i * K + j)) = some (.int .i64 z) := by
      intro i hi1 j hj
      obtain ⟨cs', hc, ht'⟩ := hi i (by omega)
      obtain ⟨ys, n', hn', hy, hlen, hyl, hf⟩ := DataW.trod_struct he ht'
      obtain ⟨_, hcl, hat⟩ := World.cells?_some hc
      rw [hC, hsz] at hat hcl
      have hjf : fs[j]? = some (fs[j]'(by omega)) := Array.getElem?_eq_getElem _
      obtain ⟨ho, hk⟩ := hone_of hone j _ hjf
      have hv : cs'[j]? = some (cs'[j]'(by omega)) := List.getElem?_eq_getElem (by omega)
      have h1 := hf j _ hjf
      rw [ho, hk] at h1
      have hone' : (cs'.drop j).take 1 = [cs'[j]'(by omega)] := by
        rw [List.drop_eq_getElem_cons (by omega)]
        rfl
      rw [hone'] at h1
      have hys : ys[j]? = some (ys[j]'(by omega)) := List.getElem?_eq_getElem (by omega)
      have h2 := h1.trans hys
      have hty : fs[j].type = ti := by
        rw [Array.all_eq_true] at hall
        simpa using hall j (by omega)
      rw [hty] at h2
      obtain ⟨z, hz, _, _⟩ := DataW.trod_int hti h2
      refine ⟨z, ?_⟩
      have h3 := hat j hj
      rw [Go.Deep.add_add] at h3
      rw [h3, hv]
      simpa using hz
    refine ⟨(List.range len).map fun i => mk fun j => if hi : i < len then if hj : j < K then (cell i hi j hj).choose else 0 else 0, by simp, fun hne => ?_, by omega⟩
    have hlen0 : 0 < len := by
      rcases Nat.eq_zero_or_pos len with h0 | h0
      · subst h0; simp at hne
      · exact h0
    obtain ⟨z0, hz0⟩ := cell 0 hlen0 0 hK0
    obtain ⟨b, off, spot⟩ := a
    have hspot : spot = none := by
      have := World.cell?_spot hz0
      simp only [Nat.zero_mul, Nat.zero_add] at this
      simpa [Addr.add] using this
    subst hspot
    have hbl : b < w.heap.size := by
      have := World.block_lt_of_cell? w _ hz0
      simpa [Addr.add] using this
    refine ⟨b, off, rfl, hbl, fun j x hx i v hv => ?_⟩
    rw [List.getElem?_map] at hx
    have hj : j < len := by
      rcases Nat.lt_or_ge j len with h1 | h1
      · exact h1
      · rw [List.getElem?_eq_none (by simpa using h1)] at hx; simp at hx
    rw [List.getElem?_range hj] at hx
    simp only [Option.map_some, Option.some.injEq] at hx
    subst hx
    have hi' : i < K := by
      have := (List.getElem?_eq_some_iff.1 hv).1
      rwa [hK] at this
    rw [hmk _ _ hi'] at hv
    rw [dif_pos hj, dif_pos hi'] at hv
    have hsp := (cell j hj i hi').choose_spec
    injection hv with hv
    subst hv
    rw [show (⟨b, off + j * K + i, none⟩ : Addr) = (⟨b, off, none⟩ : Addr).add (j * K + i) by unfold Addr.add; split <;> simp_all <;> omega]
    exact hsp

/-- A struct of ints by value. -/
theorem open_aggN (K : Nat) {t ti : TypeId} {fs : Array Field} {r : Reach} {b0 : Nat} {v : Value} {d : DataW H} {p : List MemPlace} (ht : P.underlying t = some (.struct fs)) (hti : P.underlying ti = some (.int .i64))
    (hone : oneCellFields P fs = true) (hC : P.cellsOf t = K) (hsz : fs.size = K) (hall : fs.all (fun f => f.type == ti) = true) (hv : Value.okWide P w r b0 t v) (h : DataW.Trod enc P w base spare held t v d p) :
    ∃ F : Nat → Int, v = .agg ((List.range K).map fun i => .int .i64 (F i)).toArray ∧ ∀ i, i < K → (Lit.int .i64 (F i)).wf = true := by
  obtain ⟨cs, rfl, hcs⟩ := okWide_struct ht hv
  obtain ⟨l⟩ := cs
  obtain ⟨fuel, hf⟩ := h
  obtain ⟨xs, n, _, hx, _, hlen, hg⟩ := DataW.trod_struct ht hf
  have hl : l.length = K := by rw [hC] at hcs; simpa using hcs
  have cell : ∀ j, j < K → ∃ z : Int, l[j]? = some (.int .i64 z) ∧ (Lit.int .i64 z).wf = true := by
    intro j hj
    have hjf : fs[j]? = some (fs[j]'(by omega)) := Array.getElem?_eq_getElem _
    obtain ⟨ho, hk⟩ := hone_of hone j _ hjf
    have h1 := hg j _ hjf
    rw [ho, hk] at h1
    simp only [Value.cells] at h1
    have hone' : (l.drop j).take 1 = [l[j]'(by omega)] := by
      rw [List.drop_eq_getElem_cons (by omega)]
      rfl
    rw [hone'] at h1
    have hys : xs[j]? = some (xs[j]'(by omega)) := List.getElem?_eq_getElem (by omega)
    have h2 := h1.trans hys
    have hty : fs[j].type = ti := by
      rw [Array.all_eq_true] at hall
      simpa using hall j (by omega)
    rw [hty] at h2
    obtain ⟨z, hz, _, hwf⟩ := DataW.trod_int hti h2
    refine ⟨z, ?_, hwf⟩
    rw [List.getElem?_eq_getElem (by omega)]
    simpa using hz
  refine ⟨fun j => if hj : j < K then (cell j hj).choose else 0, ?_, fun i hi => by simp only [dif_pos hi]; exact (cell i hi).choose_spec.2⟩
  congr 1
  apply Array.ext'
  simp only
  apply List.ext_getElem?
  intro j
  rw [List.getElem?_map]
  rcases Nat.lt_or_ge j K with hj | hj
  · rw [List.getElem?_range hj]
    simp only [Option.map_some]
    rw [dif_pos hj]
    exact (cell j hj).choose_spec.1
  · rw [List.getElem?_eq_none (by omega), List.getElem?_eq_none (by simpa using hj)]
    rfl

/-- A slice of ints. -/
theorem open_rdI {k : IntKind} {t e : TypeId} {a0 : Option Addr} {len cap : Nat} {d : DataW H} {p : List MemPlace} (ht : P.underlying t = some (.slice e)) (he : P.underlying e = some (.int k)) (hc : P.cellsOf e = 1)
    (h : DataW.Trod enc P w base spare held t (.slice a0 len cap) d p) :
    ∃ l : List Int, l.length = len ∧ Rd (fun n => [.int k n]) 1 w w.heap.size a0 l ∧ len ≤ maxLen ∧ ∀ n ∈ l, (Lit.int k n).wf = true := by
  obtain ⟨fuel, h⟩ := h
  rcases open_ints ht he hc h with ⟨hcs, _⟩ | ⟨a, len', cap', zs, hcs, _, hl, hm, hz, _, hcell, hwz⟩
  · simp [Value.cells] at hcs
    obtain ⟨rfl, rfl, rfl⟩ := hcs
    exact ⟨[], rfl, Rd.nil_, Nat.zero_le _, by simp⟩
  · simp [Value.cells] at hcs
    obtain ⟨rfl, rfl, rfl⟩ := hcs
    have hzl : len ≤ zs.length := by rw [hz]; split <;> omega
    refine ⟨zs.take len, by simp; omega, fun hne => ?_, by omega, fun n hn => hwz n (List.mem_of_mem_take hn)⟩
    have hlen0 : 0 < len := by
      rcases Nat.eq_zero_or_pos len with h0 | h0
      · subst h0; simp at hne
      · exact h0
    have h0 := hcell 0 (by omega)
    obtain ⟨b, off, spot⟩ := a
    have hspot : spot = none := by
      have := World.cell?_spot h0
      simpa [Addr.add] using this
    subst hspot
    have hbl : b < w.heap.size := by
      have := World.block_lt_of_cell? w _ h0
      simpa [Addr.add] using this
    refine ⟨b, off, rfl, hbl, fun j x hx i v hv => ?_⟩
    have hj : j < len := by
      have := (List.getElem?_eq_some_iff.1 hx).1
      simp at this; omega
    have hi : i = 0 := by
      have := (List.getElem?_eq_some_iff.1 hv).1
      simpa using this
    subst hi
    have hc0 := hcell j (by omega)
    rw [List.getElem?_take, if_pos hj] at hx
    have hz1 : zs.getD j 0 = x := by rw [List.getD_eq_getElem?_getD, hx]; rfl
    rw [hz1] at hc0
    simp at hv
    subst hv
    rw [show (⟨b, off + j * 1 + 0, none⟩ : Addr) = (⟨b, off, none⟩ : Addr).add j by unfold Addr.add; split <;> simp_all]
    exact hc0
end
end Go.Proofs.Ytdadcbcanjmoeaa
