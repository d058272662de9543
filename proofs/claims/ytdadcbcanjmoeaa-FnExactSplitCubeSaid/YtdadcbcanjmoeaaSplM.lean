/-
  Plain laws of the cubes of half the side.
-/
import Derived.Test.YtdadcbcanjmoeaaIsCube
namespace Go.Proofs.Ytdadcbcanjmoeaa
set_option linter.unusedVariables false
open Go.RowKit

def candC (b : Cube) : List Cube := [⟨b.west, b.south, b.side / 2, b.from_, b.to_⟩, ⟨b.west, b.south + b.side / 2, b.side / 2, b.from_, b.to_⟩, ⟨b.west + b.side / 2, b.south, b.side / 2, b.from_, b.to_⟩, ⟨b.west + b.side / 2, b.south + b.side / 2, b.side / 2, b.from_, b.to_⟩]
def plC (c : Cube) : Bool := placeB c.west c.south
def splK (b : Cube) (k : Nat) : List Cube := ((candC b).take k).filter plC
def okSp (b : Cube) : Bool := goodC b && decide (b.side ≠ 1)
def spL (b : Cube) : List Cube := if okSp b then splK b 4 else []
theorem candC_len (b : Cube) : (candC b).length = 4 := rfl
theorem splK_succ (b : Cube) (k : Nat) (hk : k < (candC b).length) : splK b (k + 1) = splK b k ++ (if plC (candC b)[k] = true then [(candC b)[k]] else []) := by
  unfold splK
  rw [List.take_succ_eq_append_getElem hk, List.filter_append]
  congr 1
  by_cases h : plC (candC b)[k] = true
  · simp [h]
  · simp [h]
theorem splK_len (b : Cube) (k : Nat) : (splK b k).length ≤ 4 := by
  unfold splK
  have h1 := List.length_filter_le plC ((candC b).take k)
  have h2 : ((candC b).take k).length ≤ 4 := by rw [List.length_take, candC_len]; omega
  omega
theorem spL_len {b : Cube} : (spL b).length ≤ 1048576 := by
  unfold spL
  split
  · have := splK_len b 4; omega
  · simp
theorem side_cases {s : Int} (h : sideB s = true) : s = 1 ∨ s = 2 ∨ s = 4 ∨ s = 8 ∨ s = 16 ∨ s = 32 ∨ s = 64 ∨ s = 128 ∨ s = 256 ∨ s = 512 := by
  simp only [sideB, Bool.or_eq_true, beq_iff_eq] at h; omega
theorem half_good {b : Cube} (hg : goodC b = true) (h1 : b.side ≠ 1) {c : Cube} (hc : c ∈ candC b) : goodC c = plC c := by
  obtain ⟨bw, bs, bd, bf, bt⟩ := b
  simp only [goodC, Bool.and_eq_true, beq_iff_eq, decide_eq_true_eq] at hg
  obtain ⟨⟨⟨⟨⟨⟨g1, g2⟩, g3⟩, g4⟩, g5⟩, g6⟩, g7⟩ := hg
  have hs : sideB (bd / 2) = true ∧ bw % (bd / 2) = 0 ∧ bs % (bd / 2) = 0 ∧ (bw + bd / 2) % (bd / 2) = 0 ∧ (bs + bd / 2) % (bd / 2) = 0 := by
    simp only at h1 g1 g3 g4
    rcases side_cases g1 with rfl | rfl | rfl | rfl | rfl | rfl | rfl | rfl | rfl | rfl <;> first | omega | exact ⟨by decide, by omega, by omega, by omega, by omega⟩
  obtain ⟨s1, s2, s3, s4, s5⟩ := hs
  try simp only at g5 g6 g7
  simp only [candC, List.mem_cons, List.not_mem_nil, or_false] at hc
  rcases hc with rfl | rfl | rfl | rfl <;> simp [goodC, plC, s1, s2, s3, s4, s5, g5, g6, g7]
theorem okSp_iff {b : Cube} : okSp b = true ↔ goodC b = true ∧ b.side ≠ 1 := by simp [okSp]

end Go.Proofs.Ytdadcbcanjmoeaa
