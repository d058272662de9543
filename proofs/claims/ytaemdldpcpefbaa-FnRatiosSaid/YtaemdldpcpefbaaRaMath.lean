/-
  Plain laws of the greatest ratio and of the least threshold.
-/
import Derived.Test.YtaemdldpcpefbaaLongest
import Derived.Test.YtaemdldpcpefbaaGreatest
import Derived.Test.YtaemdldpcpefbaaOnPl
namespace Go.Proofs.Ytaemdldpcpefbaa
set_option linter.unusedVariables false
open Go.RowKit

section
variable {l : List Int} {s : Setting}
/-- No ratio is greater than the greatest. -/
theorem gr_top (ht : okGR l s = true) {i : Nat} (h1 : s.long ≤ i + 1) (h2 : i < l.length) :
    (s.long ≤ grP l s + 1 ∧ grP l s < l.length) ∧ ratN l s i * ratD l s (grP l s) ≤ ratN l s (grP l s) * ratD l s i := by
  simp only [okGR, Bool.and_eq_true, decide_eq_true_eq] at ht
  obtain ⟨⟨hl, hsm⟩, hg⟩ := okT_iff.1 ht.1
  obtain ⟨g1, g2, g3, g4, _⟩ := goodG_iff.1 hg
  obtain ⟨p, p1, p2, p3, p4, p5⟩ := gr_at hsm hg (nPl l s) (by unfold nPl; omega) (Nat.le_refl _)
  have e : grP l s = p := by unfold grP; rw [p4]; rfl
  rw [e]
  refine ⟨⟨p1, p3⟩, ?_⟩
  have h3 := p5 i h1 (by unfold nPl; omega)
  have h4 := rat_lt hsm hg p1 p3 h1 h2
  rcases Int.lt_or_le (ratN l s p * ratD l s i) (ratN l s i * ratD l s p) with c | c
  · have := h4.1 c; omega
  · exact c
theorem loFrom_spec : ∀ (f : Nat) (q : Int) {r : Int}, loFrom l s f q = (r, true) → (q ≤ r ∧ r < q + f) ∧ spans l (withOn s r) = [] ∧ (q < r → spans l (withOn s (r - 1)) ≠ []) := by
  intro f
  induction f with
  | zero => intro q r h; simp [loFrom] at h
  | succ f ih =>
    intro q r h
    unfold loFrom at h
    split at h
    · rename_i he
      injection h with h _
      subst h
      exact ⟨by omega, List.isEmpty_iff.1 he, fun h => by omega⟩
    · rename_i he
      obtain ⟨i1, i2, i3⟩ := ih (q + 1) h
      refine ⟨by omega, i2, fun h => ?_⟩
      rcases Int.lt_or_le (q + 1) r with c | c
      · exact i3 c
      · rw [show r - 1 = q by omega]
        intro h0
        rw [h0] at he
        simp at he
theorem leV_spec (h : (leV l s).2 = true) : okT l s = true ∧ goodG s = true ∧ (s.off ≤ (leV l s).1 ∧ (leV l s).1 ≤ 1000) ∧ onL l (withOn s (leV l s).1) = [] ∧ okT l (withOn s (leV l s).1) = true ∧
    (s.off < (leV l s).1 → okT l (withOn s ((leV l s).1 - 1)) = true ∧ onL l (withOn s ((leV l s).1 - 1)) ≠ []) := by
  unfold leV at *
  cases ht : okT l s with
  | false => rw [ht] at h; simp at h
  | true =>
    rw [ht] at h
    simp only [if_true] at h ⊢
    obtain ⟨⟨hl, hsm⟩, hg⟩ := okT_iff.1 ht
    obtain ⟨g1, g2, g3, g4, g5, g6, g7, g8⟩ := goodG_iff.1 hg
    have e : loFrom l s (1001 - s.off).toNat s.off = ((loT l s).1, true) := by
      show loT l s = _
      rw [← h]
    obtain ⟨i1, i2, i3⟩ := loFrom_spec _ _ e
    have b1 : s.off ≤ (loT l s).1 ∧ (loT l s).1 ≤ 1000 := by omega
    have ok : ∀ q, s.off ≤ q → q ≤ 1000 → okT l (withOn s q) = true := fun q h1 h2 => okT_iff.2 ⟨⟨hl, hsm⟩, goodG_on hg h1 h2⟩
    refine ⟨trivial, hg, b1, ?_, ok _ b1.1 b1.2, fun hlt => ⟨ok _ (by omega) (by omega), ?_⟩⟩
    · unfold onL; rw [if_pos (ok _ b1.1 b1.2), i2]; rfl
    · unfold onL; rw [if_pos (ok _ (by omega) (by omega))]
      intro h0
      exact i3 hlt (List.map_eq_nil_iff.1 h0)
end
end Go.Proofs.Ytaemdldpcpefbaa
