/-
  Plain laws of the least width, of sizes, and of new terms, as the laws ask them.
-/
import Derived.Test.YtjnaigpogloboaaDoorMeMath
namespace Go.Proofs.YtjnaigpogloboaaDoor
set_option linter.unusedVariables false
open Go.RowKit

theorem lwR_eq {l : List TableRow} {far mag a : Int} {ok : Bool} (hs : LWres l far mag a ok) : lwR l far mag = (a, ok) := by
  have hx : ∃ r : Int × Bool, LWres l far mag r.1 r.2 := ⟨(a, ok), hs⟩
  have e : lwR l far mag = hx.choose := by unfold lwR; rw [dif_pos hx]
  have := hx.choose_spec.unique hs
  rw [e]
  exact Prod.ext this.1 this.2
/-- The least width has the magnitude, and one less has not. -/
theorem lw_hit {l : List TableRow} {far mag a : Int} (hs : LWres l far mag a true) : (1 ≤ a ∧ a ≤ 1000000) ∧ MOok l ⟨1, far, a, 0⟩ = true ∧ mag ≤ MOv l ⟨1, far, a, 0⟩ ∧
    (MOok l ⟨1, far, a - 1, 0⟩ = true → MOv l ⟨1, far, a - 1, 0⟩ < mag) := by
  have e := lwR_eq hs
  have h := LW_hit (l := l) (far := far) (mag := mag) (by rw [e]) ⟨(a, true), hs⟩
  rw [e] at h
  refine ⟨?_, h⟩
  unfold LWres at hs
  split at hs
  · simp only [LWout, if_true] at hs
    obtain ⟨n, rfl, h1, h2, _⟩ := hs
    omega
  · simp at hs
theorem szOut_mono {w : Int} (h : (szOut w).2 = true) (h' : (szOut (w + 1)).2 = true) : (szOut w).1 ≤ (szOut (w + 1)).1 := by
  unfold szOut at *
  split at h
  · rename_i h1
    split at h'
    · rename_i h2
      rw [if_pos h1, if_pos h2]
      have a1 := inB_true h1
      have := szW_mono (w + 1).toNat w.toNat (by omega)
      simp only
      omega
    · simp at h'
  · simp at h
theorem MOv_bd (t : List TableRow) (s : Swing) : -50 ≤ MOv t s ∧ MOv t s ≤ 1250 := by
  unfold MOv
  split
  · rename_i h
    simp only [askMO, Bool.and_eq_true] at h
    unfold magO
    split
    · exact magV_bd h.1 h.2
    · omega
  · omega
theorem newL_at {t : List TableRow} {l : List Swing} (h : hasMM t l = true) : newL t l = l.map (newS t (midM t l)) := by unfold newL; rw [if_pos h]
theorem term_near {t : List TableRow} {l : List Swing} (h : hasMM t l = true) {s : Swing} (hs : s ∈ l) : MOok t (newS t (midM t l) s) = MOok t s ∧
    (MOok t s = true → (MOv t (newS t (midM t l) s) - midM t l) * (MOv t (newS t (midM t l) s) - midM t l) ≤ (MOv t s - midM t l) * (MOv t s - midM t l)) := by
  obtain ⟨h1, _⟩ := hasMM_iff h
  obtain ⟨hg, _, _, hw⟩ := askMM_iff h1
  have hgs := hw s hs
  have hgn : goodW (newS t (midM t l) s) = true := newS_good hgs
  have e1 : askMO t s = true := by unfold askMO; rw [hg, hgs]; rfl
  have e2 : askMO t (newS t (midM t l) s) = true := by unfold askMO; rw [hg, hgn]; rfl
  have ef : (newS t (midM t l) s).far = s.far := newS_far.1
  refine ⟨by unfold MOok; rw [e1, e2, ef], fun hk => ?_⟩
  have hb : bonOk t s.far = true := by unfold MOok at hk; rw [e1] at hk; simpa using hk
  have v1 : MOv t s = magV t s := by unfold MOv magO; rw [if_pos e1, if_pos hb]
  have v2 : MOv t (newS t (midM t l) s) = magV t (newS t (midM t l) s) := by unfold MOv magO; rw [if_pos e2, ef, if_pos hb]
  rw [v1, v2]
  exact newS_near hb hgs
theorem sq_bd {a m : Int} (h : -50 ≤ a ∧ a ≤ 1250) (hm : -50 ≤ m ∧ m ≤ 1250) : 0 ≤ (a - m) * (a - m) ∧ (a - m) * (a - m) ≤ 1690000 := by
  have h1 : (a - m).natAbs ≤ 1300 := by omega
  have h2 := Nat.mul_le_mul h1 h1
  have h3 : (((a - m).natAbs * (a - m).natAbs : Nat) : Int) = (a - m) * (a - m) := Int.natAbs_mul_self
  omega
end Go.Proofs.YtjnaigpogloboaaDoor
