/-
  Plain laws of medians, smoothed and clipped samples, as the laws ask them.
-/
import Derived.Test.YtabnnkallgcmgaaMmI
import Derived.Test.YtabnnkallgcmgaaClipI
import Derived.Test.YtabnnkallgcmgaaSmo
namespace Go.Proofs.Ytabnnkallgcmgaa
set_option linter.unusedVariables false
open Go.RowKit

theorem mm_within {l : List Int} {n : Int} : ∀ z ∈ evL 0 3 mmF l n, l.any (· == z) = true := by
  intro z hz
  unfold evL at hz
  split at hz
  · obtain ⟨i, hi, rfl⟩ := List.mem_map.1 hz
    have hi' : i < l.length := by simpa using hi
    have hlen := nearW_len (m := n.toNat) hi'
    have hm : mmF l n i ∈ nearW l n.toNat i := by
      unfold mmF
      exact (sortL_mem idZ).1 (midL_mem (by rw [sortL_len]; omega))
    have hl : mmF l n i ∈ l := List.mem_of_mem_take (List.mem_of_mem_drop hm)
    rw [List.any_eq_true]
    exact ⟨_, hl, by simp⟩
  · cases hz
theorem smo_run {l : List Int} {k lo hi : Int} (hk : 1 ≤ k) : ∀ i (h0 : i < l.length), (∀ j (hj : j < l.length), j ≤ i → lo ≤ l[j] ∧ l[j] ≤ hi) → lo ≤ smo l k i ∧ smo l k i ≤ hi := by
  intro i
  induction i with
  | zero =>
    intro h0 hb
    have := hb 0 h0 (Nat.le_refl _)
    unfold smo
    rw [getD_at h0]
    exact this
  | succ i ih =>
    intro h0 hb
    have h1 := ih (by omega) (fun j hj hle => hb j hj (by omega))
    have h2 := hb (i + 1) h0 (Nat.le_refl _)
    unfold smo
    rw [getD_at h0]
    exact smo_step_bd hk h1.1 h1.2 h2.1 h2.2
theorem smL_yes {l : List Int} {k : Int} (h : okSm l k = true) : smL l k = (List.range l.length).map (smo l k) := by unfold smL; rw [if_pos h]
theorem smL_at {l : List Int} {k : Int} (h : okSm l k = true) {i : Nat} (hi : i < l.length) : ∃ hi' : i < (smL l k).length, (smL l k)[i] = smo l k i := by
  have e := smL_yes h
  refine ⟨by rw [e]; simpa using hi, ?_⟩
  simp only [e, List.getElem_map, List.getElem_range]
theorem clL_yes {l : List Int} {n : Int} (h : okA 0 100000 l n = true) : evL 0 100000 clF l n = (List.range l.length).map (clF l n) := evL_yes h
theorem clip_facts {l : List Int} {n : Int} (h : okA 0 100000 l n = true) : ∃ C, evL 0 100000 clF l n = C ∧ C.length = l.length ∧ okA 0 100000 C n = true ∧ evL 0 100000 clF C n = C ∧
    ∀ k (hk : k < C.length) (hk2 : k < l.length), (-n ≤ C[k] ∧ C[k] ≤ n) ∧ (absI l[k] ≤ n → C[k] = l[k]) ∧ (-100000 ≤ l[k] ∧ l[k] ≤ 100000) ∧ (0 ≤ n ∧ n ≤ 100000) := by
  obtain ⟨⟨hl, hs⟩, h0, h1⟩ := okA_iff.1 h
  obtain ⟨C, hC⟩ : ∃ C, evL 0 100000 clF l n = C := ⟨_, rfl⟩
  have hv : C = (List.range l.length).map (clF l n) := by rw [← hC, clL_yes h]
  have hlen : C.length = l.length := by rw [hv]; simp
  have hat : ∀ k (hk : k < C.length) (hk2 : k < l.length), C[k] = max (-n) (min n l[k]) := by
    intro k hk hk2
    have e : C[k]? = some (clF l n k) := by rw [hv, List.getElem?_map, List.getElem?_range hk2]; rfl
    rw [List.getElem?_eq_getElem hk] at e
    rw [Option.some.inj e]
    unfold clF
    rw [getD_at hk2]
  have hbd : ∀ k (hk : k < C.length), -n ≤ C[k] ∧ C[k] ≤ n := by
    intro k hk
    rw [hat k hk (by omega)]
    omega
  have hok : okA 0 100000 C n = true := by
    rw [okA_iff]
    refine ⟨⟨by omega, fun x hx => ?_⟩, h0, h1⟩
    obtain ⟨k, hk, rfl⟩ := List.mem_iff_getElem.1 hx
    have := hbd k hk
    omega
  refine ⟨C, hC, hlen, hok, ?_, fun k hk hk2 => ⟨hbd k hk, fun ha => ?_, hs _ (List.getElem_mem hk2), h0, h1⟩⟩
  · rw [clL_yes hok]
    apply List.ext_getElem
    · simp
    · intro k h2 h3
      rw [List.getElem_map, List.getElem_range]
      unfold clF
      rw [getD_at h3]
      have := hbd k h3
      omega
  · rw [hat k hk hk2]
    unfold absI at ha
    omega
end Go.Proofs.Ytabnnkallgcmgaa
