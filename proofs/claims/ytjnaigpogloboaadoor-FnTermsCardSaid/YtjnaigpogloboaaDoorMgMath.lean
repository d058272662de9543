/-
  Plain laws of magnitudes: a farther place has no smaller bonus; medians; new terms.
-/
import Derived.Test.YtjnaigpogloboaaDoorMagO
import Derived.Test.YtjnaigpogloboaaDoorIns
namespace Go.Proofs.YtjnaigpogloboaaDoor
set_option linter.unusedVariables false
open Go.RowKit

section
variable {l : List TableRow} {far far' : Int}
theorem goodT_far (hg : goodT l = true) : ∀ (j i : Nat) (hj : j < l.length) (hi : i ≤ j), (l[i]'(by omega)).far ≤ l[j].far ∧ (l[i]'(by omega)).bonus ≤ l[j].bonus := by
  intro j
  induction j with
  | zero => intro i hj hi; obtain rfl : i = 0 := by omega
            exact ⟨Int.le_refl _, Int.le_refl _⟩
  | succ j ih =>
    intro i hj hi
    rcases Nat.lt_or_ge i (j + 1) with c | c
    · have h1 := ih i (by omega) (by omega)
      have h2 := goodT_lt hg hj
      omega
    · obtain rfl : i = j + 1 := by omega
      exact ⟨Int.le_refl _, Int.le_refl _⟩
theorem bon_cases (hg : goodT l = true) (hk : bonOk l far = true) : (∃ h : 0 < l.length, far ≤ l[0].far ∧ bonV l far = l[0].bonus) ∨
    (∃ (k : Nat) (h : k + 1 < l.length), (l[k]'(by omega)).far < far ∧ far ≤ l[k + 1].far ∧ bonV l far = interp (l[k]'(by omega)) l[k + 1] far) := by
  have hl := goodT_len hg
  cases ha : l.any (farP far) with
  | false => rw [(bon_miss ha).2] at hk; cases hk
  | true =>
    rw [List.any_eq_true] at ha
    have hlt := List.findIdx_lt_length_of_exists ha
    have hp := List.findIdx_getElem (w := hlt)
    have hn : ∀ j (hj : j < l.findIdx (farP far)), farP far (l[j]'(by omega)) = false := fun j hj => by simpa using List.not_of_lt_findIdx hj
    have key : ∀ (k : Nat) (hlt : k < l.length), farP far l[k] = true → (∀ j (hj : j < k), farP far (l[j]'(by omega)) = false) → (∃ h : 0 < l.length, far ≤ l[0].far ∧ bonV l far = l[0].bonus) ∨
        (∃ (k : Nat) (h : k + 1 < l.length), (l[k]'(by omega)).far < far ∧ far ≤ l[k + 1].far ∧ bonV l far = interp (l[k]'(by omega)) l[k + 1] far) := by
      intro k hlt hp hn
      cases k with
      | zero =>
        have hf : far ≤ l[0].far := by simpa [farP] using hp
        exact .inl ⟨hlt, hf, (bon_zero hlt hf).1⟩
      | succ k =>
        have h0 : (l.take (k + 1)).any (farP far) = false := by
          rw [List.any_eq_false]
          intro x hx
          obtain ⟨j, hj, rfl⟩ := List.mem_iff_getElem.1 hx
          rw [List.getElem_take]
          simp only [List.length_take] at hj
          simp [hn j (by omega)]
        have hf : far ≤ l[k + 1].far := by simpa [farP] using hp
        have hk1 := hn k (by omega)
        simp only [farP, decide_eq_false_iff_not] at hk1
        exact .inr ⟨k, hlt, by omega, hf, (bon_hit hlt hf h0).1⟩
    exact key _ hlt hp hn
theorem interp_in (hg : goodT l = true) {k : Nat} (h : k + 1 < l.length) (h1 : (l[k]'(by omega)).far < far) (h2 : far ≤ l[k + 1].far) : (l[k]'(by omega)).bonus ≤ interp (l[k]'(by omega)) l[k + 1] far ∧ interp (l[k]'(by omega)) l[k + 1] far ≤ l[k + 1].bonus := by
  have g1 := goodT_get hg (show k < l.length by omega)
  have g2 := goodT_get hg h
  have g3 := goodT_lt hg h
  have := interp_bd (far := far) h1 h2 g3.2 ⟨g1.1.1, g2.1.2⟩ ⟨g1.2.1, g2.2.2⟩
  unfold interp
  omega
theorem bonV_mono (hg : goodT l = true) (h : far ≤ far') (hk : bonOk l far = true) (hk' : bonOk l far' = true) : bonV l far ≤ bonV l far' := by
  rcases bon_cases hg hk with ⟨h0, a1, a2⟩ | ⟨k, h0, a1, a2, a3⟩
  · rcases bon_cases hg hk' with ⟨h0', b1, b2⟩ | ⟨k', h0', b1, b2, b3⟩
    · rw [a2, b2]; exact Int.le_refl _
    · have := interp_in hg h0' b1 b2
      have := goodT_far hg k' 0 (by omega) (by omega)
      omega
  · rcases bon_cases hg hk' with ⟨h0', b1, b2⟩ | ⟨k', h0', b1, b2, b3⟩
    · have := goodT_far hg k 0 (by omega) (by omega)
      omega
    · rcases Nat.lt_trichotomy k k' with c | c | c
      · have := interp_in hg h0' b1 b2
        have := interp_in hg h0 a1 a2
        have := goodT_far hg k' (k + 1) (by omega) (by omega)
        omega
      · subst c
        rw [a3, b3]
        unfold interp
        have g3 := goodT_lt hg h0
        have p2 : (far - (l[k]'(by omega)).far) * (l[k + 1].bonus - (l[k]'(by omega)).bonus) ≤ (far' - (l[k]'(by omega)).far) * (l[k + 1].bonus - (l[k]'(by omega)).bonus) := Int.mul_le_mul_of_nonneg_right (by omega) (by omega)
        have := Int.ediv_le_ediv (show 0 < l[k + 1].far - (l[k]'(by omega)).far by omega) p2
        omega
      · have := goodT_far hg k (k' + 1) (by omega) (by omega)
        omega
theorem BA_mono (h1 : BAok l far = true) (h2 : BAok l (far + 1) = true) : BAv l far ≤ BAv l (far + 1) := by
  unfold BAok at h1 h2
  unfold BAv
  simp only [Bool.and_eq_true] at h1 h2
  rw [if_pos h1.1, if_pos h2.1]
  simp only [okB, Bool.and_eq_true] at h1
  exact bonV_mono h1.1.1 (by omega) h1.2 h2.2
/-- The least width has the magnitude, and one less has not. -/
theorem LW_hit {mag : Int} (h : (lwR l far mag).2 = true) (hx : ∃ r : Int × Bool, LWres l far mag r.1 r.2) : MOok l ⟨1, far, (lwR l far mag).1, 0⟩ = true ∧ mag ≤ MOv l ⟨1, far, (lwR l far mag).1, 0⟩ ∧
    (MOok l ⟨1, far, (lwR l far mag).1 - 1, 0⟩ = true → MOv l ⟨1, far, (lwR l far mag).1 - 1, 0⟩ < mag) := by
  have e : lwR l far mag = hx.choose := by unfold lwR; rw [dif_pos hx]
  have hs := hx.choose_spec
  rw [← e] at hs
  generalize lwR l far mag = r at *
  obtain ⟨a, ok⟩ := r
  simp only at h hs ⊢
  subst h
  unfold LWres at hs
  cases hq : askLW l far mag with
  | false => rw [hq] at hs; simp at hs
  | true =>
    rw [hq] at hs
    simp only [if_true, LWout] at hs
    obtain ⟨n, rfl, h1, h2, h3, h4⟩ := hs
    simp only [askLW, BAok, okB, Bool.and_eq_true] at hq
    obtain ⟨⟨⟨hg, hf⟩, hb⟩, hm⟩ := hq
    have hbv : BAv l far = bonV l far := by unfold BAv okB; rw [hg, hf]; rfl
    rw [hbv] at h3 h4
    have hfr := inB_true hf
    have gw : ∀ m : Int, 1 ≤ m → m ≤ 1000000 → goodW ⟨1, far, m, 0⟩ = true := fun m q1 q2 => goodW_iff.2 ⟨by simp, by simpa using hfr, by simp; omega, by simp⟩
    have hv : ∀ m : Int, 1 ≤ m → m ≤ 1000000 → MOv l ⟨1, far, m, 0⟩ = (szW m.toNat : Int) + bonV l far := fun m q1 q2 => by
      unfold MOv askMO magO magV
      rw [hg, gw m q1 q2]
      simp only [Bool.and_true, if_true, hb]
      omega
    refine ⟨?_, ?_, fun ho => ?_⟩
    · unfold MOok askMO; rw [hg, gw n (by omega) (by omega), hb]; rfl
    · rw [hv n (by omega) (by omega)]
      simp only [Int.toNat_natCast]
      omega
    · have hgw : goodW ⟨1, far, (n : Int) - 1, 0⟩ = true := by
        simp only [MOok, askMO, Bool.and_eq_true] at ho
        exact ho.1.2
      have := goodW_iff.1 hgw
      simp only at this
      rw [hv ((n : Int) - 1) (by omega) (by omega)]
      have := h4 ((n : Int) - 1).toNat (by omega) (by omega)
      omega
end

/-- The magnitudes of all swings that have one. -/
def magsL (t : List TableRow) (l : List Swing) : List Int := (l.filter fun s => bonOk t s.far).map (magV t)
theorem magsL_yes {t : List TableRow} {l : List Swing} {k : Nat} (hk : k < l.length) (h : bonOk t l[k].far = true) : magsL t (l.take (k + 1)) = magsL t (l.take k) ++ [magV t l[k]] := by
  unfold magsL
  rw [List.take_succ_eq_append_getElem hk, List.filter_append, List.map_append]
  simp [h]
theorem magsL_no {t : List TableRow} {l : List Swing} {k : Nat} (hk : k < l.length) (h : bonOk t l[k].far = false) : magsL t (l.take (k + 1)) = magsL t (l.take k) := by
  unfold magsL
  rw [List.take_succ_eq_append_getElem hk, List.filter_append, List.map_append]
  simp [h]
theorem magsL_len (t : List TableRow) (l : List Swing) : (magsL t l).length ≤ l.length := by
  unfold magsL
  rw [List.length_map]
  exact List.length_filter_le ..
theorem magsL_bd {t : List TableRow} {l : List Swing} (hg : goodT t = true) (hs : ∀ s ∈ l, goodW s = true) : ∀ x ∈ magsL t l, -50 ≤ x ∧ x ≤ 1250 := by
  intro x hx
  unfold magsL at hx
  obtain ⟨s, hs1, rfl⟩ := List.mem_map.1 hx
  exact magV_bd hg (hs s (List.mem_filter.1 hs1).1)
end Go.Proofs.YtjnaigpogloboaaDoor
