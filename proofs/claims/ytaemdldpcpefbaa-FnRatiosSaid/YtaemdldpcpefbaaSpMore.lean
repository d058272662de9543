/-
  Plain laws of the spans that a trigger is on: bounds, order, the longest, the least threshold.
-/
import Derived.Test.YtaemdldpcpefbaaTrig
namespace Go.Proofs.Ytaemdldpcpefbaa
set_option linter.unusedVariables false
open Go.RowKit

/-- What holds of the spans behind some places, the next of which is p, of n samples. -/
def SpInv (lo p n : Nat) (st : List (Int × Int) × Bool) : Prop :=
  (∀ x ∈ st.1, (lo : Int) ≤ x.1 ∧ x.1 < p ∧ x.1 < x.2 ∧ x.2 ≤ n) ∧ st.1.Pairwise (fun x y => x.2 < y.1) ∧
  (st.2 = false → ∀ x ∈ st.1, x.2 < p) ∧ (st.2 = true → ∃ t a, st.1 = t ++ [(a, (n : Int))])

theorem SpInv.on {lo p n : Nat} {L : List (Int × Int)} (h : SpInv lo p n (L, false)) (h1 : lo ≤ p) (h2 : p < n) : SpInv lo (p + 1) n (L ++ [((p : Int), (n : Int))], true) := by
  obtain ⟨a, b, c, _⟩ := h
  refine ⟨?_, ?_, ?_, ?_⟩
  · intro x hx
    rw [List.mem_append] at hx
    rcases hx with hx | hx
    · have := a x hx; omega
    · simp at hx; subst hx; simp only; omega
  · rw [List.pairwise_append]
    refine ⟨b, by simp, ?_⟩
    intro x hx y hy
    simp at hy; subst hy
    exact c rfl x hx
  · intro h; cases h
  · intro _; exact ⟨L, _, rfl⟩
theorem SpInv.off {lo p n : Nat} {L : List (Int × Int)} (h : SpInv lo p n (L, true)) (h2 : p < n) : SpInv lo (p + 1) n (setLast L p, false) := by
  obtain ⟨a, b, _, d⟩ := h
  obtain ⟨t, q, e⟩ := d rfl
  simp only at e
  subst e
  rw [setLast_snoc]
  have hq := a (q, (n : Int)) (by simp)
  rw [List.pairwise_append] at b
  refine ⟨?_, ?_, ?_, ?_⟩
  · intro x hx
    rw [List.mem_append] at hx
    rcases hx with hx | hx
    · have := a x (by simp [hx]); omega
    · simp at hx; subst hx; simp only at hq ⊢; omega
  · rw [List.pairwise_append]
    refine ⟨b.1, by simp, ?_⟩
    intro x hx y hy
    simp at hy; subst hy
    exact b.2.2 x hx (q, (n : Int)) (by simp)
  · intro _ x hx
    rw [List.mem_append] at hx
    rcases hx with hx | hx
    · have h1 := b.2.2 x hx _ (List.mem_singleton.2 rfl); simp only at h1 hq; omega
    · simp at hx; subst hx; simp only; omega
  · intro h; cases h
theorem SpInv.stay {lo p n : Nat} {st : List (Int × Int) × Bool} (h : SpInv lo p n st) : SpInv lo (p + 1) n st := by
  obtain ⟨a, b, c, d⟩ := h
  exact ⟨fun x hx => by have := a x hx; omega, b, fun h x hx => by have := c h x hx; omega, d⟩

theorem spTo_SpInv (l : List Int) (s : Setting) (hL : 1 ≤ s.long) : ∀ k, k ≤ nPl l s → SpInv (s.long.toNat - 1) (s.long.toNat - 1 + k) l.length (spTo l s k) := by
  intro k
  induction k with
  | zero => intro _; exact ⟨by simp [spTo], by simp [spTo], by simp [spTo], by simp [spTo]⟩
  | succ k ih =>
    intro hk
    have h := ih (by omega)
    have hlt : s.long.toNat - 1 + k < l.length := by unfold nPl at hk; omega
    simp only [spTo, spStep]
    generalize spTo l s k = st at *
    obtain ⟨L, o⟩ := st
    cases o with
    | false =>
      simp only [Bool.not_false, Bool.true_and]
      split
      · exact h.on (by omega) hlt
      · simp only [Bool.false_and, Bool.false_eq_true, if_false]; exact h.stay
    | true =>
      simp only [Bool.not_true, Bool.false_and, Bool.false_eq_true, if_false, Bool.true_and]
      split
      · exact h.off hlt
      · exact h.stay

theorem spans_bd {l : List Int} {s : Setting} (hg : goodG s = true) {x : Int × Int} (hx : x ∈ spans l s) : s.long - 1 ≤ x.1 ∧ x.1 < x.2 ∧ x.2 ≤ l.length := by
  obtain ⟨g1, g2, g3, g4, _⟩ := goodG_iff.1 hg
  have := (spTo_SpInv l s (by omega) _ (Nat.le_refl _)).1 x hx
  omega
theorem spans_sep {l : List Int} {s : Setting} (hg : goodG s = true) : (spans l s).Pairwise (fun x y => x.2 < y.1) := (spTo_SpInv l s (by obtain ⟨g1, g2, g3, g4, _⟩ := goodG_iff.1 hg; omega) _ (Nat.le_refl _)).2.1
theorem spans_len (l : List Int) (s : Setting) : (spans l s).length ≤ l.length + 1 := by
  have := (spTo_inv l s (nPl l s)).1
  unfold spans nPl at *; omega

/-- The longest span: where it begins, and how long it is. -/
def lgStep (st : Int × Int) (x : Int × Int) : Int × Int := if st.2 < x.2 - x.1 then (x.1, x.2 - x.1) else st
def lgT (L : List (Int × Int)) : Int × Int := L.foldl lgStep (0, 0)
theorem lgT_succ (L : List (Int × Int)) (k : Nat) (hk : k < L.length) : lgT (L.take (k + 1)) = lgStep (lgT (L.take k)) L[k] := by
  rw [lgT, List.take_succ_eq_append_getElem hk, List.foldl_append]; rfl
theorem lgT_inv {n : Nat} {L : List (Int × Int)} (h : ∀ x ∈ L, 0 ≤ x.1 ∧ x.1 < x.2 ∧ x.2 ≤ n) : ∀ k, k ≤ L.length → 0 ≤ (lgT (L.take k)).2 ∧ (lgT (L.take k)).2 ≤ n ∧ ((lgT (L.take k)).2 = 0 → (lgT (L.take k)).1 = 0) := by
  intro k
  induction k with
  | zero => intro _; simp [lgT]
  | succ k ih =>
    intro hk
    have hx := h _ (List.getElem_mem (show k < L.length by omega))
    rw [lgT_succ L k (by omega)]
    have := ih (by omega)
    unfold lgStep
    split
    · simp only; omega
    · exact this

/-- The least threshold from q on, of at most f, with which the trigger never goes on. -/
def withOn (s : Setting) (q : Int) : Setting := ⟨s.short, s.long, q, s.off⟩
def loFrom (l : List Int) (s : Setting) : Nat → Int → Int × Bool
  | 0, _ => (0, false)
  | f + 1, q => if (spans l (withOn s q)).isEmpty then (q, true) else loFrom l s f (q + 1)
def loT (l : List Int) (s : Setting) : Int × Bool := loFrom l s (1001 - s.off).toNat s.off
theorem goodG_on {s : Setting} (hg : goodG s = true) {q : Int} (h1 : s.off ≤ q) (h2 : q ≤ 1000) : goodG (withOn s q) = true := by
  rw [goodG_iff] at hg ⊢
  simp only [withOn]
  omega

/-- The sign of a number. -/
def sgnI (n : Int) : Int := if 0 < n then 1 else if n < 0 then -1 else 0
/-- The first motion: the sign of the step to where the first span begins. -/
def fmT (l : List Int) (s : Setting) : Int := match (spans l s).head? with | none => 0 | some x => sgnI (l.getD x.1.toNat 0 - l.getD (x.1 - 1).toNat 0)

/-- The greatest ratio behind k places: its place, and the ratio, not in lowest terms. -/
def grStep (l : List Int) (s : Setting) (st : Int × Int × Int) (p : Nat) : Int × Int × Int :=
  if st.2.1 * rawD l s p < rawN l s p * st.2.2 then ((p : Int), rawN l s p, rawD l s p) else st
def grTo (l : List Int) (s : Setting) : Nat → Int × Int × Int
  | 0 => (s.long - 1, -1, 1)
  | k + 1 => grStep l s (grTo l s k) (s.long.toNat - 1 + k)


theorem frac_lt {a b c e n d m f : Int} (hb : 0 < b) (hd : 0 < d) (he : 0 < e) (hf : 0 < f) (h1 : a * d = n * b) (h2 : c * f = m * e) : a * e < c * b ↔ n * f < m * d := by
  have k1 : a * e * (d * f) = n * f * (b * e) := by
    rw [show a * e * (d * f) = a * d * (e * f) by simp only [Int.mul_left_comm, Int.mul_comm], h1]
    simp only [Int.mul_left_comm, Int.mul_comm]
  have k2 : c * b * (d * f) = m * d * (b * e) := by
    rw [show c * b * (d * f) = c * f * (b * d) by simp only [Int.mul_left_comm, Int.mul_comm], h2]
    simp only [Int.mul_left_comm, Int.mul_comm]
  have p1 : 0 < d * f := Int.mul_pos hd hf
  have p2 : 0 < b * e := Int.mul_pos hb he
  constructor
  · intro h
    have := Int.mul_lt_mul_of_pos_right h p1
    rw [k1, k2] at this
    exact Int.lt_of_mul_lt_mul_right this (by omega)
  · intro h
    have := Int.mul_lt_mul_of_pos_right h p2
    rw [← k1, ← k2] at this
    exact Int.lt_of_mul_lt_mul_right this (by omega)

section
variable {l : List Int} {s : Setting}
/-- A ratio greater than another: in lowest terms, or not. -/
theorem rat_lt (h : Sm l) (hg : goodG s = true) {p q : Nat} (hp : s.long ≤ p + 1) (hpl : p < l.length) (hq : s.long ≤ q + 1) (hql : q < l.length) :
    ratN l s p * ratD l s q < ratN l s q * ratD l s p ↔ rawN l s p * rawD l s q < rawN l s q * rawD l s p := by
  obtain ⟨f1, f2, f3, f4, f5⟩ := rat_bd h hg p hp hpl
  obtain ⟨e1, e2, e3, e4, e5⟩ := rat_bd h hg q hq hql
  obtain ⟨r1, r2, r3, r4, _⟩ := raw_bd h hg p hp hpl
  obtain ⟨s1, s2, s3, s4, _⟩ := raw_bd h hg q hq hql
  exact frac_lt f3 r3 e3 s3 f5 e5

theorem gr_at (h : Sm l) (hg : goodG s = true) : ∀ k, 0 < k → k ≤ nPl l s → ∃ p : Nat, s.long ≤ p + 1 ∧ p < s.long.toNat - 1 + k ∧ p < l.length ∧ grTo l s k = ((p : Int), rawN l s p, rawD l s p) ∧
    ∀ q : Nat, s.long ≤ q + 1 → q < s.long.toNat - 1 + k → rawN l s q * rawD l s p ≤ rawN l s p * rawD l s q := by
  obtain ⟨g1, g2, g3, g4, _⟩ := goodG_iff.1 hg
  intro k
  induction k with
  | zero => intro h0; omega
  | succ k ih =>
    intro _ hk
    have hlt : s.long.toNat - 1 + k < l.length := by unfold nPl at hk; omega
    have hge : s.long ≤ ((s.long.toNat - 1 + k : Nat) : Int) + 1 := by omega
    obtain ⟨r1, r2, r3, r4, _⟩ := raw_bd h hg (s.long.toNat - 1 + k) hge hlt
    rcases Nat.eq_zero_or_pos k with h0 | h0
    · subst h0
      refine ⟨s.long.toNat - 1 + 0, hge, by omega, hlt, ?_, fun q h1 h2 => ?_⟩
      · have hc : (grTo l s 0).2.1 * rawD l s (s.long.toNat - 1 + 0) < rawN l s (s.long.toNat - 1 + 0) * (grTo l s 0).2.2 := by
          show (-1 : Int) * _ < _ * (1 : Int)
          omega
        exact if_pos hc
      · have : q = s.long.toNat - 1 + 0 := by omega
        subst this; exact Int.le_refl _
    · obtain ⟨p, p1, p2, p3, p4, p5⟩ := ih h0 (by omega)
      obtain ⟨t1, t2, t3, t4, _⟩ := raw_bd h hg p p1 p3
      simp only [grTo, grStep, p4]
      by_cases hc : rawN l s p * rawD l s (s.long.toNat - 1 + k) < rawN l s (s.long.toNat - 1 + k) * rawD l s p
      · rw [if_pos hc]
        refine ⟨s.long.toNat - 1 + k, hge, by omega, hlt, rfl, fun q h1 h2 => ?_⟩
        by_cases hq : q < s.long.toNat - 1 + k
        · obtain ⟨u1, u2, u3, u4, _⟩ := raw_bd h hg q h1 (by omega)
          exact fle_trans u3 t3 r3 (p5 q h1 hq) (Int.le_of_lt hc)
        · have : q = s.long.toNat - 1 + k := by omega
          subst this; exact Int.le_refl _
      · rw [if_neg hc]
        refine ⟨p, p1, by omega, p3, rfl, fun q h1 h2 => ?_⟩
        by_cases hq : q < s.long.toNat - 1 + k
        · exact p5 q h1 hq
        · have : q = s.long.toNat - 1 + k := by omega
          subst this; omega
/-- The program's state behind k places. -/
def GrI (l : List Int) (s : Setting) (k : Nat) (pl nu de : Int) : Prop :=
  (k = 0 ∧ pl = -1 ∧ nu = 0 ∧ de = 1) ∨ (0 < k ∧ ∃ p : Nat, (s.long ≤ p + 1 ∧ p < l.length) ∧ grTo l s k = ((p : Int), rawN l s p, rawD l s p) ∧ pl = p ∧ nu = ratN l s p ∧ de = ratD l s p)
theorem GrI.zero : GrI l s 0 (-1) 0 1 := .inl ⟨rfl, rfl, rfl, rfl⟩
theorem GrI.first (h : Sm l) (hg : goodG s = true) (hk : 0 < nPl l s) : GrI l s 1 ((s.long.toNat - 1 + 0 : Nat) : Int) (ratN l s (s.long.toNat - 1 + 0)) (ratD l s (s.long.toNat - 1 + 0)) := by
  obtain ⟨p, p1, p2, p3, p4, p5⟩ := gr_at h hg 1 (by omega) hk
  have : p = s.long.toNat - 1 + 0 := by obtain ⟨g1, g2, g3, g4, _⟩ := goodG_iff.1 hg; omega
  subst this
  exact .inr ⟨by omega, _, ⟨p1, p3⟩, p4, rfl, rfl, rfl⟩
theorem GrI.more (h : Sm l) (hg : goodG s = true) {k p : Nat} (hk : k < nPl l s) (hp : s.long ≤ p + 1 ∧ p < l.length) (he : grTo l s k = ((p : Int), rawN l s p, rawD l s p))
    (hc : ratN l s p * ratD l s (s.long.toNat - 1 + k) < ratN l s (s.long.toNat - 1 + k) * ratD l s p) : GrI l s (k + 1) ((s.long.toNat - 1 + k : Nat) : Int) (ratN l s (s.long.toNat - 1 + k)) (ratD l s (s.long.toNat - 1 + k)) := by
  obtain ⟨g1, g2, g3, g4, _⟩ := goodG_iff.1 hg
  have hlt : s.long.toNat - 1 + k < l.length := by unfold nPl at hk; omega
  refine .inr ⟨by omega, _, ⟨by omega, hlt⟩, ?_, rfl, rfl, rfl⟩
  rw [rat_lt h hg hp.1 hp.2 (by omega) hlt] at hc
  simp only [grTo, grStep, he]
  rw [if_pos hc]
theorem GrI.less (h : Sm l) (hg : goodG s = true) {k p : Nat} (hk : k < nPl l s) (hp : s.long ≤ p + 1 ∧ p < l.length) (he : grTo l s k = ((p : Int), rawN l s p, rawD l s p))
    (hc : ¬ ratN l s p * ratD l s (s.long.toNat - 1 + k) < ratN l s (s.long.toNat - 1 + k) * ratD l s p) : GrI l s (k + 1) p (ratN l s p) (ratD l s p) := by
  obtain ⟨g1, g2, g3, g4, _⟩ := goodG_iff.1 hg
  have hlt : s.long.toNat - 1 + k < l.length := by unfold nPl at hk; omega
  refine .inr ⟨by omega, _, hp, ?_, rfl, rfl, rfl⟩
  rw [rat_lt h hg hp.1 hp.2 (by omega) hlt] at hc
  simp only [grTo, grStep, he]
  rw [if_neg hc]
end

/-- Is there a greatest ratio; where; which one. -/
def okGR (l : List Int) (s : Setting) : Bool := okT l s && decide (s.long ≤ l.length)
def grP (l : List Int) (s : Setting) : Nat := (grTo l s (nPl l s)).1.toNat
theorem okT_iff' {l : List Int} {s : Setting} : okT l s = true ↔ (l.length ≤ 24 ∧ Sm l) ∧ goodG s = true := okT_iff

end Go.Proofs.Ytaemdldpcpefbaa
