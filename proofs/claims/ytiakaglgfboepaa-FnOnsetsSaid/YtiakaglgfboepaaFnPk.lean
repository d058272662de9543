/-
  Plain laws of revised picks, pairs, windows: what FnPicks and FnOnsets ask.
-/
import Derived.Test.YtiakaglgfboepaaRevP
import Derived.Test.YtiakaglgfboepaaCuP
import Derived.Test.YtiakaglgfboepaaPrP
namespace Go.Proofs.Ytiakaglgfboepaa
set_option linter.unusedVariables false
open Go.RowKit

theorem cur_iff {l : List Pick} {id : Int} : curP l id = true ↔ ∀ x ∈ l, x.after_ ≠ id := by simp [curP]
theorem cu_has {l : List Pick} (hp : picksS l = true) {id : Int} : (cuL l).any (· == id) = true ↔ ∃ x ∈ l, curP l x.id = true ∧ x.id = id := by
  unfold cuL
  rw [if_pos hp, List.any_map, List.any_eq_true]
  constructor
  · rintro ⟨x, hx, he⟩
    rw [sortL_mem] at hx
    unfold nowP at hx
    rw [List.mem_filter] at hx
    exact ⟨x, hx.1, hx.2, by simpa using he⟩
  · rintro ⟨x, hx, hc, he⟩
    refine ⟨x, ?_, by simpa using he⟩
    rw [sortL_mem]
    unfold nowP
    rw [List.mem_filter]
    exact ⟨hx, hc⟩
theorem cu_none {l : List Pick} (hp : picksS l = true) {id : Int} (h : curP l id = false) : (cuL l).any (· == id) = false := by
  rw [Bool.eq_false_iff]
  intro ha
  obtain ⟨x, _, hc, he⟩ := (cu_has hp).1 ha
  rw [he, h] at hc
  cases hc
/-- All numbers are at most the last one. -/
theorem id_le_last {l : List Pick} (h : chk goodP ltP l = true) {x : Pick} (hx : x ∈ l) (h0 : 0 < l.length) : x.id ≤ l[l.length - 1].id := by
  obtain ⟨j, hj, rfl⟩ := List.mem_iff_getElem.1 hx
  rcases Nat.lt_or_ge j (l.length - 1) with h1 | h1
  · have := chk_less h h1 (by omega); omega
  · obtain rfl : j = l.length - 1 := by omega
    exact Int.le_refl _
theorem id_inj {l : List Pick} (h : chk goodP ltP l = true) {i j : Nat} (hi : i < l.length) (hj : j < l.length) (he : l[i].id = l[j].id) : i = j := by
  rcases Nat.lt_trichotomy i j with h1 | h1 | h1
  · have := chk_less h h1 hj; omega
  · exact h1
  · have := chk_less h h1 hi; omega

theorem find_app {l : List Pick} (m : List Pick) {id : Int} (h : 0 ≤ findP l id) : findP (l ++ m) id = findP l id := by
  obtain ⟨k, hk, h1, h2⟩ := findP_bd l id h
  rw [h1]
  have hany : (l.take k).any (fun p => p.id == id) = false := by
    rw [Bool.eq_false_iff]
    intro ha
    have e : idxOf (fun p : Pick => p.id == id) l = k := h1
    unfold idxOf at e
    rw [if_pos (any_true_of _ l k hk (by simpa using h2))] at e
    obtain ⟨x, hx, hx2⟩ := List.any_eq_true.1 ha
    obtain ⟨i, hi, rfl⟩ := List.mem_iff_getElem.1 hx
    rw [List.getElem_take] at hx2
    simp only [List.length_take] at hi
    have : ¬ (fun p : Pick => p.id == id) (l[i]'(by omega)) = true := by
      have := List.not_of_lt_findIdx (p := fun p : Pick => p.id == id) (xs := l) (i := i) (by omega)
      simpa using this
    exact this hx2
  have hk2 : k < (l ++ m).length := by simp; omega
  refine idxOf_hit _ (l ++ m) k hk2 (by rw [List.getElem_append_left hk]; simpa using h2) ?_
  rw [List.take_append_of_le_length (by omega)]
  exact hany
theorem aft_app {l : List Pick} (m : List Pick) {id : Int} (h : 0 ≤ findP l id) : aftP (l ++ m) id = aftP l id := by
  obtain ⟨k, hk, h1, h2⟩ := findP_bd l id h
  unfold aftP
  rw [find_app m h, h1, Int.toNat_natCast, List.getElem?_append_left hk]
theorem hist_app {l : List Pick} (hp : picksS l = true) (m : List Pick) : ∀ f q, (q = 0 ∨ 0 ≤ findP l q) → histF (l ++ m) f q = histF l f q := by
  intro f
  induction f with
  | zero => intro q _; rfl
  | succ f ih =>
    intro q hq
    unfold histF
    by_cases h0 : q ≤ 0
    · rw [if_pos h0, if_pos h0]
    · rw [if_neg h0, if_neg h0]
      have hf : 0 ≤ findP l q := by
        rcases hq with h1 | h1
        · omega
        · exact h1
      obtain ⟨k, hk, h1, h2, _, _, h5, _, _, _, h8⟩ := find_id hf hp
      rw [aft_app m hf, ih (aftP l q) ?_]
      by_cases h9 : l[k].after_ = 0
      · exact .inl (by rw [h5, h9])
      · exact .inr (by rw [h5]; exact h8 h9)
theorem hist_fuel {l : List Pick} (hp : picksS l = true) : ∀ (f f' : Nat) (q : Int), (q = 0 ∨ 0 ≤ findP l q) → q ≤ f → q ≤ f' → histF l f q = histF l f' q := by
  intro f
  induction f with
  | zero =>
    intro f' q hq h1 h2
    have h0 : q = 0 := by
      rcases hq with h | h
      · exact h
      · obtain ⟨_, _, _, _, h5, _⟩ := find_id h hp; omega
    rw [h0, histF_zero, histF_zero]
  | succ f ih =>
    intro f' q hq h1 h2
    by_cases h0 : q = 0
    · rw [h0, histF_zero, histF_zero]
    · have hf : 0 ≤ findP l q := by
        rcases hq with h | h
        · exact absurd h h0
        · exact h
      obtain ⟨k, hk, g1, g2, g3, g4, g5, g6, g7, _, g8⟩ := find_id hf hp
      obtain ⟨f2, rfl⟩ : ∃ f2, f' = f2 + 1 := ⟨f' - 1, by omega⟩
      rw [histF_succ (by omega), histF_succ (by omega)]
      congr 1
      refine ih f2 _ ?_ (by omega) (by omega)
      by_cases h9 : l[k].after_ = 0
      · exact .inl (by rw [g5, h9])
      · exact .inr (by rw [g5]; exact g8 h9)

theorem revise_facts {l : List Pick} {id t e b : Int} (h : okRv l id t e b = true) :
    ∃ O n, rvL l id t e b = O ∧ rvN l id t e b = n ∧ picksS O = true ∧ (cuL O).any (· == n) = true ∧ (cuL O).any (· == id) = false ∧ okHi O n = true ∧ okHi l id = true ∧ (((hiL O n).length : Int) != (hiL l id).length + 1) = false ∧ okWL O = true ∧ wlL O = l := by
  have h' := h
  simp only [okRv, Bool.and_eq_true] at h'
  obtain ⟨h1, hO⟩ := h'
  obtain ⟨hp, hf, hcu⟩ := okR1_iff.1 h1
  obtain ⟨k, hk, f1, f2, f3, f4, f5, f6, f7, f8, f9⟩ := find_id hf hp
  have h0 : 0 < l.length := by omega
  have hX : rvO l id t e b = l ++ [nextP l id t e b] := rfl
  obtain ⟨X, hXe⟩ : ∃ X, nextP l id t e b = X := ⟨_, rfl⟩
  have hXi : X.id = l[l.length - 1].id + 1 := by rw [← hXe]; simp only [nextP]; rw [lastP_of h0]
  have hXa : X.after_ = id := by rw [← hXe]; rfl
  have hOe : rvO l id t e b = l ++ [X] := by rw [hX, hXe]
  refine ⟨l ++ [X], X.id, ?_, ?_, ?_, ?_, ?_, ?_, ?_, ?_, ?_, ?_⟩
  · unfold rvL; rw [if_pos h, hOe]
  · unfold rvN; rw [if_pos h, lastP_of h0, hXi]
  · rw [← hOe]; exact hO
  all_goals rw [hOe] at hO
  all_goals have hchk := (picksS_iff hO).1
  all_goals have hcl := (picksS_iff hp).1
  all_goals have hmem : X ∈ l ++ [X] := by simp
  · refine (cu_has hO).2 ⟨X, hmem, cur_iff.2 fun x hx => ?_, rfl⟩
    have g := goodP_iff.1 (picksS_good hO hx)
    have hl := id_le_last hchk hx (by simp)
    have e9 : (l ++ [X])[(l ++ [X]).length - 1] = X := by simp
    rw [e9] at hl
    omega
  · refine cu_none hO ?_
    rw [Bool.eq_false_iff]
    intro hc
    exact cur_iff.1 hc X hmem hXa
  · unfold okHi
    rw [hO, Bool.true_and]
    show decide (0 ≤ idxOf _ _) = true
    rw [idxOf_nonneg, List.any_eq_true]
    exact ⟨X, hmem, by simp⟩
  · simp [okHi, hp, hf]
  · have hfO : 0 ≤ findP (l ++ [X]) X.id := by
      have : decide (0 ≤ idxOf (fun p : Pick => p.id == X.id) (l ++ [X])) = true := by rw [idxOf_nonneg, List.any_eq_true]; exact ⟨X, hmem, by simp⟩
      exact of_decide_eq_true this
    obtain ⟨kx, hkx, a1, a2, a3, a4, a5, _⟩ := find_id hfO hO
    have hkl : kx = l.length := by
      refine id_inj hchk hkx (by simp) ?_
      rw [a2]; simp
    have ha : aftP (l ++ [X]) X.id = id := by
      rw [a5]
      subst hkl
      simpa using hXa
    have e1 : okHi (l ++ [X]) X.id = true := by simp [okHi, hO, hfO]
    have e2 : okHi l id = true := by simp [okHi, hp, hf]
    have hidX : id ≤ X.id - 1 := by
      have g := goodP_iff.1 (picksS_good hO hmem)
      omega
    have hl : hiL (l ++ [X]) X.id = X.id :: hiL l id := by
      unfold hiL
      rw [if_pos e1, if_pos e2]
      obtain ⟨f, hf'⟩ : ∃ f, X.id.toNat = f + 1 := ⟨X.id.toNat - 1, by omega⟩
      rw [hf', histF_succ (by omega), ha, hist_app hp [X] f id (.inr hf), hist_fuel hp f id.toNat id (.inr hf) (by omega) (by omega)]
    rw [hl]
    simp
  · simp [okWL, hO]
  · have e1 : okWL (l ++ [X]) = true := by simp [okWL, hO]
    unfold wlL
    rw [if_pos e1]
    simp

theorem win_of {l : List Pick} (hp : picksS l = true) {x : Pick} (hx : x ∈ l) : okWi l x.id = true ∧ wiLo l x.id = max 0 (x.tick - x.err) ∧ wiHi l x.id = min 1000000 (x.tick + x.err) := by
  have hf : 0 ≤ findP l x.id := by
    have : decide (0 ≤ idxOf (fun p : Pick => p.id == x.id) l) = true := by rw [idxOf_nonneg, List.any_eq_true]; exact ⟨x, hx, by simp⟩
    exact of_decide_eq_true this
  obtain ⟨k, hk, h1, h2⟩ := findP_bd l x.id hf
  obtain ⟨j, hj, rfl⟩ := List.mem_iff_getElem.1 hx
  have hjk : k = j := id_inj (picksS_iff hp).1 hk hj h2
  subst hjk
  have ho : okWi l l[k].id = true := by simp [okWi, hp, hf]
  refine ⟨ho, ?_, ?_⟩
  · unfold wiLo; rw [if_pos ho, h1, Int.toNat_natCast, List.getElem?_eq_getElem hk]
  · unfold wiHi; rw [if_pos ho, h1, Int.toNat_natCast, List.getElem?_eq_getElem hk]
/-- The pairs: of current picks whose windows do not meet. -/
theorem pair_facts {l : List Pick} {st : Int} (h : okPr l st = true) {p : Int × Int} (hp : p ∈ prL l st) :
    (cuL l).any (· == p.1) = true ∧ (cuL l).any (· == p.2) = true ∧ okWi l p.1 = true ∧ okWi l p.2 = true ∧ wiHi l p.1 < wiLo l p.2 := by
  have hs : picksS l = true := by simp only [okPr, Bool.and_eq_true] at h; exact h.1
  unfold prL at hp
  rw [if_pos h] at hp
  unfold prP tabP rowP at hp
  rw [List.mem_flatMap] at hp
  obtain ⟨x, hx, hp⟩ := hp
  rw [List.mem_map] at hp
  obtain ⟨y, hy, rfl⟩ := hp
  rw [List.mem_filter] at hx hy
  obtain ⟨hy1, hlt⟩ := hy
  rw [List.mem_filter] at hy1
  have cx : curP l x.id = true := by have := hx.2; simp only [okW, Bool.and_eq_true] at this; exact this.2
  have cy : curP l y.id = true := by have := hy1.2; simp only [okW, Bool.and_eq_true] at this; exact this.2
  obtain ⟨w1, _, w3⟩ := win_of hs hx.1
  obtain ⟨v1, v2, _⟩ := win_of hs hy1.1
  refine ⟨(cu_has hs).2 ⟨x, hx.1, cx, rfl⟩, (cu_has hs).2 ⟨y, hy1.1, cy, rfl⟩, w1, v1, ?_⟩
  show wiHi l x.id < wiLo l y.id
  rw [w3, v2]
  have : x.tick + x.err < y.tick - y.err := by simpa [ltW] using hlt
  omega
theorem win_hold {l : List Pick} {id : Int} (h : okWi l id = true) {x : Pick} (hx : x ∈ l) (he : x.id = id) : ¬ x.tick < wiLo l id ∧ ¬ x.tick > wiHi l id := by
  have hs : picksS l = true := by simp only [okWi, Bool.and_eq_true] at h; exact h.1
  subst he
  obtain ⟨_, w2, w3⟩ := win_of hs hx
  have g := goodP_iff.1 (picksS_good hs hx)
  rw [w2, w3]
  omega
theorem rev_facts (l : List Pick) : ¬ revH l > revA l ∧ (mmV l).2.2 = (picksS l && decide (0 < revA l)) := by
  unfold revH revA mmV
  by_cases hs : picksS l = true
  · rw [if_pos hs, if_pos hs]
    have h1 := List.length_filter_le (humP l) (latP l)
    refine ⟨by omega, ?_⟩
    have key : ∀ k, k ≤ (latP l).length → ((0 < k → 0 ≤ (mmT l ((latP l).take k)).2) ∧ (k = 0 → (mmT l ((latP l).take k)).2 = -1)) := by
      intro k
      induction k with
      | zero => intro _; exact ⟨fun h => absurd h (Nat.lt_irrefl _), fun _ => by simp [mmT]⟩
      | succ k ih =>
        intro hk
        refine ⟨fun _ => ?_, fun h => by omega⟩
        rw [mmT_succ l (latP l) k (by omega)]
        have hb := movP_bd hs (List.getElem_mem (show k < (latP l).length by omega))
        unfold mmStep
        split
        · exact hb.1
        · omega
    have hk := key (latP l).length (Nat.le_refl _)
    rw [List.take_length] at hk
    rw [hs, Bool.true_and]
    by_cases h0 : 0 < (latP l).length
    · have := hk.1 h0
      rw [if_pos (by simpa using this)]
      simp; omega
    · have := hk.2 (by omega)
      rw [this]
      have e9 : (latP l).length = 0 := by omega
      simp [e9]
  · rw [if_neg hs, if_neg hs]
    have : picksS l = false := by simpa using hs
    simp [this]

end Go.Proofs.Ytiakaglgfboepaa
