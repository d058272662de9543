/-
  Plain laws, of no program: insertion behind all that is not greater; the sort that inserts one by one.
-/
import Derived.Sort.Defs
namespace Go.Proofs.Ytabnnkallgcmgaa
set_option linter.unusedVariables false

section
variable {α : Type} (f : α → Int)
/-- Where x goes among the first k of o: behind the last that is not greater. -/
def posN (x : α) (o : List α) : Nat → Nat
  | 0 => 0
  | k + 1 => match o[k]? with | some y => if f x < f y then posN x o k else k + 1 | none => k + 1
def posL (x : α) (o : List α) : Nat := posN f x o o.length
def insL (o : List α) (x : α) : List α := o.take (posL f x o) ++ x :: o.drop (posL f x o)
def sortL (l : List α) : List α := l.foldl (insL f) []
theorem posN_zero (x : α) (o : List α) : posN f x o 0 = 0 := rfl
theorem posN_go {x : α} {o : List α} {k : Nat} (hk : k < o.length) (h : f x < f o[k]) : posN f x o (k + 1) = posN f x o k := by
  rw [posN, List.getElem?_eq_getElem hk]; simp [h]
theorem posN_stop {x : α} {o : List α} {k : Nat} (hk : k < o.length) (h : ¬ f x < f o[k]) : posN f x o (k + 1) = k + 1 := by
  rw [posN, List.getElem?_eq_getElem hk]; simp [h]
theorem posN_le (x : α) (o : List α) : ∀ k, posN f x o k ≤ k := by
  intro k
  induction k with
  | zero => exact Nat.le_refl _
  | succ k ih =>
    rw [posN]
    split
    · split <;> omega
    · exact Nat.le_refl _
theorem posL_le (x : α) (o : List α) : posL f x o ≤ o.length := posN_le f x o _
theorem insL_len (o : List α) (x : α) : (insL f o x).length = o.length + 1 := by
  have := posL_le f x o
  simp [insL]; omega
theorem sortL_snoc (l : List α) (x : α) : sortL f (l ++ [x]) = insL f (sortL f l) x := by simp [sortL, List.foldl_append]
theorem sortL_succ (l : List α) (k : Nat) (hk : k < l.length) : sortL f (l.take (k + 1)) = insL f (sortL f (l.take k)) l[k] := by
  rw [List.take_succ_eq_append_getElem hk, sortL_snoc]
theorem insL_perm (o : List α) (x : α) : (insL f o x).Perm (x :: o) := by
  unfold insL
  have h : (o.take (posL f x o) ++ x :: o.drop (posL f x o)).Perm (x :: (o.take (posL f x o) ++ o.drop (posL f x o))) := List.perm_middle
  rwa [List.take_append_drop] at h
theorem foldl_insL_perm (l : List α) : ∀ o, (l.foldl (insL f) o).Perm (l ++ o) := by
  induction l with
  | nil => intro o; exact List.Perm.refl _
  | cons a l ih =>
    intro o
    refine (ih (insL f o a)).trans ?_
    refine (List.Perm.append_left l (insL_perm f o a)).trans ?_
    exact List.perm_middle
theorem sortL_perm (l : List α) : (sortL f l).Perm l := by
  have := foldl_insL_perm f l []
  rwa [List.append_nil] at this
theorem sortL_len (l : List α) : (sortL f l).length = l.length := (sortL_perm f l).length_eq
theorem sortL_mem {l : List α} {x : α} : x ∈ sortL f l ↔ x ∈ l := (sortL_perm f l).mem_iff
/-- What lies behind the place is greater; what lies just ahead is not. -/
theorem posN_spec (x : α) (o : List α) : ∀ k, k ≤ o.length → (∀ j (hj : j < o.length), posN f x o k ≤ j → j < k → f x < f o[j]) ∧ (∀ j (hj : j < o.length), j + 1 = posN f x o k → f o[j] ≤ f x) := by
  intro k
  induction k with
  | zero => intro _; exact ⟨fun j _ _ h => absurd h (Nat.not_lt_zero _), fun j _ h => by rw [posN_zero] at h; omega⟩
  | succ k ih =>
    intro hk
    have hlt : k < o.length := by omega
    by_cases h : f x < f o[k]
    · rw [posN_go f hlt h]
      obtain ⟨i1, i2⟩ := ih (by omega)
      refine ⟨fun j hj h1 h2 => ?_, i2⟩
      rcases Nat.lt_or_ge j k with h3 | h3
      · exact i1 j hj h1 h3
      · obtain rfl : j = k := by omega
        exact h
    · rw [posN_stop f hlt h]
      refine ⟨fun j hj h1 h2 => by omega, fun j hj h1 => ?_⟩
      obtain rfl : j = k := by omega
      omega
theorem insL_sorted {o : List α} (h : o.Pairwise fun a b => f a ≤ f b) (x : α) : (insL f o x).Pairwise fun a b => f a ≤ f b := by
  obtain ⟨i1, i2⟩ := posN_spec f x o o.length (Nat.le_refl _)
  have hle := posL_le f x o
  unfold insL
  rw [List.pairwise_append, List.pairwise_cons]
  refine ⟨h.sublist (List.take_sublist _ _), ⟨?_, h.sublist (List.drop_sublist _ _)⟩, ?_⟩
  · intro b hb
    obtain ⟨j, hj, rfl⟩ := List.mem_iff_getElem.1 hb
    rw [List.getElem_drop]
    simp only [List.length_drop] at hj
    have := i1 (posL f x o + j) (by omega) (by unfold posL; omega) (by omega)
    omega
  · intro a ha b hb
    obtain ⟨i, hi, rfl⟩ := List.mem_iff_getElem.1 ha
    simp only [List.length_take] at hi
    have hax : f (o.take (posL f x o))[i] ≤ f x := by
      rw [List.getElem_take]
      have h2 := i2 (posL f x o - 1) (by omega) (by unfold posL at *; omega)
      rcases Nat.lt_or_ge i (posL f x o - 1) with h3 | h3
      · have := List.pairwise_iff_getElem.1 h i (posL f x o - 1) (by omega) (by omega) h3
        omega
      · have e : i = posL f x o - 1 := by omega
        subst e
        exact h2
    rcases List.mem_cons.1 hb with rfl | hb
    · exact hax
    · have hxb : f x < f b := by
        obtain ⟨j, hj, rfl⟩ := List.mem_iff_getElem.1 hb
        rw [List.getElem_drop]
        simp only [List.length_drop] at hj
        exact i1 (posL f x o + j) (by omega) (by unfold posL; omega) (by omega)
      omega
theorem sortL_sorted (l : List α) : (sortL f l).Pairwise fun a b => f a ≤ f b := by
  have : ∀ (l o : List α), (o.Pairwise fun a b => f a ≤ f b) → ((l.foldl (insL f) o).Pairwise fun a b => f a ≤ f b) := by
    intro l
    induction l with
    | nil => intro o h; exact h
    | cons a l ih => intro o h; exact ih _ (insL_sorted f h a)
  exact this l [] List.Pairwise.nil

/-- The place depends on the first k alone. -/
theorem posN_append (x : α) (o o2 : List α) : ∀ k, k ≤ o.length → posN f x (o ++ o2) k = posN f x o k := by
  intro k
  induction k with
  | zero => intro _; rfl
  | succ k ih =>
    intro hk
    have h1 : k < o.length := by omega
    have h2 : k < (o ++ o2).length := by simp; omega
    have e : (o ++ o2)[k] = o[k] := List.getElem_append_left h1
    by_cases h : f x < f o[k]
    · rw [posN_go f h1 h, posN_go f h2 (by rw [e]; exact h), ih (by omega)]
    · rw [posN_stop f h1 h, posN_stop f h2 (by rw [e]; exact h)]
end

section
open Go.Sort
variable {α : Type} [Inhabited α] (f : α → Int)
theorem arr_get {d : Array α} {l : List α} (h : d.toList = l) {k : Nat} (hk : k < l.length) : d[k]! = l[k] := by
  subst h
  have : k < d.size := by simpa using hk
  simp [getElem!_pos, this]
theorem swp_list {d : Array α} {o r : List α} {y x : α} (h : d.toList = o ++ y :: x :: r) : (swp d (o.length + 1) o.length).toList = o ++ x :: y :: r := by
  unfold swp
  have h1 : d[o.length]! = y := by rw [arr_get h (by simp)]; simp
  have h2 : d[o.length + 1]! = x := by rw [arr_get h (by simp)]; simp
  rw [h1, h2]
  simp only [Array.toList_setIfInBounds, h]
  apply List.ext_getElem?
  intro n
  simp only [List.getElem?_set, List.length_set, List.length_append, List.length_cons]
  rcases Nat.lt_trichotomy n o.length with hn | hn | hn
  · rw [if_neg (by omega), if_neg (by omega), List.getElem?_append_left hn, List.getElem?_append_left hn]
  · subst hn
    simp
  · rw [if_neg (by omega)]
    by_cases hn2 : n = o.length + 1
    · subst hn2
      simp
    · rw [if_neg (by omega), List.getElem?_append_right (by omega), List.getElem?_append_right (by omega)]
      obtain ⟨m, hm⟩ : ∃ m, n - o.length = m + 2 := ⟨n - o.length - 2, by omega⟩
      rw [hm]
      simp
theorem insInner_list (lt : α → α → Bool) (hlt : ∀ x y, lt x y = decide (f x < f y)) : ∀ (j : Nat) (o r : List α) (x : α) (d : Array α), o.length = j → d.toList = o ++ x :: r →
    (insInner lt 0 j d).toList = o.take (posN f x o j) ++ x :: (o.drop (posN f x o j) ++ r) := by
  intro j
  induction j with
  | zero =>
    intro o r x d ho hd
    obtain rfl : o = [] := List.eq_nil_of_length_eq_zero ho
    rw [insInner, hd]
    simp [posN]
  | succ j ih =>
    intro o r x d ho hd
    have hj : j < o.length := by omega
    have ho2 : o.take (j + 1) = o := List.take_of_length_le (by omega)
    have hsnoc := List.take_succ_eq_append_getElem hj
    have h1 : d[j + 1]! = x := by rw [arr_get hd (by simp; omega)]; rw [List.getElem_append_right (by omega)]; simp [ho]
    have h2 : d[j]! = o[j] := by rw [arr_get hd (by simp; omega)]; rw [List.getElem_append_left hj]
    rw [insInner, h1, h2, hlt]
    by_cases h : f x < f o[j]
    · rw [if_pos (by simp [h])]
      have hd2 : d.toList = o.take j ++ o[j] :: x :: r := by
        rw [hd]
        calc o ++ x :: r = o.take (j + 1) ++ x :: r := by rw [ho2]
          _ = (o.take j ++ [o[j]]) ++ x :: r := by rw [hsnoc]
          _ = o.take j ++ o[j] :: x :: r := by rw [List.append_assoc]; rfl
      have hol : (o.take j).length = j := by simp; omega
      have hsw := swp_list hd2
      rw [hol] at hsw
      rw [ih (o.take j) (o[j] :: r) x _ hol hsw, posN_go f hj h]
      have hp : posN f x (o.take j) j = posN f x o j := by
        have e := posN_append f x (o.take j) [o[j]] j (by omega)
        rw [← hsnoc, ho2] at e
        exact e.symm
      rw [hp]
      have hle := posN_le f x o j
      have e3 : o.drop (posN f x o j) = (o.take j).drop (posN f x o j) ++ [o[j]] := by
        rw [← List.drop_append_of_le_length (by omega), ← hsnoc, ho2]
      rw [List.take_take, Nat.min_eq_left hle, e3, List.append_assoc]
      rfl
    · rw [if_neg (by simp [h]), posN_stop f hj h, hd]
      rw [List.take_of_length_le (by omega), List.drop_of_length_le (by omega)]
      simp
theorem insOuter_list (lt : α → α → Bool) (hlt : ∀ x y, lt x y = decide (f x < f y)) (l : List α) : ∀ (m i : Nat) (d : Array α), l.length - i = m → i ≤ l.length → d.toList = sortL f (l.take i) ++ l.drop i → (insOuter lt 0 l.length i d).toList = sortL f l := by
  intro m
  induction m with
  | zero =>
    intro i d hm hi hd
    obtain rfl : i = l.length := by omega
    rw [insOuter, if_neg (by omega), hd]
    simp
  | succ m ih =>
    intro i d hm hi hd
    have hlti : i < l.length := by omega
    rw [insOuter, if_pos hlti]
    refine ih (i + 1) _ (by omega) (by omega) ?_
    have hsl : (sortL f (l.take i)).length = i := by rw [sortL_len]; simp; omega
    rw [List.drop_eq_getElem_cons hlti] at hd
    rw [insInner_list f lt hlt i _ _ _ _ hsl hd, sortL_succ f l i hlti]
    unfold insL posL
    rw [hsl]
    simp
theorem insertionSort_list (lt : α → α → Bool) (hlt : ∀ x y, lt x y = decide (f x < f y)) (l : List α) : (insertionSort lt l.toArray 0 l.length).toList = sortL f l := by
  unfold insertionSort
  rcases Nat.eq_zero_or_pos l.length with h | h
  · obtain rfl : l = [] := List.eq_nil_of_length_eq_zero h
    rw [insOuter, if_neg (by simp)]
    rfl
  · refine insOuter_list f lt hlt l _ 1 _ rfl (by omega) ?_
    match l, h with
    | a :: l, _ => simp [sortL, insL, posL, posN]
end

end Go.Proofs.Ytabnnkallgcmgaa
