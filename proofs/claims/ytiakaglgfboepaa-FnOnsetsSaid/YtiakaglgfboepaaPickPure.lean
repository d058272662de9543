/-
  Lists of picks: the two ways to say that they are valid agree. Plain lemmas.
-/
import Derived.Test.YtiakaglgfboepaaIsPick
import Derived.Test.YtiakaglgfboepaaChk
namespace Go.Proofs.Ytiakaglgfboepaa
set_option linter.unusedVariables false
open Go.RowKit

theorem goodP_iff {s : Pick} : goodP s = true ↔ (1 ≤ s.id ∧ s.id ≤ 9999) ∧ (1 ≤ s.station ∧ s.station ≤ 99) ∧ (0 ≤ s.wave ∧ s.wave ≤ 1) ∧ (0 ≤ s.tick ∧ s.tick ≤ 1000000) ∧ (0 ≤ s.err ∧ s.err ≤ 1000) ∧ (0 ≤ s.by_ ∧ s.by_ ≤ 50) ∧ (0 ≤ s.after_ ∧ s.after_ ≤ s.id - 1) := by
  simp only [goodP, Bool.and_eq_true, inB_iff, tickB_iff, and_assoc]

def ltP (y x : Pick) : Bool := decide (y.id < x.id)
/-- Where the pick with a number stands, or -1. -/
def findP (l : List Pick) (id : Int) : Int := idxOf (fun p => p.id == id) l
/-- No pick replaces the one with this number. -/
def curP (l : List Pick) (id : Int) : Bool := l.all fun p => p.after_ != id
/-- The pick that p replaces is there, and of its station and wave. -/
def folP (l : List Pick) (p : Pick) : Bool :=
  match l[(findP l p.after_).toNat]? with
  | none => false
  | some q => decide (0 ≤ findP l p.after_) && q.station == p.station && q.wave == p.wave
def latP (l : List Pick) : List Pick := l.filter fun p => p.after_ != 0
/-- No number stands twice. -/
def difB (ks : List Int) : Bool := (List.range ks.length).all fun k => match ks[k]? with | none => true | some a => !(ks.take k).any (· == a)
def picksI (l : List Pick) : Bool := chk goodP ltP l && decide (l.length ≤ 12) && (latP l).all (folP l) && difB ((latP l).map Pick.after_)
/-- The pick at place k is valid behind those ahead of it. -/
def okS (l : List Pick) (k : Nat) : Bool :=
  okAt goodP ltP l k && (match l[k]? with | none => true | some p => p.after_ == 0 || (folP (l.take k) p && curP (l.take k) p.after_))
def picksS (l : List Pick) : Bool := (List.range l.length).all (okS l) && decide (l.length ≤ 12)

theorem chk_sorted {l : List Pick} (h : chk goodP ltP l = true) : ∀ (d j : Nat) (hk : j + d + 1 < l.length), (l[j]'(by omega)).id < l[j + d + 1].id := by
  intro d
  induction d with
  | zero => intro j hk; have := chk_lt h (k := j) hk; simpa [ltP] using this
  | succ d ih =>
    intro j hk
    have h1 := ih j (by omega)
    have h2 := chk_lt h (k := j + d + 1) (by omega)
    simp only [ltP, decide_eq_true_eq] at h2
    exact Int.lt_trans h1 h2
theorem chk_less {l : List Pick} (h : chk goodP ltP l = true) {j k : Nat} (hjk : j < k) (hk : k < l.length) : (l[j]'(by omega)).id < l[k].id := by
  obtain ⟨d, rfl⟩ : ∃ d, k = j + d + 1 := ⟨k - j - 1, by omega⟩
  exact chk_sorted h d j hk

theorem idxOf_take {α : Type} (p : α → Bool) (l : List α) (k : Nat) (h : ∀ j (hj : j < l.length), k ≤ j → p l[j] = false) : idxOf p l = idxOf p (l.take k) := by
  have hd : (l.drop k).any p = false := by
    rw [List.any_eq_false]
    intro x hx
    obtain ⟨j, hj, rfl⟩ := List.mem_iff_getElem.1 hx
    rw [List.getElem_drop]
    simp only [List.length_drop] at hj
    simp [h (k + j) (by omega) (by omega)]
  have ha : l.any p = (l.take k).any p := by
    conv => lhs; rw [← List.take_append_drop k l]
    rw [List.any_append, hd, Bool.or_false]
  unfold idxOf
  rw [ha]
  split
  · rename_i ht
    have e : l.findIdx p = (l.take k).findIdx p := by
      conv => lhs; rw [← List.take_append_drop k l]
      rw [List.findIdx_append]
      rw [if_pos]
      rw [List.any_eq_true] at ht
      exact List.findIdx_lt_length_of_exists ht
    rw [e]
  · rfl
theorem findP_take {l : List Pick} (h : chk goodP ltP l = true) {k : Nat} (hk : k < l.length) : findP l l[k].after_ = findP (l.take k) l[k].after_ := by
  refine idxOf_take _ l k fun j hj hkj => ?_
  have hg := goodP_iff.1 (chk_get h hk)
  have hle : l[k].id ≤ l[j].id := by
    rcases Nat.lt_or_ge k j with c | c
    · exact Int.le_of_lt (chk_less h c hj)
    · have : j = k := by omega
      subst this; omega
  simp; omega
theorem findP_bd (l : List Pick) (id : Int) (h : 0 ≤ findP l id) : ∃ k : Nat, ∃ hk : k < l.length, findP l id = k ∧ l[k].id = id := by
  unfold findP idxOf at *
  split at h
  · rename_i ha
    rw [if_pos ha]
    rw [List.any_eq_true] at ha
    have hlt := List.findIdx_lt_length_of_exists ha
    refine ⟨_, hlt, rfl, ?_⟩
    have := List.findIdx_getElem (w := hlt)
    simpa using this
  · omega
theorem folP_take {l : List Pick} (h : chk goodP ltP l = true) {k : Nat} (hk : k < l.length) : folP l l[k] = folP (l.take k) l[k] := by
  have hf := findP_take h hk
  unfold folP
  rw [hf]
  by_cases h0 : 0 ≤ findP (l.take k) l[k].after_
  · obtain ⟨j, hj, e, _⟩ := findP_bd _ _ h0
    rw [e]
    simp only [List.length_take] at hj
    simp only [Int.toNat_natCast]
    rw [List.getElem?_take, if_pos (by omega)]
  · have e : decide (0 ≤ findP (l.take k) l[k].after_) = false := by simpa using h0
    rw [e]
    cases l[(findP (l.take k) l[k].after_).toNat]? <;> cases (l.take k)[(findP (l.take k) l[k].after_).toNat]? <;> simp

theorem difB_snoc (ks : List Int) (a : Int) : difB (ks ++ [a]) = (difB ks && !ks.any (· == a)) := by
  unfold difB
  rw [List.length_append, List.length_singleton, List.range_succ, List.all_append]
  congr 1
  · rw [Bool.eq_iff_iff, List.all_eq_true, List.all_eq_true]
    constructor
    · intro h k hk
      have hk' : k < ks.length := by simpa using hk
      have := h k hk
      rw [List.getElem?_append_left hk', List.take_append_of_le_length (by omega)] at this
      exact this
    · intro h k hk
      have hk' : k < ks.length := by simpa using hk
      have := h k hk
      rw [List.getElem?_append_left hk', List.take_append_of_le_length (by omega)]
      exact this
  · simp
theorem latP_succ (l : List Pick) (k : Nat) (hk : k < l.length) : latP (l.take (k + 1)) = latP (l.take k) ++ (if l[k].after_ != 0 then [l[k]] else []) := by
  unfold latP
  rw [List.take_succ_eq_append_getElem hk, List.filter_append]
  congr 1
  by_cases h : l[k].after_ = 0 <;> simp [h]
theorem lat_any (l : List Pick) (a : Int) (ha : a ≠ 0) : ((latP l).map Pick.after_).any (· == a) = !curP l a := by
  unfold latP curP
  rw [List.any_map, List.any_filter, List.all_eq_not_any_not, Bool.not_not]
  congr 1
  funext p
  by_cases h : p.after_ = a
  · simp [h, ha]
  · have e : (p.after_ == a) = false := by simpa using h
    simp only [bne, e, Function.comp, Bool.and_false, Bool.not_false, Bool.not_true]
theorem dif_take (l : List Pick) : ∀ k, k ≤ l.length → difB ((latP (l.take k)).map Pick.after_) = (List.range k).all fun j => match l[j]? with | none => true | some p => p.after_ == 0 || curP (l.take j) p.after_ := by
  intro k
  induction k with
  | zero => intro _; simp [latP, difB]
  | succ k ih =>
    intro hk
    have hlt : k < l.length := by omega
    rw [latP_succ l k hlt, List.range_succ, List.all_append, ← ih (by omega)]
    by_cases h0 : l[k].after_ = 0
    · simp [h0, hlt]
    · have hb : (l[k].after_ != 0) = true := by simpa using h0
      have hb' : (l[k].after_ == 0) = false := by simpa using h0
      rw [if_pos hb, List.map_append, List.map_singleton, difB_snoc, lat_any _ _ h0]
      simp [hlt, hb']

theorem picks_eq (l : List Pick) : picksI l = picksS l := by
  unfold picksI picksS
  cases hc : chk goodP ltP l with
  | false =>
    unfold chk at hc
    rw [List.all_eq_false] at hc
    obtain ⟨k, hk, hf⟩ := hc
    have : (List.range l.length).all (okS l) = false := by
      rw [List.all_eq_false]
      refine ⟨k, hk, ?_⟩
      unfold okS
      cases h : okAt goodP ltP l k with
      | false => simp
      | true => exact absurd h hf
    rw [this]; simp
  | true =>
    have hd := dif_take l l.length (Nat.le_refl _)
    rw [List.take_length] at hd
    rw [hd]
    have hf : (latP l).all (folP l) = (List.range l.length).all fun j => match l[j]? with | none => true | some p => p.after_ == 0 || folP (l.take j) p := by
      rw [Bool.eq_iff_iff, List.all_eq_true, List.all_eq_true]
      constructor
      · intro h j hj
        have hj' : j < l.length := by simpa using hj
        rw [List.getElem?_eq_getElem hj']
        simp only
        by_cases h0 : l[j].after_ = 0
        · simp [h0]
        · have := h l[j] (by unfold latP; rw [List.mem_filter]; exact ⟨List.getElem_mem hj', by simpa using h0⟩)
          rw [folP_take hc hj'] at this
          rw [this]; simp
      · intro h p hp
        unfold latP at hp
        rw [List.mem_filter] at hp
        obtain ⟨hm, h0⟩ := hp
        obtain ⟨j, hj, rfl⟩ := List.mem_iff_getElem.1 hm
        have := h j (by simpa using hj)
        rw [List.getElem?_eq_getElem hj] at this
        simp only at this
        rw [folP_take hc hj]
        have hb : (l[j].after_ == 0) = false := by simpa using h0
        rw [hb] at this
        simpa using this
    rw [hf]
    have hs : (List.range l.length).all (okS l) = (((List.range l.length).all fun j => match l[j]? with | none => true | some p => p.after_ == 0 || folP (l.take j) p) && ((List.range l.length).all fun j => match l[j]? with | none => true | some p => p.after_ == 0 || curP (l.take j) p.after_)) := by
      rw [Bool.eq_iff_iff, Bool.and_eq_true, List.all_eq_true, List.all_eq_true, List.all_eq_true]
      have ho : ∀ j, j ∈ List.range l.length → okAt goodP ltP l j = true := by
        unfold chk at hc; rwa [List.all_eq_true] at hc
      constructor
      · intro h
        constructor
        all_goals
          intro j hj
          have h1 := h j hj
          unfold okS at h1
          rw [Bool.and_eq_true] at h1
          have h2 := h1.2
          have hj' : j < l.length := by simpa using hj
          rw [List.getElem?_eq_getElem hj'] at h2 ⊢
          simp only [Bool.or_eq_true, Bool.and_eq_true] at h2 ⊢
          rcases h2 with h2 | h2
          · exact .inl h2
          · first | exact .inr h2.1 | exact .inr h2.2
      · rintro ⟨h1, h2⟩ j hj
        unfold okS
        rw [ho j hj, Bool.true_and]
        have a := h1 j hj
        have b := h2 j hj
        have hj' : j < l.length := by simpa using hj
        rw [List.getElem?_eq_getElem hj'] at a b ⊢
        simp only [Bool.or_eq_true, Bool.and_eq_true] at a b ⊢
        rcases a with a | a
        · exact .inl a
        · rcases b with b | b
          · exact .inl b
          · exact .inr ⟨a, b⟩
    rw [hs]
    generalize ((List.range l.length).all fun j => match l[j]? with | none => true | some p => p.after_ == 0 || folP (l.take j) p) = u
    generalize ((List.range l.length).all fun j => match l[j]? with | none => true | some p => p.after_ == 0 || curP (l.take j) p.after_) = v
    cases decide (l.length ≤ 12) <;> cases u <;> cases v <;> rfl

end Go.Proofs.Ytiakaglgfboepaa
