/-
  Plain laws of votes: an origin fits exactly the arrivals whose ticks at its place it has; no tick has more votes than the most.
-/
import Derived.Test.YtdadcbcanjmoeaaMost
import Derived.Test.YtdadcbcanjmoeaaTicksFit
import Derived.Test.YtdadcbcanjmoeaaVotes2
namespace Go.Proofs.Ytdadcbcanjmoeaa
set_option linter.unusedVariables false
open Go.RowKit

theorem ids_lt {l : List Arrival} (h : goodAs l = true) : ∀ {j i : Nat} (hij : i < j) (hj : j < l.length), (l[i]'(by omega)).id < l[j].id := by
  have hc : chk goodA ltA l = true := by simp only [goodAs, Bool.and_eq_true] at h; exact h.1
  intro j
  induction j with
  | zero => intro i hij; omega
  | succ j ih =>
    intro i hij hj
    have h1 := chk_lt hc hj
    simp only [ltA, decide_eq_true_eq] at h1
    rcases Nat.lt_or_ge i j with c | c
    · have := ih c (by omega)
      omega
    · have e : i = j := by omega
      subst e
      exact h1
theorem id_eq {l : List Arrival} (h : goodAs l = true) {i j : Nat} (hi : i < l.length) (hj : j < l.length) (e : l[i].id = l[j].id) : i = j := by
  rcases Nat.lt_trichotomy i j with c | c | c
  · have := ids_lt h c hj; omega
  · exact c
  · have := ids_lt h c hi; omega
theorem voters_has {l : List Arrival} {o : Origin} (h : okVF l o = true) {i : Nat} (hi : i < l.length) : (VFids l o).any (· == l[i].id) = fitV l[i] o := by
  have hg : goodAs l = true := by simp only [okVF, Bool.and_eq_true] at h; exact h.1
  rw [VFids, if_pos h]
  rw [Bool.eq_iff_iff, List.any_eq_true]
  constructor
  · rintro ⟨q, hq, e⟩
    obtain ⟨b, hb, rfl⟩ := List.mem_map.1 hq
    obtain ⟨hb1, hb2⟩ := List.mem_filter.1 (show b ∈ l.filter (fun a => fitV a o) from hb)
    obtain ⟨j, hj, rfl⟩ := List.mem_iff_getElem.1 hb1
    have := id_eq hg hj hi (by simpa using e)
    subst this
    exact hb2
  · intro hf
    exact ⟨l[i].id, List.mem_map.2 ⟨l[i], List.mem_filter.2 ⟨List.getElem_mem hi, hf⟩, rfl⟩, by simp⟩
theorem fit_ticks {a : Arrival} {o : Origin} (ha : goodA a = true) (ho : goodO o = true) : fitV a o = (okTF a o.x o.y && (decide (TFl a o.x o.y ≤ o.tick) && decide (o.tick ≤ TFh a o.x o.y))) := by
  have hp : placeB o.x o.y = true := by simp only [goodO, Bool.and_eq_true] at ho; exact ho.1
  rw [fitV_eq, inB]
  by_cases h : lo a o.x o.y ≤ hi a o.x o.y
  · have e : okTF a o.x o.y = true := by simp [okTF, ha, hp, h]
    unfold TFl TFh
    rw [if_pos e, if_pos e, e, Bool.true_and]
  · have e : okTF a o.x o.y = false := by simp only [okTF, decide_eq_false h, Bool.and_false]
    rw [e, Bool.false_and]
    rw [Bool.and_eq_false_iff, decide_eq_false_iff_not, decide_eq_false_iff_not]
    omega
theorem max_mem {α : Type} (f : α → Int) : ∀ l : List α, l ≠ [] → ∃ b ∈ l, ∀ a ∈ l, f a ≤ f b := by
  intro l
  induction l with
  | nil => intro h; exact absurd rfl h
  | cons x l ih =>
    intro _
    cases l with
    | nil => exact ⟨x, List.mem_cons_self .., fun a ha => by simp at ha; subst ha; exact Int.le_refl _⟩
    | cons y l =>
      obtain ⟨b, hb, h⟩ := ih (by simp)
      rcases Int.le_total (f x) (f b) with c | c
      · refine ⟨b, List.mem_cons_of_mem _ hb, fun a ha => ?_⟩
        rcases List.mem_cons.1 ha with rfl | ha
        · exact c
        · exact h a ha
      · refine ⟨x, List.mem_cons_self .., fun a ha => ?_⟩
        rcases List.mem_cons.1 ha with rfl | ha
        · exact Int.le_refl _
        · exact Int.le_trans (h a ha) c
theorem mvStep_ge (l : List Arrival) (x y : Int) (s : Int × Int) (a : Arrival) : s.1 ≤ (mvStep l x y s a).1 ∧ (lo a x y ≤ hi a x y → mvN l x y a ≤ (mvStep l x y s a).1) := by
  unfold mvStep
  split
  · exact ⟨Int.le_refl _, fun h => by omega⟩
  · split
    · rename_i hc
      simp only [Bool.or_eq_true, Bool.and_eq_true, decide_eq_true_eq, beq_iff_eq] at hc
      simp only
      omega
    · rename_i hc
      simp only [Bool.or_eq_true, Bool.and_eq_true, decide_eq_true_eq, beq_iff_eq] at hc
      omega
theorem mv_ge {l : List Arrival} {x y : Int} : ∀ k, k ≤ l.length → ∀ i (hi' : i < l.length), i < k → lo l[i] x y ≤ hi l[i] x y → mvN l x y l[i] ≤ (mvTo l x y (l.take k)).1 := by
  intro k
  induction k with
  | zero => intro _ i _ h; omega
  | succ k ih =>
    intro hk i hi' hik hlh
    rw [mvTo_succ l x y k (by omega)]
    have h1 := mvStep_ge l x y (mvTo l x y (l.take k)) l[k]
    rcases Nat.lt_or_ge i k with c | c
    · exact Int.le_trans (ih (by omega) i hi' c hlh) h1.1
    · have e : i = k := by omega
      subst e
      exact h1.2 hlh
theorem mv_top {l : List Arrival} {o : Origin} (h : okVF l o = true) : ((votL l o).length : Int) ≤ (mvTo l o.x o.y l).1 := by
  simp only [okVF, Bool.and_eq_true] at h
  obtain ⟨hg, ho⟩ := h
  have hp : placeB o.x o.y = true := by simp only [goodO, Bool.and_eq_true] at ho; exact ho.1
  have e : l.take l.length = l := List.take_of_length_le (Nat.le_refl _)
  by_cases hz : votL l o = []
  · have := mvTo_inv hg hp l.length (Nat.le_refl _)
    rw [e] at this
    rw [hz]
    exact this.1.1
  · obtain ⟨b, hb, hm⟩ := max_mem (fun a => lo a o.x o.y) _ hz
    obtain ⟨hb1, hb2⟩ := List.mem_filter.1 (show b ∈ l.filter (fun a => fitV a o) from hb)
    rw [fitV_eq] at hb2
    have hb3 := inB_iff.1 hb2
    obtain ⟨j, hj, ej⟩ := List.mem_iff_getElem.1 hb1
    have h1 := mv_ge (x := o.x) (y := o.y) l.length (Nat.le_refl _) j hj hj (by rw [ej]; omega)
    rw [e, ej] at h1
    refine Int.le_trans ?_ h1
    unfold mvN votL
    rw [← List.countP_eq_length_filter, ← List.countP_eq_length_filter]
    refine Int.ofNat_le.2 (List.countP_mono_left fun a ha hf => ?_)
    have h2 := hm a (List.mem_filter.2 ⟨ha, hf⟩)
    simp only [fitV_eq] at hf ⊢
    have h3 := inB_iff.1 hf
    exact inB_iff.2 (by omega)
theorem rest_len {l : List Arrival} {o : Origin} (h : okVF l o = true) : (WVl l o).length + (votL l o).length = l.length := by
  rw [WVl, if_pos h, votL, ← List.countP_eq_length_filter, ← List.countP_eq_length_filter]
  have := List.length_eq_countP_add_countP (p := fun a => fitV a o) (l := l)
  rw [this, Nat.add_comm]
  congr 1
  apply List.countP_congr
  intro a _
  simp
/-- What the law asks. -/
def VoF (l : List Arrival) (o : Origin) (N : List Int) (n : Int) (R : List Arrival) (most : Int) (two : Bool) : Prop :=
  (∀ i (hi : i < l.length), N.any (· == l[i].id) = (okTF l[i] o.x o.y && (decide (TFl l[i] o.x o.y ≤ o.tick) && decide (o.tick ≤ TFh l[i] o.x o.y)))) ∧
  (two = true → n ≤ most) ∧ (two = false → n ≤ 0) ∧ (0 ≤ n ∧ n = N.length) ∧ (R.length : Int) + n = l.length ∧ l.length ≤ 8
theorem vo_facts {l : List Arrival} {o : Origin} (h : okVF l o = true) : VoF l o (VFids l o) (VFn l o) (WVl l o) (MVn l o.x o.y) (MVk l o.x o.y) := by
  have h0 := h
  simp only [okVF, Bool.and_eq_true] at h0
  obtain ⟨hg, ho⟩ := h0
  have hp : placeB o.x o.y = true := by simp only [goodO, Bool.and_eq_true] at ho; exact ho.1
  have hmp : mvP l o.x o.y = true := by simp [mvP, hg, hp]
  have hn : VFn l o = ((votL l o).length : Int) := by rw [VFn, if_pos h]
  have ht := mv_top h
  have hr := rest_len h
  have hi := mvTo_inv hg hp l.length (Nat.le_refl _)
  rw [List.take_of_length_le (Nat.le_refl _)] at hi
  have h8 := goodAs_len hg
  refine ⟨fun i hi => ?_, fun h2 => ?_, fun h2 => ?_, ⟨by omega, ?_⟩, by omega, h8⟩
  · rw [voters_has h hi, fit_ticks (goodAs_mem hg (List.getElem_mem hi)) ho]
  · rw [MVn, if_pos hmp]; omega
  · rw [MVk, hmp, Bool.true_and, decide_eq_false_iff_not] at h2
    omega
  · rw [hn, VFids, if_pos h, List.length_map]
end Go.Proofs.Ytdadcbcanjmoeaa
