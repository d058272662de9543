/-
  Plain arithmetic of travel times, of no program: what the program's and the reference's loops compute, and that they agree.
-/
import Derived.Test.YtadaaooldlaahaaMath
import Derived.Test.YtadaaooldlaahaaMem
import Derived.Test.YtadaaooldlaahaaEarth
namespace Go.Proofs.Ytadaaooldlaahaa
set_option linter.unusedVariables false

def okE (e : Earth) : Bool := inB e.thick 1 200 && inB e.speed 1 50
def goodE (l : List Earth) : Bool := inB l.length 1 5 && l.all okE
theorem okE_iff {e : Earth} : okE e = true ↔ 1 ≤ e.thick ∧ e.thick ≤ 200 ∧ 1 ≤ e.speed ∧ e.speed ≤ 50 := by
  simp [okE, inB_iff, and_assoc]
/-- Every layer is valid (the number of layers is not asked). -/
def Oks (l : List Earth) : Prop := ∀ e ∈ l, 1 ≤ e.thick ∧ e.thick ≤ 200 ∧ 1 ≤ e.speed ∧ e.speed ≤ 50
theorem good_oks {l : List Earth} (h : goodE l = true) : Oks l ∧ 1 ≤ l.length ∧ l.length ≤ 5 := by
  simp only [goodE, Bool.and_eq_true, inB_iff, List.all_eq_true] at h
  exact ⟨fun e he => okE_iff.1 (h.2 e he), by omega, by omega⟩
theorem Oks.take {l : List Earth} (h : Oks l) (n : Nat) : Oks (l.take n) := fun e he => h e (List.mem_of_mem_take he)
theorem Oks.get {l : List Earth} (h : Oks l) {k : Nat} (hk : k < l.length) : 1 ≤ l[k].thick ∧ l[k].thick ≤ 200 ∧ 1 ≤ l[k].speed ∧ l[k].speed ≤ 50 := h _ (List.getElem_mem hk)

def depthL (l : List Earth) : Int := l.foldl (fun s e => s + e.thick) 0
theorem depthL_succ (l : List Earth) (k : Nat) (hk : k < l.length) : depthL (l.take (k + 1)) = depthL (l.take k) + l[k].thick := by
  rw [depthL, List.take_succ_eq_append_getElem hk, List.foldl_append]; rfl
theorem depthL_bd {l : List Earth} (h : Oks l) : ∀ k, k ≤ l.length → k ≤ depthL (l.take k) ∧ depthL (l.take k) ≤ 200 * k := by
  intro k
  induction k with
  | zero => intro _; simp [depthL]
  | succ k ih =>
    intro hk
    have h1 := ih (by omega)
    have h2 := h.get (show k < l.length by omega)
    rw [depthL_succ l k (by omega)]
    omega

/-- One layer more: the time so far as a fraction, and the depth that is still to go. -/
def tStep (s : Int × Int × Int) (e : Earth) : Int × Int × Int :=
  (redN (s.1 * e.speed + min s.2.2 e.thick * s.2.1) (s.2.1 * e.speed), redD (s.1 * e.speed + min s.2.2 e.thick * s.2.1) (s.2.1 * e.speed), s.2.2 - min s.2.2 e.thick)
def tTo (l : List Earth) (d : Int) : Int × Int × Int := l.foldl tStep (0, 1, d)
theorem tTo_succ (l : List Earth) (d : Int) (k : Nat) (hk : k < l.length) : tTo (l.take (k + 1)) d = tStep (tTo (l.take k) d) l[k] := by
  rw [tTo, List.take_succ_eq_append_getElem hk, List.foldl_append]; rfl

/-- What holds of the time behind k layers. -/
def TInv (k : Nat) (s : Int × Int × Int) : Prop :=
  0 ≤ s.1 ∧ 50 * s.1 ≤ 200 * k * 50 ^ k ∧ 0 < s.2.1 ∧ s.2.1 ≤ 50 ^ k ∧ 0 ≤ s.2.2 ∧ Int.gcd s.1 s.2.1 = 1

theorem pow50_pos (k : Nat) : (0 : Int) < 50 ^ k := Int.pow_pos (by decide)

theorem tStep_inv {k : Nat} {s : Int × Int × Int} {e : Earth} (h : TInv k s) (he : 1 ≤ e.thick ∧ e.thick ≤ 200 ∧ 1 ≤ e.speed ∧ e.speed ≤ 50) :
    TInv (k + 1) (tStep s e) ∧ 0 ≤ s.1 * e.speed + min s.2.2 e.thick * s.2.1 ∧ 50 * (s.1 * e.speed + min s.2.2 e.thick * s.2.1) ≤ 200 * (k + 1) * 50 ^ (k + 1) ∧ 0 < s.2.1 * e.speed ∧ s.2.1 * e.speed ≤ 50 ^ (k + 1) := by
  obtain ⟨n, d, r⟩ := s
  obtain ⟨h1, h2, h3, h4, h5, h6⟩ := h
  simp only at h1 h2 h3 h4 h5 h6
  obtain ⟨e1, e2, e3, e4⟩ := he
  have hp := pow50_pos k
  generalize hq : (50 : Int) ^ k = q at *
  have hq1 : (50 : Int) ^ (k + 1) = 50 * q := by rw [Int.pow_succ, hq, Int.mul_comm]
  have hm0 : 0 ≤ min r e.thick := by omega
  have hm1 : min r e.thick ≤ 200 := by omega
  have a1 : 0 ≤ n * e.speed := Int.mul_nonneg h1 (by omega)
  have a2 : n * e.speed ≤ n * 50 := Int.mul_le_mul_of_nonneg_left e4 h1
  have a3 : 0 ≤ min r e.thick * d := Int.mul_nonneg hm0 (by omega)
  have a4 : min r e.thick * d ≤ 200 * d := Int.mul_le_mul_of_nonneg_right hm1 (by omega)
  have a5 : 0 < d * e.speed := Int.mul_pos h3 (by omega)
  have a6 : d * e.speed ≤ d * 50 := Int.mul_le_mul_of_nonneg_left e4 (by omega)
  have a7 : 200 * ((k : Int) + 1) * (50 * q) = 50 * (200 * k * q) + 10000 * q := by
    rw [Int.mul_add, Int.add_mul, Int.mul_one]
    have : 200 * (k : Int) * (50 * q) = 50 * (200 * k * q) := by rw [← Int.mul_assoc, Int.mul_comm (200 * (k : Int)) 50, Int.mul_assoc]
    omega
  have hN0 : 0 ≤ n * e.speed + min r e.thick * d := by omega
  have hN : 50 * (n * e.speed + min r e.thick * d) ≤ 200 * ((k : Int) + 1) * (50 * q) := by omega
  have hD : d * e.speed ≤ 50 * q := by omega
  obtain ⟨f1, f2, f3, f4, _⟩ := red_facts _ _ hN0 a5
  simp only [hq1]
  refine ⟨⟨f1, ?_, f3, ?_, by simp only [tStep]; omega, red_coprime _ _ a5⟩, hN0, hN, a5, hD⟩
  · simp only [tStep, Int.natCast_add, hq1]; show 50 * _ ≤ _; push_cast; omega
  · simp only [tStep, hq1]; omega

theorem tTo_inv {l : List Earth} (h : Oks l) (d : Int) (hd : 0 ≤ d) : ∀ k, k ≤ l.length → TInv k (tTo (l.take k) d) := by
  intro k
  induction k with
  | zero => intro _; simp [tTo, TInv, hd]
  | succ k ih =>
    intro hk
    rw [tTo_succ l d k (by omega)]
    exact (tStep_inv (ih (by omega)) (h.get (by omega))).1

/-- Where nothing is left to go a further layer changes nothing. -/
theorem tStep_stop {k : Nat} {s : Int × Int × Int} {e : Earth} (h : TInv k s) (he : 1 ≤ e.thick ∧ e.thick ≤ 200 ∧ 1 ≤ e.speed ∧ e.speed ≤ 50) (h0 : s.2.2 = 0) : tStep s e = s := by
  obtain ⟨n, d, r⟩ := s
  obtain ⟨h1, h2, h3, h4, h5, h6⟩ := h
  simp only at h0 h1 h3 h6
  subst h0
  have hm : min 0 e.thick = 0 := by omega
  obtain ⟨r1, r2⟩ := red_mul n d e.speed h1 h3 (by omega) h6
  simp only [tStep, hm, Int.zero_mul, Int.add_zero, r1, r2, Int.sub_zero]

theorem tTo_rem {l : List Earth} (h : Oks l) (d : Int) (hd : 0 ≤ d) : ∀ k, k ≤ l.length → (tTo (l.take k) d).2.2 = max 0 (d - depthL (l.take k)) := by
  intro k
  induction k with
  | zero => intro _; simp [tTo, depthL]; omega
  | succ k ih =>
    intro hk
    have h1 := ih (by omega)
    have h2 := h.get (show k < l.length by omega)
    rw [tTo_succ l d k (by omega), depthL_succ l k (by omega)]
    simp only [tStep, h1]
    omega

/-- The time to the bottom of the first m layers is told by these alone. -/
theorem tTo_stop {l : List Earth} (h : Oks l) (m : Nat) (hm : m ≤ l.length) : tTo l (depthL (l.take m)) = tTo (l.take m) (depthL (l.take m)) := by
  have hb := depthL_bd h m hm
  have key : ∀ j, m + j ≤ l.length → tTo (l.take (m + j)) (depthL (l.take m)) = tTo (l.take m) (depthL (l.take m)) := by
    intro j
    induction j with
    | zero => intro _; rfl
    | succ j ih =>
      intro hj
      rw [show m + (j + 1) = m + j + 1 by omega, tTo_succ l _ (m + j) (by omega), ih (by omega)]
      refine tStep_stop (tTo_inv h _ (by omega) m hm) (h.get (by omega)) ?_
      rw [tTo_rem h _ (by omega) m hm]
      omega
  have := key (l.length - m) (by omega)
  rw [List.take_of_length_le (by omega)] at this
  exact this

/-- The reference's loop: the depth of the layers so far instead of what is left. -/
def sStep (d : Int) (s : Int × Int × Int) (e : Earth) : Int × Int × Int :=
  (redN (s.1 * e.speed + max 0 (min e.thick (d - s.2.2)) * s.2.1) (s.2.1 * e.speed), redD (s.1 * e.speed + max 0 (min e.thick (d - s.2.2)) * s.2.1) (s.2.1 * e.speed), s.2.2 + e.thick)
theorem sStep_eq {l : List Earth} (h : Oks l) (d : Int) (hd : 0 ≤ d) (k : Nat) (hk : k < l.length) :
    sStep d ((tTo (l.take k) d).1, (tTo (l.take k) d).2.1, depthL (l.take k)) l[k] = ((tTo (l.take (k + 1)) d).1, (tTo (l.take (k + 1)) d).2.1, depthL (l.take (k + 1))) := by
  have h1 := tTo_rem h d hd k (by omega)
  have h2 := h.get hk
  have e1 : max 0 (min l[k].thick (d - depthL (l.take k))) = min (tTo (l.take k) d).2.2 l[k].thick := by rw [h1]; omega
  rw [tTo_succ l d k hk, depthL_succ l k hk]
  simp only [sStep, tStep, e1]

/-- The time of a wave via layer k: numerator and denominator before they are reduced. -/
def viaA (l : List Earth) (k : Nat) (dist : Int) : Int := 2 * (tTo (l.take k) (depthL (l.take k))).1 * (l[k]?.map Earth.speed |>.getD 1) + dist * (tTo (l.take k) (depthL (l.take k))).2.1
def viaB (l : List Earth) (k : Nat) : Int := (tTo (l.take k) (depthL (l.take k))).2.1 * (l[k]?.map Earth.speed |>.getD 1)
def viaN (l : List Earth) (k : Nat) (dist : Int) : Int := redN (viaA l k dist) (viaB l k)
def viaD (l : List Earth) (k : Nat) (dist : Int) : Int := redD (viaA l k dist) (viaB l k)

theorem via_bd {l : List Earth} (h : Oks l) (h5 : l.length ≤ 5) (k : Nat) (hk : k < l.length) (dist : Int) (hd : 0 ≤ dist) (hd2 : dist ≤ 2001) :
    0 ≤ viaA l k dist ∧ viaA l k dist ≤ 22506250000 ∧ 0 < viaB l k ∧ viaB l k ≤ 312500000 ∧
    0 ≤ viaN l k dist ∧ viaN l k dist ≤ 22506250000 ∧ 0 < viaD l k dist ∧ viaD l k dist ≤ 312500000 ∧ viaN l k dist * viaB l k = viaA l k dist * viaD l k dist := by
  have hb := depthL_bd h k (by omega)
  obtain ⟨i1, i2, i3, i4, _, _⟩ := tTo_inv h (depthL (l.take k)) (by omega) k (by omega)
  have hv := h.get hk
  have e0 : (l[k]?.map Earth.speed |>.getD 1) = l[k].speed := by rw [List.getElem?_eq_getElem hk]; rfl
  have hp : (50 : Int) ^ k ≤ 6250000 := by
    have : k ≤ 4 := by omega
    match k, this with
    | 0, _ => decide
    | 1, _ => decide
    | 2, _ => decide
    | 3, _ => decide
    | 4, _ => decide
  have hp2 : 200 * (k : Int) * 50 ^ k ≤ 5000000000 := by
    have hk4 : k ≤ 4 := by omega
    have h0 := pow50_pos k
    have : 200 * (k : Int) * 50 ^ k ≤ 800 * 50 ^ k := Int.mul_le_mul_of_nonneg_right (by omega) (by omega)
    omega
  have A0 : 0 ≤ viaA l k dist ∧ viaA l k dist ≤ 22506250000 ∧ 0 < viaB l k ∧ viaB l k ≤ 312500000 := by
    unfold viaA viaB
    rw [e0]
    generalize (tTo (l.take k) (depthL (l.take k))).1 = n at *
    generalize (tTo (l.take k) (depthL (l.take k))).2.1 = q at *
    have a1 : 2 * n * l[k].speed ≤ 2 * n * 50 := Int.mul_le_mul_of_nonneg_left (by omega) (by omega)
    have a2 : 0 ≤ 2 * n * l[k].speed := Int.mul_nonneg (by omega) (by omega)
    have a3 : dist * q ≤ 2001 * q := Int.mul_le_mul_of_nonneg_right (by omega) (by omega)
    have a4 : 0 ≤ dist * q := Int.mul_nonneg hd (by omega)
    have a5 : q * l[k].speed ≤ q * 50 := Int.mul_le_mul_of_nonneg_left (by omega) (by omega)
    have a6 : 0 < q * l[k].speed := Int.mul_pos i3 (by omega)
    exact ⟨by omega, by omega, by omega, by omega⟩
  obtain ⟨f1, f2, f3, f4, f5⟩ := red_facts _ _ A0.1 A0.2.2.1
  refine ⟨A0.1, A0.2.1, A0.2.2.1, A0.2.2.2, f1, ?_, f3, ?_, f5⟩
  · show redN _ _ ≤ _; omega
  · show redD _ _ ≤ _; omega

theorem via_take (l : List Earth) (m k : Nat) (hk : k < m) (dist : Int) : viaN (l.take m) k dist = viaN l k dist ∧ viaD (l.take m) k dist = viaD l k dist := by
  have e1 : (l.take m).take k = l.take k := by rw [List.take_take]; congr 1; omega
  have e2 : (l.take m)[k]? = l[k]? := by rw [List.getElem?_take, if_pos hk]
  unfold viaN viaD viaA viaB
  rw [e1, e2]
  exact ⟨rfl, rfl⟩

/-- Via layer k a wave is faster than via layer b. -/
def faster (l : List Earth) (dist : Int) (k b : Nat) : Bool := decide (viaN l k dist * viaD l b dist < viaN l b dist * viaD l k dist)
/-- The fastest of the layers 0 to k, the first of equals. -/
def bst (l : List Earth) (dist : Int) : Nat → Nat
  | 0 => 0
  | k + 1 => if faster l dist (k + 1) (bst l dist k) then k + 1 else bst l dist k
theorem bst_le (l : List Earth) (dist : Int) : ∀ k, bst l dist k ≤ k := by
  intro k
  induction k with
  | zero => simp [bst]
  | succ k ih => simp only [bst]; split <;> omega

theorem bst_take (l : List Earth) (m : Nat) (dist : Int) : ∀ k, k < m → bst (l.take m) dist k = bst l dist k := by
  intro k
  induction k with
  | zero => intro _; rfl
  | succ k ih =>
    intro hk
    have h1 := ih (by omega)
    have h2 := bst_le l dist k
    have hf : faster (l.take m) dist (k + 1) (bst l dist k) = faster l dist (k + 1) (bst l dist k) := by
      unfold faster
      rw [(via_take l m (k + 1) hk dist).1, (via_take l m (k + 1) hk dist).2, (via_take l m (bst l dist k) (by omega) dist).1, (via_take l m (bst l dist k) (by omega) dist).2]
    simp only [bst, h1, hf]

/-- The first of the fastest is at most as slow as any. -/
theorem bst_min {l : List Earth} (h : Oks l) (h5 : l.length ≤ 5) (dist : Int) (hd : 0 ≤ dist) (hd2 : dist ≤ 2001) :
    ∀ k, k < l.length → ∀ j, j ≤ k → viaN l (bst l dist k) dist * viaD l j dist ≤ viaN l j dist * viaD l (bst l dist k) dist := by
  intro k
  induction k with
  | zero => intro hk j hj; obtain rfl : j = 0 := by omega
            exact Int.le_refl _
  | succ k ih =>
    intro hk j hj
    have hb := bst_le l dist k
    have ih' := ih (by omega)
    have b1 := via_bd h h5 (bst l dist k) (by omega) dist hd hd2
    have b2 := via_bd h h5 (k + 1) hk dist hd hd2
    have b3 := via_bd h h5 j (by omega) dist hd hd2
    simp only [bst]
    by_cases hf : faster l dist (k + 1) (bst l dist k) = true
    · rw [if_pos hf]
      simp only [faster, decide_eq_true_eq] at hf
      rcases Nat.lt_or_ge j (k + 1) with h1 | h1
      · have h2 := ih' j (by omega)
        exact fle_trans b2.2.2.2.2.2.2.1 b1.2.2.2.2.2.2.1 b3.2.2.2.2.2.2.1 (by omega) h2
      · obtain rfl : j = k + 1 := by omega
        exact Int.le_refl _
    · rw [if_neg hf]
      simp only [faster, decide_eq_true_eq] at hf
      rcases Nat.lt_or_ge j (k + 1) with h1 | h1
      · exact ih' j (by omega)
      · obtain rfl : j = k + 1 := by omega
        omega

/-- A layer that is the first of the fastest is faster than each one ahead of it. -/
theorem bst_strict {l : List Earth} (h : Oks l) (h5 : l.length ≤ 5) (dist : Int) (hd : 0 ≤ dist) (hd2 : dist ≤ 2001) (m : Nat) (hm : m + 1 < l.length) (hb : bst l dist (m + 1) = m + 1) :
    ∀ j, j ≤ m → viaN l (m + 1) dist * viaD l j dist < viaN l j dist * viaD l (m + 1) dist := by
  intro j hj
  have hle := bst_le l dist m
  simp only [bst] at hb
  by_cases hf : faster l dist (m + 1) (bst l dist m) = true
  · simp only [faster, decide_eq_true_eq] at hf
    have h1 := bst_min h h5 dist hd hd2 m (by omega) j hj
    have b1 := via_bd h h5 (bst l dist m) (by omega) dist hd hd2
    have b2 := via_bd h h5 (m + 1) hm dist hd hd2
    have b3 := via_bd h h5 j (by omega) dist hd hd2
    rcases Int.lt_or_le (viaN l (m + 1) dist * viaD l j dist) (viaN l j dist * viaD l (m + 1) dist) with hlt | hge
    · exact hlt
    · exfalso
      have := fle_trans b1.2.2.2.2.2.2.1 b3.2.2.2.2.2.2.1 b2.2.2.2.2.2.2.1 h1 hge
      omega
  · rw [if_neg hf] at hb
    omega

theorem via_mono {l : List Earth} (h : Oks l) (h5 : l.length ≤ 5) (k : Nat) (hk : k < l.length) (d d' : Int) (hd : 0 ≤ d) (hdd : d ≤ d') (hd2 : d' ≤ 2001) :
    viaN l k d * viaD l k d' ≤ viaN l k d' * viaD l k d := by
  have b1 := via_bd h h5 k hk d hd (by omega)
  have b2 := via_bd h h5 k hk d' (by omega) hd2
  have hA : viaA l k d ≤ viaA l k d' := by
    have hb := depthL_bd h k (by omega)
    obtain ⟨i1, i2, i3, i4, _, _⟩ := tTo_inv h (depthL (l.take k)) (by omega) k (by omega)
    unfold viaA
    have := Int.mul_le_mul_of_nonneg_right hdd (show 0 ≤ (tTo (l.take k) (depthL (l.take k))).2.1 by omega)
    omega
  -- N/D = A/B, N'/D' = A'/B
  refine fle_trans (c := viaA l k d) (d := viaB l k) b1.2.2.2.2.2.2.1 b1.2.2.1 b2.2.2.2.2.2.2.1 (by have := b1.2.2.2.2.2.2.2.2; omega) ?_
  have e2 := b2.2.2.2.2.2.2.2.2
  have := Int.mul_le_mul_of_nonneg_right hA (show 0 ≤ viaD l k d' by omega)
  omega

/-- The first time over a distance. -/
def fstN (l : List Earth) (dist : Int) : Int := viaN l (bst l dist (l.length - 1)) dist
def fstD (l : List Earth) (dist : Int) : Int := viaD l (bst l dist (l.length - 1)) dist

theorem fst_bd {l : List Earth} (h : Oks l) (h1 : 1 ≤ l.length) (h5 : l.length ≤ 5) (dist : Int) (hd : 0 ≤ dist) (hd2 : dist ≤ 2001) :
    0 ≤ fstN l dist ∧ fstN l dist ≤ 22506250000 ∧ 0 < fstD l dist ∧ fstD l dist ≤ 312500000 := by
  have hb := bst_le l dist (l.length - 1)
  obtain ⟨_, _, _, _, a, b, c, d, _⟩ := via_bd h h5 (bst l dist (l.length - 1)) (by omega) dist hd hd2
  exact ⟨a, b, c, d⟩

theorem fst_mono {l : List Earth} (h : Oks l) (h1 : 1 ≤ l.length) (h5 : l.length ≤ 5) (d d' : Int) (hd : 0 ≤ d) (hdd : d ≤ d') (hd2 : d' ≤ 2001) :
    fstN l d * fstD l d' ≤ fstN l d' * fstD l d := by
  have hb' := bst_le l d' (l.length - 1)
  have hk : bst l d' (l.length - 1) < l.length := by omega
  have b0 := fst_bd h h1 h5 d hd (by omega)
  have b1 := via_bd h h5 _ hk d hd (by omega)
  have b2 := fst_bd h h1 h5 d' (by omega) hd2
  exact fle_trans b0.2.2.1 b1.2.2.2.2.2.2.1 b2.2.2.1 (bst_min h h5 d hd (by omega) _ (by omega) _ hb') (via_mono h h5 _ hk d d' hd hdd hd2)

/-- A wave reaches distance d within some seconds. -/
def within (l : List Earth) (sec d : Int) : Prop := fstN l d ≤ sec * fstD l d
theorem within_mono {l : List Earth} (h : Oks l) (h1 : 1 ≤ l.length) (h5 : l.length ≤ 5) (sec d d' : Int) (hd : 0 ≤ d) (hdd : d ≤ d') (hd2 : d' ≤ 2001) (hw : within l sec d') : within l sec d := by
  have b0 := fst_bd h h1 h5 d hd (by omega)
  have b2 := fst_bd h h1 h5 d' (by omega) hd2
  have := fle_trans (e := sec) (f := 1) b0.2.2.1 b2.2.2.1 (by omega) (fst_mono h h1 h5 d d' hd hdd hd2) (by unfold within at hw; omega)
  unfold within; omega
theorem within_zero {l : List Earth} (h : Oks l) (h1 : 1 ≤ l.length) (h5 : l.length ≤ 5) (sec : Int) (hs : 0 ≤ sec) : within l sec 0 := by
  have b0 := fst_bd h h1 h5 0 (by omega) (by omega)
  have hz : viaN l 0 0 = 0 := by simp [viaN, viaA, tTo, redN]
  have b1 := via_bd h h5 0 (by omega) 0 (by omega) (by omega)
  have hm := bst_min h h5 0 (by omega) (by omega) (l.length - 1) (by omega) 0 (by omega)
  rw [hz, Int.zero_mul] at hm
  have : fstN l 0 = 0 := by
    rcases Int.lt_or_le 0 (fstN l 0) with h2 | h2
    · have := Int.mul_pos h2 b1.2.2.2.2.2.2.1
      unfold fstN at this; omega
    · omega
  unfold within
  rw [this]
  exact Int.mul_nonneg hs (by omega)
/-- The greatest distance that is reached. -/
def IsReach (l : List Earth) (sec d : Int) : Prop := 0 ≤ d ∧ d ≤ 2000 ∧ within l sec d ∧ ∀ d', d < d' → d' ≤ 2000 → ¬ within l sec d'
theorem IsReach.unique {l : List Earth} {sec d d' : Int} (h : IsReach l sec d) (h' : IsReach l sec d') : d = d' := by
  rcases Int.lt_trichotomy d d' with hlt | he | hlt
  · exact absurd h'.2.2.1 (h.2.2.2 d' hlt h'.2.1)
  · exact he
  · exact absurd h.2.2.1 (h'.2.2.2 d hlt h.2.1)

/-- The mean speed: a depth of at least 1 takes time. -/
theorem tTo_pos {l : List Earth} (h : Oks l) (d : Int) (hd : 1 ≤ d) : ∀ k, 1 ≤ k → k ≤ l.length → 0 < (tTo (l.take k) d).1 := by
  intro k
  induction k with
  | zero => intro h0; omega
  | succ k ih =>
    intro _ hk
    have hi := tTo_inv h d (by omega) k (by omega)
    have hv := h.get (show k < l.length by omega)
    have hs := tStep_inv hi hv
    rw [tTo_succ l d k (by omega)]
    have hpos : 0 < (tTo (l.take k) d).1 * l[k].speed + min (tTo (l.take k) d).2.2 l[k].thick * (tTo (l.take k) d).2.1 := by
      obtain ⟨i1, i2, i3, i4, i5, i6⟩ := hi
      rcases Nat.eq_zero_or_pos k with h0 | h0
      · subst h0
        have hm : 0 < min d l[0].thick := by omega
        simp [tTo]; exact hm
      · have := Int.mul_pos (ih h0 (by omega)) (show 0 < l[k].speed by omega)
        have := Int.mul_nonneg (show 0 ≤ min (tTo (l.take k) d).2.2 l[k].thick by omega) (show 0 ≤ (tTo (l.take k) d).2.1 by omega)
        omega
    obtain ⟨f1, f2, f3, f4, f5⟩ := red_facts _ _ (Int.le_of_lt hpos) hs.2.2.2.1
    have h6 : 0 < (tStep (tTo (l.take k) d) l[k]).1 * ((tTo (l.take k) d).2.1 * l[k].speed) := by
      show 0 < redN _ _ * _
      rw [f5]
      exact Int.mul_pos hpos f3
    rcases Int.lt_or_le 0 (tStep (tTo (l.take k) d) l[k]).1 with h7 | h7
    · exact h7
    · exfalso
      have h8 : (tStep (tTo (l.take k) d) l[k]).1 = 0 := by
        have : 0 ≤ (tStep (tTo (l.take k) d) l[k]).1 := f1
        omega
      rw [h8, Int.zero_mul] at h6
      omega

end Go.Proofs.Ytadaaooldlaahaa
