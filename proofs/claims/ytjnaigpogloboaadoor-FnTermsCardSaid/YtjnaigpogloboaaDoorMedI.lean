/-
  Contracts of MedianMagnitude and Residuals, of the program. (Printed by gen_E6.py.)
-/
import Derived.Test.YtjnaigpogloboaaDoorMags
import Derived.Test.YtjnaigpogloboaaDoorSetF
namespace Go.Proofs.YtjnaigpogloboaaDoor
set_option linter.unusedVariables false
open Go.RowKit

set_option maxHeartbeats 1000000 in
theorem MedianMagnitude_any (A A2 : Option Addr) (c c2 : Nat) (t : List TableRow) (l : List Swing) (w : World) (h : Rd encT 2 w w.heap.size A t) (h2 : Rd encS 4 w w.heap.size A2 l) (hl : t.length ≤ 1048576) (hl2 : l.length ≤ 1048576) (hP : Pow10 w) :
    Calls Tryd.prog 27 #[.slice A t.length c, .slice A2 l.length c2] w fun e w' => e = .returned (.tuple #[.int .i64 (midM t l), .bool (hasMM t l)]) ∧ Below w.heap.size w w' := by
  have hb0 := Below.refl w.heap.size w
  have hr0 := h
  have HT := Lib.hid (IsTable_any A c t _ hr0 hl)
  have HS := Lib.hid (fun W (hB : Below w.heap.size w W) => AreSwings_any A2 c2 l W ((h2.below hB).more hB.size) hl2)
  cases hg : goodT t with
  | false =>
    have hk : hasMM t l = false := by simp [hasMM, askMM, hg]
    have hka : askMM t l = false := by simp [askMM, hg]
    have hm0 : midM t l = 0 := by unfold midM; rw [hka]; rfl
    rw [hk, hm0]
    go_enter Tryd.func27, Tryd.ntmps27
    go_wp2_with (go_at_call 47; refine HT.out.mono ?_; rintro e w1 ⟨rfl, hb1⟩; rw [hg])
    go_ret2
    have hB := hb0.trans (hb1.mono hb0.size)
    exact ⟨rfl, hB⟩
  | true =>
    cases hs : goodWs l with
    | false =>
      have hk : hasMM t l = false := by simp [hasMM, askMM, hs]
      have hka : askMM t l = false := by simp [askMM, hs]
      have hm0 : midM t l = 0 := by unfold midM; rw [hka]; rfl
      rw [hk, hm0]
      go_enter Tryd.func27, Tryd.ntmps27
      go_wp2_with (first | (go_at_call 47; refine HT.out.mono ?_; rintro e w1 ⟨rfl, hb1⟩; rw [hg]; have HB1 := Lib.hid (hb0.trans (hb1.mono hb0.size))) | (go_at_call 54; refine (HS.out _ HB1.out).mono ?_; rintro e w2 ⟨rfl, hb2⟩; rw [hs]))
      go_ret2
      have hB := HB1.out.trans (hb2.mono HB1.out.size)
      exact ⟨rfl, hB⟩
    | true =>
      obtain ⟨hl10, hgs⟩ := goodWs_all hs
      have hka : askMM t l = true := by simp [askMM, hg, hs]
      have hk : hasMM t l = decide (0 < (magsL t l).length) := by unfold hasMM; rw [hka]; rfl
      have hm : midM t l = midL (sortL idZ (magsL t l)) := by unfold midM; rw [hka]; rfl
      rw [hk, hm]
      have HM := Lib.hid (fun W (hB : Below w.heap.size w W) => magnitudes_any A A2 c c2 t l W ((h.below hB).more hB.size) ((h2.below hB).more hB.size) hg hgs hl10 (hP.after hB (Nat.le_refl _)))
      generalize midL (sortL idZ (magsL t l)) = m at *
      generalize magsL t l = M at *
      clear hk hm
      go_enter Tryd.func27, Tryd.ntmps27
      go_wp2_with fail
      refine HT.out.mono ?_
      rintro e w1 ⟨rfl, hb1⟩
      rw [hg]
      have HB1 := Lib.hid (hb0.trans (hb1.mono hb0.size))
      clear hb1
      go_wp2_with fail
      refine (HS.out _ HB1.out).mono ?_
      rintro e w2 ⟨rfl, hb2⟩
      rw [hs]
      have HB2 := Lib.hid (HB1.out.trans (hb2.mono HB1.out.size))
      clear hb2
      go_wp2_with fail
      refine (HM.out _ HB2.out).mono ?_
      rintro e w3 ⟨A', c', rfl, _, _, hb3⟩
      go_wp2
      go_ret2
      exact ⟨rfl, HB2.out.trans (hb3.mono HB2.out.size)⟩

def subF (M : List Int) (m : Int) (k : Nat) : List Int := (M.take k).map (fun x => x - m) ++ M.drop k
theorem subF_len (M : List Int) (m : Int) (k : Nat) : (subF M m k).length = M.length := by unfold subF; simp; omega
theorem subF_zero (M : List Int) (m : Int) : subF M m 0 = M := by simp [subF]
theorem subF_all (M : List Int) (m : Int) : subF M m M.length = M.map (fun x => x - m) := by simp [subF]
theorem subF_at {M : List Int} {m : Int} {k : Nat} (hk : k < M.length) : (subF M m k)[k]? = some M[k] := by
  unfold subF
  rw [List.getElem?_append_right (by simp; omega)]
  simp [hk, Nat.min_eq_left (Nat.le_of_lt hk)]
theorem subF_set {M : List Int} {m : Int} {k : Nat} (hk : k < M.length) : (subF M m k).set k (M[k] - m) = subF M m (k + 1) := by
  unfold subF
  rw [List.set_append_right _ _ (by simp; omega)]
  have e : k - ((M.take k).map (fun x => x - m)).length = 0 := by simp; omega
  rw [e, List.drop_eq_getElem_cons hk, List.set_cons_zero, List.take_succ_eq_append_getElem hk, List.map_append, List.append_assoc]
  rfl

set_option maxRecDepth 100000 in
set_option maxHeartbeats 1000000 in
theorem Residuals_any (A A2 : Option Addr) (c c2 : Nat) (t : List TableRow) (l : List Swing) (w : World) (h : Rd encT 2 w w.heap.size A t) (h2 : Rd encS 4 w w.heap.size A2 l) (hl : t.length ≤ 1048576) (hl2 : l.length ≤ 1048576) (hP : Pow10 w) :
    Calls Tryd.prog 30 #[.slice A t.length c, .slice A2 l.length c2] w fun e w' => ∃ A' c', e = .returned (.tuple #[.slice A' (resL t l).length c', .bool (hasMM t l)]) ∧ ((resL t l).length ≤ c' ∧ c' ≤ maxLen) ∧ Own encI 1 w' w.heap.size 3 (.slice A' (resL t l).length c') (resL t l) ∧ Below w.heap.size w w' := by
  have hb0 := Below.refl w.heap.size w
  have hr0 := h
  have HT := Lib.hid (IsTable_any A c t _ hr0 hl)
  have HS := Lib.hid (fun W (hB : Below w.heap.size w W) => AreSwings_any A2 c2 l W ((h2.below hB).more hB.size) hl2)
  cases hg : goodT t with
  | false =>
    have hk : hasMM t l = false := by simp [hasMM, askMM, hg]
    have hka : askMM t l = false := by simp [askMM, hg]
    have hm0 : resL t l = [] := by unfold resL; rw [hk]; rfl
    rw [hk, hm0]
    go_enter Tryd.func30, Tryd.ntmps30
    go_wp2_with (go_at_call 47; refine HT.out.mono ?_; rintro e w1 ⟨rfl, hb1⟩; rw [hg])
    go_ret2
    have hB := hb0.trans (hb1.mono hb0.size)
    exact ⟨none, 0, rfl, ⟨Nat.le_refl _, Nat.zero_le _⟩, Own.none_ _ _ _, hB⟩
  | true =>
    cases hs : goodWs l with
    | false =>
      have hk : hasMM t l = false := by simp [hasMM, askMM, hs]
      have hka : askMM t l = false := by simp [askMM, hs]
      have hm0 : resL t l = [] := by unfold resL; rw [hk]; rfl
      rw [hk, hm0]
      go_enter Tryd.func30, Tryd.ntmps30
      go_wp2_with (first | (go_at_call 47; refine HT.out.mono ?_; rintro e w1 ⟨rfl, hb1⟩; rw [hg]; have HB1 := Lib.hid (hb0.trans (hb1.mono hb0.size))) | (go_at_call 54; refine (HS.out _ HB1.out).mono ?_; rintro e w2 ⟨rfl, hb2⟩; rw [hs]))
      go_ret2
      have hB := HB1.out.trans (hb2.mono HB1.out.size)
      exact ⟨none, 0, rfl, ⟨Nat.le_refl _, Nat.zero_le _⟩, Own.none_ _ _ _, hB⟩
    | true =>
      obtain ⟨hl10, hgs⟩ := goodWs_all hs
      have hka : askMM t l = true := by simp [askMM, hg, hs]
      have hk : hasMM t l = decide (0 < (magsL t l).length) := by unfold hasMM; rw [hka]; rfl
      have hm : midM t l = midL (sortL idZ (magsL t l)) := by unfold midM; rw [hka]; rfl
      have hres : resL t l = (magsL t l).map (fun x => x - midL (sortL idZ (magsL t l))) := by
        unfold resL
        rw [hm]
        split
        · rfl
        · rename_i hn
          rw [hk] at hn
          have : magsL t l = [] := List.eq_nil_of_length_eq_zero (by simpa using hn)
          rw [this]; rfl
      have hmb := midM_bd t l
      have hMb := magsL_bd hg hgs
      have hMl := magsL_len t l
      rw [hm] at hmb
      have HM := Lib.hid (fun W (hB : Below w.heap.size w W) => magnitudes_any A A2 c c2 t l W ((h.below hB).more hB.size) ((h2.below hB).more hB.size) hg hgs hl10 (hP.after hB (Nat.le_refl _)))
      rw [hres, hk]
      generalize midL (sortL idZ (magsL t l)) = m at *
      generalize magsL t l = M at *
      have HMb := Lib.hid hMb
      rw [List.length_map]
      clear hk hm hres hMb
      go_enter Tryd.func30, Tryd.ntmps30
      go_wp2_with fail
      refine HT.out.mono ?_
      rintro e w1 ⟨rfl, hb1⟩
      rw [hg]
      have HB1 := Lib.hid (hb0.trans (hb1.mono hb0.size))
      clear hb1
      go_wp2_with fail
      refine (HS.out _ HB1.out).mono ?_
      rintro e w2 ⟨rfl, hb2⟩
      rw [hs]
      have HB2 := Lib.hid (HB1.out.trans (hb2.mono HB1.out.size))
      clear hb2
      go_wp2_with fail
      refine (HM.out _ HB2.out).mono ?_
      rintro e w3 ⟨A', c', rfl, hcc, hown3, hb3⟩
      have HB3 := Lib.hid (HB2.out.trans (hb3.mono HB2.out.size))
      have Hown3 := Lib.hid (hown3.mono HB2.out.size)
      clear hb3 hown3
      go_wp2
      go_loopw [27] (fun i wr => ∃ k : Nat, k ≤ M.length ∧ i = .int .i64 k ∧ Hid (Own encI 1 wr w.heap.size 3 (.slice A' M.length c') (subF M m k)) ∧ Hid (Below w.heap.size w wr)) (fun i _ => M.length - (intOf i).toNat)
      case atStart => exact ⟨0, Nat.zero_le _, rfl, (by rw [subF_zero]; exact Hown3.out), HB3.out⟩
      case round =>
        obtain ⟨k, hkl, rfl, hown, HBr⟩ := hrel
        by_cases hlt : k < M.length
        · have hpos : 0 < M.length := by omega
          obtain ⟨g, cs, rfl, hgb, hBk, hcs, _, _, _, _⟩ := hown.out.blk hpos
          have hset := fun w' (hB' : Blk w' g 3 (cs.setIfInBounds (k * 1 + 0) (.int .i64 (M[k]'hlt - m)))) => Own.setF (w' := w') (k := k) (f := 0) (v := .int .i64 (M[k]'hlt - m)) (x := M[k]'hlt) (y := M[k]'hlt - m) encI_len hown.out hBk hB' (by rw [subF_len]; exact hlt) (by omega) (subF_at hlt) rfl
          rw [subF_set hlt] at hset
          have hkb := HMb.out _ (List.getElem_mem hlt)
          have hrd := Own.rd' encI_len hown.out
          have hat := subF_at (m := m) hlt
          have hcell : wr.cell? ⟨g, 0 + k, none⟩ = some (.int .i64 M[k]) := by
            obtain ⟨b9, o9, e9, _, hc9⟩ := hrd.at_ hat
            injection e9 with e9
            injection e9 with e1 e2
            subst e1 e2
            have := hc9 0 _ rfl
            simpa using this
          have hks : k < cs.size := by omega
          have hcell2 := hBk.cell k
          have hfr := hBk.frozen k
          generalize M[k] = x at *
          have hBk' := hBk.set_ k (.int .i64 (x - m))
          have Hset := Lib.hid (hset _ (by rw [Nat.mul_one, Nat.add_zero]; exact hBk'))
          have hbs : Below w.heap.size w (World.setCell wr ⟨g, k, none⟩ (.int .i64 (x - m))) := HBr.out.setCell hgb _
          have Hbs := Lib.hid hbs
          simp only [Nat.zero_add] at hcell
          clear hset hrd hat hBk' hbs hcell2
          go_wp2
          go_roundw
          case rel => exact ⟨k + 1, by omega, by go_num, Hset.out, Hbs.out⟩
          case measure => simp [intOf]; omega
        · have hke : k = M.length := by omega
          have Ho : Hid (Own encI 1 wr w.heap.size 3 (.slice A' M.length c') (M.map fun x => x - m)) := by
            have hq := hown.out
            rw [hke, subF_all] at hq
            exact hq
          clear hown
          go_wp2
          go_ret2
          exact ⟨_, _, rfl, hcc, Ho.out, HBr.out⟩

end Go.Proofs.YtjnaigpogloboaaDoor
