/-
  Contract of the program's NewTerms. (Printed by gen_E9.py.)
-/
import Derived.Test.YtjnaigpogloboaaDoorMedI
namespace Go.Proofs.YtjnaigpogloboaaDoor
set_option linter.unusedVariables false
open Go.RowKit

theorem copyOfS_any (b off n c B : Nat) (l : List Swing) (w : World) (hn : l.length = n) (h : Rd encS 4 w B (some ⟨b, off, none⟩) l) (hl : l.length ≤ 1048576) (hB : B ≤ w.heap.size) :
    Calls Tryd.prog 79 #[.slice (some ⟨b, off, none⟩) n c] w fun e w' => ∃ v, e = .returned v ∧ Own encS 4 w' w.heap.size 37 v l ∧ Below w.heap.size w w' := by
  obtain ⟨i0, hi, hz0, hz1, hz2⟩ := info_parts infoS
  have hB0 : Below w.heap.size w (w.alloc (.cells #[] 37)) := by (repeat (first | with_reducible exact Below.refl _ _ | with_reducible assumption | with_reducible refine Below.setCell ?_ (by simp <;> omega) _ | with_reducible refine Below.alloc ?_ (by first | omega | (simp <;> omega)) _ | with_reducible refine Below.drew ?_ | with_reducible refine below_drewN ?_ _))
  have ho := Own.empty (enc := encS) (k := 4) w w.heap.size 37 (Nat.le_refl _)
  have hr := h.alloc hB (.cells #[] 37)
  have Ho := Lib.hid ho
  have Hr := Lib.hid hr
  clear ho hr h
  go_enter Tryd.func79, Tryd.ntmps79
  go_wp2_with (at_builtin; refine wpList_appL rfl _ _ 43 rfl w.heap.size 37 i0 _ 4 32 Tryd.underlying43 hi hz0 hz1 hz2 rfl (by omega) (by omega) encS encS_len encS_one (.slice (some ⟨w.heap.size, 0, none⟩) 0 0) [] l (w.alloc (.cells #[] 37)) b off n c B rfl Ho.out rfl hn Hr.out (by simp; omega) (by simp) ?_; intro v' w2 hown2 hb2 _)
  have Hown2 := Lib.hid (show Own encS 4 w2 w.heap.size 37 v' l from hown2)
  clear hown2
  go_wp2
  go_ret
  exact ⟨_, rfl, Hown2.out, hB0.trans hb2⟩

section
variable {α : Type} (f : α → α)
def mapF (M : List α) (k : Nat) : List α := (M.take k).map f ++ M.drop k
theorem mapF_len (M : List α) (k : Nat) : (mapF f M k).length = M.length := by unfold mapF; simp; omega
theorem mapF_zero (M : List α) : mapF f M 0 = M := by simp [mapF]
theorem mapF_all (M : List α) : mapF f M M.length = M.map f := by simp [mapF]
theorem mapF_at {M : List α} {k : Nat} (hk : k < M.length) : (mapF f M k)[k]? = some M[k] := by
  unfold mapF
  rw [List.getElem?_append_right (by simp; omega)]
  simp [hk, Nat.min_eq_left (Nat.le_of_lt hk)]
theorem mapF_set {M : List α} {k : Nat} (hk : k < M.length) : (mapF f M k).set k (f M[k]) = mapF f M (k + 1) := by
  unfold mapF
  rw [List.set_append_right _ _ (by simp; omega)]
  have e : k - ((M.take k).map f).length = 0 := by simp; omega
  rw [e, List.drop_eq_getElem_cons hk, List.set_cons_zero, List.take_succ_eq_append_getElem hk, List.map_append, List.append_assoc]
  rfl
theorem mapF_same {M : List α} {k : Nat} (hk : k < M.length) (h : f M[k] = M[k]) : mapF f M (k + 1) = mapF f M k := by
  unfold mapF
  rw [List.take_succ_eq_append_getElem hk, List.map_append, List.append_assoc, List.drop_eq_getElem_cons hk]
  simp [h]
end
theorem newS_yes {t : List TableRow} {m : Int} {s : Swing} (h : bonOk t s.far = true) : newS t m s = ⟨s.station, s.far, s.width, max (-50) (min 50 (s.term - (magV t s - m)))⟩ := by unfold newS; rw [if_pos h]
theorem newS_no {t : List TableRow} {m : Int} {s : Swing} (h : bonOk t s.far = false) : newS t m s = s := by unfold newS; rw [h]; rfl
def clampT (d : Int) : Int := max (-50) (min 50 d)

set_option maxRecDepth 100000 in
set_option maxHeartbeats 4000000 in
theorem NewTerms_any (A A2 : Option Addr) (c c2 : Nat) (t : List TableRow) (l : List Swing) (w : World) (h : Rd encT 2 w w.heap.size A t) (h2 : Rd encS 4 w w.heap.size A2 l) (hl : t.length ≤ 1048576) (hl2 : l.length ≤ 1048576) (hP : Pow10 w) :
    Calls Tryd.prog 37 #[.slice A t.length c, .slice A2 l.length c2] w fun e w' => ∃ A' c', e = .returned (.tuple #[.slice A' (newL t l).length c', .bool (hasMM t l)]) ∧ ((newL t l).length ≤ c' ∧ c' ≤ maxLen) ∧ Own encS 4 w' w.heap.size 37 (.slice A' (newL t l).length c') (newL t l) ∧ Below w.heap.size w w' := by
  have HMed := Lib.hid (MedianMagnitude_any A A2 c c2 t l w h h2 hl hl2 hP)
  cases hk : hasMM t l with
  | false =>
    have hm0 : newL t l = [] := by unfold newL; rw [hk]; rfl
    rw [hm0]
    rw [hk] at HMed
    generalize midM t l = m at *
    clear hm0 hk
    go_enter Tryd.func37, Tryd.ntmps37
    go_wp2_with fail
    refine HMed.out.mono ?_
    rintro e w1 ⟨rfl, hb1⟩
    go_wp2
    go_ret2
    exact ⟨none, 0, rfl, ⟨Nat.le_refl _, Nat.zero_le _⟩, Own.none_ _ _ _, hb1⟩
  | true =>
    obtain ⟨hka, hpos⟩ := hasMM_iff hk
    obtain ⟨hg, hs, hl10, hgs⟩ := askMM_iff hka
    have hlpos : 0 < l.length := by have := magsL_len t l; omega
    have hmb := midM_bd t l
    have hnew : newL t l = l.map (newS t (midM t l)) := by unfold newL; rw [if_pos hk]
    rw [hnew, List.length_map]
    rw [hk] at HMed
    generalize midM t l = m at *
    obtain ⟨b0, off0, hA0, -⟩ := cellsS h2 hlpos
    subst hA0
    have HMag := Lib.hid (fun (W : World) (s : Swing) (hB : Below w.heap.size w W) (hw : goodW s = true) => magnitude_any A c t s W ((h.below hB).more hB.size) hg hw (hP.after hB (Nat.le_refl _)))
    have HR2 := Lib.hid (fun (W : World) (hB : Below w.heap.size w W) => h2.below hB)
    have Hs := Lib.hid hgs
    obtain ⟨f, hf⟩ : ∃ f, newS t m = f := ⟨_, rfl⟩
    rw [hf]
    have Hf := Lib.hid hf
    clear hgs hnew hk hpos hf
    go_enter Tryd.func37, Tryd.ntmps37
    go_wp2_with fail
    refine HMed.out.mono ?_
    rintro e w1 ⟨rfl, hb1⟩
    have HB1 := Lib.hid hb1
    clear hb1
    go_wp2_with fail
    refine (copyOfS_any b0 off0 l.length c2 w1.heap.size l w1 rfl ((HR2.out _ HB1.out).more HB1.out.size) (by omega) (Nat.le_refl _)).mono ?_
    rintro e w2 ⟨v2, rfl, hown2, hb2⟩
    obtain ⟨A3, c3, rfl, hcc3, _⟩ := Own.form encS_len hown2
    have HB2 := Lib.hid (HB1.out.trans (hb2.mono HB1.out.size))
    have Ho2 := Lib.hid (hown2.mono HB1.out.size)
    clear hown2 hb2
    go_wp2
    go_loopw [25] (fun i wr => ∃ k : Nat, k ≤ l.length ∧ i = .int .i64 k ∧ Hid (Own encS 4 wr w.heap.size 37 (.slice A3 l.length c3) (mapF f l k)) ∧ Hid (Below w.heap.size w wr)) (fun i _ => l.length - (intOf i).toNat)
    case atStart => exact ⟨0, Nat.zero_le _, rfl, (by rw [mapF_zero]; exact Ho2.out), HB2.out⟩
    case round =>
      obtain ⟨k, hkl, rfl, hown, HBr⟩ := hrel
      by_cases hlt : k < l.length
      · obtain ⟨g, cs, hA3, hgb, hBk, hcs, _, _, _, _⟩ := hown.out.blk hlpos
        subst hA3
        have hgs := Hs.out _ (List.getElem_mem hlt)
        have hat := mapF_at f hlt
        have hrd := Own.rd' encS_len hown.out
        have hks : k * 4 + 3 < cs.size := by omega
        have hgl : g < wr.heap.size := (hown.out.lt g rfl).2
        have hcells : wr.cell? ⟨g, 0 + k * 4, none⟩ = some (.int .i64 l[k].station) ∧ wr.cell? ⟨g, 0 + k * 4 + 1, none⟩ = some (.int .i64 l[k].far) ∧ wr.cell? ⟨g, 0 + k * 4 + 2, none⟩ = some (.int .i64 l[k].width) ∧ wr.cell? ⟨g, 0 + k * 4 + 3, none⟩ = some (.int .i64 l[k].term) := by
          obtain ⟨b9, o9, e9, _, hc9⟩ := hrd.at_ hat
          injection e9 with e9
          injection e9 with e1 e2
          subst e1 e2
          exact ⟨hc9 0 _ rfl, hc9 1 _ rfl, hc9 2 _ rfl, hc9 3 _ rfl⟩
        simp only [Nat.zero_add] at hcells
        obtain ⟨c0, c1, c2', c3'⟩ := hcells
        have hmset := mapF_set f hlt
        have hmsame := mapF_same f (M := l) hlt
        have hfx : f l[k] = newS t m l[k] := by rw [Hf.out]
        generalize hs0 : l[k] = s at *
        have hsz := HBr.out.size
        have hbx : Below w.heap.size w (wr.alloc (.cells #[.int .i64 s.station, .int .i64 s.far, .int .i64 s.width, .int .i64 s.term] 37)) := HBr.out.alloc hsz _
        have HCall := Lib.hid (HMag.out _ s hbx hgs)
        have HBx := Lib.hid hbx
        have Hox := Lib.hid (hown.out.alloc (.cells #[.int .i64 s.station, .int .i64 s.far, .int .i64 s.width, .int .i64 s.term] 37))
        have HX := Lib.hid (Blk.new wr 37 #[.int .i64 s.station, .int .i64 s.far, .int .i64 s.width, .int .i64 s.term])
        obtain ⟨z0, z1, z2, z3⟩ := box4 HX.out
        have Hfx := Lib.hid hfx
        have Hmset := Lib.hid hmset
        have Hmsame := Lib.hid hmsame
        have hBx := hBk.alloc (.cells #[.int .i64 s.station, .int .i64 s.far, .int .i64 s.width, .int .i64 s.term] 37)
        have HBx2 := Lib.hid hBx
        have Hat := Lib.hid hat
        clear hbx hrd hfx hmset hmsame hBx hat hs0 hown
        go_wp2_with fail
        refine HCall.out.mono ?_
        rintro e w4 ⟨rfl, hb4⟩
        have HB4 := Lib.hid (HBx.out.trans (hb4.mono HBx.out.size))
        have Ho4 := Lib.hid (Hox.out.keep hb4)
        have HX4 := Lib.hid (HX.out.after hb4)
        have HBk4 := Lib.hid (HBx2.out.after hb4)
        obtain ⟨z0', z1', z2', z3'⟩ := box4 HX4.out
        have hs4 := HB4.out.size
        clear hb4 c0 c1 c2' c3' z0 z1 z2 z3 hBk
        cases hbo : bonOk t s.far with
        | false =>
          have H1 := Lib.hid (Hmsame.out (by rw [Hfx.out, newS_no hbo]))
          clear hbo
          go_wp2
          go_roundw
          case rel => exact ⟨k + 1, by omega, by go_num, (by rw [H1.out]; exact Ho4.out), HB4.out⟩
          case measure => simp [intOf]; omega
        | true =>
          have hvb := magV_bd hg hgs
          have hwb := goodW_iff.1 hgs
          have htb : -50 ≤ s.term ∧ s.term ≤ 50 := hwb.2.2.2
          have hy := newS_yes (m := m) hbo
          rw [← Hfx.out] at hy
          obtain ⟨x, hx⟩ : ∃ x, magV t s = x := ⟨_, rfl⟩
          rw [hx] at hy hvb ⊢
          have hsetf := fun w' v (hv : v = Value.int .i64 (clampT (s.term - (x - m)))) (hB' : Blk w' g 37 (cs.setIfInBounds (k * 4 + 3) v)) => Own.setF (w' := w') (k := k) (f := 3) (v := v) (x := s) (y := f s) encS_len Ho4.out HBk4.out hB' (by rw [mapF_len]; exact hlt) (by omega) Hat.out (by rw [hy, hv]; rfl)
          rw [Hmset.out] at hsetf
          have HsetF := Lib.hid hsetf
          have hc3 := HBk4.out.cell (k * 4 + 3)
          have hf3 := HBk4.out.frozen (k * 4 + 3)
          rw [Array.getElem?_eq_getElem hks] at hc3
          have Hcl := Lib.hid (show clampT (s.term - (x - m)) = max (-50) (min 50 (s.term - (x - m))) from rfl)
          clear hbo hx hy hsetf hwb
          generalize s.term = d at *
          go_wp2
          go_roundw
          case rel => exact ⟨k + 1, by omega, by go_num, HsetF.out _ _ (by rw [Hcl.out]) (HBk4.out.set_ _ _), HB4.out.setCell hgb _⟩
          case measure => simp [intOf]; omega
      · have hke : k = l.length := by omega
        have Ho1 : Hid (Own encS 4 wr w.heap.size 37 (.slice A3 l.length c3) (l.map f)) := by
          have hq := hown.out
          rw [hke, mapF_all] at hq
          exact hq
        clear hown
        go_wp2
        go_ret2
        exact ⟨_, _, rfl, hcc3, Ho1.out, HBr.out⟩

end Go.Proofs.YtjnaigpogloboaaDoor
