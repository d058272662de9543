/-
  Contracts of the functions that draw models and distances.
-/
import Derived.Test.YtadaaooldlaahaaDraw
import Derived.Test.YtadaaooldlaahaaExp3
namespace Go.Proofs.Ytadaaooldlaahaa
set_option linter.unusedVariables false
open Go.RowKit

theorem encE_one (e : Earth) : ∀ u ∈ encE e, u.oneCell' = true := by intro u hu; simp [encE] at hu; rcases hu with rfl | rfl <;> rfl

set_option maxRecDepth 100000 in
set_option maxHeartbeats 1000000 in
theorem model_any (g m : Nat) (w : World) (h : Cur w g m) (hm : m ≤ 1000) :
    Calls Try.prog 62 #[.pointer (some ⟨g, 0, none⟩)] w fun e w' => ∃ v l, e = .returned v ∧ l.length ≤ 20 ∧ Own encE 2 w' w.heap.size 45 v l ∧ Cur w' g 10000 ∧ w.grownBy w' (some g) := by
  obtain ⟨i0, hi, hz0, hz1, hz2⟩ := info_parts infoE
  have hgl := h.lt
  have HO0 := Lib.hid (Own.empty (enc := encE) (k := 2) w w.heap.size 45 (Nat.le_refl _))
  have hb0 : Below w.heap.size w (w.alloc (.cells #[] 45)) := by (repeat (first | with_reducible exact Below.refl _ _ | with_reducible assumption | with_reducible refine Below.setCell ?_ (by simp <;> omega) _ | with_reducible refine Below.alloc ?_ (by first | omega | (simp <;> omega)) _ | with_reducible refine Below.drew ?_ | with_reducible refine below_drewN ?_ _))
  have hC0 := h.after hb0
  have HG0 := Lib.hid (only_of_below hb0 (some g))
  clear hb0 h
  go_enter Try.func62, Try.ntmps62
  go_wp2_with fail
  refine (among_lit g m [1, 4, 5, 6] _ 4 _ _ (by rfl) (by rfl) (by simp) hC0 (by omega) (by omega) (by omega)).mono ?_
  rintro e w1 ⟨sp0, rfl, hx1, hC1, hg1⟩
  have HO1 := Lib.hid (HO0.out.cur hC0 hg1 (by decide))
  have HG1 := Lib.hid (only_trans HG0.out hg1)
  have hsp0 : 1 ≤ sp0 ∧ sp0 ≤ 50 := by simp at hx1; omega
  clear hx1 hC0 hg1
  go_wp2_with fail
  refine (pick_any g (m + 2) 4 _ hC1 (by omega) (by omega)).mono ?_
  rintro e w2 ⟨n0, rfl, ⟨hn0, hn1⟩, hC2, hg2⟩
  have HO2 := Lib.hid (HO1.out.cur hC1 hg2 (by decide))
  have HG2 := Lib.hid (only_trans HG1.out hg2)
  have HC2 := Lib.hid hC2
  have hn3 : n0 ≤ 3 := by omega
  clear hn1 hC1 hC2 hg2
  obtain ⟨nn, rfl⟩ := Int.eq_ofNat_of_zero_le hn0
  go_wp2
  go_loopw [3, 4, 5] (fun v s i wr => ∃ (q : Nat) (sp : Int) (l : List Earth) (M : Nat), s = .int .i64 sp ∧ i = .int .i64 q ∧ (1 ≤ sp ∧ sp ≤ 50) ∧ Hid (q ≤ nn + 1 ∧ l.length + q = nn + 1 ∧ M + q * 20 ≤ 2000) ∧ Hid (Own encE 2 wr w.heap.size 45 v l) ∧ Hid (Cur wr g M) ∧ Hid (w.grownBy wr (some g))) (fun _ _ i _ => (intOf i).toNat)
  case atStart => exact ⟨nn + 1, sp0, [], m + 4, rfl, by go_num, hsp0, (show _ ∧ _ from ⟨by omega, by simp, by omega⟩), HO2.out, HC2.out, HG2.out⟩
  case round =>
    obtain ⟨q, sp, l, M, rfl, rfl, ⟨hs1, hs2⟩, Hq, Hown, HC, HG⟩ := hrel
    by_cases hq : 0 < q
    · obtain ⟨q', rfl⟩ : ∃ q', q = q' + 1 := ⟨q - 1, by omega⟩
      have hq5 : q' ≤ 5 := by have := Hq.out; omega
      have hM : M ≤ 2000 := by have := Hq.out; omega
      have hll : l.length ≤ 1048576 := by have := Hq.out; omega
      obtain ⟨A', c', rfl, hcc, _⟩ := Own.form encE_len Hown.out
      have hgr := HG.out.size
      go_wp2_with fail
      refine (among_lit g M [1, 5, 10, 20, 35, 200] _ 6 _ _ (by rfl) (by rfl) (by simp) HC.out (by omega) (by omega) (by omega)).mono ?_
      rintro e w3 ⟨t3, rfl, _, hC3, hg3⟩
      have HO3 := Lib.hid (Hown.out.cur HC.out hg3 (by decide))
      have HG3 := Lib.hid (only_trans HG.out hg3)
      have hs3 := HG3.out.size
      have HC3 := Lib.hid hC3
      clear hC3 hg3
      go_wp2_with (at_builtin; refine wpList_app1 rfl _ _ 25 rfl w.heap.size 45 i0 _ 2 16 Try.underlying25 hi hz0 hz1 hz2 rfl (by omega) (by omega) encE encE_len encE_one (.slice A' l.length c') l ⟨t3, sp⟩ w3 _ rfl _ rfl HO3.out rfl hll (by omega) ?_; intro v4 w4 hown4 hb4 _)
      have HO4 := Lib.hid hown4
      have HC4 := Lib.hid (HC3.out.belowB hb4 hgl)
      have HG4 := Lib.hid (only_belowB HG3.out hb4 (Nat.le_refl _))
      clear hown4 hb4
      go_wp2_with fail
      refine (among_lit g (M + 2) [1, 2, 3, 0, 10] _ 5 _ _ (by rfl) (by rfl) (by simp) HC4.out (by omega) (by omega) (by omega)).mono ?_
      rintro e w5 ⟨t5, rfl, hx5, hC5, hg5⟩
      have HO5 := Lib.hid (HO4.out.cur HC4.out hg5 (by decide))
      have HG5 := Lib.hid (only_trans HG4.out hg5)
      have HC5 := Lib.hid hC5
      have ht5 : 0 ≤ t5 ∧ t5 ≤ 10 := by simp at hx5; omega
      clear hC5 hg5 hx5
      obtain ⟨ht50, ht51⟩ := ht5
      go_wp2_with fail
      refine (l1Least_any _ _ _).mono ?_
      rintro e w' ⟨rfl, rfl⟩
      obtain ⟨s2, hs2e⟩ : ∃ s2, min 50 (sp + t5) = s2 := ⟨_, rfl⟩
      have hs2b : 1 ≤ s2 ∧ s2 ≤ 50 := by omega
      obtain ⟨hs2a, hs2b⟩ := hs2b
      rw [hs2e]
      clear hs2e
      go_wp2_with fail
      refine (one_any g (M + 4) 8 _ HC5.out (by omega) (by omega)).mono ?_
      rintro e w6 ⟨bo, rfl, hC6, hg6⟩
      have HO6 := Lib.hid (HO5.out.cur HC5.out hg6 (by decide))
      have HG6 := Lib.hid (only_trans HG5.out hg6)
      have HC6 := Lib.hid hC6
      clear hC6 hg6
      cases bo with
      | true =>
        go_wp2_with fail
        refine (l1Most_any _ _ _).mono ?_
        rintro e w' ⟨rfl, rfl⟩
        obtain ⟨s3, hs3e⟩ : ∃ s3, max 1 (s2 - 2) = s3 := ⟨_, rfl⟩
        have hs3b : 1 ≤ s3 ∧ s3 ≤ 50 := by omega
        rw [hs3e]
        clear hs3e
        go_wp2
        go_roundw
        case rel => exact ⟨q', s3, l ++ [(⟨t3, sp⟩ : Earth)], M + 4 + 2, rfl, by go_num, hs3b, (show _ ∧ _ from ⟨by have := Hq.out; omega, by have := Hq.out; simp; omega, by have := Hq.out; omega⟩), HO6.out, HC6.out, HG6.out⟩
        case measure => simp [intOf] <;> omega
      | false =>
        go_wp2
        go_roundw
        case rel => exact ⟨q', s2, l ++ [(⟨t3, sp⟩ : Earth)], M + 4 + 2, rfl, by go_num, ⟨hs2a, hs2b⟩, (show _ ∧ _ from ⟨by have := Hq.out; omega, by have := Hq.out; simp; omega, by have := Hq.out; omega⟩), HO6.out, HC6.out, HG6.out⟩
        case measure => simp [intOf] <;> omega
    · obtain rfl : q = 0 := by omega
      have hM : M ≤ 2000 := by have := Hq.out; omega
      have hll : 1 ≤ l.length ∧ l.length ≤ 4 := by have := Hq.out; omega
      obtain ⟨A', c', rfl, hcc, _⟩ := Own.form encE_len Hown.out
      have hgr := HG.out.size
      go_wp2_with fail
      refine (pick_any g M 32 _ HC.out (by omega) (by omega)).mono ?_
      rintro e w3 ⟨k0, rfl, ⟨hk0, hk1⟩, hC3, hg3⟩
      have HO3 := Lib.hid (Hown.out.cur HC.out hg3 (by decide))
      have HG3 := Lib.hid (only_trans HG.out hg3)
      have HC3 := Lib.hid hC3
      clear hC3 hg3 hk1
      by_cases e0 : k0 = 0
      · subst e0
        go_wp2_with fail
        refine (among_lit g (M + 2) [0, 201, 1] _ 3 _ _ (by rfl) (by rfl) (by simp) HC3.out (by omega) (by omega) (by omega)).mono ?_
        rintro e w4 ⟨t4, rfl, _, hC4, hg4⟩
        have HO4 := Lib.hid (HO3.out.cur HC3.out hg4 (by decide))
        have HG4 := Lib.hid (only_trans HG3.out hg4)
        have HC4 := Lib.hid hC4
        clear hC4 hg4
        go_wp2_with fail
        refine (among_lit g (M + 4) [0, 51, 5] _ 3 _ _ (by rfl) (by rfl) (by simp) HC4.out (by omega) (by omega) (by omega)).mono ?_
        rintro e w5 ⟨t5, rfl, _, hC5, hg5⟩
        have HO5 := Lib.hid (HO4.out.cur HC4.out hg5 (by decide))
        have HG5 := Lib.hid (only_trans HG4.out hg5)
        have HC5 := Lib.hid hC5
        clear hC5 hg5
        obtain ⟨gb, cs, rfl, hgb, hB, hcs, _, hlc, hcm, htk⟩ := HO5.out.blk (show 0 < l.length by omega)
        have hcs2 : 2 ≤ cs.size := by omega
        have d0 := hB.cell 0
        have f0 := hB.frozen 0
        have d1 := hB.cell 1
        have f1 := hB.frozen 1
        obtain ⟨u0, hu0⟩ : ∃ u, cs[0]? = some u := ⟨_, Array.getElem?_eq_getElem (by omega)⟩
        obtain ⟨u1, hu1⟩ : ∃ u, cs[1]? = some u := ⟨_, Array.getElem?_eq_getElem (by omega)⟩
        rw [hu0] at d0
        rw [hu1] at d1
        have HB := Lib.hid hB
        have Htk := Lib.hid htk
        have Hcs := Lib.hid hcs
        have hl0 : 0 < l.length := by omega
        clear hB htk hcs hu0 hu1
        go_wp2
        go_ret
        refine ⟨_, l.set 0 ⟨t4, t5⟩, rfl, by simp; omega, Own.set_ encE_len (j := 0) (y := ⟨t4, t5⟩) hgb ((HB.out.set_ 0 _).set_ 1 _) Hcs.out hlc hcm hl0 Htk.out, ?_, ?_⟩
        · exact ((HC5.out.belowB (((Below.refl w.heap.size _).setCell hgb _).setCell hgb _) hgl)).more (by omega)
        · exact only_belowB HG5.out (((Below.refl w.heap.size _).setCell hgb _).setCell hgb _) (Nat.le_refl _)
      · by_cases e1 : k0 = 1
        · subst e1
          have HOe := Lib.hid (Own.empty (enc := encE) (k := 2) w3 w.heap.size 45 HG3.out.size)
          have hbe : Below w.heap.size w3 (w3.alloc (.cells #[] 45)) := (Below.refl _ _).alloc HG3.out.size _
          have HCe := Lib.hid (HC3.out.belowB hbe hgl)
          have HGe := Lib.hid (only_belowB HG3.out hbe (Nat.le_refl _))
          clear hbe
          go_wp2
          go_ret
          exact ⟨_, [], rfl, by simp, HOe.out, HCe.out.more (by omega), HGe.out⟩
        · by_cases e2 : k0 = 2
          · subst e2
            go_wp2
            go_loopw [3] (fun v wr => ∃ (l : List Earth) (M : Nat), Hid (l.length ≤ 7 ∧ M + (7 - l.length) * 20 ≤ 5000) ∧ Hid (Own encE 2 wr w.heap.size 45 v l) ∧ Hid (Cur wr g M) ∧ Hid (w.grownBy wr (some g))) (fun v _ => match v with | .slice _ n _ => 7 - n | _ => 0)
            case atStart => exact ⟨l, M + 2, (show _ ∧ _ from ⟨by omega, by omega⟩), HO3.out, HC3.out, HG3.out⟩
            case round =>
              obtain ⟨l2, M2, Hq2, Ho2, HC2', HG2'⟩ := hrel
              obtain ⟨A2, c2, rfl, hcc2, _⟩ := Own.form encE_len Ho2.out
              have hM2 : M2 ≤ 5000 := by have := Hq2.out; omega
              have hl2 : l2.length ≤ 7 := Hq2.out.1
              have hl2b : l2.length ≤ 1048576 := by omega
              go_wp2_with fail
              refine (pick_any g M2 2 _ HC2'.out (by omega) (by omega)).mono ?_
              rintro e w4 ⟨k4, rfl, ⟨hk40, hk41⟩, hC4, hg4⟩
              have HO4 := Lib.hid (Ho2.out.cur HC2'.out hg4 (by decide))
              have HG4 := Lib.hid (only_trans HG2'.out hg4)
              have HC4 := Lib.hid hC4
              have hs4 := HG4.out.size
              have hk42 : k4 ≤ 1 := by omega
              clear hC4 hg4 hk41
              by_cases hlt : (l2.length : Int) < 5 + k4
              · go_wp2_with (at_builtin; refine wpList_app1 rfl _ _ 25 rfl w.heap.size 45 i0 _ 2 16 Try.underlying25 hi hz0 hz1 hz2 rfl (by omega) (by omega) encE encE_len encE_one (.slice A2 l2.length c2) l2 ⟨3, 9⟩ w4 _ rfl _ rfl HO4.out rfl hl2b (by omega) ?_; intro v5 w5 hown5 hb5 _)
                have HO5 := Lib.hid hown5
                have HC5 := Lib.hid (HC4.out.belowB hb5 hgl)
                have HG5 := Lib.hid (only_belowB HG4.out hb5 (Nat.le_refl _))
                obtain ⟨A5, c5, rfl, _, _⟩ := Own.form encE_len hown5
                clear hown5 hb5
                go_wp2
                go_roundw
                case rel => exact ⟨l2 ++ [(⟨3, 9⟩ : Earth)], M2 + 2, (show _ ∧ _ from ⟨by simp; omega, by have := Hq2.out; simp; omega⟩), HO5.out, HC5.out, HG5.out⟩
                case measure => simp; omega
              · go_wp2
                go_ret
                exact ⟨_, l2, rfl, by omega, HO4.out, HC4.out.more (by omega), HG4.out⟩
          · have n0 : (k0 == 0) = false := by simp [e0]
            have n1 : (k0 == 1) = false := by simp [e1]
            have n2 : (k0 == 2) = false := by simp [e2]
            go_wp2
            go_ret
            exact ⟨_, l, rfl, by omega, HO3.out, HC3.out.more (by omega), HG3.out⟩

theorem distance_any (g m : Nat) (w : World) (h : Cur w g m) (hm : m ≤ 800000000) :
    Calls Try.prog 65 #[.pointer (some ⟨g, 0, none⟩)] w fun e w' => ∃ d : Int, e = .returned (.int .i64 d) ∧ (-1 ≤ d ∧ d ≤ 2001) ∧ Cur w' g (m + 2) ∧ w.grownBy w' (some g) := by
  go_enter Try.func65, Try.ntmps65
  go_wp2_with fail
  refine (among_lit g m [0, 1, 10, 40, 100, 170, 300, 1000, 2000, 2001, -1] _ 11 _ _ (by rfl) (by rfl) (by simp) h (by omega) (by omega) (by omega)).mono ?_
  rintro e w1 ⟨x, rfl, hx, hC, hg⟩
  go_wp2
  go_ret
  exact ⟨x, rfl, by simp at hx; omega, hC, hg⟩

end Go.Proofs.Ytadaaooldlaahaa
