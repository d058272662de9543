/-
  FnTriggers: walked. (Printed by gen_B8.py.)
-/
import Derived.Test.YtaemdldpcpefbaaDB
import Derived.Test.YtaemdldpcpefbaaRLib
import Derived.Test.YtaemdldpcpefbaaRVP
import Derived.Test.YtaemdldpcpefbaaTrMath
import Derived.Test.YtaemdldpcpefbaaRaMath
import Derived.Deep.CutRange
import Derived.Deep.DeepCutAuto
import Derived.Deep.CutBlock
import Derived.BigQuiet
import Derived.Deep.RegionHeld3
namespace Go.Proofs.Ytaemdldpcpefbaa
set_option linter.unusedVariables false
open Go.RowKit

/-- What the law asks of the times that a trigger is on. -/
def TrF (l : List Int) (s : Setting) (L : List (Int × Int)) (mx : Int) (two : Bool) : Prop :=
  (∀ x ∈ L, 0 ≤ x.1 ∧ x.1 < x.2 ∧ x.2 ≤ l.length) ∧ (∀ k (hk : k + 1 < L.length), (L[k]'(by omega)).2 < L[k + 1].1) ∧
  (∀ i : Nat, i < l.length → okOA l s (i : Int) = true ∧ oaV l s (i : Int) = L.any (isIn (i : Int))) ∧ mx = (lgT L).2 ∧ two = decide (0 < L.length) ∧ cntIn L l.length = sumD L ∧ l.length ≤ 24 ∧ L.length ≤ 24
theorem tr_facts {l : List Int} {s : Setting} (h : okT l s = true) : TrF l s (trL l s) (loV l s).2.1 (loV l s).2.2 := by
  obtain ⟨⟨hl, _⟩, hg⟩ := okT_iff.1 h
  have e : trL l s = spans l s := by unfold trL; rw [if_pos h]
  have e2 : loV l s = ((lgT (spans l s)).1, (lgT (spans l s)).2, decide (0 < (lgT (spans l s)).2)) := by unfold loV; rw [if_pos h]
  have hb := spans_bd' (l := l) hg
  rw [e, e2]
  refine ⟨hb, fun k hk => spans_next hg hk, fun i hi => ?_, rfl, ?_, cntIn_sum _ hb (spans_sep hg), hl, ?_⟩
  · have hin : okOA l s (i : Int) = true := by
      unfold okOA
      rw [h, Bool.true_and, inB_iff]
      omega
    refine ⟨hin, ?_⟩
    unfold oaV
    rw [if_pos hin]
  · exact decide_eq_decide.2 (lgT_pos hb)
  · have := (spTo_inv l s (nPl l s)).1
    have h2 : nPl l s ≤ 24 := by
      obtain ⟨g1, g2, g3, g4, _⟩ := goodG_iff.1 hg
      unfold nPl
      omega
    exact Nat.le_trans this h2

set_option maxRecDepth 100000 in
set_option maxHeartbeats 8000000 in
theorem law_FnTriggers (A0 : Option Addr) (c0 : Nat) (l0 : List Int) (w : World) (h0 : Rd encB 1 w w.heap.size A0 l0) (m0 : l0.length ≤ maxLen) (wf0 : ∀ n ∈ l0, (Lit.int .u8 n).wf = true) :
    Calls Try.prog 12 #[.slice A0 l0.length c0] w fun e w' => e = .returned (.bool true) ∧ Below w.heap.size w w' := by
  unfold maxLen at m0
  by_cases hbig : 65536 < (l0.length : Int)
  · go_enter Try.func12, Try.ntmps12
    go_wp2_with fail
    refine (vBig_any _ _ _ _ (by omega)).mono ?_
    rintro e w' ⟨rfl, rfl⟩
    rw [show decide (65536 < (l0.length : Int)) = true from decide_eq_true (by omega)]
    go_wp2
    go_ret
    exact ⟨rfl, Below.refl _ _⟩
  · have hl0 : l0.length ≤ 1048576 := by omega
    have Hby := Lib.hid (bytes_of wf0)
    have HR0 := Lib.hid (fun (W : World) (hW : Below w.heap.size w W) => (h0.below hW).more hW.size)
    clear wf0 h0
    go_enter Try.func12, Try.ntmps12
    go_wp2_with fail
    refine (vBig_any _ _ _ _ (by omega)).mono ?_
    rintro e w' ⟨rfl, rfl⟩
    rw [show decide (65536 < (l0.length : Int)) = false from decide_eq_false (by omega)]
    have HB0 := Lib.hid (Below.refl w.heap.size w)
    go_wp2_with fail
    refine (DrawTriggered_any A0 c0 l0 _ (HR0.out _ HB0.out) hl0 Hby.out).mono ?_
    rintro e w1 ⟨Ax, cx, lx, sx, rfl, hllx, hcx, hown, hb1⟩
    have Ox := Lib.hid hown
    have hlx : lx.length ≤ 1048576 := by omega
    clear hown
    have hbk := hb1
    have HB1 := Lib.hid (HB0.out.trans (hb1.mono HB0.out.size))
    clear hb1
    clear hbk
    have hbx : Below w1.heap.size w1 (w1.alloc (.cells #[.int .i64 sx.short, .int .i64 sx.long, .int .i64 sx.on, .int .i64 sx.off] 25)) := by (repeat (first | with_reducible exact Below.refl _ _ | with_reducible assumption | with_reducible refine Below.setCell ?_ (by simp <;> omega) _ | with_reducible refine Below.alloc ?_ (by first | omega | (simp <;> omega)) _ | with_reducible refine Below.drew ?_ | with_reducible refine below_drewN ?_ _))
    have Xbx_1 := Lib.hid (Blk.new w1 25 #[.int .i64 sx.short, .int .i64 sx.long, .int .i64 sx.on, .int .i64 sx.off])
    have HBx := Lib.hid (HB1.out.trans (hbx.mono HB1.out.size))
    clear HB1
    have HB1 := HBx
    clear HBx
    have Ox_1x := Lib.hid (Ox.out.keep hbx)
    clear Ox
    obtain ⟨bx0, bx1, bx2, bx3⟩ := box4 Xbx_1.out
    clear hbx
    obtain ⟨L, hL⟩ : ∃ z, trL lx sx = z := ⟨_, rfl⟩
    have HL := Lib.hid hL
    clear hL
    obtain ⟨N, hN⟩ : ∃ z, onL lx sx = z := ⟨_, rfl⟩
    have HN := Lib.hid hN
    clear hN
    obtain ⟨ok, hok⟩ : ∃ z, okT lx sx = z := ⟨_, rfl⟩
    have Hok := Lib.hid hok
    clear hok
    obtain ⟨gd, hgd⟩ : ∃ z, goodG sx = z := ⟨_, rfl⟩
    have Hgd := Lib.hid hgd
    clear hgd
    obtain ⟨lo1, hlo1⟩ : ∃ z, (loV lx sx).1 = z := ⟨_, rfl⟩
    have Hlo1 := Lib.hid hlo1
    clear hlo1
    obtain ⟨lo2, hlo2⟩ : ∃ z, (loV lx sx).2.1 = z := ⟨_, rfl⟩
    have Hlo2 := Lib.hid hlo2
    clear hlo2
    obtain ⟨lo3, hlo3⟩ : ∃ z, (loV lx sx).2.2 = z := ⟨_, rfl⟩
    have Hlo3 := Lib.hid hlo3
    clear hlo3
    have hL : L.length ≤ 1048576 := by rw [← HL.out]; exact trL_len
    have hN : N.length ≤ 1048576 := by rw [← HN.out]; exact onL_len
    have hNL : N.length = L.length := by rw [← HN.out, ← HL.out]; unfold onL trL; split <;> simp
    have HNL := Lib.hid hNL
    have hf : ok = true → TrF lx sx L lo2 lo3 := fun h1 => by
      have h2 := Hok.out.trans h1
      have h3 := tr_facts h2
      rw [HL.out, Hlo2.out, Hlo3.out] at h3
      exact h3
    have Hf := Lib.hid hf
    clear hf hNL
    go_wp2_with fail
    refine (Triggered_any Ax cx lx sx _ (Own.rd' encI_len Ox_1x.out) hlx hcx).mono ?_
    rintro e w2 ⟨Ag, cg, rfl, hcg, hog, hb2⟩
    have hbk := hb2
    have HB2 := Lib.hid (HB1.out.trans (hb2.mono HB1.out.size))
    have Ox_2 := Lib.hid (Ox_1x.out.keep hb2)
    clear hb2
    have Xbx_2 := Lib.hid (Xbx_1.out.after hbk)
    clear bx0 bx1 bx2 bx3
    obtain ⟨bx0, bx1, bx2, bx3⟩ := box4 Xbx_2.out
    clear hbk
    rw [HL.out] at hcg hog ⊢
    rw [Hok.out]
    have og := Lib.hid hog
    clear hog
    go_wp2_with fail
    refine (sTriggered_any Ax cx lx sx _ (Own.rd' encI_len Ox_2.out) hlx hcx).mono ?_
    rintro e w3 ⟨Aw, cw, rfl, hcw, how, hb3⟩
    have hbk := hb3
    have HB3 := Lib.hid (HB2.out.trans (hb3.mono HB2.out.size))
    have Ox_3 := Lib.hid (Ox_2.out.keep hb3)
    have og_3 := Lib.hid (og.out.keep hb3)
    clear hb3
    have Xbx_3 := Lib.hid (Xbx_2.out.after hbk)
    clear bx0 bx1 bx2 bx3
    obtain ⟨bx0, bx1, bx2, bx3⟩ := box4 Xbx_3.out
    clear hbk
    rw [HL.out] at hcw how ⊢
    rw [Hok.out]
    have ow := Lib.hid how
    clear how
    have cq0 : ∀ d os, Calls Try.prog 42 #[.slice Ag L.length cg, .slice Aw L.length cw] (Go.Sort.grow (redrawn w3 d) os) fun e w'' => e = .returned (.bool true) ∧ ∃ p : Regrown, w'' = Go.Sort.grow (redrawn w3 p.d) p.os := fun d os => by
      have hq := below_regrown w3 d os
      have q := vPairs_any Ag Aw cg cw L _ (Own.rd' enc2_len (og_3.out.keep hq)) (Own.rd' enc2_len (ow.out.keep hq)) hL
      exact Calls.regrown_of q
    have Hcq0 := Lib.hid cq0
    clear cq0
    have cq1 : ∀ d os, Calls Try.prog 16 #[.agg #[.int .i64 sx.short, .int .i64 sx.long, .int .i64 sx.on, .int .i64 sx.off]] (Go.Sort.grow (redrawn w3 d) os) fun e w'' => e = .returned (.bool gd) ∧ ∃ p : Regrown, w'' = Go.Sort.grow (redrawn w3 p.d) p.os := fun d os => by
      have hq := below_regrown w3 d os
      have q := IsSetting_any sx (Go.Sort.grow (redrawn w3 d) os)
      rw [Hgd.out] at q
      exact Calls.regrown_of q
    have Hcq1 := Lib.hid cq1
    clear cq1
    have cq2 : ∀ d os, Calls Try.prog 14 #[.agg #[.int .i64 sx.short, .int .i64 sx.long, .int .i64 sx.on, .int .i64 sx.off]] (Go.Sort.grow (redrawn w3 d) os) fun e w'' => e = .returned (.bool gd) ∧ ∃ p : Regrown, w'' = Go.Sort.grow (redrawn w3 p.d) p.os := fun d os => by
      have hq := below_regrown w3 d os
      have q := sIsSetting_any sx (Go.Sort.grow (redrawn w3 d) os)
      rw [Hgd.out] at q
      exact Calls.regrown_of q
    have Hcq2 := Lib.hid cq2
    clear cq2
    have kbx0 := cell_regrown bx0
    have kbx1 := cell_regrown bx1
    have kbx2 := cell_regrown bx2
    have kbx3 := cell_regrown bx3
    go_wp2_with fail
    refine wp_region_quiet_below (by kernel_rfl) (by kernel_rfl) ?_
    repeat (go_big_quiet_step ((first | (go_at_call 42; exact Hcq0.out _ _) | (go_at_call 16; exact Hcq1.out _ _) | (go_at_call 14; exact Hcq2.out _ _))))
    refine wpQuiet_nil ?_
    intro _ hw'
    obtain ⟨⟨dq, osq⟩, hw''⟩ := hw'
    subst hw''
    have hb4 := below_regrown w3 dq osq
    generalize Go.Sort.grow (redrawn w3 dq) osq = w4 at hb4 ⊢
    clear kbx0 kbx1 kbx2 kbx3
    clear Hcq0 Hcq1 Hcq2
    have hbk := hb4
    have HB4 := Lib.hid (HB3.out.trans (hb4.mono HB3.out.size))
    have Ox_4 := Lib.hid (Ox_3.out.keep hb4)
    have og_4 := Lib.hid (og_3.out.keep hb4)
    have ow_4 := Lib.hid (ow.out.keep hb4)
    clear hb4
    have Xbx_4 := Lib.hid (Xbx_3.out.after hbk)
    clear bx0 bx1 bx2 bx3
    obtain ⟨bx0, bx1, bx2, bx3⟩ := box4 Xbx_4.out
    clear hbk
    go_wp2_with fail
    refine (OnPlaces_any Ax cx lx sx _ (Own.rd' encI_len Ox_4.out) hlx hcx).mono ?_
    rintro e w5 ⟨Au, cu, rfl, hcu, hou, hb5⟩
    have hbk := hb5
    have HB5 := Lib.hid (HB4.out.trans (hb5.mono HB4.out.size))
    have Ox_5 := Lib.hid (Ox_4.out.keep hb5)
    have og_5 := Lib.hid (og_4.out.keep hb5)
    clear hb5
    have Xbx_5 := Lib.hid (Xbx_4.out.after hbk)
    clear bx0 bx1 bx2 bx3
    obtain ⟨bx0, bx1, bx2, bx3⟩ := box4 Xbx_5.out
    clear hbk
    rw [HN.out] at hcu hou ⊢
    rw [Hok.out]
    have ou := Lib.hid hou
    clear hou
    go_wp2_with fail
    refine (sOnPlaces_any Ax cx lx sx _ (Own.rd' encI_len Ox_5.out) hlx hcx).mono ?_
    rintro e w6 ⟨Av, cv, rfl, hcv, hov, hb6⟩
    have hbk := hb6
    have HB6 := Lib.hid (HB5.out.trans (hb6.mono HB5.out.size))
    have Ox_6 := Lib.hid (Ox_5.out.keep hb6)
    have og_6 := Lib.hid (og_5.out.keep hb6)
    have ou_6 := Lib.hid (ou.out.keep hb6)
    clear hb6
    have Xbx_6 := Lib.hid (Xbx_5.out.after hbk)
    clear bx0 bx1 bx2 bx3
    obtain ⟨bx0, bx1, bx2, bx3⟩ := box4 Xbx_6.out
    clear hbk
    rw [HN.out] at hcv hov ⊢
    rw [Hok.out]
    have ov := Lib.hid hov
    clear hov
    go_wp2_with fail
    refine (vInts_any Au Av cu cv N _ (Own.rd' encI_len ou_6.out) (Own.rd' encI_len ov.out) hN).mono ?_
    rintro e w7 ⟨rfl, hb7⟩
    have hbk := hb7
    have HB7 := Lib.hid (HB6.out.trans (hb7.mono HB6.out.size))
    have Ox_7 := Lib.hid (Ox_6.out.keep hb7)
    have og_7 := Lib.hid (og_6.out.keep hb7)
    have ou_7 := Lib.hid (ou_6.out.keep hb7)
    have ov_7 := Lib.hid (ov.out.keep hb7)
    clear hb7
    have Xbx_7 := Lib.hid (Xbx_6.out.after hbk)
    clear bx0 bx1 bx2 bx3
    obtain ⟨bx0, bx1, bx2, bx3⟩ := box4 Xbx_7.out
    clear hbk
    have hne : ((N.length : Int) != (L.length : Int)) = false := by rw [HNL.out]; simp
    go_upto_if 107 with (fail)
    go_cut [] (fun wx => Below w.heap.size w wx)
    case first =>
      cases ok with
      | false =>
        go_wp2_with fail
        all_goals go_meet
        all_goals exact HB7.out
      | true =>
        obtain ⟨f1, f2, f3, f4, f5, f6, f7, f8⟩ := Hf.out (by first | rfl | trivial)
        have Hf1 := Lib.hid f1
        have Hf2 := Lib.hid f2
        have Hf3 := Lib.hid f3
        have Hf4 := Lib.hid f4
        have Hf5 := Lib.hid f5
        have Hf6 := Lib.hid f6
        clear f1 f2 f3 f4 f5 f6
        go_wp2
        go_loopw [13, 14, 15] (fun n m i wr => ∃ k : Nat, k ≤ L.length ∧ i = .int .i64 k ∧ n = .int .i64 (sumD (L.take k)) ∧ m = .int .i64 (lgT (L.take k)).2 ∧ Hid (Below w7.heap.size w7 wr)) (fun _ _ i _ => L.length - (intOf i).toNat)
        case atStart => exact ⟨0, Nat.zero_le _, rfl, rfl, rfl, Below.refl _ _⟩
        case round =>
          obtain ⟨k, hkl, rfl, rfl, rfl, hbl⟩ := hrel
          by_cases hlt : k < L.length
          · have hkz : (k : Int) < (L.length : Int) := by omega
            obtain ⟨a0, a1, a2⟩ := Hf1.out _ (List.getElem_mem hlt)
            obtain ⟨s0, s1⟩ := sumD_bd Hf1.out k hkl
            obtain ⟨t0, t1, _⟩ := lgT_inv Hf1.out k hkl
            have hsu := sumD_succ L k hlt
            have hmx := lgT_succ L k hlt
            unfold lgStep at hmx
            obtain ⟨b, off, hA, hb1, x0, x1⟩ := cells2 (Own.rd' enc2_len (og_7.out.keep hbl.out)) hlt
            subst hA
            have hsb : sumD (L.take k) ≤ 1000 := Int.le_trans s1 (by
              have h1 : (lx.length : Int) ≤ 24 := by omega
              have h2 : (k : Int) ≤ 24 := by omega
              exact Int.le_trans (Int.mul_le_mul h1 h2 (by omega) (by omega)) (by omega))
            clear s1
            by_cases hk0 : k = 0
            · subst hk0
              simp only [Nat.zero_mul, Nat.add_zero] at x0 x1
              generalize L[0].1 = p1 at *
              generalize L[0].2 = p2 at *
              generalize sumD (L.take (0)) = sm at *
              generalize lgT (L.take (0)) = tp at *
              obtain ⟨tp1, tp2⟩ := tp
              simp only at hmx t0 t1 ⊢
              by_cases hd : tp2 < p2 - p1
              · rw [if_pos hd] at hmx
                have Hsum := Lib.hid hsu
                have Hmx := Lib.hid hmx
                clear hsu hmx
                go_wp2
                go_quiet (fail)
                go_wp2
                have hd1 : ¬ p2 - p1 < 1 := by omega
                have hd2 : decide (p2 - p1 < 1) = false := decide_eq_false hd1
                go_quiet (fail)
                go_wp2
                go_roundw
                case rel => exact ⟨0 + 1, by omega, by go_num, by rw [Hsum.out], by rw [Hmx.out], below_drewN hbl.out _⟩
                case measure => simp [intOf]; omega
              · rw [if_neg hd] at hmx
                have Hsum := Lib.hid hsu
                have Hmx := Lib.hid hmx
                clear hsu hmx
                go_wp2
                go_quiet (fail)
                go_wp2
                have hd1 : ¬ p2 - p1 < 1 := by omega
                have hd2 : decide (p2 - p1 < 1) = false := decide_eq_false hd1
                go_quiet (fail)
                go_wp2
                go_roundw
                case rel => exact ⟨0 + 1, by omega, by go_num, by rw [Hsum.out], by rw [Hmx.out], below_drewN hbl.out _⟩
                case measure => simp [intOf]; omega
            · obtain ⟨k', rfl⟩ : ∃ k', k = k' + 1 := ⟨k - 1, by omega⟩
              have hsep := Hf2.out k' hlt
              have hk' : k' < L.length := by omega
              obtain ⟨b2, off2, hA, hb2, y0, y1⟩ := cells2 (Own.rd' enc2_len (og_7.out.keep hbl.out)) hk'
              injection hA with hA
              injection hA with e1 e2
              subst e1 e2
              generalize L[k'].1 = o1 at *
              generalize L[k'].2 = o2 at *
              have ek : ((k' + 1 : Nat) : Int) = (k' : Int) + 1 := by omega
              have hlti : (k' : Int) + 1 < (L.length : Int) := by omega
              have hltj : (k' : Int) < (L.length : Int) := by omega
              have hk0' : (0 : Int) ≤ (k' : Int) := by omega
              rw [ek]
              generalize L[k' + 1].1 = p1 at *
              generalize L[k' + 1].2 = p2 at *
              generalize sumD (L.take (k' + 1)) = sm at *
              generalize lgT (L.take (k' + 1)) = tp at *
              obtain ⟨tp1, tp2⟩ := tp
              simp only at hmx t0 t1 ⊢
              by_cases hd : tp2 < p2 - p1
              · rw [if_pos hd] at hmx
                have Hsum := Lib.hid hsu
                have Hmx := Lib.hid hmx
                clear hsu hmx
                go_wp2
                go_quiet (fail)
                go_wp2
                have hd1 : ¬ p2 - p1 < 1 := by omega
                have hd2 : decide (p2 - p1 < 1) = false := decide_eq_false hd1
                have hsq : ¬ p1 ≤ o2 := by omega
                have hsq2 : decide (p1 ≤ o2) = false := decide_eq_false hsq
                have hgt : (0 : Int) < (k' : Int) + 1 := by omega
                have hgt2 : decide ((0 : Int) < (k' : Int) + 1) = true := decide_eq_true hgt
                go_quiet (fail)
                go_wp2
                go_roundw
                case rel => exact ⟨k' + 1 + 1, by omega, by go_num, by rw [Hsum.out], by rw [Hmx.out], below_drewN hbl.out _⟩
                case measure => simp [intOf]; omega
              · rw [if_neg hd] at hmx
                have Hsum := Lib.hid hsu
                have Hmx := Lib.hid hmx
                clear hsu hmx
                go_wp2
                go_quiet (fail)
                go_wp2
                have hd1 : ¬ p2 - p1 < 1 := by omega
                have hd2 : decide (p2 - p1 < 1) = false := decide_eq_false hd1
                have hsq : ¬ p1 ≤ o2 := by omega
                have hsq2 : decide (p1 ≤ o2) = false := decide_eq_false hsq
                have hgt : (0 : Int) < (k' : Int) + 1 := by omega
                have hgt2 : decide ((0 : Int) < (k' : Int) + 1) = true := decide_eq_true hgt
                go_quiet (fail)
                go_wp2
                go_roundw
                case rel => exact ⟨k' + 1 + 1, by omega, by go_num, by rw [Hsum.out], by rw [Hmx.out], below_drewN hbl.out _⟩
                case measure => simp [intOf]; omega
          · have hkz : ¬ (k : Int) < (L.length : Int) := by omega
            have hkk : k = L.length := by omega
            subst hkk
            rw [List.take_of_length_le (Nat.le_refl _)]
            obtain ⟨w1n, rfl⟩ : ∃ w1n : World, w1n = wr := ⟨_, rfl⟩
            have HB1n := Lib.hid (HB7.out.trans (hbl.out.mono HB7.out.size))
            have Ox1n := Lib.hid (Ox_7.out.keep hbl.out)
            have Xbx_71n := Lib.hid (Xbx_7.out.after hbl.out)
            clear hbl
            have hcb := fun k => cntIn_bd L k
            have hsd0 := hcb lx.length
            rw [Hf6.out] at hsd0
            obtain ⟨hsd1, hsd2⟩ := hsd0
            have Hcb := Lib.hid hcb
            clear hcb
            generalize sumD L = sd at *
            generalize (lgT L).2 = mq at *
            go_wp2
            go_loopw [17, 18] (fun c i wr => ∃ k : Nat, k ≤ lx.length ∧ i = .int .i64 k ∧ c = .int .i64 (cntIn L k) ∧ Hid (Below w1n.heap.size w1n wr)) (fun _ i _ => lx.length - (intOf i).toNat)
            case atStart => exact ⟨0, Nat.zero_le _, rfl, rfl, Below.refl _ _⟩
            case round =>
              obtain ⟨k, hkl, rfl, rfl, hbl⟩ := hrel
              obtain ⟨cb0, cb1⟩ := Hcb.out k
              have HBr := Lib.hid (HB1n.out.trans (hbl.out.mono HB1n.out.size))
              have HOr := Lib.hid (Ox1n.out.keep hbl.out)
              have HXr := Lib.hid (Xbx_71n.out.after hbl.out)
              obtain ⟨r0, r1, r2, r3⟩ := box4 HXr.out
              by_cases hlt : k < lx.length
              · obtain ⟨g1, g2⟩ := Hf3.out k hlt
                have hcs : cntIn L (k + 1) = cntIn L k + b2i (L.any (isIn (k : Int))) := rfl
                generalize cntIn L k = cn at *
                generalize L.any (isIn (k : Int)) = on at *
                have Hg1 := Lib.hid g1
                have Hg2 := Lib.hid g2
                have Hcs := Lib.hid hcs
                clear g1 g2 hcs
                have hkz : (k : Int) < (lx.length : Int) := by omega
                go_wp2_with fail
                refine (IsOnAt_any Ax cx lx sx (k : Int) _ (Own.rd' encI_len HOr.out) hlx hcx).mono ?_
                rintro e wa ⟨rfl, hba⟩
                rw [Hg1.out, Hg2.out]
                have HBa := Lib.hid (hbl.out.trans (hba.mono hbl.out.size))
                clear hba r0 r1 r2 r3
                cases on with
                | true =>
                  go_wp2
                  go_roundw
                  case rel => exact ⟨k + 1, by omega, by go_num, by rw [Hcs.out]; rfl, HBa.out⟩
                  case measure => simp [intOf]; omega
                | false =>
                  go_wp2
                  go_roundw
                  case rel => exact ⟨k + 1, by omega, by go_num, by rw [Hcs.out]; simp [b2i], HBa.out⟩
                  case measure => simp [intOf]; omega
              · have hkk : k = lx.length := by omega
                subst hkk
                rw [Hf6.out]
                have hkz : ¬ (lx.length : Int) < (lx.length : Int) := by omega
                go_wp2_with fail
                refine (LongestOn_any Ax cx lx sx _ (Own.rd' encI_len HOr.out) hlx hcx).mono ?_
                rintro e wc ⟨rfl, hbc⟩
                rw [Hlo1.out, Hlo2.out, Hlo3.out]
                have HBc := Lib.hid (HBr.out.trans (hbc.mono HBr.out.size))
                clear hbc r0 r1 r2 r3
                have e1 := Hf4.out
                have e2 := Hf5.out
                subst e1
                by_cases hLp : 0 < L.length
                · have e3 : lo3 = true := e2.trans (decide_eq_true hLp)
                  subst e3
                  clear e2
                  go_wp2
                  all_goals go_meet
                  all_goals exact HBc.out
                · have e3 : lo3 = false := e2.trans (decide_eq_false hLp)
                  subst e3
                  clear e2
                  go_wp2
                  all_goals go_meet
                  all_goals exact HBc.out
    case rest =>
      obtain ⟨w60, rfl⟩ : ∃ w60 : World, w60 = wc := ⟨_, rfl⟩
      have HB60 := Lib.hid hcut
      clear hcut
      clear og HL HN Hok Hgd Hlo1 Hlo2 Hlo3 HNL Hf
      clear bx0 bx1 bx2 bx3
      go_wp2_with fail
      refine (DrawIsOnAt_any A0 c0 l0 _ (HR0.out _ HB60.out) hl0 Hby.out).mono ?_
      rintro e w61 ⟨Ay, cy, ly, sy, p, rfl, hlly, hcy, hown, ⟨hpp0, hpp1⟩, hb61⟩
      have Oy := Lib.hid hown
      have hly : ly.length ≤ 1048576 := by omega
      clear hown
      have hbk := hb61
      have HB61 := Lib.hid (HB60.out.trans (hb61.mono HB60.out.size))
      clear hb61
      clear hbk
      have hbx : Below w61.heap.size w61 (w61.alloc (.cells #[.int .i64 sy.short, .int .i64 sy.long, .int .i64 sy.on, .int .i64 sy.off] 25)) := by (repeat (first | with_reducible exact Below.refl _ _ | with_reducible assumption | with_reducible refine Below.setCell ?_ (by simp <;> omega) _ | with_reducible refine Below.alloc ?_ (by first | omega | (simp <;> omega)) _ | with_reducible refine Below.drew ?_ | with_reducible refine below_drewN ?_ _))
      have Xby__61 := Lib.hid (Blk.new w61 25 #[.int .i64 sy.short, .int .i64 sy.long, .int .i64 sy.on, .int .i64 sy.off])
      have HBx := Lib.hid (HB61.out.trans (hbx.mono HB61.out.size))
      clear HB61
      have HB61 := HBx
      clear HBx
      have Oy_61x := Lib.hid (Oy.out.keep hbx)
      clear Oy
      obtain ⟨by_0, by_1, by_2, by_3⟩ := box4 Xby__61.out
      clear hbx
      obtain ⟨oa, hoa⟩ : ∃ z, oaV ly sy p = z := ⟨_, rfl⟩
      have Hoa := Lib.hid hoa
      clear hoa
      obtain ⟨fine, hfine⟩ : ∃ z, okOA ly sy p = z := ⟨_, rfl⟩
      have Hfine := Lib.hid hfine
      clear hfine
      go_wp2_with fail
      refine (IsOnAt_any Ay cy ly sy p _ (Own.rd' encI_len Oy_61x.out) hly hcy).mono ?_
      rintro e w62 ⟨rfl, hb62⟩
      rw [Hoa.out, Hfine.out]
      have hbk := hb62
      have HB62 := Lib.hid (HB61.out.trans (hb62.mono HB61.out.size))
      have Oy_62 := Lib.hid (Oy_61x.out.keep hb62)
      clear hb62
      have Xby__62 := Lib.hid (Xby__61.out.after hbk)
      clear by_0 by_1 by_2 by_3
      obtain ⟨by_0, by_1, by_2, by_3⟩ := box4 Xby__62.out
      clear hbk
      go_wp2_with fail
      refine (sIsOnAt_any Ay cy ly sy p _ (Own.rd' encI_len Oy_62.out) hly hcy).mono ?_
      rintro e w63 ⟨rfl, hb63⟩
      rw [Hoa.out, Hfine.out]
      have hbk := hb63
      have HB63 := Lib.hid (HB62.out.trans (hb63.mono HB62.out.size))
      have Oy_63 := Lib.hid (Oy_62.out.keep hb63)
      clear hb63
      have Xby__63 := Lib.hid (Xby__62.out.after hbk)
      clear by_0 by_1 by_2 by_3
      obtain ⟨by_0, by_1, by_2, by_3⟩ := box4 Xby__63.out
      clear hbk
      clear by_0 by_1 by_2 by_3 Xby__63
      go_wp2_with fail
      refine (DrawLongestOn_any A0 c0 l0 _ (HR0.out _ HB63.out) hl0 Hby.out).mono ?_
      rintro e w64 ⟨Az, cz, lz, sz, rfl, hllz, hcz, hown, hb64⟩
      have Oz := Lib.hid hown
      have hlz : lz.length ≤ 1048576 := by omega
      clear hown
      have hbk := hb64
      have HB64 := Lib.hid (HB63.out.trans (hb64.mono HB63.out.size))
      clear hb64
      clear hbk
      have hbx : Below w64.heap.size w64 (w64.alloc (.cells #[.int .i64 sz.short, .int .i64 sz.long, .int .i64 sz.on, .int .i64 sz.off] 25)) := by (repeat (first | with_reducible exact Below.refl _ _ | with_reducible assumption | with_reducible refine Below.setCell ?_ (by simp <;> omega) _ | with_reducible refine Below.alloc ?_ (by first | omega | (simp <;> omega)) _ | with_reducible refine Below.drew ?_ | with_reducible refine below_drewN ?_ _))
      have Xbz_64 := Lib.hid (Blk.new w64 25 #[.int .i64 sz.short, .int .i64 sz.long, .int .i64 sz.on, .int .i64 sz.off])
      have HBx := Lib.hid (HB64.out.trans (hbx.mono HB64.out.size))
      clear HB64
      have HB64 := HBx
      clear HBx
      have Oz_64x := Lib.hid (Oz.out.keep hbx)
      clear Oz
      obtain ⟨bz0, bz1, bz2, bz3⟩ := box4 Xbz_64.out
      clear hbx
      obtain ⟨q1, hq1⟩ : ∃ z, (loV lz sz).1 = z := ⟨_, rfl⟩
      have Hq1 := Lib.hid hq1
      clear hq1
      obtain ⟨q2, hq2⟩ : ∃ z, (loV lz sz).2.1 = z := ⟨_, rfl⟩
      have Hq2 := Lib.hid hq2
      clear hq2
      obtain ⟨q3, hq3⟩ : ∃ z, (loV lz sz).2.2 = z := ⟨_, rfl⟩
      have Hq3 := Lib.hid hq3
      clear hq3
      go_wp2_with fail
      refine (LongestOn_any Az cz lz sz _ (Own.rd' encI_len Oz_64x.out) hlz hcz).mono ?_
      rintro e w65 ⟨rfl, hb65⟩
      rw [Hq1.out, Hq2.out, Hq3.out]
      have hbk := hb65
      have HB65 := Lib.hid (HB64.out.trans (hb65.mono HB64.out.size))
      have Oz_65 := Lib.hid (Oz_64x.out.keep hb65)
      clear hb65
      have Xbz_65 := Lib.hid (Xbz_64.out.after hbk)
      clear bz0 bz1 bz2 bz3
      obtain ⟨bz0, bz1, bz2, bz3⟩ := box4 Xbz_65.out
      clear hbk
      go_wp2_with fail
      refine (sLongestOn_any Az cz lz sz _ (Own.rd' encI_len Oz_65.out) hlz hcz).mono ?_
      rintro e w66 ⟨rfl, hb66⟩
      rw [Hq1.out, Hq2.out, Hq3.out]
      have hbk := hb66
      have HB66 := Lib.hid (HB65.out.trans (hb66.mono HB65.out.size))
      have Oz_66 := Lib.hid (Oz_65.out.keep hb66)
      clear hb66
      have Xbz_66 := Lib.hid (Xbz_65.out.after hbk)
      clear bz0 bz1 bz2 bz3
      obtain ⟨bz0, bz1, bz2, bz3⟩ := box4 Xbz_66.out
      clear hbk
      go_wp2
      go_ret
      exact ⟨rfl, HB66.out⟩

end Go.Proofs.Ytaemdldpcpefbaa
