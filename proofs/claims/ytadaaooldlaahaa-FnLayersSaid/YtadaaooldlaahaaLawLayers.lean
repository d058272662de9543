/-
  FnLayers: walked. (Printed by gen_C2.py.)
-/
import Derived.Test.YtadaaooldlaahaaLawTravel
namespace Go.Proofs.Ytadaaooldlaahaa
set_option linter.unusedVariables false
open Go.RowKit

theorem over_strict {l : List Earth} {m : Int} (h : okOv l m = true) :
    ∃ mn : Nat, m = mn ∧ 1 ≤ mn ∧ mn < l.length ∧ okTV l m (OVd l m) = true ∧ ∀ k : Nat, k < mn → okTV l k (OVd l m) = true ∧
      (0 ≤ TVn l m (OVd l m) * TVd l k (OVd l m) ∧ TVn l m (OVd l m) * TVd l k (OVd l m) ≤ 9223372036854775807) ∧ (0 ≤ TVn l k (OVd l m) * TVd l m (OVd l m) ∧ TVn l k (OVd l m) * TVd l m (OVd l m) ≤ 9223372036854775807) ∧
      TVn l m (OVd l m) * TVd l k (OVd l m) < TVn l k (OVd l m) * TVd l m (OVd l m) := by
  have h' := h
  simp only [okOv, okA, Bool.and_eq_true, inB_iff, decide_eq_true_eq] at h'
  obtain ⟨⟨hg, hm1, hm2⟩, hov⟩ := h'
  obtain ⟨ho, h1, h5⟩ := good_oks hg
  obtain ⟨mn, rfl⟩ := Int.eq_ofNat_of_zero_le (show 0 ≤ m by omega)
  have e0 : OVd l mn = ovI l mn := by unfold OVd; rw [if_pos h, Int.toNat_natCast]
  rw [Int.toNat_natCast] at hov
  -- the hit
  have key : 0 ≤ ovI l mn ∧ ovI l mn ≤ 2000 ∧ bst l (ovI l mn) mn = mn := by
    unfold ovI idxOf at hov ⊢
    split at hov
    · rename_i hany
      rw [if_pos hany]
      rw [List.any_eq_true] at hany
      have hlt := List.findIdx_lt_length_of_exists hany
      have hp := List.findIdx_getElem (w := hlt)
      simp only [List.length_range] at hlt
      rw [List.getElem_range] at hp
      refine ⟨by omega, by omega, by simpa using hp⟩
    · omega
  obtain ⟨k1, k2, k3⟩ := key
  rw [e0]
  generalize ovI l mn = at_ at *
  obtain ⟨mp, rfl⟩ : ∃ mp, mn = mp + 1 := ⟨mn - 1, by omega⟩
  have hml : mp + 1 < l.length := by omega
  have okt : ∀ k : Nat, k ≤ mp + 1 → okTV l k at_ = true ∧ TVn l k at_ = viaN l k at_ ∧ TVd l k at_ = viaD l k at_ := fun k hk => by
    have e1 : okTV l k at_ = true := by simp only [okTV, hg, Bool.true_and, Bool.and_eq_true, inB_iff]; exact ⟨⟨by omega, by omega⟩, k1, k2⟩
    exact ⟨e1, by unfold TVn; rw [if_pos e1, Int.toNat_natCast], by unfold TVd; rw [if_pos e1, Int.toNat_natCast]⟩
  refine ⟨mp + 1, rfl, by omega, hml, (okt _ (Nat.le_refl _)).1, fun k hk => ?_⟩
  obtain ⟨a1, a2, a3⟩ := okt (mp + 1) (Nat.le_refl _)
  obtain ⟨b1, b2, b3⟩ := okt k (by omega)
  have c1 := via_bd ho h5 (mp + 1) hml at_ k1 (by omega)
  have c2 := via_bd ho h5 k (by omega) at_ k1 (by omega)
  have p1 := prod_bd c1.2.2.2.2.1 c1.2.2.2.2.2.1 c2.2.2.2.2.2.2.1 c2.2.2.2.2.2.2.2.1
  have p2 := prod_bd c2.2.2.2.2.1 c2.2.2.2.2.2.1 c1.2.2.2.2.2.2.1 c1.2.2.2.2.2.2.2.1
  rw [b1, a2, a3, b2, b3]
  exact ⟨rfl, ⟨p1.1, by omega⟩, ⟨p2.1, by omega⟩, bst_strict ho h5 at_ k1 (by omega) mp hml k3 k (by omega)⟩
theorem okMS_eq (l : List Earth) (d : Int) : okMS l d = (okTT l d && decide (0 < d)) := by
  unfold okMS okTT inB
  cases goodE l <;> simp
  by_cases h : 0 < d
  · have e1 : decide (1 ≤ d) = true := decide_eq_true (by omega)
    have e2 : decide (0 ≤ d) = true := decide_eq_true (by omega)
    simp [e1, e2, h]
  · have e1 : decide (1 ≤ d) = false := decide_eq_false (by omega)
    simp [e1, h]
theorem mean_time {l : List Earth} {d : Int} (h : okTT l d = true) (hd : 0 < d) : okMS l d = true ∧ MSn l d * TTn l d = d * MSd l d * TTd l d ∧ 0 ≤ d * MSd l d ∧ d * MSd l d ≤ 9223372036854775807 := by
  have e1 : okMS l d = true := by rw [okMS_eq, h, decide_eq_true hd]; rfl
  have h' := h
  simp only [okTT, Bool.and_eq_true, inB_iff] at h'
  obtain ⟨hg, h0, hD⟩ := h'
  obtain ⟨ho, h1, h5⟩ := good_oks hg
  obtain ⟨b1, b2, b3, b4⟩ := tTo_bd ho h5 d h0
  have b5 := depthL_all ho h5
  have hpos := tTo_pos ho d (by omega) l.length h1 (Nat.le_refl _)
  rw [List.take_length] at hpos
  have x1 : TTn l d = (tTo l d).1 := by unfold TTn; rw [if_pos h]
  have x2 : TTd l d = (tTo l d).2.1 := by unfold TTd; rw [if_pos h]
  have x3 : MSn l d = redN (d * (tTo l d).2.1) (tTo l d).1 := by unfold MSn; rw [if_pos e1]
  have x4 : MSd l d = redD (d * (tTo l d).2.1) (tTo l d).1 := by unfold MSd; rw [if_pos e1]
  obtain ⟨r1, r2, r3, r4, r5⟩ := red_facts (d * (tTo l d).2.1) (tTo l d).1 (Int.mul_nonneg h0 (by omega)) hpos
  rw [x1, x2, x3, x4]
  refine ⟨e1, ?_, Int.mul_nonneg h0 (by omega), ?_⟩
  · rw [r5]
    generalize redD (d * (tTo l d).2.1) (tTo l d).1 = q
    rw [Int.mul_assoc, Int.mul_assoc, Int.mul_comm _ q]
  · have : d * redD (d * (tTo l d).2.1) (tTo l d).1 ≤ 1000 * redD (d * (tTo l d).2.1) (tTo l d).1 := Int.mul_le_mul_of_nonneg_right (by omega) (by omega)
    omega
theorem depth_last {l : List Earth} (h : goodE l = true) : okTT l (DPv l) = true ∧ okTT l (DPv l + 1) = false ∧ (0 ≤ DPv l ∧ DPv l ≤ 1000) := by
  obtain ⟨ho, h1, h5⟩ := good_oks h
  have b5 := depthL_all ho h5
  have e : DPv l = depthL l := by unfold DPv; rw [if_pos h]
  rw [e]
  refine ⟨by simp only [okTT, h, Bool.true_and, inB_iff]; omega, ?_, b5⟩
  rw [Bool.eq_false_iff]
  intro hh
  simp only [okTT, h, Bool.true_and, inB_iff] at hh
  omega

set_option maxRecDepth 100000 in
set_option maxHeartbeats 8000000 in
theorem law_FnLayers (A0 : Option Addr) (c0 : Nat) (l0 : List Int) (w : World) (h0 : Rd encB 1 w w.heap.size A0 l0) (m0 : l0.length ≤ maxLen) (wf0 : ∀ n ∈ l0, (Lit.int .u8 n).wf = true) :
    Calls Try.prog 13 #[.slice A0 l0.length c0] w fun e w' => e = .returned (.bool true) ∧ Below w.heap.size w w' := by
  unfold maxLen at m0
  by_cases hbig : 65536 < (l0.length : Int)
  · go_enter Try.func13, Try.ntmps13
    go_wp2_with fail
    refine (vBig_any _ _ _ _ (by omega)).mono ?_
    rintro e w' ⟨rfl, rfl⟩
    rw [show decide (65536 < (l0.length : Int)) = true from decide_eq_true (by omega)]
    go_wp2
    go_ret
    exact ⟨rfl, Below.refl _ _⟩
  · have hl0 : l0.length ≤ 1048576 := by omega
    have Hby := Lib.hid (bytes_of wf0)
    have HR0 := Lib.hid (fun (W : World) (hW : Below w.heap.size w W) => (h0.below hW).more hW.size)
    clear wf0 h0
    go_enter Try.func13, Try.ntmps13
    go_wp2_with fail
    refine (vBig_any _ _ _ _ (by omega)).mono ?_
    rintro e w' ⟨rfl, rfl⟩
    rw [show decide (65536 < (l0.length : Int)) = false from decide_eq_false (by omega)]
    have HB0 := Lib.hid (Below.refl w.heap.size w)
    go_wp2_with fail
    refine (DrawOvertakesAt_any A0 c0 l0 _ (HR0.out _ HB0.out) hl0 Hby.out).mono ?_
    rintro e w1 ⟨Ax, cx, lx, m, rfl, hllx, hcx, hown, ⟨hm1, hm2⟩, hb1⟩
    have Ox := Lib.hid hown
    have hlx : lx.length ≤ 1048576 := by omega
    clear hown
    have HB1 := Lib.hid (HB0.out.trans (hb1.mono HB0.out.size))
    clear hb1
    obtain ⟨at_, hat_⟩ : ∃ z, OVd lx m = z := ⟨_, rfl⟩
    have Hat_ := Lib.hid hat_
    clear hat_
    obtain ⟨ok, hok⟩ : ∃ z, okOv lx m = z := ⟨_, rfl⟩
    have Hok := Lib.hid hok
    clear hok
    go_wp2_with fail
    refine (OvertakesAt_any Ax cx lx m _ (Own.rd' encE_len Ox.out) hlx hcx).mono ?_
    rintro e w2 ⟨rfl, hb2⟩
    rw [Hat_.out, Hok.out]
    have HB2 := Lib.hid (HB1.out.trans (hb2.mono HB1.out.size))
    have Ox_2 := Lib.hid (Ox.out.keep hb2)
    clear hb2
    go_wp2_with fail
    refine (sOvertakesAt_any Ax cx lx m _ (Own.rd' encE_len Ox_2.out) hlx hcx).mono ?_
    rintro e w3 ⟨rfl, hb3⟩
    rw [Hat_.out, Hok.out]
    have HB3 := Lib.hid (HB2.out.trans (hb3.mono HB2.out.size))
    have Ox_3 := Lib.hid (Ox_2.out.keep hb3)
    clear hb3
    go_upto_if 68 with (fail)
    go_cut [] (fun wx => Below w.heap.size w wx)
    case first =>
      cases ok with
      | false =>
        go_wp2_with fail
        all_goals go_meet
        all_goals exact HB3.out
      | true =>
        obtain ⟨mn, hmn, hm3, hm4, hm5, hm6⟩ := over_strict Hok.out
        rw [Hat_.out] at hm5 hm6
        subst hmn
        have Hm5 := Lib.hid hm5
        have Hm6 := Lib.hid hm6
        clear hm5 hm6
        obtain ⟨ta, hta⟩ : ∃ z, TVn lx mn at_ = z := ⟨_, rfl⟩
        have Hta := Lib.hid hta
        clear hta
        obtain ⟨tb, htb⟩ : ∃ z, TVd lx mn at_ = z := ⟨_, rfl⟩
        have Htb := Lib.hid htb
        clear htb
        go_wp2_with fail
        refine (TimeVia_any Ax cx lx mn at_ _ (Own.rd' encE_len Ox_3.out) hlx hcx).mono ?_
        rintro e w4 ⟨rfl, hb4⟩
        rw [Hta.out, Htb.out, Hm5.out]
        have HB4 := Lib.hid (HB3.out.trans (hb4.mono HB3.out.size))
        have Ox_4 := Lib.hid (Ox_3.out.keep hb4)
        clear hb4
        go_wp2
        go_loopw [12] (fun i wr => ∃ k : Nat, k ≤ mn ∧ i = .int .i64 k ∧ Hid (Below w4.heap.size w4 wr)) (fun i _ => mn - (intOf i).toNat)
        case atStart => exact ⟨0, Nat.zero_le _, rfl, Below.refl _ _⟩
        case round =>
          obtain ⟨k, hkl, rfl, hbl⟩ := hrel
          have HBr := Lib.hid (HB4.out.trans (hbl.out.mono HB4.out.size))
          by_cases hlt : k < mn
          · obtain ⟨v1, ⟨v2, v3⟩, ⟨v4, v5⟩, v6⟩ := Hm6.out k hlt
            rw [Hta.out] at v2 v3 v6
            rw [Htb.out] at v4 v5 v6
            obtain ⟨tc, htc⟩ : ∃ z, TVn lx k at_ = z := ⟨_, rfl⟩
            obtain ⟨td, htd⟩ : ∃ z, TVd lx k at_ = z := ⟨_, rfl⟩
            rw [htc] at v4 v5 v6
            rw [htd] at v2 v3 v6
            have v7 : ¬ tc * tb ≤ ta * td := by omega
            have Htc := Lib.hid htc
            have Htd := Lib.hid htd
            have Hv1 := Lib.hid v1
            have hlt2 : (k : Int) < (mn : Int) := by omega
            have HOr := Lib.hid (Ox_4.out.keep hbl.out)
            clear htc htd v1
            go_wp2_with fail
            refine (TimeVia_any Ax cx lx k at_ wr (Own.rd' encE_len HOr.out) hlx hcx).mono ?_
            rintro e wz ⟨rfl, hbz⟩
            rw [Htc.out, Htd.out, Hv1.out]
            have HBz := Lib.hid (hbl.out.trans (hbz.mono hbl.out.size))
            clear hbz
            go_wp2
            go_roundw
            case rel => exact ⟨k + 1, by omega, by go_num, HBz.out⟩
            case measure => simp [intOf]; omega
          · have hlt2 : ¬ (k : Int) < (mn : Int) := by omega
            go_wp2
            all_goals go_meet
            all_goals exact HBr.out
    case rest =>
      obtain ⟨w50, rfl⟩ : ∃ w50 : World, w50 = wc := ⟨_, rfl⟩
      have HB50 := Lib.hid hcut
      clear hcut
      go_wp2_with fail
      refine (DrawTimeTo_any A0 c0 l0 _ (HR0.out _ HB50.out) hl0 Hby.out).mono ?_
      rintro e w51 ⟨Ay, cy, ly, d, rfl, hlly, hcy, hown, ⟨hd1, hd2⟩, hb51⟩
      have Oy := Lib.hid hown
      have hly : ly.length ≤ 1048576 := by omega
      clear hown
      have HB51 := Lib.hid (HB50.out.trans (hb51.mono HB50.out.size))
      clear hb51
      obtain ⟨na, hna⟩ : ∃ z, TTn ly d = z := ⟨_, rfl⟩
      have Hna := Lib.hid hna
      clear hna
      obtain ⟨nb, hnb⟩ : ∃ z, TTd ly d = z := ⟨_, rfl⟩
      have Hnb := Lib.hid hnb
      clear hnb
      obtain ⟨told, htold⟩ : ∃ z, okTT ly d = z := ⟨_, rfl⟩
      have Htold := Lib.hid htold
      clear htold
      obtain ⟨ma, hma⟩ : ∃ z, MSn ly d = z := ⟨_, rfl⟩
      have Hma := Lib.hid hma
      clear hma
      obtain ⟨mb, hmb⟩ : ∃ z, MSd ly d = z := ⟨_, rfl⟩
      have Hmb := Lib.hid hmb
      clear hmb
      cases told with
      | false =>
        have Hfine : Hid (okMS ly d = false) := by show _ = _; rw [okMS_eq, Htold.out]; rfl
        go_wp2_with fail
        refine (TimeTo_any Ay cy ly d _ (Own.rd' encE_len Oy.out) hly).mono ?_
        rintro e w52 ⟨rfl, hb52⟩
        rw [Hna.out, Hnb.out, Htold.out]
        have HB52 := Lib.hid (HB51.out.trans (hb52.mono HB51.out.size))
        have Oy_52 := Lib.hid (Oy.out.keep hb52)
        clear hb52
        go_wp2_with fail
        refine (sTimeTo_any Ay cy ly d _ (Own.rd' encE_len Oy_52.out) hly).mono ?_
        rintro e w53 ⟨rfl, hb53⟩
        rw [Hna.out, Hnb.out, Htold.out]
        have HB53 := Lib.hid (HB52.out.trans (hb53.mono HB52.out.size))
        have Oy_53 := Lib.hid (Oy_52.out.keep hb53)
        clear hb53
        go_wp2_with fail
        refine (MeanSpeedTo_any Ay cy ly d _ (Own.rd' encE_len Oy_53.out) hly).mono ?_
        rintro e w54 ⟨rfl, hb54⟩
        rw [Hma.out, Hmb.out, Hfine.out]
        have HB54 := Lib.hid (HB53.out.trans (hb54.mono HB53.out.size))
        have Oy_54 := Lib.hid (Oy_53.out.keep hb54)
        clear hb54
        go_wp2_with fail
        refine (sMeanSpeedTo_any Ay cy ly d _ (Own.rd' encE_len Oy_54.out) hly).mono ?_
        rintro e w55 ⟨rfl, hb55⟩
        rw [Hma.out, Hmb.out, Hfine.out]
        have HB55 := Lib.hid (HB54.out.trans (hb55.mono HB54.out.size))
        have Oy_55 := Lib.hid (Oy_54.out.keep hb55)
        clear hb55
        go_wp2_with fail
        refine (DrawModelDepth_any A0 c0 l0 _ (HR0.out _ HB55.out) hl0 Hby.out).mono ?_
        rintro e w56 ⟨Az, cz, lz, rfl, hllz, hcz, hown, hb56⟩
        have Oz := Lib.hid hown
        have hlz : lz.length ≤ 1048576 := by omega
        clear hown
        have HB56 := Lib.hid (HB55.out.trans (hb56.mono HB55.out.size))
        clear hb56
        obtain ⟨n, hn⟩ : ∃ z, DPv lz = z := ⟨_, rfl⟩
        have Hn := Lib.hid hn
        clear hn
        obtain ⟨known, hknown⟩ : ∃ z, goodE lz = z := ⟨_, rfl⟩
        have Hknown := Lib.hid hknown
        clear hknown
        go_wp2_with fail
        refine (ModelDepth_any Az cz lz _ (Own.rd' encE_len Oz.out) hlz).mono ?_
        rintro e w57 ⟨rfl, hb57⟩
        rw [Hn.out, Hknown.out]
        have HB57 := Lib.hid (HB56.out.trans (hb57.mono HB56.out.size))
        have Oz_57 := Lib.hid (Oz.out.keep hb57)
        clear hb57
        go_wp2_with fail
        refine (sModelDepth_any Az cz lz _ w57.heap.size (Own.rd' encE_len Oz_57.out) hlz).mono ?_
        rintro e w' ⟨rfl, rfl⟩
        rw [Hn.out, Hknown.out]
        cases known with
        | false =>
          go_wp2
          go_ret
          exact ⟨rfl, HB57.out⟩
        | true =>
          obtain ⟨z1, z2, z3, z4⟩ := depth_last Hknown.out
          rw [Hn.out] at z1 z2 z3 z4
          have Hz1 := Lib.hid z1
          have Hz2 := Lib.hid z2
          clear z1 z2
          obtain ⟨pa, hpa⟩ : ∃ z, TTn lz n = z := ⟨_, rfl⟩
          have Hpa := Lib.hid hpa
          clear hpa
          obtain ⟨pb, hpb⟩ : ∃ z, TTd lz n = z := ⟨_, rfl⟩
          have Hpb := Lib.hid hpb
          clear hpb
          obtain ⟨qa, hqa⟩ : ∃ z, TTn lz (n + 1) = z := ⟨_, rfl⟩
          have Hqa := Lib.hid hqa
          clear hqa
          obtain ⟨qb, hqb⟩ : ∃ z, TTd lz (n + 1) = z := ⟨_, rfl⟩
          have Hqb := Lib.hid hqb
          clear hqb
          go_wp2_with fail
          refine (TimeTo_any Az cz lz n _ (Own.rd' encE_len Oz_57.out) hlz).mono ?_
          rintro e w58 ⟨rfl, hb58⟩
          rw [Hpa.out, Hpb.out, Hz1.out]
          have HB58 := Lib.hid (HB57.out.trans (hb58.mono HB57.out.size))
          have Oz_58 := Lib.hid (Oz_57.out.keep hb58)
          clear hb58
          go_wp2_with fail
          refine (TimeTo_any Az cz lz (n + 1) _ (Own.rd' encE_len Oz_58.out) hlz).mono ?_
          rintro e w59 ⟨rfl, hb59⟩
          rw [Hqa.out, Hqb.out, Hz2.out]
          have HB59 := Lib.hid (HB58.out.trans (hb59.mono HB58.out.size))
          have Oz_59 := Lib.hid (Oz_58.out.keep hb59)
          clear hb59
          go_wp2
          go_ret
          exact ⟨rfl, HB59.out⟩
      | true =>
        by_cases hd5 : 0 < d
        · obtain ⟨f1, f2, f3, f4⟩ := mean_time Htold.out hd5
          rw [Hma.out, Hmb.out, Hna.out, Hnb.out] at f2
          rw [Hmb.out] at f3 f4
          have Hfine := Lib.hid f1
          have hd6 : d > 0 := hd5
          clear f1
          have Hf2 := Lib.hid f2
          clear f2
          go_wp2_with fail
          refine (TimeTo_any Ay cy ly d _ (Own.rd' encE_len Oy.out) hly).mono ?_
          rintro e w52 ⟨rfl, hb52⟩
          rw [Hna.out, Hnb.out, Htold.out]
          have HB52 := Lib.hid (HB51.out.trans (hb52.mono HB51.out.size))
          have Oy_52 := Lib.hid (Oy.out.keep hb52)
          clear hb52
          go_wp2_with fail
          refine (sTimeTo_any Ay cy ly d _ (Own.rd' encE_len Oy_52.out) hly).mono ?_
          rintro e w53 ⟨rfl, hb53⟩
          rw [Hna.out, Hnb.out, Htold.out]
          have HB53 := Lib.hid (HB52.out.trans (hb53.mono HB52.out.size))
          have Oy_53 := Lib.hid (Oy_52.out.keep hb53)
          clear hb53
          go_wp2_with fail
          refine (MeanSpeedTo_any Ay cy ly d _ (Own.rd' encE_len Oy_53.out) hly).mono ?_
          rintro e w54 ⟨rfl, hb54⟩
          rw [Hma.out, Hmb.out, Hfine.out]
          have HB54 := Lib.hid (HB53.out.trans (hb54.mono HB53.out.size))
          have Oy_54 := Lib.hid (Oy_53.out.keep hb54)
          clear hb54
          go_wp2_with fail
          refine (sMeanSpeedTo_any Ay cy ly d _ (Own.rd' encE_len Oy_54.out) hly).mono ?_
          rintro e w55 ⟨rfl, hb55⟩
          rw [Hma.out, Hmb.out, Hfine.out]
          have HB55 := Lib.hid (HB54.out.trans (hb55.mono HB54.out.size))
          have Oy_55 := Lib.hid (Oy_54.out.keep hb55)
          clear hb55
          have f5 := Hf2.out
          go_wp2_with fail
          refine (DrawModelDepth_any A0 c0 l0 _ (HR0.out _ HB55.out) hl0 Hby.out).mono ?_
          rintro e w56 ⟨Az, cz, lz, rfl, hllz, hcz, hown, hb56⟩
          have Oz := Lib.hid hown
          have hlz : lz.length ≤ 1048576 := by omega
          clear hown
          have HB56 := Lib.hid (HB55.out.trans (hb56.mono HB55.out.size))
          clear hb56
          obtain ⟨n, hn⟩ : ∃ z, DPv lz = z := ⟨_, rfl⟩
          have Hn := Lib.hid hn
          clear hn
          obtain ⟨known, hknown⟩ : ∃ z, goodE lz = z := ⟨_, rfl⟩
          have Hknown := Lib.hid hknown
          clear hknown
          go_wp2_with fail
          refine (ModelDepth_any Az cz lz _ (Own.rd' encE_len Oz.out) hlz).mono ?_
          rintro e w57 ⟨rfl, hb57⟩
          rw [Hn.out, Hknown.out]
          have HB57 := Lib.hid (HB56.out.trans (hb57.mono HB56.out.size))
          have Oz_57 := Lib.hid (Oz.out.keep hb57)
          clear hb57
          go_wp2_with fail
          refine (sModelDepth_any Az cz lz _ w57.heap.size (Own.rd' encE_len Oz_57.out) hlz).mono ?_
          rintro e w' ⟨rfl, rfl⟩
          rw [Hn.out, Hknown.out]
          cases known with
          | false =>
            go_wp2
            go_ret
            exact ⟨rfl, HB57.out⟩
          | true =>
            obtain ⟨z1, z2, z3, z4⟩ := depth_last Hknown.out
            rw [Hn.out] at z1 z2 z3 z4
            have Hz1 := Lib.hid z1
            have Hz2 := Lib.hid z2
            clear z1 z2
            obtain ⟨pa, hpa⟩ : ∃ z, TTn lz n = z := ⟨_, rfl⟩
            have Hpa := Lib.hid hpa
            clear hpa
            obtain ⟨pb, hpb⟩ : ∃ z, TTd lz n = z := ⟨_, rfl⟩
            have Hpb := Lib.hid hpb
            clear hpb
            obtain ⟨qa, hqa⟩ : ∃ z, TTn lz (n + 1) = z := ⟨_, rfl⟩
            have Hqa := Lib.hid hqa
            clear hqa
            obtain ⟨qb, hqb⟩ : ∃ z, TTd lz (n + 1) = z := ⟨_, rfl⟩
            have Hqb := Lib.hid hqb
            clear hqb
            go_wp2_with fail
            refine (TimeTo_any Az cz lz n _ (Own.rd' encE_len Oz_57.out) hlz).mono ?_
            rintro e w58 ⟨rfl, hb58⟩
            rw [Hpa.out, Hpb.out, Hz1.out]
            have HB58 := Lib.hid (HB57.out.trans (hb58.mono HB57.out.size))
            have Oz_58 := Lib.hid (Oz_57.out.keep hb58)
            clear hb58
            go_wp2_with fail
            refine (TimeTo_any Az cz lz (n + 1) _ (Own.rd' encE_len Oz_58.out) hlz).mono ?_
            rintro e w59 ⟨rfl, hb59⟩
            rw [Hqa.out, Hqb.out, Hz2.out]
            have HB59 := Lib.hid (HB58.out.trans (hb59.mono HB58.out.size))
            have Oz_59 := Lib.hid (Oz_58.out.keep hb59)
            clear hb59
            go_wp2
            go_ret
            exact ⟨rfl, HB59.out⟩
        · have Hfine : Hid (okMS ly d = false) := by show _ = _; rw [okMS_eq, Htold.out, decide_eq_false hd5]; rfl
          go_wp2_with fail
          refine (TimeTo_any Ay cy ly d _ (Own.rd' encE_len Oy.out) hly).mono ?_
          rintro e w52 ⟨rfl, hb52⟩
          rw [Hna.out, Hnb.out, Htold.out]
          have HB52 := Lib.hid (HB51.out.trans (hb52.mono HB51.out.size))
          have Oy_52 := Lib.hid (Oy.out.keep hb52)
          clear hb52
          go_wp2_with fail
          refine (sTimeTo_any Ay cy ly d _ (Own.rd' encE_len Oy_52.out) hly).mono ?_
          rintro e w53 ⟨rfl, hb53⟩
          rw [Hna.out, Hnb.out, Htold.out]
          have HB53 := Lib.hid (HB52.out.trans (hb53.mono HB52.out.size))
          have Oy_53 := Lib.hid (Oy_52.out.keep hb53)
          clear hb53
          go_wp2_with fail
          refine (MeanSpeedTo_any Ay cy ly d _ (Own.rd' encE_len Oy_53.out) hly).mono ?_
          rintro e w54 ⟨rfl, hb54⟩
          rw [Hma.out, Hmb.out, Hfine.out]
          have HB54 := Lib.hid (HB53.out.trans (hb54.mono HB53.out.size))
          have Oy_54 := Lib.hid (Oy_53.out.keep hb54)
          clear hb54
          go_wp2_with fail
          refine (sMeanSpeedTo_any Ay cy ly d _ (Own.rd' encE_len Oy_54.out) hly).mono ?_
          rintro e w55 ⟨rfl, hb55⟩
          rw [Hma.out, Hmb.out, Hfine.out]
          have HB55 := Lib.hid (HB54.out.trans (hb55.mono HB54.out.size))
          have Oy_55 := Lib.hid (Oy_54.out.keep hb55)
          clear hb55
          go_wp2_with fail
          refine (DrawModelDepth_any A0 c0 l0 _ (HR0.out _ HB55.out) hl0 Hby.out).mono ?_
          rintro e w56 ⟨Az, cz, lz, rfl, hllz, hcz, hown, hb56⟩
          have Oz := Lib.hid hown
          have hlz : lz.length ≤ 1048576 := by omega
          clear hown
          have HB56 := Lib.hid (HB55.out.trans (hb56.mono HB55.out.size))
          clear hb56
          obtain ⟨n, hn⟩ : ∃ z, DPv lz = z := ⟨_, rfl⟩
          have Hn := Lib.hid hn
          clear hn
          obtain ⟨known, hknown⟩ : ∃ z, goodE lz = z := ⟨_, rfl⟩
          have Hknown := Lib.hid hknown
          clear hknown
          go_wp2_with fail
          refine (ModelDepth_any Az cz lz _ (Own.rd' encE_len Oz.out) hlz).mono ?_
          rintro e w57 ⟨rfl, hb57⟩
          rw [Hn.out, Hknown.out]
          have HB57 := Lib.hid (HB56.out.trans (hb57.mono HB56.out.size))
          have Oz_57 := Lib.hid (Oz.out.keep hb57)
          clear hb57
          go_wp2_with fail
          refine (sModelDepth_any Az cz lz _ w57.heap.size (Own.rd' encE_len Oz_57.out) hlz).mono ?_
          rintro e w' ⟨rfl, rfl⟩
          rw [Hn.out, Hknown.out]
          cases known with
          | false =>
            go_wp2
            go_ret
            exact ⟨rfl, HB57.out⟩
          | true =>
            obtain ⟨z1, z2, z3, z4⟩ := depth_last Hknown.out
            rw [Hn.out] at z1 z2 z3 z4
            have Hz1 := Lib.hid z1
            have Hz2 := Lib.hid z2
            clear z1 z2
            obtain ⟨pa, hpa⟩ : ∃ z, TTn lz n = z := ⟨_, rfl⟩
            have Hpa := Lib.hid hpa
            clear hpa
            obtain ⟨pb, hpb⟩ : ∃ z, TTd lz n = z := ⟨_, rfl⟩
            have Hpb := Lib.hid hpb
            clear hpb
            obtain ⟨qa, hqa⟩ : ∃ z, TTn lz (n + 1) = z := ⟨_, rfl⟩
            have Hqa := Lib.hid hqa
            clear hqa
            obtain ⟨qb, hqb⟩ : ∃ z, TTd lz (n + 1) = z := ⟨_, rfl⟩
            have Hqb := Lib.hid hqb
            clear hqb
            go_wp2_with fail
            refine (TimeTo_any Az cz lz n _ (Own.rd' encE_len Oz_57.out) hlz).mono ?_
            rintro e w58 ⟨rfl, hb58⟩
            rw [Hpa.out, Hpb.out, Hz1.out]
            have HB58 := Lib.hid (HB57.out.trans (hb58.mono HB57.out.size))
            have Oz_58 := Lib.hid (Oz_57.out.keep hb58)
            clear hb58
            go_wp2_with fail
            refine (TimeTo_any Az cz lz (n + 1) _ (Own.rd' encE_len Oz_58.out) hlz).mono ?_
            rintro e w59 ⟨rfl, hb59⟩
            rw [Hqa.out, Hqb.out, Hz2.out]
            have HB59 := Lib.hid (HB58.out.trans (hb59.mono HB58.out.size))
            have Oz_59 := Lib.hid (Oz_58.out.keep hb59)
            clear hb59
            go_wp2
            go_ret
            exact ⟨rfl, HB59.out⟩

end Go.Proofs.Ytadaaooldlaahaa
