/-
  FnTravel: walked.
-/
import Derived.Test.YtadaaooldlaahaaDModel2
import Derived.Deep.CutRange
import Derived.Deep.DeepCutAuto
namespace Go.Proofs.Ytadaaooldlaahaa
set_option linter.unusedVariables false
open Go.RowKit

theorem vBig_any (A : Option Addr) (n c : Nat) (w : World) (hn : n ≤ 9223372036854775807) :
    Calls Try.prog 35 #[.slice A n c] w fun e w' => e = .returned (.bool (decide (65536 < (n : Int)))) ∧ w = w' := by
  by_cases h : 65536 < (n : Int)
  all_goals
    go_enter Try.func35, Try.ntmps35
    go_wp2
    go_ret
    exact ⟨ret_bool (by simp [h]), rfl⟩

/-- What a draw of a list and a number leaves. -/
theorem okF_iff {l : List Earth} {d : Int} : okF l d = true ↔ goodE l = true ∧ 0 ≤ d ∧ d ≤ 2000 := by simp only [okF, Bool.and_eq_true, inB_iff]

/-- A wave via any layer is not faster than the first; via the first it is the first. -/
theorem via_first {l : List Earth} {d : Int} (h : okF l d = true) {k : Nat} (hk : k < l.length) :
    okTV l k d = true ∧ (0 ≤ TVn l k d * FTd l d ∧ TVn l k d * FTd l d ≤ 9223372036854775807) ∧ (0 ≤ FTn l d * TVd l k d ∧ FTn l d * TVd l k d ≤ 9223372036854775807) ∧ ¬ TVn l k d * FTd l d < FTn l d * TVd l k d ∧ ((k : Int) = FVk l d → TVn l k d = FTn l d ∧ TVd l k d = FTd l d) := by
  obtain ⟨hg, hd0, hd1⟩ := okF_iff.1 h
  obtain ⟨ho, h1, h5⟩ := good_oks hg
  have e1 : okTV l k d = true := by simp only [okTV, hg, Bool.true_and, Bool.and_eq_true, inB_iff]; exact ⟨⟨by omega, by omega⟩, hd0, hd1⟩
  have e2 : TVn l k d = viaN l k d := by unfold TVn; rw [if_pos e1, Int.toNat_natCast]
  have e3 : TVd l k d = viaD l k d := by unfold TVd; rw [if_pos e1, Int.toNat_natCast]
  have e4 : FTn l d = fstN l d := by unfold FTn; rw [if_pos h]
  have e5 : FTd l d = fstD l d := by unfold FTd; rw [if_pos h]
  have e6 : FVk l d = (bst l d (l.length - 1) : Int) := by unfold FVk; rw [if_pos h]
  have b1 := via_bd ho h5 k hk d hd0 (by omega)
  have b2 := fst_bd ho h1 h5 d hd0 (by omega)
  have b3 := bst_min ho h5 d hd0 (by omega) (l.length - 1) (by omega) k (by omega)
  rw [e1, e2, e3, e4, e5, e6]
  have p1 := prod_bd b1.2.2.2.2.1 b1.2.2.2.2.2.1 b2.2.2.1 b2.2.2.2
  have p2 := prod_bd b2.1 b2.2.1 b1.2.2.2.2.2.2.1 b1.2.2.2.2.2.2.2.1
  refine ⟨rfl, ⟨p1.1, by omega⟩, ⟨p2.1, by omega⟩, ?_, ?_⟩
  · unfold fstN fstD; omega
  · intro e
    have : k = bst l d (l.length - 1) := by omega
    unfold fstN fstD
    rw [← this]
    exact ⟨rfl, rfl⟩
theorem first_next {l : List Earth} {d : Int} (h : okF l d = true) (hd : d < 2000) :
    okF l (d + 1) = true ∧ (0 ≤ FTn l (d + 1) * FTd l d ∧ FTn l (d + 1) * FTd l d ≤ 9223372036854775807) ∧ (0 ≤ FTn l d * FTd l (d + 1) ∧ FTn l d * FTd l (d + 1) ≤ 9223372036854775807) ∧ ¬ FTn l (d + 1) * FTd l d < FTn l d * FTd l (d + 1) := by
  obtain ⟨hg, hd0, hd1⟩ := okF_iff.1 h
  obtain ⟨ho, h1, h5⟩ := good_oks hg
  have e1 : okF l (d + 1) = true := okF_iff.2 ⟨hg, by omega, by omega⟩
  have b1 := fst_bd ho h1 h5 (d + 1) (by omega) (by omega)
  have b2 := fst_bd ho h1 h5 d hd0 (by omega)
  have b3 := fst_mono ho h1 h5 d (d + 1) hd0 (by omega) (by omega)
  unfold FTn FTd
  simp only [e1, h, if_true]
  have p1 := prod_bd b1.1 b1.2.1 b2.2.2.1 b2.2.2.2
  have p2 := prod_bd b2.1 b2.2.1 b1.2.2.1 b1.2.2.2
  exact ⟨trivial, ⟨p1.1, by omega⟩, ⟨p2.1, by omega⟩, by omega⟩
theorem reach_first {l : List Earth} {s far : Int} (h : okR l s = true) (hr : RchP l s far) :
    okF l far = true ∧ (0 ≤ far ∧ far ≤ 2000) ∧ (0 ≤ s * FTd l far ∧ s * FTd l far ≤ 9223372036854775807) ∧ ¬ FTn l far > s * FTd l far ∧
    (far < 2000 → okF l (far + 1) = true ∧ (0 ≤ s * FTd l (far + 1) ∧ s * FTd l (far + 1) ≤ 9223372036854775807) ∧ ¬ FTn l (far + 1) ≤ s * FTd l (far + 1)) := by
  have h' := h
  simp only [okR, Bool.and_eq_true, inB_iff] at h'
  obtain ⟨hg, hs0, hs1⟩ := h'
  obtain ⟨ho, h1, h5⟩ := good_oks hg
  unfold RchP at hr
  rw [if_pos h] at hr
  obtain ⟨r0, r1, r2, r3⟩ := hr
  have e1 : okF l far = true := okF_iff.2 ⟨hg, r0, r1⟩
  have d1 := within_dec ho h1 h5 s far ⟨hs0, hs1⟩ r0 (by omega)
  have x1 : FTn l far = fstN l far := by unfold FTn; rw [if_pos e1]
  have x2 : FTd l far = fstD l far := by unfold FTd; rw [if_pos e1]
  refine ⟨e1, ⟨r0, r1⟩, ?_, ?_, ?_⟩
  · rw [x2]; omega
  · rw [x1, x2]; unfold within at r2; omega
  · intro hlt
    have e2 : okF l (far + 1) = true := okF_iff.2 ⟨hg, by omega, by omega⟩
    have d2 := within_dec ho h1 h5 s (far + 1) ⟨hs0, hs1⟩ (by omega) (by omega)
    have x3 : FTn l (far + 1) = fstN l (far + 1) := by unfold FTn; rw [if_pos e2]
    have x4 : FTd l (far + 1) = fstD l (far + 1) := by unfold FTd; rw [if_pos e2]
    have := r3 (far + 1) (by omega) (by omega)
    unfold within at this
    exact ⟨e2, by rw [x4]; omega, by rw [x3, x4]; exact this⟩

/-- Contracts of a function called again and again with a list: in whatever world in which the list is read. -/
def AskE (P : World → Prop) (l : List Earth) (A : Option Addr) : Prop := ∀ W, Rd encE 2 W W.heap.size A l → P W

set_option maxRecDepth 100000 in
set_option maxHeartbeats 8000000 in
theorem law_FnTravel (A0 : Option Addr) (c0 : Nat) (l0 : List Int) (w : World) (h0 : Rd encB 1 w w.heap.size A0 l0) (m0 : l0.length ≤ maxLen) (wf0 : ∀ n ∈ l0, (Lit.int .u8 n).wf = true) :
    Calls Try.prog 12 #[.slice A0 l0.length c0] w fun e w' => e = .returned (.bool true) ∧ Below w.heap.size w w' := by
  unfold maxLen at m0
  by_cases hbig : 65536 < (l0.length : Int)
  · go_enter Try.func12, Try.ntmps12
    go_wp2_with fail
    refine (vBig_any _ _ _ _ (by omega)).mono ?_
    rintro e w' ⟨rfl, rfl⟩
    rw [show decide (65536 < (l0.length : Int)) = true from decide_eq_true (by omega)]
    go_wp2
    go_ret
    exact ⟨rfl, Below.refl _ _⟩
  · have hl0 : l0.length ≤ 1048576 := by omega
    have Hby := Lib.hid (bytes_of wf0)
    have HR0 := Lib.hid (fun (W : World) (hW : Below w.heap.size w W) => (h0.below hW).more hW.size)
    clear wf0 h0
    go_enter Try.func12, Try.ntmps12
    go_wp2_with fail
    refine (vBig_any _ _ _ _ (by omega)).mono ?_
    rintro e w' ⟨rfl, rfl⟩
    rw [show decide (65536 < (l0.length : Int)) = false from decide_eq_false (by omega)]
    go_wp2_with fail
    refine (DrawFirstTime_any A0 c0 l0 w (HR0.out _ (Below.refl _ _)) hl0 Hby.out).mono ?_
    rintro e w1 ⟨A1, c1, l, d, rfl, hll, hcc, hown, ⟨hd1, hd2⟩, hb1⟩
    have HO1 := Lib.hid hown
    have HB1 := Lib.hid hb1
    clear hown hb1
    obtain ⟨num, hnum⟩ : ∃ z, FTn l d = z := ⟨_, rfl⟩
    obtain ⟨den, hden⟩ : ∃ z, FTd l d = z := ⟨_, rfl⟩
    obtain ⟨ok, hok⟩ : ∃ z, okF l d = z := ⟨_, rfl⟩
    obtain ⟨via, hvia⟩ : ∃ z, FVk l d = z := ⟨_, rfl⟩
    obtain ⟨gm, hgm⟩ : ∃ z, goodE l = z := ⟨_, rfl⟩
    have Hnum := Lib.hid hnum
    have Hden := Lib.hid hden
    have Hok := Lib.hid hok
    have Hvia := Lib.hid hvia
    have Hgm := Lib.hid hgm
    clear hnum hden hok hvia hgm
    have hl : l.length ≤ 1048576 := by omega
    go_wp2_with fail
    refine (FirstTime_any A1 c1 l d w1 (Own.rd' encE_len HO1.out) hl hcc).mono ?_
    rintro e w2 ⟨rfl, hb2⟩
    rw [Hnum.out, Hden.out, Hok.out]
    have HO2 := Lib.hid (HO1.out.keep hb2)
    have HB2 := Lib.hid (HB1.out.trans (hb2.mono HB1.out.size))
    clear hb2
    go_wp2_with fail
    refine (sFirstTime_any A1 c1 l d w2 (Own.rd' encE_len HO2.out) hl hcc).mono ?_
    rintro e w3 ⟨rfl, hb3⟩
    rw [Hnum.out, Hden.out, Hok.out]
    have HO3 := Lib.hid (HO2.out.keep hb3)
    have HB3 := Lib.hid (HB2.out.trans (hb3.mono HB2.out.size))
    clear hb3
    go_wp2_with fail
    refine (IsModel_any A1 c1 l w3 (Own.rd' encE_len HO3.out) hl).mono ?_
    rintro e w4 ⟨rfl, hb4⟩
    rw [Hgm.out]
    have HO4 := Lib.hid (HO3.out.keep hb4)
    have HB4 := Lib.hid (HB3.out.trans (hb4.mono HB3.out.size))
    clear hb4
    go_wp2_with fail
    refine (sIsModel_any A1 c1 l w4 w4.heap.size (Own.rd' encE_len HO4.out) hl).mono ?_
    rintro e w' ⟨rfl, rfl⟩
    rw [Hgm.out]
    go_wp2_with fail
    refine (FirstVia_any A1 c1 l d w4 (Own.rd' encE_len HO4.out) hl hcc).mono ?_
    rintro e w5 ⟨rfl, hb5⟩
    rw [Hvia.out, Hok.out]
    have HO5 := Lib.hid (HO4.out.keep hb5)
    have HB5 := Lib.hid (HB4.out.trans (hb5.mono HB4.out.size))
    clear hb5
    go_wp2_with fail
    refine (sFirstVia_any A1 c1 l d w5 (Own.rd' encE_len HO5.out) hl hcc).mono ?_
    rintro e w6 ⟨rfl, hb6⟩
    rw [Hvia.out, Hok.out]
    have HO6 := Lib.hid (HO5.out.keep hb6)
    have HB6 := Lib.hid (HB5.out.trans (hb6.mono HB5.out.size))
    clear hb6 HO1 HO2 HO3 HO4 HO5 HB1 HB2 HB3 HB4 HB5
    go_upto_if 109 with (fail)
    go_cut [] (fun wx => Below w.heap.size w wx)
    case first =>
      cases ok with
      | false =>
        go_wp2_with fail
        all_goals go_meet
        all_goals exact HB6.out
      | true =>
        have hokt : okF l d = true := Hok.out
        have Hv := Lib.hid (fun (k : Nat) (hk : k < l.length) => via_first hokt hk)
        have Hn := Lib.hid (fun (hd : d < 2000) => first_next hokt hd)
        have hdd := (okF_iff.1 hokt).2
        obtain ⟨hd3, hd4⟩ := hdd
        clear hokt
        go_wp2
        go_loopw [15] (fun i wr => ∃ k : Nat, k ≤ l.length ∧ i = .int .i64 k ∧ Hid (Below w6.heap.size w6 wr)) (fun i _ => l.length - (intOf i).toNat)
        case atStart => exact ⟨0, Nat.zero_le _, rfl, Below.refl _ _⟩
        case round =>
          obtain ⟨k, hkl, rfl, hbl⟩ := hrel
          by_cases hlt : k < l.length
          · obtain ⟨v1, ⟨v2, v3⟩, ⟨v4, v5⟩, v6, v7⟩ := Hv.out k hlt
            have hlt2 : (k : Int) < (l.length : Int) := by omega
            obtain ⟨ta, hta⟩ : ∃ z, TVn l k d = z := ⟨_, rfl⟩
            obtain ⟨tb, htb⟩ : ∃ z, TVd l k d = z := ⟨_, rfl⟩
            rw [hta, Hden.out] at v2 v3 v6
            rw [htb, Hnum.out] at v4 v5 v6
            rw [hta, htb, Hnum.out, Hden.out, Hvia.out] at v7
            have Hta := Lib.hid hta
            have Htb := Lib.hid htb
            have Hv1 := Lib.hid v1
            clear hta htb v1
            have HOr := Lib.hid (HO6.out.keep hbl.out)
            by_cases hkv : (k : Int) = via
            · obtain ⟨ea, eb⟩ := v7 hkv
              subst ea eb
              have hkv' : ((k : Int) == via) = true := by simpa using hkv
              clear hkv v6
              go_wp2_with fail
              refine (TimeVia_any A1 c1 l k d wr (Own.rd' encE_len HOr.out) hl hcc).mono ?_
              rintro e w7 ⟨rfl, hb7⟩
              rw [Hta.out, Htb.out, Hv1.out]
              have HB7 := Lib.hid (hbl.out.trans (hb7.mono hbl.out.size))
              clear hb7
              go_wp2
              go_roundw
              case rel => exact ⟨k + 1, by omega, by go_num, HB7.out⟩
              case measure => simp [intOf]; omega
            · have hkv' : ((k : Int) == via) = false := by simpa using hkv
              clear hkv v7
              go_wp2_with fail
              refine (TimeVia_any A1 c1 l k d wr (Own.rd' encE_len HOr.out) hl hcc).mono ?_
              rintro e w7 ⟨rfl, hb7⟩
              rw [Hta.out, Htb.out, Hv1.out]
              have HB7 := Lib.hid (hbl.out.trans (hb7.mono hbl.out.size))
              clear hb7
              go_wp2
              go_roundw
              case rel => exact ⟨k + 1, by omega, by go_num, HB7.out⟩
              case measure => simp [intOf]; omega
          · have hlt2 : ¬ (k : Int) < (l.length : Int) := by omega
            have HBr := Lib.hid (HB6.out.trans (hbl.out.mono HB6.out.size))
            by_cases hd5 : d < 2000
            · obtain ⟨n1, ⟨n2, n3⟩, ⟨n4, n5⟩, n6⟩ := Hn.out hd5
              obtain ⟨ta, hta⟩ : ∃ z, FTn l (d + 1) = z := ⟨_, rfl⟩
              obtain ⟨tb, htb⟩ : ∃ z, FTd l (d + 1) = z := ⟨_, rfl⟩
              rw [hta, Hden.out] at n2 n3 n6
              rw [htb, Hnum.out] at n4 n5 n6
              have Hta := Lib.hid hta
              have Htb := Lib.hid htb
              have Hn1 := Lib.hid n1
              clear hta htb n1
              have HOr := Lib.hid (HO6.out.keep hbl.out)
              go_wp2_with fail
              refine (FirstTime_any A1 c1 l (d + 1) wr (Own.rd' encE_len HOr.out) hl hcc).mono ?_
              rintro e w7 ⟨rfl, hb7⟩
              rw [Hta.out, Htb.out, Hn1.out]
              have HB7 := Lib.hid (HBr.out.trans (hb7.mono HBr.out.size))
              clear hb7
              go_wp2
              all_goals go_meet
              all_goals exact HB7.out
            · go_wp2
              all_goals go_meet
              all_goals exact HBr.out
    case rest =>
      obtain ⟨w7, rfl⟩ : ∃ w7 : World, w7 = wc := ⟨_, rfl⟩
      have HB7 := Lib.hid hcut
      clear hcut HO6 HB6 Hnum Hden Hok Hvia Hgm
      go_wp2_with fail
      refine (DrawReachIn_any A0 c0 l0 w7 (HR0.out _ HB7.out) hl0 Hby.out).mono ?_
      rintro e w8 ⟨A2, c2, l2, s, rfl, hll2, hcc2, hown, ⟨hs1, hs2⟩, hb8⟩
      have HO8 := Lib.hid hown
      have HB8 := Lib.hid (HB7.out.trans (hb8.mono HB7.out.size))
      have hl2 : l2.length ≤ 1048576 := by omega
      clear hown hb8
      go_wp2_with fail
      refine (ReachIn_any A2 c2 l2 s w8 (Own.rd' encE_len HO8.out) hl2 hcc2).mono ?_
      rintro e w9 ⟨⟨far, rfl, hfar⟩, hb9⟩
      have HO9 := Lib.hid (HO8.out.keep hb9)
      have HB9 := Lib.hid (HB8.out.trans (hb9.mono HB8.out.size))
      have Hfar := Lib.hid hfar
      clear hfar hb9
      obtain ⟨fine, hfine⟩ : ∃ z, okR l2 s = z := ⟨_, rfl⟩
      have Hfine := Lib.hid hfine
      rw [hfine]
      clear hfine
      go_wp2_with fail
      refine (sReachIn_any A2 c2 l2 s w9 (Own.rd' encE_len HO9.out) hl2 hcc2).mono ?_
      rintro e w10 ⟨⟨far', rfl, hfar'⟩, hb10⟩
      have hfe : far' = far := hfar'.unique Hfar.out
      subst hfe
      rw [Hfine.out]
      have HO10 := Lib.hid (HO9.out.keep hb10)
      have HB10 := Lib.hid (HB9.out.trans (hb10.mono HB9.out.size))
      clear hfar' hb10 HO8 HO9 HB8 HB9
      go_upto_if 196 with (fail)
      go_cut [] (fun wx => Below w.heap.size w wx)
      case first =>
        cases fine with
        | false =>
          go_wp2_with fail
          all_goals go_meet
          all_goals exact HB10.out
        | true =>
          obtain ⟨r1, ⟨r2, r3⟩, ⟨r4, r5⟩, r6, r7⟩ := reach_first Hfine.out Hfar.out
          obtain ⟨ta, hta⟩ : ∃ z, FTn l2 far' = z := ⟨_, rfl⟩
          obtain ⟨tb, htb⟩ : ∃ z, FTd l2 far' = z := ⟨_, rfl⟩
          rw [htb] at r4 r5 r6
          rw [hta] at r6
          have Hta := Lib.hid hta
          have Htb := Lib.hid htb
          have Hr1 := Lib.hid r1
          have Hr7 := Lib.hid r7
          clear hta htb r1 r7
          go_wp2_with fail
          refine (FirstTime_any A2 c2 l2 far' w10 (Own.rd' encE_len HO10.out) hl2 hcc2).mono ?_
          rintro e w11 ⟨rfl, hb11⟩
          rw [Hta.out, Htb.out, Hr1.out]
          have HO11 := Lib.hid (HO10.out.keep hb11)
          have HB11 := Lib.hid (HB10.out.trans (hb11.mono HB10.out.size))
          clear hb11
          by_cases hd5 : far' < 2000
          · obtain ⟨n1, ⟨n4, n5⟩, n6⟩ := Hr7.out hd5
            obtain ⟨ua, hua⟩ : ∃ z, FTn l2 (far' + 1) = z := ⟨_, rfl⟩
            obtain ⟨ub, hub⟩ : ∃ z, FTd l2 (far' + 1) = z := ⟨_, rfl⟩
            rw [hub] at n4 n5 n6
            rw [hua] at n6
            have Hua := Lib.hid hua
            have Hub := Lib.hid hub
            have Hn1 := Lib.hid n1
            clear hua hub n1
            go_wp2_with fail
            refine (FirstTime_any A2 c2 l2 (far' + 1) w11 (Own.rd' encE_len HO11.out) hl2 hcc2).mono ?_
            rintro e w12 ⟨rfl, hb12⟩
            rw [Hua.out, Hub.out, Hn1.out]
            have HB12 := Lib.hid (HB11.out.trans (hb12.mono HB11.out.size))
            clear hb12
            go_wp2
            all_goals go_meet
            all_goals exact HB12.out
          · go_wp2
            all_goals go_meet
            all_goals exact HB11.out
      case rest =>
        obtain ⟨w13, rfl⟩ : ∃ w13 : World, w13 = wc := ⟨_, rfl⟩
        have HB13 := Lib.hid hcut
        clear hcut HO10 HB10 Hfine Hfar
        go_wp2_with fail
        refine (DrawTimeVia_any A0 c0 l0 w13 (HR0.out _ HB13.out) hl0 Hby.out).mono ?_
        rintro e w14 ⟨A3, c3, l3, y, d3, rfl, hll3, hcc3, hown, ⟨hy1, hy2⟩, ⟨hd31, hd32⟩, hb14⟩
        have HO14 := Lib.hid hown
        have HB14 := Lib.hid (HB13.out.trans (hb14.mono HB13.out.size))
        have hl3 : l3.length ≤ 1048576 := by omega
        clear hown hb14
        obtain ⟨ta, hta⟩ : ∃ z, TVn l3 y d3 = z := ⟨_, rfl⟩
        obtain ⟨tb, htb⟩ : ∃ z, TVd l3 y d3 = z := ⟨_, rfl⟩
        obtain ⟨tc, htc⟩ : ∃ z, okTV l3 y d3 = z := ⟨_, rfl⟩
        have Hta := Lib.hid hta
        have Htb := Lib.hid htb
        have Htc := Lib.hid htc
        clear hta htb htc
        go_wp2_with fail
        refine (TimeVia_any A3 c3 l3 y d3 w14 (Own.rd' encE_len HO14.out) hl3 hcc3).mono ?_
        rintro e w15 ⟨rfl, hb15⟩
        rw [Hta.out, Htb.out, Htc.out]
        have HO15 := Lib.hid (HO14.out.keep hb15)
        have HB15 := Lib.hid (HB14.out.trans (hb15.mono HB14.out.size))
        clear hb15
        go_wp2_with fail
        refine (sTimeVia_any A3 c3 l3 y d3 w15 (Own.rd' encE_len HO15.out) hl3 hcc3).mono ?_
        rintro e w16 ⟨rfl, hb16⟩
        rw [Hta.out, Htb.out, Htc.out]
        have HB16 := Lib.hid (HB15.out.trans (hb16.mono HB15.out.size))
        clear hb16
        go_wp2
        go_ret
        exact ⟨rfl, HB16.out⟩

end Go.Proofs.Ytadaaooldlaahaa
