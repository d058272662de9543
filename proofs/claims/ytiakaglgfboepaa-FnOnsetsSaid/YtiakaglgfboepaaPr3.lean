/-
  Contract of the reference's PairedPicks. (Printed by gen_A9.py.)
-/
import Derived.Test.YtiakaglgfboepaaPr2
import Derived.Test.YtiakaglgfboepaaFind
import Derived.BigRegion
import Derived.Deep.CutRange
import Derived.Deep.DeepCutAuto
namespace Go.Proofs.Ytiakaglgfboepaa
set_option linter.unusedVariables false
open Go.RowKit

/-- What is left by the statement that takes two picks. -/
def LeftTwo (wr : World) (x y : Pick) (p q : Value) (W : World) : Prop := ∃ a b, p = .pointer (some ⟨a, 0, none⟩) ∧ q = .pointer (some ⟨b, 0, none⟩) ∧ Blk W a 25 #[.int .i64 x.id, .int .i64 x.station, .int .i64 x.wave, .int .i64 x.tick, .int .i64 x.err, .int .i64 x.by_, .int .i64 x.after_] ∧ Blk W b 25 #[.int .i64 y.id, .int .i64 y.station, .int .i64 y.wave, .int .i64 y.tick, .int .i64 y.err, .int .i64 y.by_, .int .i64 y.after_] ∧ Below wr.heap.size wr W
theorem left_two1 (wr : World) (x y : Pick) : LeftTwo wr x y (.pointer (some ⟨wr.heap.size, 0, none⟩)) (.pointer (some ⟨wr.heap.size + 1, 0, none⟩)) (((wr.alloc (.cells #[.int .i64 x.id, .int .i64 x.station, .int .i64 x.wave, .int .i64 x.tick, .int .i64 x.err, .int .i64 x.by_, .int .i64 x.after_] 25)).alloc (.cells #[.int .i64 y.id, .int .i64 y.station, .int .i64 y.wave, .int .i64 y.tick, .int .i64 y.err, .int .i64 y.by_, .int .i64 y.after_] 25))).drew :=
  ⟨_, _, rfl, rfl, ((Blk.new wr _ _).alloc _).drew, by have := (Blk.new (wr.alloc (.cells #[.int .i64 x.id, .int .i64 x.station, .int .i64 x.wave, .int .i64 x.tick, .int .i64 x.err, .int .i64 x.by_, .int .i64 x.after_] 25)) 25 #[.int .i64 y.id, .int .i64 y.station, .int .i64 y.wave, .int .i64 y.tick, .int .i64 y.err, .int .i64 y.by_, .int .i64 y.after_]).drew; simpa using this, by (repeat (first | with_reducible exact Below.refl _ _ | with_reducible assumption | with_reducible refine Below.setCell ?_ (by simp <;> omega) _ | with_reducible refine Below.alloc ?_ (by first | omega | (simp <;> omega)) _ | with_reducible refine Below.drew ?_ | with_reducible refine below_drewN ?_ _))⟩
theorem left_two2 (wr : World) (x y : Pick) : LeftTwo wr x y (.pointer (some ⟨wr.heap.size + 1, 0, none⟩)) (.pointer (some ⟨wr.heap.size, 0, none⟩)) (((wr.alloc (.cells #[.int .i64 y.id, .int .i64 y.station, .int .i64 y.wave, .int .i64 y.tick, .int .i64 y.err, .int .i64 y.by_, .int .i64 y.after_] 25)).alloc (.cells #[.int .i64 x.id, .int .i64 x.station, .int .i64 x.wave, .int .i64 x.tick, .int .i64 x.err, .int .i64 x.by_, .int .i64 x.after_] 25))).drew :=
  ⟨_, _, rfl, rfl, by have := (Blk.new (wr.alloc (.cells #[.int .i64 y.id, .int .i64 y.station, .int .i64 y.wave, .int .i64 y.tick, .int .i64 y.err, .int .i64 y.by_, .int .i64 y.after_] 25)) 25 #[.int .i64 x.id, .int .i64 x.station, .int .i64 x.wave, .int .i64 x.tick, .int .i64 x.err, .int .i64 x.by_, .int .i64 x.after_]).drew; simpa using this, ((Blk.new wr _ _).alloc _).drew, by (repeat (first | with_reducible exact Below.refl _ _ | with_reducible assumption | with_reducible refine Below.setCell ?_ (by simp <;> omega) _ | with_reducible refine Below.alloc ?_ (by first | omega | (simp <;> omega)) _ | with_reducible refine Below.drew ?_ | with_reducible refine below_drewN ?_ _))⟩

set_option maxRecDepth 100000 in
set_option maxHeartbeats 4000000 in
theorem sPairedPicks_any (A : Option Addr) (c : Nat) (l : List Pick) (w : World) (h : Rd encP 7 w w.heap.size A l) (hl : l.length ≤ 1048576) (hc : l.length ≤ c ∧ c ≤ maxLen) (st : Int) :
    Calls Try.prog 40 #[.slice A l.length c, .int .i64 st] w fun e w' => ∃ A' c', e = .returned (.tuple #[.slice A' (prL l st).length c', .bool (okPr l st)]) ∧ ((prL l st).length ≤ c' ∧ c' ≤ maxLen) ∧ OwnSS w' w.heap.size w'.heap.size A' (prL l st).length c' (prL l st) ∧ Below w.heap.size w w' := by
  unfold prL
  have hB0 : Below w.heap.size w (w.alloc (.cells #[] 42)) := by (repeat (first | with_reducible exact Below.refl _ _ | with_reducible assumption | with_reducible refine Below.setCell ?_ (by simp <;> omega) _ | with_reducible refine Below.alloc ?_ (by first | omega | (simp <;> omega)) _ | with_reducible refine Below.drew ?_ | with_reducible refine below_drewN ?_ _))
  have HOV0 := Lib.hid (OwnV.empty w w.heap.size (Nat.le_refl _))
  have hr0 := (h.below hB0).more hB0.size
  cases hp : picksS l with
  | false =>
    have hk : okPr l st = false := by simp [okPr, hp]
    simp only [hk, Bool.false_eq_true, if_false, List.length_nil]
    clear hk
    go_enter Try.func40, Try.ntmps40
    go_wp2_with fail
    refine (l7Good_any A c l _ hr0 hl hc).mono ?_
    rintro e w1 ⟨rfl, hb1⟩
    rw [hp]
    obtain ⟨A9, c9, e9, hc9, hss⟩ := (HOV0.out.keep hb1).done
    injection e9 with e1 e2 e3
    subst e1 e3
    have Hss := Lib.hid hss
    clear hss e2
    go_wp2
    go_ret2
    exact ⟨_, _, rfl, ⟨Nat.le_refl _, Nat.zero_le _⟩, Hss.out, hB0.trans (hb1.mono hB0.size)⟩
  | true =>
    cases hin : inB st 1 99 with
    | false =>
      have hk : okPr l st = false := by simp [okPr, hin]
      simp only [hk, Bool.false_eq_true, if_false, List.length_nil]
      clear hk
      go_enter Try.func40, Try.ntmps40
      go_wp2_with fail
      refine (l7Good_any A c l _ hr0 hl hc).mono ?_
      rintro e w1 ⟨rfl, hb1⟩
      rw [hp]
      obtain ⟨A9, c9, e9, hc9, hss⟩ := (HOV0.out.keep hb1).done
      injection e9 with e1 e2 e3
      subst e1 e3
      have Hss := Lib.hid hss
      clear hss e2
      go_wp2_with (go_at_call 82; refine (l1In_any _ _ _ _).mono ?_; rintro e w' ⟨rfl, rfl⟩; rw [hin])
      go_ret2
      exact ⟨_, _, rfl, ⟨Nat.le_refl _, Nat.zero_le _⟩, Hss.out, hB0.trans (hb1.mono hB0.size)⟩
    | true =>
      have hk : okPr l st = true := by simp [okPr, hp, hin]
      simp only [hk, if_true]
      clear hk
      obtain ⟨i0, hi, hz0, hz1, hz2⟩ := info_parts infoG
      have hT : prP l st = sTab l st l.length := (sTab_all l st).symm
      rw [hT]
      have h12 := (picksS_iff hp).2.1
      have Hg := Lib.hid (fun x hx => goodP_iff.1 (picksS_good hp (x := x) hx))
      have HR := Lib.hid (fun (W : World) (hW : Below w.heap.size w W) => h.below hW)
      have HCur := Lib.hid (fun (W : World) (hW : Below w.heap.size w W) (id : Int) => l7Current_any A l.length c l id W w.heap.size rfl (h.below hW) hl)
      have Hl12 := Lib.hid h12
      clear hT h12
      go_enter Try.func40, Try.ntmps40
      go_wp2_with fail
      refine (l7Good_any A c l _ hr0 hl hc).mono ?_
      rintro e w1 ⟨rfl, hb1⟩
      rw [hp]
      have HOV1 := Lib.hid (HOV0.out.keep hb1)
      have HB1 := Lib.hid (hB0.trans (hb1.mono hB0.size))
      clear hb1 hr0 hp
      go_wp2_with (go_at_call 82; refine (l1In_any _ _ _ _).mono ?_; rintro e w' ⟨rfl, rfl⟩; rw [hin])
      clear hin
      go_loopw [6, 7] (fun v i wr => ∃ k : Nat, k ≤ l.length ∧ i = .int .i64 k ∧ Hid (OwnV wr w.heap.size v (sTab l st k)) ∧ Hid (Below w.heap.size w wr)) (fun _ i _ => l.length - (intOf i).toNat)
      case atStart => exact ⟨0, Nat.zero_le _, rfl, (by show OwnV _ _ _ _; rw [sTab_zero]; exact HOV1.out), HB1.out⟩
      case round =>
        obtain ⟨k, hkl, rfl, hown, hbl⟩ := hrel
        by_cases hlt : k < l.length
        · have HTs := Lib.hid (sTab_succ l st k hlt)
          have hTl : (sTab l st k).length ≤ 144 := sTab_len Hl12.out st k
          obtain ⟨b, off, hA, hb, c0, c1, c2, c3, c4, c5, c6⟩ := cellsP (HR.out _ hbl.out) hlt
          subst hA
          have hgx := Hg.out _ (List.getElem_mem hlt)
          obtain ⟨x, hx⟩ : ∃ x, l[k] = x := ⟨_, rfl⟩
          rw [hx] at HTs hgx
          have hkx := Lib.hid hx
          obtain ⟨T, hT⟩ : ∃ T, sTab l st k = T := ⟨_, rfl⟩
          rw [hT] at HTs hown hTl
          clear hT hx c0 c1 c2 c3 c4 c5 c6
          go_wp2
          obtain ⟨wo, rfl⟩ : ∃ wo : World, wo = wr := ⟨_, rfl⟩
          go_loopw [6, 8] (fun v i wi => ∃ j : Nat, j ≤ l.length ∧ i = .int .i64 j ∧ Hid (OwnV wi w.heap.size v (T ++ sRow l st x j)) ∧ Hid (Below w.heap.size w wi)) (fun _ i _ => l.length - (intOf i).toNat)
          case atStart => exact ⟨0, Nat.zero_le _, rfl, (by show OwnV _ _ _ _; rw [sRow_zero, List.append_nil]; exact hown.out), hbl.out⟩
          case round =>
            obtain ⟨wi, rfl⟩ : ∃ wi : World, wi = wr := ⟨_, rfl⟩
            obtain ⟨j, hjl, rfl, hown, hbli⟩ := hrel
            by_cases hjt : j < l.length
            · have hRs : T ++ sRow l st x (j + 1) = T ++ sRow l st x j ++ (if (okW l st 0 x && okW l st 1 l[j] && ltW x l[j]) = true then [(x.id, l[j].id)] else []) := by rw [sRow_succ l st x j hjt, List.append_assoc]
              have hRl : (T ++ sRow l st x j).length ≤ 1000 := by
                have h1 := sRow_len Hl12.out st x j
                rw [List.length_append]; omega
              have hgy := Hg.out _ (List.getElem_mem hjt)
              obtain ⟨b', off', e', hb', d0, d1, d2, d3, d4, d5, d6⟩ := cellsP (HR.out _ hbli.out) hjt
              injection e' with e'
              injection e' with e1 e2
              subst e1 e2
              obtain ⟨b', off', e', hb', c0, c1, c2, c3, c4, c5, c6⟩ := cellsP (HR.out _ hbli.out) hlt
              injection e' with e'
              injection e' with e1 e2
              subst e1 e2
              obtain ⟨y, hy⟩ : ∃ y, l[j] = y := ⟨_, rfl⟩
              rw [hy] at d0 d1 d2 d3 d4 d5 d6 hRs hgy
              rw [hkx.out] at c0 c1 c2 c3 c4 c5 c6
              have hbw : b < wi.heap.size := Nat.lt_of_lt_of_le hb' hbli.out.size
              have hbw1 : b < wi.heap.size + 1 := by omega
              have hbw2 : ¬ b = wi.heap.size := by omega
              have hbw3 : ¬ b = wi.heap.size + 1 := by omega
              clear hy
              go_upto_region 10 with (fail)
              go_cut [9, 10] from 27 to 93 (fun p q wx => LeftTwo wi x y p q wx)
              case first =>
                go_region
                all_goals go_wp2_with fail
                all_goals go_meet
                all_goals first | exact left_two1 _ _ _ | exact left_two2 _ _ _
              case rest =>
                obtain ⟨pa, pb, rfl, rfl, hX, hY, hwz⟩ := hcut
                obtain ⟨wy, rfl⟩ : ∃ wy : World, wy = wc := ⟨_, rfl⟩
                have HO7 := Lib.hid (hown.out.keep hwz)
                have hB7 := hbli.out.trans (hwz.mono hbli.out.size)
                have HB7 := Lib.hid hB7
                obtain ⟨x0, x1, x2, x3, x4, x5, x6⟩ := box7 hX
                obtain ⟨y0, y1, y2, y3, y4, y5, y6⟩ := box7 hY
                have hXl := hX.lt
                have hYl := hY.lt
                clear hX hY hwz hown c0 c1 c2 c3 c4 c5 c6 d0 d1 d2 d3 d4 d5 d6
                cases e1 : (x.station == st) with
                | false =>
                  have hf : (okW l st 0 x && okW l st 1 y && ltW x y) = false := by simp [okW, e1]
                  rw [hf, if_neg (by simp), List.append_nil] at hRs
                  have HRs := Lib.hid hRs
                  clear hRs hf
                  go_wp2
                  go_roundw
                  case rel => exact ⟨j + 1, by omega, by go_num, by rw [HRs.out]; exact HO7.out, HB7.out⟩
                  case measure => simp [intOf]; omega
                | true =>
                  cases e2 : (y.station == st) with
                  | false =>
                    have hf : (okW l st 0 x && okW l st 1 y && ltW x y) = false := by simp [okW, e1, e2]
                    rw [hf, if_neg (by simp), List.append_nil] at hRs
                    have HRs := Lib.hid hRs
                    clear hRs hf
                    go_wp2
                    go_roundw
                    case rel => exact ⟨j + 1, by omega, by go_num, by rw [HRs.out]; exact HO7.out, HB7.out⟩
                    case measure => simp [intOf]; omega
                  | true =>
                    cases e3 : (x.wave == 0) with
                    | false =>
                      have hf : (okW l st 0 x && okW l st 1 y && ltW x y) = false := by simp [okW, e1, e2, e3]
                      rw [hf, if_neg (by simp), List.append_nil] at hRs
                      have HRs := Lib.hid hRs
                      clear hRs hf
                      go_wp2
                      go_roundw
                      case rel => exact ⟨j + 1, by omega, by go_num, by rw [HRs.out]; exact HO7.out, HB7.out⟩
                      case measure => simp [intOf]; omega
                    | true =>
                      cases e4 : (y.wave == 1) with
                      | false =>
                        have hf : (okW l st 0 x && okW l st 1 y && ltW x y) = false := by simp [okW, e1, e2, e3, e4]
                        rw [hf, if_neg (by simp), List.append_nil] at hRs
                        have HRs := Lib.hid hRs
                        clear hRs hf
                        go_wp2
                        go_roundw
                        case rel => exact ⟨j + 1, by omega, by go_num, by rw [HRs.out]; exact HO7.out, HB7.out⟩
                        case measure => simp [intOf]; omega
                      | true =>
                        cases e5 : curP l x.id with
                        | false =>
                          have hf : (okW l st 0 x && okW l st 1 y && ltW x y) = false := by simp [okW, e1, e2, e3, e4, e5]
                          rw [hf, if_neg (by simp), List.append_nil] at hRs
                          have HRs := Lib.hid hRs
                          clear hRs hf
                          go_wp2_with (go_at_call 80; refine (HCur.out _ (by (repeat (first | with_reducible exact Below.refl _ _ | with_reducible assumption | with_reducible refine Below.setCell ?_ (by simp <;> omega) _ | with_reducible refine Below.alloc ?_ (by first | omega | (simp <;> omega)) _ | with_reducible refine Below.drew ?_ | with_reducible refine below_drewN ?_ _))) _).mono ?_; rintro e w' ⟨rfl, rfl⟩; (first | rw [e5]))
                          go_roundw
                          case rel => exact ⟨j + 1, by omega, by go_num, by rw [HRs.out]; exact HO7.out, HB7.out⟩
                          case measure => simp [intOf]; omega
                        | true =>
                          cases e6 : curP l y.id with
                          | false =>
                            have hf : (okW l st 0 x && okW l st 1 y && ltW x y) = false := by simp [okW, e1, e2, e3, e4, e5, e6]
                            rw [hf, if_neg (by simp), List.append_nil] at hRs
                            have HRs := Lib.hid hRs
                            clear hRs hf
                            go_wp2_with (go_at_call 80; refine (HCur.out _ (by (repeat (first | with_reducible exact Below.refl _ _ | with_reducible assumption | with_reducible refine Below.setCell ?_ (by simp <;> omega) _ | with_reducible refine Below.alloc ?_ (by first | omega | (simp <;> omega)) _ | with_reducible refine Below.drew ?_ | with_reducible refine below_drewN ?_ _))) _).mono ?_; rintro e w' ⟨rfl, rfl⟩; (first | rw [e5] | rw [e6]))
                            go_roundw
                            case rel => exact ⟨j + 1, by omega, by go_num, by rw [HRs.out]; exact HO7.out, HB7.out⟩
                            case measure => simp [intOf]; omega
                          | true =>
                            cases hv : ltW x y with
                            | false =>
                              have hlt2 : ¬ x.tick + x.err < y.tick - y.err := fun h => by rw [ltW_dec.2 h] at hv; cases hv
                              have hf : (okW l st 0 x && okW l st 1 y && ltW x y) = false := by simp [hv]
                              rw [hf, if_neg (by simp), List.append_nil] at hRs
                              have HRs := Lib.hid hRs
                              clear hRs hf hv
                              go_wp2_with (go_at_call 80; refine (HCur.out _ (by (repeat (first | with_reducible exact Below.refl _ _ | with_reducible assumption | with_reducible refine Below.setCell ?_ (by simp <;> omega) _ | with_reducible refine Below.alloc ?_ (by first | omega | (simp <;> omega)) _ | with_reducible refine Below.drew ?_ | with_reducible refine below_drewN ?_ _))) _).mono ?_; rintro e w' ⟨rfl, rfl⟩; (first | rw [e5] | rw [e6]))
                              go_roundw
                              case rel => exact ⟨j + 1, by omega, by go_num, by rw [HRs.out]; exact HO7.out, HB7.out⟩
                              case measure => simp [intOf]; omega
                            | true =>
                              have hlt2 : x.tick + x.err < y.tick - y.err := ltW_dec.1 hv
                              have hf : (okW l st 0 x && okW l st 1 y && ltW x y) = true := by simp [okW, e1, e2, e3, e4, e5, e6, hv]
                              rw [hf, if_pos rfl] at hRs
                              have HRs := Lib.hid hRs
                              generalize T ++ sRow l st x j = L at *
                              obtain ⟨gs, o, hnd, hgs, P⟩ := HO7.out
                              obtain ⟨A9, c9, rfl, hc9, _⟩ := Own.form encG_len o
                              have hgl : gs.length ≤ 1048576 := by have := P.1; omega
                              have HP := Lib.hid P
                              have Hgs := Lib.hid hgs
                              have Hnd := Lib.hid hnd
                              have Ho := Lib.hid o
                              have hBg : Below wy.heap.size wy (wy.alloc (.cells #[.int .i64 x.id, .int .i64 y.id] 3)) := by (repeat (first | with_reducible exact Below.refl _ _ | with_reducible assumption | with_reducible refine Below.setCell ?_ (by simp <;> omega) _ | with_reducible refine Below.alloc ?_ (by first | omega | (simp <;> omega)) _ | with_reducible refine Below.drew ?_ | with_reducible refine below_drewN ?_ _))
                              have HBg := Lib.hid hBg
                              have Ho2 := Lib.hid (Ho.out.keep hBg)
                              have HG := Lib.hid (Blk.new wy 3 #[.int .i64 x.id, .int .i64 y.id])
                              have hsy := HB7.out.size
                              clear hRs hv hf P hgs hnd o hBg
                              go_wp2_with (first | (go_at_call 80; refine (HCur.out _ (by (repeat (first | with_reducible exact Below.refl _ _ | with_reducible assumption | with_reducible refine Below.setCell ?_ (by simp <;> omega) _ | with_reducible refine Below.alloc ?_ (by first | omega | (simp <;> omega)) _ | with_reducible refine Below.drew ?_ | with_reducible refine below_drewN ?_ _))) _).mono ?_; rintro e w' ⟨rfl, rfl⟩; (first | rw [e5] | rw [e6])) | (at_builtin; refine wpList_app1q rfl _ _ 50 rfl w.heap.size 42 i0 _ 1 24 Try.underlying50 hi hz0 hz1 hz2 rfl (by omega) (by omega) encG encG_len encG_one (.slice A9 gs.length c9) gs wy.heap.size (wy.alloc (.cells #[.int .i64 x.id, .int .i64 y.id] 3)) _ rfl _ (wy.heap.size + 1) (by simp) rfl Ho2.out rfl hgl (by simp; omega) ?_; intro v9 w9 hown9 hb9 hg9))
                              have HV9 := Lib.hid (OwnV.push (p := (x.id, y.id)) Ho.out Hnd.out Hgs.out HP.out HBg.out (g := wy.heap.size) (Nat.le_refl _) hsy HG.out hown9 hg9)
                              have HB9 := Lib.hid ((HB7.out.alloc hsy _).trans hb9)
                              clear hown9 hg9 hb9
                              go_wp2
                              go_roundw
                              case rel => exact ⟨j + 1, by omega, by go_num, by rw [HRs.out]; exact HV9.out, HB9.out⟩
                              case measure => simp [intOf]; omega
            · have hje : j = l.length := by omega
              subst hje
              rw [← HTs.out] at hown
              go_wp2
              go_roundw
              case rel => exact ⟨k + 1, by omega, by go_num, hown.out, hbli.out⟩
              case measure => simp [intOf]; omega
        · have hkl' : k = l.length := by omega
          subst hkl'
          obtain ⟨A9, c9, e9, hc9, hss⟩ := hown.out.done
          subst e9
          have Hss := Lib.hid hss
          clear hss hown
          go_wp2
          go_ret2
          exact ⟨_, _, rfl, hc9, Hss.out, hbl.out⟩

end Go.Proofs.Ytiakaglgfboepaa
