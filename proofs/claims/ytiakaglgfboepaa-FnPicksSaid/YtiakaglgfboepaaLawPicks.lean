/-
  FnPicks: walked. (Printed by gen_A16.py.)
-/
import Derived.Test.YtiakaglgfboepaaDPick3
import Derived.Test.YtiakaglgfboepaaFnPk
import Derived.Test.YtiakaglgfboepaaRLibP
import Derived.Test.YtiakaglgfboepaaRevS
import Derived.Test.YtiakaglgfboepaaHist
import Derived.Test.YtiakaglgfboepaaWithd
import Derived.Test.YtiakaglgfboepaaIsPick
import Derived.Test.YtiakaglgfboepaaCuS
import Derived.Lib.QuietBelow
import Derived.BigQuiet
import Derived.Deep.CutRange
import Derived.Deep.DeepCutAuto
namespace Go.Proofs.Ytiakaglgfboepaa
set_option linter.unusedVariables false
open Go.RowKit

set_option maxRecDepth 100000 in
set_option maxHeartbeats 8000000 in
theorem law_FnPicks (A0 : Option Addr) (c0 : Nat) (l0 : List Int) (w : World) (h0 : Rd encB 1 w w.heap.size A0 l0) (m0 : l0.length ≤ maxLen) (wf0 : ∀ n ∈ l0, (Lit.int .u8 n).wf = true) :
    Calls Try.prog 13 #[.slice A0 l0.length c0] w fun e w' => e = .returned (.bool true) ∧ Below w.heap.size w w' := by
  unfold maxLen at m0
  by_cases hbig : 65536 < (l0.length : Int)
  · go_enter Try.func13, Try.ntmps13
    go_wp2_with fail
    refine (rBig_any _ _ _ _ (by omega)).mono ?_
    rintro e w' ⟨rfl, rfl⟩
    rw [show decide (65536 < (l0.length : Int)) = true from decide_eq_true (by omega)]
    go_wp2
    go_ret
    exact ⟨rfl, Below.refl _ _⟩
  · have hl0 : l0.length ≤ 1048576 := by omega
    have Hby := Lib.hid (bytes_of wf0)
    have HR0 := Lib.hid (fun (W : World) (hW : Below w.heap.size w W) => (h0.below hW).more hW.size)
    clear wf0 h0
    go_enter Try.func13, Try.ntmps13
    go_wp2_with fail
    refine (rBig_any _ _ _ _ (by omega)).mono ?_
    rintro e w' ⟨rfl, rfl⟩
    rw [show decide (65536 < (l0.length : Int)) = false from decide_eq_false (by omega)]
    have HB0 := Lib.hid (Below.refl w.heap.size w)
    go_wp2_with fail
    refine (DrawRevisePick_any A0 c0 l0 _ (HR0.out _ HB0.out) hl0 Hby.out).mono ?_
    rintro e w1 ⟨Ax, cx, lx, id, tk, er, by_, rfl, hllx, hcx, hown, hb1⟩
    have Ox := Lib.hid hown
    have hlx : lx.length ≤ 1048576 := by omega
    clear hown
    have HB1 := Lib.hid (HB0.out.trans (hb1.mono HB0.out.size))
    clear hb1
    obtain ⟨O, hO⟩ : ∃ z, rvL lx id tk er by_ = z := ⟨_, rfl⟩
    have HO := Lib.hid hO
    clear hO
    obtain ⟨n, hn⟩ : ∃ z, rvN lx id tk er by_ = z := ⟨_, rfl⟩
    have Hn := Lib.hid hn
    clear hn
    obtain ⟨ok, hok⟩ : ∃ z, okRv lx id tk er by_ = z := ⟨_, rfl⟩
    have Hok := Lib.hid hok
    clear hok
    have hO : O.length ≤ 1048576 := by rw [← HO.out]; exact rvL_len
    go_wp2_with fail
    refine (RevisePick_any Ax cx  lx _ (Own.rd' encP_len Ox.out) hlx hcx id tk er by_).mono ?_
    rintro e w2 ⟨Ag, cg, rfl, hcg, hog, hb2⟩
    have HB2 := Lib.hid (HB1.out.trans (hb2.mono HB1.out.size))
    have Ox_2 := Lib.hid (Ox.out.keep hb2)
    clear hb2
    rw [HO.out] at hcg hog ⊢
    rw [Hn.out, Hok.out]
    have og := Lib.hid hog
    clear hog
    go_wp2_with fail
    refine (sRevisePick_any Ax cx  lx _ (Own.rd' encP_len Ox_2.out) hlx hcx id tk er by_).mono ?_
    rintro e w3 ⟨Aw, cw, rfl, hcw, how, hb3⟩
    have HB3 := Lib.hid (HB2.out.trans (hb3.mono HB2.out.size))
    have Ox_3 := Lib.hid (Ox_2.out.keep hb3)
    have og_3 := Lib.hid (og.out.keep hb3)
    clear hb3
    rw [HO.out] at hcw how ⊢
    rw [Hn.out, Hok.out]
    have ow := Lib.hid how
    clear how
    go_wp2_with fail
    refine (rPicks_any Ag Aw cg cw O _ (Own.rd' encP_len og_3.out) (Own.rd' encP_len ow.out) hO).mono ?_
    rintro e w4 ⟨rfl, hb4⟩
    have HB4 := Lib.hid (HB3.out.trans (hb4.mono HB3.out.size))
    have Ox_4 := Lib.hid (Ox_3.out.keep hb4)
    have og_4 := Lib.hid (og_3.out.keep hb4)
    have ow_4 := Lib.hid (ow.out.keep hb4)
    clear hb4
    go_upto_if 83 with (fail)
    go_cut [] (fun wx => Below w.heap.size w wx)
    case first =>
      cases ok with
      | false =>
        go_wp2_with fail
        all_goals go_meet
        all_goals exact HB4.out
      | true =>
        obtain ⟨O', n', e1, e2, f1, f2, f3, f4, f5, f6, f7, f8⟩ := revise_facts Hok.out
        rw [HO.out] at e1
        rw [Hn.out] at e2
        subst e1 e2
        have Hf1 := Lib.hid f1
        have Hf2 := Lib.hid f2
        have Hf3 := Lib.hid f3
        have Hf4 := Lib.hid f4
        have Hf5 := Lib.hid f5
        have Hf6 := Lib.hid f6
        have Hf7 := Lib.hid f7
        have Hf8 := Lib.hid f8
        clear f1 f2 f3 f4 f5 f6 f7 f8
        obtain ⟨N, hN⟩ : ∃ z, cuL O = z := ⟨_, rfl⟩
        have HN := Lib.hid hN
        clear hN
        obtain ⟨h1, hh1⟩ : ∃ z, hiL O n = z := ⟨_, rfl⟩
        have Hh1 := Lib.hid hh1
        clear hh1
        obtain ⟨h2, hh2⟩ : ∃ z, hiL lx id = z := ⟨_, rfl⟩
        have Hh2 := Lib.hid hh2
        clear hh2
        have hN : N.length ≤ 1048576 := by rw [← HN.out]; exact cuL_len
        have hh1 : h1.length ≤ 1048576 := by rw [← Hh1.out]; exact hiL_len
        have hh2 : h2.length ≤ 1048576 := by rw [← Hh2.out]; exact hiL_len
        have hlen := Hf6.out
        rw [Hh1.out, Hh2.out] at hlen
        have HfA : Hid (N.any (· == n) = true) := by show _ = _; rw [← HN.out]; exact Hf2.out
        have HfB : Hid (N.any (· == id) = false) := by show _ = _; rw [← HN.out]; exact Hf3.out
        go_wp2_with fail
        refine (CurrentPicks_any Ag cg O _ (Own.rd' encP_len og_4.out) hO).mono ?_
        rintro e w5 ⟨An, cn, rfl, hcn, hon, hb5⟩
        have HB5 := Lib.hid (HB4.out.trans (hb5.mono HB4.out.size))
        have Ox_5 := Lib.hid (Ox_4.out.keep hb5)
        have og_5 := Lib.hid (og_4.out.keep hb5)
        clear hb5
        rw [HN.out] at hcn hon ⊢
        rw [Hf1.out]
        have on := Lib.hid hon
        clear hon
        go_wp2_with fail
        refine (HistoryOf_any Ag cg O _ (Own.rd' encP_len og_5.out) hO hcg n).mono ?_
        rintro e w6 ⟨Ah, ch, rfl, hch, _, hb6⟩
        have HB6 := Lib.hid (HB5.out.trans (hb6.mono HB5.out.size))
        have Ox_6 := Lib.hid (Ox_5.out.keep hb6)
        have og_6 := Lib.hid (og_5.out.keep hb6)
        have on_6 := Lib.hid (on.out.keep hb6)
        clear hb6
        rw [Hh1.out] at hch ⊢
        rw [Hf4.out]
        go_wp2_with fail
        refine (HistoryOf_any Ax cx lx _ (Own.rd' encP_len Ox_6.out) hlx hcx id).mono ?_
        rintro e w7 ⟨Ai, ci, rfl, hci, _, hb7⟩
        have HB7 := Lib.hid (HB6.out.trans (hb7.mono HB6.out.size))
        have Ox_7 := Lib.hid (Ox_6.out.keep hb7)
        have og_7 := Lib.hid (og_6.out.keep hb7)
        have on_7 := Lib.hid (on_6.out.keep hb7)
        clear hb7
        rw [Hh2.out] at hci ⊢
        rw [Hf5.out]
        go_wp2_with fail
        refine (WithdrawLast_any Ag cg O _ (Own.rd' encP_len og_7.out) hO hcg).mono ?_
        rintro e w8 ⟨Ab, cb, rfl, hcb, hob, hb8⟩
        have HB8 := Lib.hid (HB7.out.trans (hb8.mono HB7.out.size))
        have Ox_8 := Lib.hid (Ox_7.out.keep hb8)
        have og_8 := Lib.hid (og_7.out.keep hb8)
        have on_8 := Lib.hid (on_7.out.keep hb8)
        clear hb8
        rw [Hf8.out] at hcb hob ⊢
        rw [Hf7.out]
        have ob := Lib.hid hob
        clear hob
        go_wp2_with fail
        refine (rHas_any An cn N n _ w8.heap.size (Own.rd' encI_len on_8.out) hN).mono ?_
        rintro e w' ⟨rfl, rfl⟩
        rw [HfA.out]
        go_wp2_with fail
        refine (rHas_any An cn N id _ w8.heap.size (Own.rd' encI_len on_8.out) hN).mono ?_
        rintro e w' ⟨rfl, rfl⟩
        rw [HfB.out]
        go_wp2_with fail
        refine (rPicks_any Ab Ax cb cx lx _ (Own.rd' encP_len ob.out) (Own.rd' encP_len Ox_8.out) hlx).mono ?_
        rintro e w9 ⟨rfl, hb9⟩
        have HB9 := Lib.hid (HB8.out.trans (hb9.mono HB8.out.size))
        have Ox_9 := Lib.hid (Ox_8.out.keep hb9)
        have og_9 := Lib.hid (og_8.out.keep hb9)
        have on_9 := Lib.hid (on_8.out.keep hb9)
        have ob_9 := Lib.hid (ob.out.keep hb9)
        clear hb9
        go_wp2_with fail
        refine (ArePicks_any Ag cg O _ (Own.rd' encP_len og_9.out) hO).mono ?_
        rintro e w10 ⟨rfl, hb10⟩
        have HB10 := Lib.hid (HB9.out.trans (hb10.mono HB9.out.size))
        have Ox_10 := Lib.hid (Ox_9.out.keep hb10)
        have og_10 := Lib.hid (og_9.out.keep hb10)
        have on_10 := Lib.hid (on_9.out.keep hb10)
        have ob_10 := Lib.hid (ob_9.out.keep hb10)
        clear hb10
        rw [Hf1.out]
        go_wp2
        all_goals go_meet
        all_goals exact HB10.out
    case rest =>
      obtain ⟨w50, rfl⟩ : ∃ w50 : World, w50 = wc := ⟨_, rfl⟩
      have HB50 := Lib.hid hcut
      clear hcut
      clear Ox og HO Hn Hok
      go_wp2_with fail
      refine (DrawHistoryOf_any A0 c0 l0 _ (HR0.out _ HB50.out) hl0 Hby.out).mono ?_
      rintro e w51 ⟨Ay, cy, ly, iy, rfl, hlly, hcy, hown, hb51⟩
      have Oy := Lib.hid hown
      have hly : ly.length ≤ 1048576 := by omega
      clear hown
      have HB51 := Lib.hid (HB50.out.trans (hb51.mono HB50.out.size))
      clear hb51
      obtain ⟨hy, hhy⟩ : ∃ z, hiL ly iy = z := ⟨_, rfl⟩
      have Hhy := Lib.hid hhy
      clear hhy
      obtain ⟨oky, hoky⟩ : ∃ z, okHi ly iy = z := ⟨_, rfl⟩
      have Hoky := Lib.hid hoky
      clear hoky
      have hhy : hy.length ≤ 1048576 := by rw [← Hhy.out]; exact hiL_len
      go_wp2_with fail
      refine (HistoryOf_any Ay cy ly _ (Own.rd' encP_len Oy.out) hly hcy iy).mono ?_
      rintro e w52 ⟨Ayg, cyg, rfl, hcyg, hoyg, hb52⟩
      have HB52 := Lib.hid (HB51.out.trans (hb52.mono HB51.out.size))
      have Oy_52 := Lib.hid (Oy.out.keep hb52)
      clear hb52
      rw [Hhy.out] at hcyg hoyg ⊢
      rw [Hoky.out]
      have oyg := Lib.hid hoyg
      clear hoyg
      go_wp2_with fail
      refine (sHistoryOf_any Ay cy ly _ (Own.rd' encP_len Oy_52.out) hly hcy iy).mono ?_
      rintro e w53 ⟨Ayw, cyw, rfl, hcyw, hoyw, hb53⟩
      have HB53 := Lib.hid (HB52.out.trans (hb53.mono HB52.out.size))
      have Oy_53 := Lib.hid (Oy_52.out.keep hb53)
      have oyg_53 := Lib.hid (oyg.out.keep hb53)
      clear hb53
      rw [Hhy.out] at hcyw hoyw ⊢
      rw [Hoky.out]
      have oyw := Lib.hid hoyw
      clear hoyw
      go_wp2_with fail
      refine (rInts_any Ayg Ayw cyg cyw hy _ (Own.rd' encI_len oyg_53.out) (Own.rd' encI_len oyw.out) hhy).mono ?_
      rintro e w54 ⟨rfl, hb54⟩
      have HB54 := Lib.hid (HB53.out.trans (hb54.mono HB53.out.size))
      have Oy_54 := Lib.hid (Oy_53.out.keep hb54)
      have oyg_54 := Lib.hid (oyg_53.out.keep hb54)
      have oyw_54 := Lib.hid (oyw.out.keep hb54)
      clear hb54
      go_wp2_with fail
      refine (DrawCurrentPicks_any A0 c0 l0 _ (HR0.out _ HB54.out) hl0 Hby.out).mono ?_
      rintro e w55 ⟨Au, cu, lu, rfl, hllu, hcu, hown, hb55⟩
      have Ou := Lib.hid hown
      have hlu : lu.length ≤ 1048576 := by omega
      clear hown
      have HB55 := Lib.hid (HB54.out.trans (hb55.mono HB54.out.size))
      clear hb55
      obtain ⟨hu, hhu⟩ : ∃ z, cuL lu = z := ⟨_, rfl⟩
      have Hhu := Lib.hid hhu
      clear hhu
      obtain ⟨oku, hoku⟩ : ∃ z, picksS lu = z := ⟨_, rfl⟩
      have Hoku := Lib.hid hoku
      clear hoku
      have hhu : hu.length ≤ 1048576 := by rw [← Hhu.out]; exact cuL_len
      go_wp2_with fail
      refine (CurrentPicks_any Au cu lu _ (Own.rd' encP_len Ou.out) hlu).mono ?_
      rintro e w56 ⟨Aug, cug, rfl, hcug, houg, hb56⟩
      have HB56 := Lib.hid (HB55.out.trans (hb56.mono HB55.out.size))
      have Ou_56 := Lib.hid (Ou.out.keep hb56)
      clear hb56
      rw [Hhu.out] at hcug houg ⊢
      rw [Hoku.out]
      have oug := Lib.hid houg
      clear houg
      go_wp2_with fail
      refine (sCurrentPicks_any Au cu lu _ (Own.rd' encP_len Ou_56.out) hlu hcu).mono ?_
      rintro e w57 ⟨Auw, cuw, rfl, hcuw, houw, hb57⟩
      have HB57 := Lib.hid (HB56.out.trans (hb57.mono HB56.out.size))
      have Ou_57 := Lib.hid (Ou_56.out.keep hb57)
      have oug_57 := Lib.hid (oug.out.keep hb57)
      clear hb57
      rw [Hhu.out] at hcuw houw ⊢
      rw [Hoku.out]
      have ouw := Lib.hid houw
      clear houw
      go_wp2_with fail
      refine (rInts_any Aug Auw cug cuw hu _ (Own.rd' encI_len oug_57.out) (Own.rd' encI_len ouw.out) hhu).mono ?_
      rintro e w58 ⟨rfl, hb58⟩
      have HB58 := Lib.hid (HB57.out.trans (hb58.mono HB57.out.size))
      have Ou_58 := Lib.hid (Ou_57.out.keep hb58)
      have oug_58 := Lib.hid (oug_57.out.keep hb58)
      have ouw_58 := Lib.hid (ouw.out.keep hb58)
      clear hb58
      go_wp2_with fail
      refine (DrawWithdrawLast_any A0 c0 l0 _ (HR0.out _ HB58.out) hl0 Hby.out).mono ?_
      rintro e w59 ⟨Av, cv, lv, rfl, hllv, hcv, hown, hb59⟩
      have Ov := Lib.hid hown
      have hlv : lv.length ≤ 1048576 := by omega
      clear hown
      have HB59 := Lib.hid (HB58.out.trans (hb59.mono HB58.out.size))
      clear hb59
      obtain ⟨hv, hhv⟩ : ∃ z, wlL lv = z := ⟨_, rfl⟩
      have Hhv := Lib.hid hhv
      clear hhv
      obtain ⟨okv, hokv⟩ : ∃ z, okWL lv = z := ⟨_, rfl⟩
      have Hokv := Lib.hid hokv
      clear hokv
      have hhv : hv.length ≤ 1048576 := by rw [← Hhv.out]; exact wlL_len
      go_wp2_with fail
      refine (WithdrawLast_any Av cv lv _ (Own.rd' encP_len Ov.out) hlv hcv).mono ?_
      rintro e w60 ⟨Avg, cvg, rfl, hcvg, hovg, hb60⟩
      have HB60 := Lib.hid (HB59.out.trans (hb60.mono HB59.out.size))
      have Ov_60 := Lib.hid (Ov.out.keep hb60)
      clear hb60
      rw [Hhv.out] at hcvg hovg ⊢
      rw [Hokv.out]
      have ovg := Lib.hid hovg
      clear hovg
      go_wp2_with fail
      refine (sWithdrawLast_any Av cv lv _ (Own.rd' encP_len Ov_60.out) hlv hcv).mono ?_
      rintro e w61 ⟨Avw, cvw, rfl, hcvw, hovw, hb61⟩
      have HB61 := Lib.hid (HB60.out.trans (hb61.mono HB60.out.size))
      have Ov_61 := Lib.hid (Ov_60.out.keep hb61)
      have ovg_61 := Lib.hid (ovg.out.keep hb61)
      clear hb61
      rw [Hhv.out] at hcvw hovw ⊢
      rw [Hokv.out]
      have ovw := Lib.hid hovw
      clear hovw
      go_wp2_with fail
      refine (DrawIsPick_any A0 c0 l0 _ (HR0.out _ HB61.out) hl0 Hby.out).mono ?_
      rintro e w62 ⟨x, rfl, hb62⟩
      have HB62 := Lib.hid (HB61.out.trans (hb62.mono HB61.out.size))
      have ovg_62 := Lib.hid (ovg_61.out.keep hb62)
      have ovw_62 := Lib.hid (ovw.out.keep hb62)
      clear hb62
      have hbx : Below w62.heap.size w62 (w62.alloc (.cells #[.int .i64 x.id, .int .i64 x.station, .int .i64 x.wave, .int .i64 x.tick, .int .i64 x.err, .int .i64 x.by_, .int .i64 x.after_] 25)) := by (repeat (first | with_reducible exact Below.refl _ _ | with_reducible assumption | with_reducible refine Below.setCell ?_ (by simp <;> omega) _ | with_reducible refine Below.alloc ?_ (by first | omega | (simp <;> omega)) _ | with_reducible refine Below.drew ?_ | with_reducible refine below_drewN ?_ _))
      have HBx := Lib.hid (HB62.out.trans (hbx.mono HB62.out.size))
      have hrg := (Own.rd' encP_len ovg_62.out).after hbx
      have hrw := (Own.rd' encP_len ovw_62.out).after hbx
      have hS0 := box7 (Blk.new w62 25 #[.int .i64 x.id, .int .i64 x.station, .int .i64 x.wave, .int .i64 x.tick, .int .i64 x.err, .int .i64 x.by_, .int .i64 x.after_])
      have k0 := cell_regrown hS0.1
      have k1 := cell_regrown hS0.2.1
      have k2 := cell_regrown hS0.2.2.1
      have k3 := cell_regrown hS0.2.2.2.1
      have k4 := cell_regrown hS0.2.2.2.2.1
      have k5 := cell_regrown hS0.2.2.2.2.2.1
      have k6 := cell_regrown hS0.2.2.2.2.2.2
      have cV1 : ∀ d os, Calls Try.prog 49 #[.slice Avg hv.length cvg, .slice Avw hv.length cvw] (Go.Sort.grow (redrawn (w62.alloc (.cells #[.int .i64 x.id, .int .i64 x.station, .int .i64 x.wave, .int .i64 x.tick, .int .i64 x.err, .int .i64 x.by_, .int .i64 x.after_] 25)) d) os) fun e w'' => e = .returned (.bool true) ∧ ∃ p : Regrown, w'' = Go.Sort.grow (redrawn (w62.alloc (.cells #[.int .i64 x.id, .int .i64 x.station, .int .i64 x.wave, .int .i64 x.tick, .int .i64 x.err, .int .i64 x.by_, .int .i64 x.after_] 25)) p.d) p.os := fun d os =>
        Calls.regrown_of (rPicks_any Avg Avw cvg cvw hv _ ((hrg.below ((below_regrown (w62.alloc (.cells #[.int .i64 x.id, .int .i64 x.station, .int .i64 x.wave, .int .i64 x.tick, .int .i64 x.err, .int .i64 x.by_, .int .i64 x.after_] 25)) d os).mono (Nat.le_refl _))).more (below_regrown (w62.alloc (.cells #[.int .i64 x.id, .int .i64 x.station, .int .i64 x.wave, .int .i64 x.tick, .int .i64 x.err, .int .i64 x.by_, .int .i64 x.after_] 25)) d os).size) ((hrw.below ((below_regrown (w62.alloc (.cells #[.int .i64 x.id, .int .i64 x.station, .int .i64 x.wave, .int .i64 x.tick, .int .i64 x.err, .int .i64 x.by_, .int .i64 x.after_] 25)) d os).mono (Nat.le_refl _))).more (below_regrown (w62.alloc (.cells #[.int .i64 x.id, .int .i64 x.station, .int .i64 x.wave, .int .i64 x.tick, .int .i64 x.err, .int .i64 x.by_, .int .i64 x.after_] 25)) d os).size) hhv)
      obtain ⟨gp, hgp⟩ : ∃ z, goodP x = z := ⟨_, rfl⟩
      have Hgp := Lib.hid hgp
      clear hgp
      have cV2 : ∀ d os, Calls Try.prog 17 #[.agg #[.int .i64 x.id, .int .i64 x.station, .int .i64 x.wave, .int .i64 x.tick, .int .i64 x.err, .int .i64 x.by_, .int .i64 x.after_]] (Go.Sort.grow (redrawn (w62.alloc (.cells #[.int .i64 x.id, .int .i64 x.station, .int .i64 x.wave, .int .i64 x.tick, .int .i64 x.err, .int .i64 x.by_, .int .i64 x.after_] 25)) d) os) fun e w'' => e = .returned (.bool gp) ∧ ∃ p : Regrown, w'' = Go.Sort.grow (redrawn (w62.alloc (.cells #[.int .i64 x.id, .int .i64 x.station, .int .i64 x.wave, .int .i64 x.tick, .int .i64 x.err, .int .i64 x.by_, .int .i64 x.after_] 25)) p.d) p.os := fun d os =>
        Calls.regrown_of (by have hq := IsPick_any x (Go.Sort.grow (redrawn (w62.alloc (.cells #[.int .i64 x.id, .int .i64 x.station, .int .i64 x.wave, .int .i64 x.tick, .int .i64 x.err, .int .i64 x.by_, .int .i64 x.after_] 25)) d) os); rw [Hgp.out] at hq; exact hq)
      have cV3 : ∀ d os, Calls Try.prog 15 #[.agg #[.int .i64 x.id, .int .i64 x.station, .int .i64 x.wave, .int .i64 x.tick, .int .i64 x.err, .int .i64 x.by_, .int .i64 x.after_]] (Go.Sort.grow (redrawn (w62.alloc (.cells #[.int .i64 x.id, .int .i64 x.station, .int .i64 x.wave, .int .i64 x.tick, .int .i64 x.err, .int .i64 x.by_, .int .i64 x.after_] 25)) d) os) fun e w'' => e = .returned (.bool gp) ∧ ∃ p : Regrown, w'' = Go.Sort.grow (redrawn (w62.alloc (.cells #[.int .i64 x.id, .int .i64 x.station, .int .i64 x.wave, .int .i64 x.tick, .int .i64 x.err, .int .i64 x.by_, .int .i64 x.after_] 25)) p.d) p.os := fun d os =>
        Calls.regrown_of (by have hq := sIsPick_any x (Go.Sort.grow (redrawn (w62.alloc (.cells #[.int .i64 x.id, .int .i64 x.station, .int .i64 x.wave, .int .i64 x.tick, .int .i64 x.err, .int .i64 x.by_, .int .i64 x.after_] 25)) d) os); rw [Hgp.out] at hq; exact hq)
      clear hbx hS0 hrg hrw
      go_wp2_with fail
      refine wp_region_quiet_below (by kernel_rfl) (by kernel_rfl) ?_
      repeat (go_big_quiet_step ((first | exact cV1 _ _ | exact cV2 _ _ | exact cV3 _ _)))
      refine wpQuiet_nil ?_
      intro _ hw'
      obtain ⟨⟨dq, osq⟩, hw''⟩ := hw'
      subst hw''
      have HBq := Lib.hid (HBx.out.trans ((below_regrown (w62.alloc (.cells #[.int .i64 x.id, .int .i64 x.station, .int .i64 x.wave, .int .i64 x.tick, .int .i64 x.err, .int .i64 x.by_, .int .i64 x.after_] 25)) dq osq).mono HBx.out.size))
      generalize Go.Sort.grow (redrawn (w62.alloc (.cells #[.int .i64 x.id, .int .i64 x.station, .int .i64 x.wave, .int .i64 x.tick, .int .i64 x.err, .int .i64 x.by_, .int .i64 x.after_] 25)) dq) osq = wq at *
      go_wp2
      go_ret
      exact ⟨rfl, HBq.out⟩

end Go.Proofs.Ytiakaglgfboepaa
