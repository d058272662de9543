/-
  Contracts of the functions that draw samples. (Printed by gen_R3.py.)
-/
import Derived.Test.YtaemdldpcpefbaaDraw
import Derived.Test.YtaemdldpcpefbaaAmB
import Derived.Test.YtaemdldpcpefbaaOnPl
import Derived.Deep.RegionHeld3
import Derived.BigQuiet
import Derived.Deep.CutRange
import Derived.Deep.DeepCutAuto
import Derived.Deep.CutBlock
namespace Go.Proofs.Ytaemdldpcpefbaa
set_option linter.unusedVariables false
open Go.RowKit

/-- What the walks of the draws of numbers carry. -/
def ISt (w : World) (g : Nat) (W : World) (v : Value) (l : List Int) (M : Nat) : Prop := Own encI 1 W w.heap.size 3 v l ∧ Cur W g M ∧ w.grownBy W (some g)
theorem ISt.step {w W W' : World} {g M M' : Nat} {v : Value} {l : List Int} (h : ISt w g W v l M) (hC : Cur W' g M') (hg : W.grownBy W' (some g)) : ISt w g W' v l M' :=
  ⟨h.1.cur h.2.1 hg (by decide), hC, only_trans h.2.2 hg⟩
theorem ISt.below {w W W' : World} {g M : Nat} {v : Value} {l : List Int} (h : ISt w g W v l M) (hb : Below W.heap.size W W') : ISt w g W' v l M :=
  ⟨h.1.keep hb, h.2.1.after hb, only_belowB h.2.2 hb h.2.2.size⟩
theorem ISt.size {w W : World} {g M : Nat} {v : Value} {l : List Int} (h : ISt w g W v l M) : w.heap.size ≤ W.heap.size := h.2.2.size
theorem ISt.more {w W : World} {g M M' : Nat} {v : Value} {l : List Int} (h : ISt w g W v l M) (hm : M ≤ M') : ISt w g W v l M' := ⟨h.1, h.2.1.more hm, h.2.2⟩
/-- Behind an append. -/
theorem ISt.app {w W W' : World} {g M : Nat} {v v' : Value} {l l' : List Int} (h : ISt w g W v l M) (hO : Own encI 1 W' w.heap.size 3 v' l') (hb : Below w.heap.size W W') (hgw : g < w.heap.size) : ISt w g W' v' l' M :=
  ⟨hO, h.2.1.belowB hb hgw, only_belowB h.2.2 hb (Nat.le_refl _)⟩
theorem own_last {W : World} {base ga n c : Nat} {l : List Int} (h : Own encI 1 W base 3 (.slice (some ⟨ga, 0, none⟩) n c) l) (hp : l.length - 1 < l.length) : W.cell? ⟨ga, l.length - 1, none⟩ = some (.int .i64 l[l.length - 1]) := by
  obtain ⟨b, off, e, _, hc⟩ := cellsI (Own.rd' encI_len h) hp
  injection e with e
  injection e with e1 e2
  subst e1 e2
  rwa [Nat.zero_add] at hc
theorem own_cell {W : World} {base ga n c j : Nat} {l : List Int} (h : Own encI 1 W base 3 (.slice (some ⟨ga, 0, none⟩) n c) l) (hp : j < l.length) : W.cell? ⟨ga, j, none⟩ = some (.int .i64 l[j]) := by
  obtain ⟨b, off, e, _, hc⟩ := cellsI (Own.rd' encI_len h) hp
  injection e with e
  injection e with e1 e2
  subst e1 e2
  rwa [Nat.zero_add] at hc
/-- The bounds of drawn samples. -/
def Sk (l : List Int) : Prop := ∀ x ∈ l, -(100000 + 5 * (l.length : Int)) ≤ x ∧ x ≤ 100000
def Sb (l : List Int) : Prop := ∀ x ∈ l, -101000 ≤ x ∧ x ≤ 100001
theorem Sk.snoc {l : List Int} (h : Sk l) {y : Int} (h1 : -(100000 + 5 * ((l.length : Int) + 1)) ≤ y) (h2 : y ≤ 100000) : Sk (l ++ [y]) := by
  intro x hx
  rw [List.length_append]
  rcases List.mem_append.1 hx with hx | hx
  · have := h x hx; simp; omega
  · simp at hx; subst hx; simp; omega
theorem Sk.sb {l : List Int} (h : Sk l) (hl : l.length ≤ 100) : Sb l := fun x hx => by have := h x hx; omega
theorem Sb.snoc {l : List Int} (h : Sb l) {y : Int} (h1 : -101000 ≤ y) (h2 : y ≤ 100001) : Sb (l ++ [y]) := by
  intro x hx
  rcases List.mem_append.1 hx with hx | hx
  · exact h x hx
  · simp at hx; subst hx; omega
def LeftK (w : World) (g : Nat) (v : Value) (l : List Int) (M : Nat) (s : Value) (W : World) : Prop := ∃ y : Int, s = .int .i64 y ∧ (-(100000 + 5 * ((l.length : Int) + 1)) ≤ y ∧ y ≤ 101000) ∧ ISt w g W v l M


theorem sample_any (g m : Nat) (w : World) (h : Cur w g m) (hm : m ≤ 800000000) :
    Calls Try.prog 83 #[.pointer (some ⟨g, 0, none⟩)] w fun e w' => ∃ x : Int, e = .returned (.int .i64 x) ∧ (-100000 ≤ x ∧ x ≤ 100000) ∧ Cur w' g (m + 2) ∧ w.grownBy w' (some g) := by
  have HC0 := Lib.hid h
  have HG0 := Lib.hid (only_refl w (some g))
  clear h
  go_enter Try.func83, Try.ntmps83
  go_wp2_with fail
  refine (among_lit g _ [0, 0, 1, -1, 3, -4, 20, -35, 100, 120, -500, 3000, 99999, -100000] _ 14 _ _ (by rfl) (by rfl) (by simp) HC0.out (by omega) (by omega) (by omega)).mono ?_
  rintro e w1 ⟨x, rfl, hx, hC, hg⟩
  have HG1 := Lib.hid (only_trans HG0.out hg)
  have HC1 := Lib.hid hC
  have hs1 := HG1.out.size
  clear hC hg HC0
  have hx2 : -100000 ≤ x ∧ x ≤ 100000 := by simp at hx; omega
  clear hx
  go_wp2
  go_ret
  exact ⟨x, rfl, hx2, HC1.out, HG1.out⟩

set_option maxRecDepth 100000 in
set_option maxHeartbeats 8000000 in
theorem samples_any (g m : Nat) (w : World) (h : Cur w g m) (hm : m ≤ 700000000) :
    Calls Try.prog 76 #[.pointer (some ⟨g, 0, none⟩)] w fun e w' => ∃ v l, e = .returned v ∧ l.length ≤ 60 ∧ Sb l ∧ Own encI 1 w' w.heap.size 3 v l ∧ Cur w' g (m + 1000) ∧ w.grownBy w' (some g) := by
  obtain ⟨i0, hi, hz0, hz1, hz2⟩ := info_parts infoI
  have hgw := h.lt
  have hb0 : Below w.heap.size w (w.alloc (.cells #[] 3)) := by (repeat (first | with_reducible exact Below.refl _ _ | with_reducible assumption | with_reducible refine Below.setCell ?_ (by simp <;> omega) _ | with_reducible refine Below.alloc ?_ (by first | omega | (simp <;> omega)) _ | with_reducible refine Below.drew ?_ | with_reducible refine below_drewN ?_ _))
  have HD0 : Hid (ISt w g (w.alloc (.cells #[] 3)) (.slice (some ⟨w.heap.size, 0, none⟩) 0 0) [] m) := ⟨Own.empty _ _ _ (Nat.le_refl _), h.after hb0, only_of_below hb0 _⟩
  clear hb0 h
  go_enter Try.func76, Try.ntmps76
  go_wp2_with fail
  refine (pick_any g m 12 _ HD0.out.2.1 (by omega) (by omega)).mono ?_
  rintro e w1 ⟨n0, rfl, ⟨hn0, hx⟩, hC, hg⟩
  have HD1 := Lib.hid (HD0.out.step hC hg)
  have hn1 : n0 ≤ 11 := by omega
  clear hC hg hx
  obtain ⟨nn, rfl⟩ := Int.eq_ofNat_of_zero_le hn0
  go_wp2
  go_loopw [3, 4] (fun v i wr => ∃ (q ga cp : Nat) (l : List Int) (M : Nat), i = .int .i64 q ∧ v = .slice (some ⟨ga, 0, none⟩) l.length cp ∧ (l.length ≤ cp ∧ cp ≤ maxLen) ∧ l.length + q ≤ 11 ∧ M + q * 10 ≤ m + 112 ∧ Hid (Sk l) ∧ Hid (ISt w g wr (.slice (some ⟨ga, 0, none⟩) l.length cp) l M)) (fun _ i _ => (intOf i).toNat)
  case atStart => exact ⟨nn, w.heap.size, 0, [], m + 2, rfl, rfl, ⟨Nat.le_refl _, Nat.zero_le _⟩, (by simp; omega), (by omega), (fun x hx => by cases hx), HD1.out⟩
  case round =>
    obtain ⟨q, ga, cp, l, M, rfl, rfl, ⟨hlc, hcm⟩, hlq, hMq, HS, HD⟩ := hrel
    have hsw := HD.out.size
    by_cases hq : q = 0
    · subst hq
      go_wp2_with fail
      refine (pick_any g M 40 _ HD.out.2.1 (by omega) (by omega)).mono ?_
      rintro e w2 ⟨sw, rfl, ⟨hs0, hx⟩, hC, hg⟩
      have HD2 := Lib.hid (HD.out.step hC hg)
      have HSb := Lib.hid (HS.out.sb (by omega))
      have hs2 := HD2.out.size
      clear hC hg hx
      by_cases e0 : sw = 0
      · subst e0
        go_wp2_with fail
        refine (among_lit g _ [100001, -100001] _ 2 _ _ (by rfl) (by rfl) (by simp) HD2.out.2.1 (by omega) (by omega) (by omega)).mono ?_
        rintro e w3 ⟨y, rfl, hy, hC, hg⟩
        have hy2 : -101000 ≤ y ∧ y ≤ 100001 := by simp at hy; omega
        have HD3 := Lib.hid (HD2.out.step hC hg)
        have hs3 := HD3.out.size
        clear hC hg hy
        go_wp2_with (at_builtin; refine wpList_app1 rfl _ _ 28 rfl w.heap.size 3 i0 _ 1 8 Try.underlying28 hi hz0 hz1 hz2 rfl (by omega) (by omega) encI encI_len encI_one (.slice (some ⟨ga, 0, none⟩) l.length cp) l y w3 _ rfl _ rfl HD3.out.1 rfl (by omega) (by omega) ?_; intro v9 w9 hown9 hb9 _)
        have HD9 := Lib.hid (HD3.out.app hown9 hb9 hgw)
        clear hown9 hb9
        go_wp2
        go_ret
        exact ⟨_, _, rfl, (by simp; omega), HSb.out.snoc hy2.1 hy2.2, HD9.out.1, HD9.out.2.1.more (by omega), HD9.out.2.2⟩
      · have n0 : (sw == 0) = false := by simp [e0]
        by_cases e1 : sw = 1
        · subst e1
          go_wp2
          go_loopw [3] (fun v wr => ∃ (ga cp : Nat) (l : List Int) (M : Nat), v = .slice (some ⟨ga, 0, none⟩) l.length cp ∧ (l.length ≤ cp ∧ cp ≤ maxLen) ∧ l.length ≤ 25 ∧ M ≤ m + 200 + l.length * 2 ∧ Hid (Sb l) ∧ Hid (ISt w g wr (.slice (some ⟨ga, 0, none⟩) l.length cp) l M)) (fun v _ => match v with | .slice _ n _ => 30 - n | _ => 0)
          case atStart => exact ⟨ga, cp, l, M + 2, rfl, ⟨hlc, hcm⟩, by omega, by omega, HSb.out, HD2.out⟩
          case round =>
            obtain ⟨ga, cp, l, M, rfl, ⟨hlc, hcm⟩, hl25, hMl, HSl, HDl⟩ := hrel
            have hsl := HDl.out.size
            go_wp2_with fail
            refine (pick_any g M 2 _ HDl.out.2.1 (by omega) (by omega)).mono ?_
            rintro e w3 ⟨pk, rfl, ⟨hp0, hx⟩, hC, hg⟩
            have HD3 := Lib.hid (HDl.out.step hC hg)
            have hs3 := HD3.out.size
            have hp1 : pk ≤ 1 := by omega
            clear hC hg hx
            by_cases hlt : (l.length : Int) < 24 + pk
            · have hm5 : (0 : Int) ≤ (l.length : Int) % 5 ∧ (l.length : Int) % 5 ≤ 4 := by omega
              obtain ⟨y, hy⟩ : ∃ y, (l.length : Int) % 5 = y := ⟨_, rfl⟩
              rw [hy] at hm5
              go_wp2_with (at_builtin; refine wpList_app1 rfl _ _ 28 rfl w.heap.size 3 i0 _ 1 8 Try.underlying28 hi hz0 hz1 hz2 rfl (by omega) (by omega) encI encI_len encI_one (.slice (some ⟨ga, 0, none⟩) l.length cp) l y w3 _ rfl _ rfl HD3.out.1 rfl (by omega) (by omega) ?_; intro v9 w9 hown9 hb9 _)
              have HD9 := Lib.hid (HD3.out.app hown9 hb9 hgw)
              have hO9 := hown9
              have hl9 : 0 < (l ++ [y]).length := by simp
              obtain ⟨A9, c9, rfl, hc9, _⟩ := Own.form encI_len hO9
              obtain ⟨g9, cs9, rfl, _⟩ := hO9.blk hl9
              have hSn := HSl.out.snoc (y := y) (by omega) (by omega)
              have hln : (l ++ [y]).length = l.length + 1 := by simp
              obtain ⟨N, hN⟩ : ∃ N, l ++ [y] = N := ⟨_, rfl⟩
              rw [hN] at HD9 hSn hln hc9 ⊢
              have HSn := Lib.hid hSn
              clear hown9 hb9 hO9 hl9 hSn hN hy
              go_wp2
              go_roundw
              case rel => exact ⟨g9, c9, N, M + 2, rfl, hc9, by omega, by omega, HSn.out, HD9.out⟩
              case measure => simp; omega
            · go_wp2
              go_ret
              exact ⟨_, l, rfl, (by omega), HSl.out, HD3.out.1, HD3.out.2.1.more (by omega), HD3.out.2.2⟩
        · have n1 : (sw == 1) = false := by simp [e1]
          go_wp2
          go_ret
          exact ⟨_, l, rfl, (by omega), HSb.out, HD2.out.1, HD2.out.2.1.more (by omega), HD2.out.2.2⟩
    · obtain ⟨q', rfl⟩ : ∃ q', q = q' + 1 := ⟨q - 1, by omega⟩
      obtain ⟨wo, rfl⟩ : ∃ wo : World, wo = wr := ⟨_, rfl⟩
      go_wp2_with fail
      refine (sample_any g M _ HD.out.2.1 (by omega)).mono ?_
      rintro e w2 ⟨x, rfl, ⟨hx0, hx1⟩, hC, hg⟩
      have HD2 := Lib.hid (HD.out.step hC hg)
      have hs2 := HD2.out.size
      clear hC hg
      go_upto_region 6 with (fail)
      go_cut [21] (fun s W => ∃ b : Bool, s = .bool b ∧ (b = true → 0 < l.length) ∧ ISt w g W (.slice (some ⟨ga, 0, none⟩) l.length cp) l (M + 4))
      case first =>
        by_cases hl0 : (l.length : Int) > 0
        · go_wp2_with fail
          refine (one_any g (M + 2) 2 _ HD2.out.2.1 (by omega) (by omega)).mono ?_
          rintro e w3 ⟨bo, rfl, hC, hg⟩
          have HD3 := Lib.hid (HD2.out.step hC hg)
          clear hC hg
          go_wp2
          all_goals go_meet
          all_goals exact ⟨bo, rfl, fun _ => by omega, HD3.out⟩
        · go_wp2
          all_goals go_meet
          all_goals exact ⟨false, rfl, (fun h9 => by cases h9), HD2.out.more (by omega)⟩
      case rest =>
        obtain ⟨bo, rfl, hbo, hD3⟩ := hcut
        obtain ⟨wx, rfl⟩ : ∃ wx : World, wx = wc := ⟨_, rfl⟩
        have HD3 := Lib.hid hD3
        clear hD3 HD2 hs2
        go_upto_if 21 with (fail)
        go_cut [5] (fun s W => LeftK w g (.slice (some ⟨ga, 0, none⟩) l.length cp) l (M + 6) s W)
        case first =>
          cases bo with
          | false =>
            go_wp2
            all_goals go_meet
            all_goals exact ⟨x, rfl, ⟨by omega, by omega⟩, HD3.out.more (by omega)⟩
          | true =>
            have hl0 : 0 < l.length := hbo rfl
            obtain ⟨pn, hpn⟩ : ∃ pn, l.length = pn + 1 := ⟨l.length - 1, by omega⟩
            have hp : pn < l.length := by omega
            have hlast := HS.out _ (List.getElem_mem hp)
            have HLs := Lib.hid (fun W M' (hD : ISt w g W (.slice (some ⟨ga, 0, none⟩) (pn + 1) cp) l M') => own_cell hD.1 hp)
            generalize l[pn] = y0 at *
            obtain ⟨hla0, hla1⟩ := hlast
            rw [hpn] at HD3 hla0 ⊢
            have c0 := HLs.out _ _ HD3.out
            have hgx : g < wx.heap.size := HD3.out.2.1.lt
            have hlz : pn ≤ 1000 := by omega
            have hq0 : (0 : Int) ≤ (pn : Int) := by omega
            have hq1 : (pn : Int) < (pn : Int) + 1 := by omega
            have hq2 : (pn : Int) < ((pn + 1 : Nat) : Int) := by omega
            have hwk := IntWalk.i64_in (pn : Int) (by omega)
            have hwk2 := IntWalk.i64_in ((pn : Int) + 1) (by omega)
            have HSc := Lib.hid (fun (W : World) (hW : Below wx.heap.size wx W) => HLs.out _ _ (HD3.out.below hW))
            clear hbo
            go_wp2_with fail
            go_region_held3 (fun w' => w'.cell? ⟨ga, pn, none⟩ = some (.int .i64 y0)) (first | exact hq5 | exact HSc.out _ (by (repeat (first | with_reducible exact Below.refl _ _ | with_reducible assumption | with_reducible refine Below.setCell ?_ (by simp <;> omega) _ | with_reducible refine Below.alloc ?_ (by first | omega | (simp <;> omega)) _ | with_reducible refine Below.drew ?_ | with_reducible refine below_drewN ?_ _))) | go_keep) (first | (go_at_call 74; refine (among_blk g (M + 4) [0, 1, -1, 2, -5, 70] _ 6 6 wx.heap.size _ (by rfl) (by simp) (by omega) (by omega) (by first | exact Blk.new _ _ _ | exact (Blk.new _ _ _).drew) (by omega) (HD3.out.below (by (repeat (first | with_reducible exact Below.refl _ _ | with_reducible assumption | with_reducible refine Below.setCell ?_ (by simp <;> omega) _ | with_reducible refine Below.alloc ?_ (by first | omega | (simp <;> omega)) _ | with_reducible refine Below.drew ?_ | with_reducible refine below_drewN ?_ _)))).2.1 (by omega)).mono ?_; rintro e w5 ⟨y, rfl, hy, hC, hg⟩; have HD5 := Lib.hid ((HD3.out.below (show Below wx.heap.size wx _ from (by (repeat (first | with_reducible exact Below.refl _ _ | with_reducible assumption | with_reducible refine Below.setCell ?_ (by simp <;> omega) _ | with_reducible refine Below.alloc ?_ (by first | omega | (simp <;> omega)) _ | with_reducible refine Below.drew ?_ | with_reducible refine below_drewN ?_ _))))).step hC hg); have hq5 := HLs.out _ _ HD5.out; clear hC hg))
            all_goals
              have hy2 : -5 ≤ y ∧ y ≤ 70 := by simp at hy; omega
              obtain ⟨hy0, hy1⟩ := hy2
              have hwy : IntKind.i64.wrap (y0 + y) = y0 + y := IntWalk.i64_in _ (by omega)
              clear hy
              go_wp2_with fail
              rw [← hpn] at HD5 ⊢
              all_goals go_meet
              all_goals exact ⟨y0 + y, (by first | rfl | rw [hwy]), ⟨by omega, by omega⟩, HD5.out⟩
        case rest =>
          obtain ⟨y, rfl, ⟨hy0, hy1⟩, hD4⟩ := hcut
          obtain ⟨w4, rfl⟩ : ∃ w4 : World, w4 = wc := ⟨_, rfl⟩
          have HD4 := Lib.hid hD4
          clear hD4 HD3 hbo
          have hs4 := HD4.out.size
          have hmn := fun W => l1Least_any 100000 (y) W
          obtain ⟨z, hz⟩ : ∃ z, min 100000 (y) = z := ⟨_, rfl⟩
          rw [hz] at hmn
          have Hmn := Lib.hid hmn
          have HSn := Lib.hid (HS.out.snoc (y := z) (by omega) (by omega))
          clear hmn hz
          go_wp2_with (first | (go_at_call 84; refine (Hmn.out _).mono ?_; rintro e w' ⟨rfl, rfl⟩) | (at_builtin; refine wpList_app1 rfl _ _ 28 rfl w.heap.size 3 i0 _ 1 8 Try.underlying28 hi hz0 hz1 hz2 rfl (by omega) (by omega) encI encI_len encI_one (.slice (some ⟨ga, 0, none⟩) l.length cp) l z w4 _ rfl _ rfl HD4.out.1 rfl (by omega) (by omega) ?_; intro v9 w9 hown9 hb9 _))
          have HD9 := Lib.hid (HD4.out.app hown9 hb9 hgw)
          have hO9 := hown9
          have hl9 : 0 < (l ++ [z]).length := by simp
          obtain ⟨A9, c9, rfl, hc9, _⟩ := Own.form encI_len hO9
          obtain ⟨g9, cs9, rfl, _⟩ := hO9.blk hl9
          have hln : (l ++ [z]).length = l.length + 1 := by simp
          generalize l ++ [z] = N at *
          clear hown9 hb9 hO9 hl9
          go_wp2
          go_roundw
          case rel => exact ⟨q', g9, c9, N, M + 6, by go_num, rfl, hc9, by omega, by omega, HSn.out, HD9.out.more (by omega)⟩
          case measure => simp [intOf]

end Go.Proofs.Ytaemdldpcpefbaa
