/-
  Contracts of the functions that draw lists of swings and tables. (Printed by gen_E10.py.)
-/
import Derived.Test.YtjnaigpogloboaaDoorDSw
import Derived.Test.YtjnaigpogloboaaDoorTableRow
import Derived.Test.YtjnaigpogloboaaDoorSetF
import Derived.Test.YtjnaigpogloboaaDoorApp
namespace Go.Proofs.YtjnaigpogloboaaDoor
set_option linter.unusedVariables false
open Go.RowKit

/-- What the walk of a list that is being drawn carries. -/
def LSt {α : Type} (enc : α → List Value) (k : Nat) (E : TypeId) (w : World) (g : Nat) (W : World) (v : Value) (l : List α) (M : Nat) : Prop := Own enc k W w.heap.size E v l ∧ Cur W g M ∧ w.grownBy W (some g)
section
variable {α : Type} {enc : α → List Value} {k : Nat} {E : TypeId} {w W W' : World} {g M M' : Nat} {v v' : Value} {l l' : List α}
theorem LSt.step (h : LSt enc k E w g W v l M) (hE : E ≠ 89) (hC : Cur W' g M') (hg : W.grownBy W' (some g)) : LSt enc k E w g W' v l M' := ⟨h.1.cur h.2.1 hg hE, hC, only_trans h.2.2 hg⟩
theorem LSt.below (h : LSt enc k E w g W v l M) (hb : Below W.heap.size W W') : LSt enc k E w g W' v l M := ⟨h.1.keep hb, h.2.1.after hb, only_belowB h.2.2 hb h.2.2.size⟩
theorem LSt.size (h : LSt enc k E w g W v l M) : w.heap.size ≤ W.heap.size := h.2.2.size
theorem LSt.more (h : LSt enc k E w g W v l M) (hm : M ≤ M') : LSt enc k E w g W v l M' := ⟨h.1, h.2.1.more hm, h.2.2⟩
/-- Behind an append. -/
theorem LSt.app (h : LSt enc k E w g W v l M) (hO : Own enc k W' w.heap.size E v' l') (hb : Below w.heap.size W W') (hgw : g < w.heap.size) : LSt enc k E w g W' v' l' M := ⟨hO, h.2.1.belowB hb hgw, only_belowB h.2.2 hb (Nat.le_refl _)⟩
theorem LSt.new (h : Cur w g M) : LSt enc k E w g (w.alloc (.cells #[] E)) (.slice (some ⟨w.heap.size, 0, none⟩) 0 0) ([] : List α) M :=
  ⟨Own.empty _ _ _ (Nat.le_refl _), h.after (by (repeat (first | with_reducible exact Below.refl _ _ | with_reducible assumption | with_reducible refine Below.setCell ?_ (by simp <;> omega) _ | with_reducible refine Below.alloc ?_ (by first | omega | (simp <;> omega)) _ | with_reducible refine Below.drew ?_ | with_reducible refine below_drewN ?_ _))), only_of_below (by (repeat (first | with_reducible exact Below.refl _ _ | with_reducible assumption | with_reducible refine Below.setCell ?_ (by simp <;> omega) _ | with_reducible refine Below.alloc ?_ (by first | omega | (simp <;> omega)) _ | with_reducible refine Below.drew ?_ | with_reducible refine below_drewN ?_ _))) _⟩
end
theorem encS_one (e : Swing) : ∀ u ∈ encS e, u.oneCell' = true := by intro u hu; simp [encS] at hu; rcases hu with rfl | rfl | rfl | rfl <;> rfl
theorem encT_one (e : TableRow) : ∀ u ∈ encT e, u.oneCell' = true := by intro u hu; simp [encT] at hu; rcases hu with rfl | rfl <;> rfl

set_option maxRecDepth 100000 in
set_option maxHeartbeats 8000000 in
theorem swings_any (g m : Nat) (w : World) (h : Cur w g m) (hm : m ≤ 1000000) :
    Calls Tryd.prog 88 #[.pointer (some ⟨g, 0, none⟩)] w fun e w' => ∃ v l, e = .returned v ∧ l.length ≤ 20 ∧ Own encS 4 w' w.heap.size 37 v l ∧ Cur w' g (m + 1000) ∧ w.grownBy w' (some g) := by
  obtain ⟨i0, hi, hz0, hz1, hz2⟩ := info_parts infoS
  have hgl := h.lt
  have HD0 := Lib.hid (LSt.new (enc := encS) (k := 4) (E := 37) h)
  clear h
  go_enter Tryd.func88, Tryd.ntmps88
  go_wp2_with fail
  refine (pick_any g m 8 _ HD0.out.2.1 (by omega) (by omega)).mono ?_
  rintro e w1 ⟨n0, rfl, ⟨hn0, hx⟩, hC, hg⟩
  have HD1 := Lib.hid (HD0.out.step (by decide) hC hg)
  have hn1 : n0 ≤ 7 := by omega
  clear hC hg hx
  obtain ⟨nn, rfl⟩ := Int.eq_ofNat_of_zero_le hn0
  go_wp2
  go_loopw [3, 4, 5] (fun v s i wr => ∃ (q : Nat) (sta : Int) (A : Option Addr) (cp : Nat) (l : List Swing) (M : Nat), i = .int .i64 q ∧ s = .int .i64 sta ∧ v = .slice A l.length cp ∧ (0 ≤ sta ∧ sta + q * 3 ≤ 30) ∧ l.length + q ≤ 7 ∧ M + q * 30 ≤ m + 252 ∧ Hid (LSt encS 4 37 w g wr (.slice A l.length cp) l M)) (fun _ _ i _ => (intOf i).toNat)
  case atStart => exact ⟨nn, 0, _, 0, [], m + 2, rfl, rfl, rfl, ⟨by omega, by omega⟩, by simp; omega, by omega, HD1.out⟩
  case round =>
    obtain ⟨q, sta, A, cp, l, M, rfl, rfl, rfl, ⟨hs0, hs1⟩, hlq, hMq, HD⟩ := hrel
    have hsw := HD.out.size
    by_cases hq : q = 0
    · subst hq
      go_wp2_with fail
      refine (one_any g M 24 _ HD.out.2.1 (by omega) (by omega)).mono ?_
      rintro e w2 ⟨bo, rfl, hC, hg⟩
      have HD2 := Lib.hid (HD.out.step (by decide) hC hg)
      clear hC hg
      cases bo with
      | false =>
        go_wp2
        go_ret
        exact ⟨_, l, rfl, by omega, HD2.out.1, HD2.out.2.1.more (by omega), HD2.out.2.2⟩
      | true =>
        go_wp2
        go_loopw [3, 4] (fun v s wr => ∃ (A : Option Addr) (cp : Nat) (l : List Swing) (M : Nat) (sta : Int), s = .int .i64 sta ∧ v = .slice A l.length cp ∧ (0 ≤ sta ∧ sta ≤ 40 + l.length) ∧ l.length ≤ 11 ∧ M ≤ m + 300 + l.length * 4 ∧ Hid (LSt encS 4 37 w g wr (.slice A l.length cp) l M)) (fun v _ _ => match v with | .slice _ n _ => 12 - n | _ => 0)
        case atStart => exact ⟨A, cp, l, M + 2, sta, rfl, rfl, ⟨hs0, by omega⟩, by omega, by omega, HD2.out⟩
        case round =>
          obtain ⟨A2, c2, l2, M2, st2, rfl, rfl, ⟨ht0, ht1⟩, hl2, hM2, HD3⟩ := hrel
          go_wp2_with fail
          refine (pick_any g M2 2 _ HD3.out.2.1 (by omega) (by omega)).mono ?_
          rintro e w4 ⟨k4, rfl, ⟨hk40, hx⟩, hC, hg⟩
          have HD4 := Lib.hid (HD3.out.step (by decide) hC hg)
          have hs4 := HD4.out.size
          have hk41 : k4 ≤ 1 := by omega
          clear hC hg hx
          by_cases hlt : (l2.length : Int) < 10 + k4
          · go_wp2_with (at_builtin; refine wpList_app1 rfl _ _ 43 rfl w.heap.size 37 i0 _ 4 32 Tryd.underlying43 hi hz0 hz1 hz2 rfl (by omega) (by omega) encS encS_len encS_one (.slice A2 l2.length c2) l2 ⟨st2 + 1, 0, 50, 0⟩ w4 _ rfl _ rfl HD4.out.1 rfl (by omega) (by omega) ?_; intro v9 w9 hown9 hb9 _)
            have HD9 := Lib.hid (HD4.out.app hown9 hb9 hgl)
            obtain ⟨A9, c9, rfl, _, _⟩ := Own.form encS_len hown9
            clear hown9 hb9
            go_wp2
            go_roundw
            case rel => exact ⟨A9, c9, _, M2 + 2, st2 + 1, rfl, rfl, ⟨by omega, by simp; omega⟩, by simp; omega, by simp; omega, HD9.out⟩
            case measure => simp; omega
          · go_wp2
            go_ret
            exact ⟨_, l2, rfl, by omega, HD4.out.1, HD4.out.2.1.more (by omega), HD4.out.2.2⟩
    · obtain ⟨q', rfl⟩ : ∃ q', q = q' + 1 := ⟨q - 1, by omega⟩
      have hq9 : q' ≤ 7 := by omega
      go_wp2_with fail
      refine (pick_any g M 3 _ HD.out.2.1 (by omega) (by omega)).mono ?_
      rintro e w2 ⟨k2, rfl, ⟨hk20, hx⟩, hC, hg⟩
      have HD2 := Lib.hid (HD.out.step (by decide) hC hg)
      have hk21 : k2 ≤ 2 := by omega
      clear hC hg hx
      go_wp2_with fail
      refine (pick_any g (M + 2) 90 _ HD2.out.2.1 (by omega) (by omega)).mono ?_
      rintro e w3 ⟨k3, rfl, ⟨hk30, hx⟩, hC, hg⟩
      have HD3 := Lib.hid (HD2.out.step (by decide) hC hg)
      have hk31 : k3 ≤ 89 := by omega
      clear hC hg hx
      have hdv : 0 ≤ k3 / 89 ∧ k3 / 89 ≤ 1 := by omega
      go_wp2_with fail
      refine (swing_any g (M + 4) _ _ HD3.out.2.1 (by omega)).mono ?_
      rintro e w4 ⟨x, rfl, hC, hg⟩
      have HD4 := Lib.hid (HD3.out.step (by decide) hC hg)
      have hs4 := HD4.out.size
      clear hC hg
      go_wp2_with (at_builtin; refine wpList_app1 rfl _ _ 43 rfl w.heap.size 37 i0 _ 4 32 Tryd.underlying43 hi hz0 hz1 hz2 rfl (by omega) (by omega) encS encS_len encS_one (.slice A l.length cp) l x w4 _ rfl _ rfl HD4.out.1 rfl (by omega) (by omega) ?_; intro v9 w9 hown9 hb9 _)
      have HD9 := Lib.hid (HD4.out.app hown9 hb9 hgl)
      obtain ⟨A9, c9, rfl, _, _⟩ := Own.form encS_len hown9
      clear hown9 hb9
      go_wp2
      go_roundw
      case rel => exact ⟨q', _, A9, c9, _, M + 24, by go_num, rfl, rfl, ⟨by omega, by omega⟩, by simp; omega, by omega, HD9.out⟩
      case measure => simp [intOf]

theorem flat_take {α : Type} {enc : α → List Value} {k : Nat} (hk : ∀ x, (enc x).length = k) {l : List α} {m : Nat} (hm : m ≤ l.length) : flat enc (l.take m) = (flat enc l).take (m * k) := by
  have e : flat enc l = flat enc (l.take m) ++ flat enc (l.drop m) := by rw [← flat_append, List.take_append_drop]
  rw [e, List.take_left' (by rw [flat_length hk, List.length_take, Nat.min_eq_left hm])]
/-- The first elements of an owned row. -/
theorem Own.pre {α : Type} {enc : α → List Value} {k : Nat} (hk : ∀ x, (enc x).length = k) {w : World} {base g n c : Nat} {E : TypeId} {l : List α} (h : Own enc k w base E (.slice (some ⟨g, 0, none⟩) n c) l) (hn : 0 < n) (m : Nat) (hm : m ≤ n) : Own enc k w base E (.slice (some ⟨g, 0, none⟩) m c) (l.take m) := by
  obtain ⟨g', cs, e, hb, hB, hs, h3, h4, h5, h6⟩ := h.blk hn
  injection e with e
  injection e with e1 e2
  subst e1
  have hl : (l.take m).length = m := by rw [List.length_take]; omega
  refine ⟨by rw [flat_length hk], .inr ⟨g, c, cs, by rw [hl], hb, hB, by omega, h5, hs, ?_⟩⟩
  rw [flat_take hk (by omega), ← h6, List.take_take, hl, Nat.min_eq_left (Nat.mul_le_mul_right k hm)]

theorem own_ne_box {α : Type} {enc : α → List Value} {k : Nat} {W : World} {base q n c : Nat} {E : TypeId} {A : Option Addr} {l : List α} {cs0 : Array Value} (o : Own enc k W base E (.slice A n c) l) (hB : Blk W q E cs0) (hn : 0 < n) (hs : cs0.size < n * k) : (Value.slice A n c).ownBlock ≠ some q := by
  obtain ⟨g, cs, rfl, _, hB2, h2, _, h4, _⟩ := o.blk hn
  intro e
  injection e with e
  simp only at e
  subst e
  unfold Blk at hB hB2
  rw [hB] at hB2
  injection hB2 with hB2
  injection hB2 with hB2
  subst hB2
  have : n * k ≤ c * k := Nat.mul_le_mul_right k h4
  omega
def boxT (a b : Int) : Array Value := #[.int .i64 a, .int .i64 b]

set_option maxRecDepth 100000 in
set_option maxHeartbeats 8000000 in
theorem table11_any (g m : Nat) (w : World) (h : Cur w g m) (hm : m ≤ 1000000) :
    Calls Tryd.prog 80 #[.pointer (some ⟨g, 0, none⟩)] w fun e w' => ∃ v l, e = .returned v ∧ l.length ≤ 20 ∧ Own encT 2 w' w.heap.size 76 v l ∧ Cur w' g (m + 1000) ∧ w.grownBy w' (some g) := by
  obtain ⟨i0, hi, hz0, hz1, hz2⟩ := info_parts infoT
  have hgl := h.lt
  have HD0 := Lib.hid (LSt.new (enc := encT) (k := 2) (E := 76) h)
  clear h
  go_enter Tryd.func80, Tryd.ntmps80
  go_wp2_with fail
  refine (among_lit g m [0, 0, 10] _ 3 _ _ (by rfl) (by rfl) (by simp) HD0.out.2.1 (by omega) (by omega) (by omega)).mono ?_
  rintro e w1 ⟨f0, rfl, hx, hC, hg⟩
  have HD1 := Lib.hid (HD0.out.step (by decide) hC hg)
  have hf0 : 0 ≤ f0 ∧ f0 ≤ 10 := by simp at hx; omega
  clear hC hg hx
  go_wp2_with fail
  refine (among_lit g (m + 2) [0, 140] _ 2 _ _ (by rfl) (by rfl) (by simp) HD1.out.2.1 (by omega) (by omega) (by omega)).mono ?_
  rintro e w2 ⟨b0, rfl, hx, hC, hg⟩
  have HD2 := Lib.hid (HD1.out.step (by decide) hC hg)
  have hb0 : 0 ≤ b0 ∧ b0 ≤ 140 := by simp at hx; omega
  clear hC hg hx
  go_wp2_with fail
  refine (pick_any g (m + 4) 4 _ HD2.out.2.1 (by omega) (by omega)).mono ?_
  rintro e w3 ⟨n0, rfl, ⟨hn0, hx⟩, hC, hg⟩
  have HD3 := Lib.hid (HD2.out.step (by decide) hC hg)
  have hn1 : n0 ≤ 3 := by omega
  clear hC hg hx
  obtain ⟨nn, rfl⟩ := Int.eq_ofNat_of_zero_le hn0
  go_wp2
  go_loopw [3, 4, 5, 6] (fun v f b i wr => ∃ (q : Nat) (fr bo : Int) (A : Option Addr) (cp : Nat) (l : List TableRow) (M : Nat), i = .int .i64 q ∧ f = .int .i64 fr ∧ b = .int .i64 bo ∧ v = .slice A l.length cp ∧ (0 ≤ fr ∧ fr + q * 200 ≤ 3000) ∧ (0 ≤ bo ∧ bo + q * 200 ≤ 3000) ∧ l.length + q = nn + 2 ∧ M + q * 10 ≤ m + 60 ∧ Hid (LSt encT 2 76 w g wr (.slice A l.length cp) l M)) (fun _ _ _ i _ => (intOf i).toNat)
  case atStart => exact ⟨nn + 2, f0, b0, _, 0, [], m + 6, by go_num, rfl, rfl, rfl, ⟨by omega, by omega⟩, ⟨by omega, by omega⟩, by simp, by omega, HD3.out⟩
  case round =>
    obtain ⟨q, fr, bo, A, cp, l, M, rfl, rfl, rfl, rfl, ⟨hf1, hf2⟩, ⟨hb1, hb2⟩, hlq, hMq, HD⟩ := hrel
    have hsw := HD.out.size
    by_cases hq : q = 0
    · subst hq
      have hpos : 0 < l.length := by omega
      go_wp2_with fail
      refine (pick_any g M l.length _ HD.out.2.1 (by omega) (by omega)).mono ?_
      rintro e w4 ⟨kz, rfl, ⟨hk0, hx⟩, hC, hg⟩
      have HD4 := Lib.hid (HD.out.step (by decide) hC hg)
      have hk1 : kz < l.length := by omega
      clear hC hg hx
      obtain ⟨kn, rfl⟩ := Int.eq_ofNat_of_zero_le hk0
      have hkn : kn < l.length := by omega
      obtain ⟨ga, cs, rfl, hgb, hBk, hcs, _, hlc, hcm, htk⟩ := HD4.out.1.blk hpos
      obtain ⟨b9, o9, e9, hb9, c0, c1⟩ := cellsT (Own.rd' encT_len HD4.out.1) hkn
      injection e9 with e9
      injection e9 with e1 e2
      subst e1 e2
      simp only [Nat.zero_add] at c0 c1
      have hs4 := HD4.out.size
      have hg4 := HD4.out.2.1.lt
      generalize l[kn] = r at *
      have hbx : Below w4.heap.size w4 (w4.alloc (.cells #[.int .i64 r.far, .int .i64 r.bonus] 76)) := by (repeat (first | with_reducible exact Below.refl _ _ | with_reducible assumption | with_reducible refine Below.setCell ?_ (by simp <;> omega) _ | with_reducible refine Below.alloc ?_ (by first | omega | (simp <;> omega)) _ | with_reducible refine Below.drew ?_ | with_reducible refine below_drewN ?_ _))
      have HX4 := Lib.hid (Blk.new w4 76 #[.int .i64 r.far, .int .i64 r.bonus])
      have HD5 := Lib.hid (HD4.out.below hbx)
      clear hbx hBk hcs htk
      go_wp2_with fail
      refine (pick_any g (M + 2) 60 _ HD5.out.2.1 (by omega) (by omega)).mono ?_
      rintro e w5 ⟨kk, rfl, ⟨_, _⟩, hC, hg⟩
      have HD6 := Lib.hid (HD5.out.step (by decide) hC hg)
      have HX6 := Lib.hid (HX4.out.grown hg (by intro e9; injection e9; omega))
      have hs6 := HD6.out.size
      clear hC hg HD4 HD5 HX4 c0 c1 hb9 HD
      have hgq : g < w4.heap.size := hg4
      have hwq : w.heap.size ≤ w4.heap.size := hs4
      generalize w4.heap.size = qb at *
      generalize r.far = ra at *
      generalize r.bonus = rb at *
      have hM2 : M ≤ m + 60 := by omega
      have hl5 : l.length ≤ 5 := by omega
      by_cases e0 : kk = 0
      · subst e0
        go_wp2_with fail
        refine (among_lit g (M + 4) [-1, 1501, 8] _ 3 _ _ (by rfl) (by rfl) (by simp) HD6.out.2.1 (by omega) (by omega) (by omega)).mono ?_
        rintro e w7 ⟨nv, rfl, _, hC, hg⟩
        have HD7 := Lib.hid (HD6.out.step (by decide) hC hg)
        have hX7 := HX6.out.grown hg (by intro e9; injection e9; omega)
        have hs7 := HD7.out.size
        clear hC hg
        have HX7 := Lib.hid (hX7.set_ 0 (.int .i64 nv))
        have hbx : Below w.heap.size w7 (w7.setCell ⟨qb, 0, none⟩ (.int .i64 nv)) := by (repeat (first | with_reducible exact Below.refl _ _ | with_reducible assumption | with_reducible refine Below.setCell ?_ (by simp <;> omega) _ | with_reducible refine Below.alloc ?_ (by first | omega | (simp <;> omega)) _ | with_reducible refine Below.drew ?_ | with_reducible refine below_drewN ?_ _))
        have hnb := own_ne_box HD7.out.1 hX7 hpos (by simp; omega)
        obtain ⟨x0, x1⟩ := box2 hX7
        have xf := hX7.frozen 0
        have HD8 : Hid (LSt encT 2 76 w g (w7.setCell ⟨qb, 0, none⟩ (.int .i64 nv)) (.slice (some ⟨ga, 0, none⟩) l.length cp) l (M + 6)) :=
          ⟨HD7.out.1.grown (row := some qb) ⟨rfl, rfl, rfl, by simp [World.setCell], fun i hi hn => Below.heap_setCell w7 ⟨qb, 0, none⟩ _ i (fun e => hn (by rw [e]))⟩ (fun g9 hg9 => by injection hg9 with hg9; subst hg9; exact hnb), HD7.out.2.1.belowB hbx hgl, only_belowB HD7.out.2.2 hbx (Nat.le_refl _)⟩
        clear hbx hX7
        obtain ⟨gb, cs, eA, hgb9, hB, hcs, _, hlc9, hcm9, htk⟩ := HD8.out.1.blk hpos
        injection eA with eA
        injection eA with eA
        subst eA
        have hcz : l.length * 2 ≤ cp * 2 := by omega
        have d0 := hB.cell (kn * 2)
        have f0 := hB.frozen (kn * 2)
        have d1 := hB.cell (kn * 2 + 1)
        have f1 := hB.frozen (kn * 2 + 1)
        obtain ⟨u0, hu0⟩ : ∃ u, cs[kn * 2]? = some u := ⟨_, Array.getElem?_eq_getElem (by omega)⟩
        obtain ⟨u1, hu1⟩ : ∃ u, cs[kn * 2 + 1]? = some u := ⟨_, Array.getElem?_eq_getElem (by omega)⟩
        rw [hu0] at d0
        rw [hu1] at d1
        have HB := Lib.hid hB
        have Htk := Lib.hid htk
        have Hcs := Lib.hid hcs
        obtain ⟨z0, z1⟩ := box2 HX7.out
        clear hB htk hcs hu0 hu1
        go_wp2
        go_ret
        refine ⟨_, l.set kn ⟨nv, rb⟩, rfl, by simp; omega, Own.set_ encT_len (j := kn) (y := ⟨nv, rb⟩) hgb9 ((HB.out.set_ (kn * 2) _).set_ (kn * 2 + 1) _) Hcs.out hlc9 hcm9 (by omega) Htk.out, ?_, ?_⟩
        · exact (HD8.out.2.1.belowB (((Below.refl w.heap.size _).setCell hgb9 _).setCell hgb9 _) hgl).more (by omega)
        · exact only_belowB HD8.out.2.2 (((Below.refl w.heap.size _).setCell hgb9 _).setCell hgb9 _) (Nat.le_refl _)
      · have n0 : (kk == 0) = false := by simp [e0]
        by_cases e1 : kk = 1
        · subst e1
          go_wp2_with fail
          refine (among_lit g (M + 4) [-1, 601, 0] _ 3 _ _ (by rfl) (by rfl) (by simp) HD6.out.2.1 (by omega) (by omega) (by omega)).mono ?_
          rintro e w7 ⟨nv, rfl, _, hC, hg⟩
          have HD7 := Lib.hid (HD6.out.step (by decide) hC hg)
          have hX7 := HX6.out.grown hg (by intro e9; injection e9; omega)
          have hs7 := HD7.out.size
          clear hC hg
          have HX7 := Lib.hid (hX7.set_ 1 (.int .i64 nv))
          have hbx : Below w.heap.size w7 (w7.setCell ⟨qb, 1, none⟩ (.int .i64 nv)) := by (repeat (first | with_reducible exact Below.refl _ _ | with_reducible assumption | with_reducible refine Below.setCell ?_ (by simp <;> omega) _ | with_reducible refine Below.alloc ?_ (by first | omega | (simp <;> omega)) _ | with_reducible refine Below.drew ?_ | with_reducible refine below_drewN ?_ _))
          have hnb := own_ne_box HD7.out.1 hX7 hpos (by simp; omega)
          obtain ⟨x0, x1⟩ := box2 hX7
          have xf := hX7.frozen 1
          have HD8 : Hid (LSt encT 2 76 w g (w7.setCell ⟨qb, 1, none⟩ (.int .i64 nv)) (.slice (some ⟨ga, 0, none⟩) l.length cp) l (M + 6)) :=
            ⟨HD7.out.1.grown (row := some qb) ⟨rfl, rfl, rfl, by simp [World.setCell], fun i hi hn => Below.heap_setCell w7 ⟨qb, 1, none⟩ _ i (fun e => hn (by rw [e]))⟩ (fun g9 hg9 => by injection hg9 with hg9; subst hg9; exact hnb), HD7.out.2.1.belowB hbx hgl, only_belowB HD7.out.2.2 hbx (Nat.le_refl _)⟩
          clear hbx hX7
          obtain ⟨gb, cs, eA, hgb9, hB, hcs, _, hlc9, hcm9, htk⟩ := HD8.out.1.blk hpos
          injection eA with eA
          injection eA with eA
          subst eA
          have hcz : l.length * 2 ≤ cp * 2 := by omega
          have d0 := hB.cell (kn * 2)
          have f0 := hB.frozen (kn * 2)
          have d1 := hB.cell (kn * 2 + 1)
          have f1 := hB.frozen (kn * 2 + 1)
          obtain ⟨u0, hu0⟩ : ∃ u, cs[kn * 2]? = some u := ⟨_, Array.getElem?_eq_getElem (by omega)⟩
          obtain ⟨u1, hu1⟩ : ∃ u, cs[kn * 2 + 1]? = some u := ⟨_, Array.getElem?_eq_getElem (by omega)⟩
          rw [hu0] at d0
          rw [hu1] at d1
          have HB := Lib.hid hB
          have Htk := Lib.hid htk
          have Hcs := Lib.hid hcs
          obtain ⟨z0, z1⟩ := box2 HX7.out
          clear hB htk hcs hu0 hu1
          go_wp2
          go_ret
          refine ⟨_, l.set kn ⟨ra, nv⟩, rfl, by simp; omega, Own.set_ encT_len (j := kn) (y := ⟨ra, nv⟩) hgb9 ((HB.out.set_ (kn * 2) _).set_ (kn * 2 + 1) _) Hcs.out hlc9 hcm9 (by omega) Htk.out, ?_, ?_⟩
          · exact (HD8.out.2.1.belowB (((Below.refl w.heap.size _).setCell hgb9 _).setCell hgb9 _) hgl).more (by omega)
          · exact only_belowB HD8.out.2.2 (((Below.refl w.heap.size _).setCell hgb9 _).setCell hgb9 _) (Nat.le_refl _)
        · have n1 : (kk == 1) = false := by simp [e1]
          by_cases e2 : kk = 2
          · subst e2
            have hl1 : (1 : Int) ≤ (cp : Int) := by omega
            have HP := Lib.hid (Own.pre encT_len HD6.out.1 hpos 1 (by omega))
            go_wp2
            go_ret
            exact ⟨_, l.take 1, rfl, by simp; omega, HP.out, HD6.out.2.1.more (by omega), HD6.out.2.2⟩
          · have n2 : (kk == 2) = false := by simp [e2]
            by_cases e3 : kk = 3
            · subst e3
              go_wp2
              go_loopw [3, 4] (fun v f wr => ∃ (fr : Int) (ga cp : Nat) (l : List TableRow) (M : Nat), f = .int .i64 fr ∧ v = .slice (some ⟨ga, 0, none⟩) l.length cp ∧ (0 ≤ fr ∧ fr ≤ 3000 + l.length * 5) ∧ (kn < l.length ∧ 2 ≤ l.length ∧ l.length ≤ 9) ∧ M ≤ m + 70 + l.length * 4 ∧ Hid (Blk wr qb 76 #[.int .i64 ra, .int .i64 rb]) ∧ Hid (LSt encT 2 76 w g wr (.slice (some ⟨ga, 0, none⟩) l.length cp) l M)) (fun v _ _ => match v with | .slice _ n _ => 12 - n | _ => 0)
              case atStart => exact ⟨fr, ga, cp, l, M + 4, rfl, rfl, ⟨hf1, by omega⟩, ⟨hkn, by omega, by omega⟩, by omega, HX6.out, HD6.out⟩
              case round =>
                obtain ⟨f2, ga2, c2, l2, M2, rfl, rfl, ⟨hf3, hf4⟩, ⟨hkn2, hl2a, hl2b⟩, hMM, HX7, HD7⟩ := hrel
                go_wp2_with fail
                refine (pick_any g M2 2 _ HD7.out.2.1 (by omega) (by omega)).mono ?_
                rintro e w8 ⟨k4, rfl, ⟨hk40, hx⟩, hC, hg⟩
                have HD8 := Lib.hid (HD7.out.step (by decide) hC hg)
                have HX8 := Lib.hid (HX7.out.grown hg (by intro e9; injection e9; omega))
                have hs8 := HD8.out.size
                have hk41 : k4 ≤ 1 := by omega
                clear hC hg hx
                by_cases hlt : (l2.length : Int) < 8 + k4
                · go_wp2_with (at_builtin; refine wpList_app1 rfl _ _ 30 rfl w.heap.size 76 i0 _ 2 16 Tryd.underlying30 hi hz0 hz1 hz2 rfl (by omega) (by omega) encT encT_len encT_one (.slice (some ⟨ga2, 0, none⟩) l2.length c2) l2 ⟨f2, bo⟩ w8 _ rfl _ rfl HD8.out.1 rfl (by omega) (by omega) ?_; intro v9 w9 hown9 hb9 hr9)
                  have HX9 := Lib.hid (HX8.out.grown hr9 (fun e9 => own_ne_box HD8.out.1 HX8.out (by omega) (by simp; omega) e9.symm))
                  have HD9 := Lib.hid (HD8.out.app hown9 hb9 hgl)
                  obtain ⟨A9, c9, e9, _, _⟩ := Own.form encT_len hown9
                  subst e9
                  obtain ⟨g9, cs9, e9, _⟩ := hown9.blk (by simp)
                  subst e9
                  clear hown9 hb9 hr9
                  go_wp2
                  go_roundw
                  case rel => exact ⟨f2 + 5, g9, c9, _, M2 + 2, rfl, rfl, ⟨by omega, by simp; omega⟩, ⟨by simp; omega, by simp; omega, by simp; omega⟩, by simp; omega, HX9.out, HD9.out⟩
                  case measure => simp; omega
                · have hpos2 : 0 < l2.length := by omega
                  obtain ⟨gb, cs, eA, hgb9, hB, hcs, _, hlc9, hcm9, htk⟩ := HD8.out.1.blk hpos2
                  injection eA with eA
                  injection eA with eA
                  subst eA
                  have hcz : l2.length * 2 ≤ c2 * 2 := by omega
                  have d0 := hB.cell (kn * 2)
                  have f0 := hB.frozen (kn * 2)
                  have d1 := hB.cell (kn * 2 + 1)
                  have f1 := hB.frozen (kn * 2 + 1)
                  obtain ⟨u0, hu0⟩ : ∃ u, cs[kn * 2]? = some u := ⟨_, Array.getElem?_eq_getElem (by omega)⟩
                  obtain ⟨u1, hu1⟩ : ∃ u, cs[kn * 2 + 1]? = some u := ⟨_, Array.getElem?_eq_getElem (by omega)⟩
                  rw [hu0] at d0
                  rw [hu1] at d1
                  have HB := Lib.hid hB
                  have Htk := Lib.hid htk
                  have Hcs := Lib.hid hcs
                  obtain ⟨z0, z1⟩ := box2 HX8.out
                  clear hB htk hcs hu0 hu1
                  go_wp2
                  go_ret
                  refine ⟨_, l2.set kn ⟨ra, rb⟩, rfl, by simp; omega, Own.set_ encT_len (j := kn) (y := ⟨ra, rb⟩) hgb9 ((HB.out.set_ (kn * 2) _).set_ (kn * 2 + 1) _) Hcs.out hlc9 hcm9 (by omega) Htk.out, ?_, ?_⟩
                  · exact (HD8.out.2.1.belowB (((Below.refl w.heap.size _).setCell hgb9 _).setCell hgb9 _) hgl).more (by omega)
                  · exact only_belowB HD8.out.2.2 (((Below.refl w.heap.size _).setCell hgb9 _).setCell hgb9 _) (Nat.le_refl _)
            · have n3 : (kk == 3) = false := by simp [e3]
              obtain ⟨gb, cs, eA, hgb9, hB, hcs, _, hlc9, hcm9, htk⟩ := HD6.out.1.blk hpos
              injection eA with eA
              injection eA with eA
              subst eA
              have hcz : l.length * 2 ≤ cp * 2 := by omega
              have d0 := hB.cell (kn * 2)
              have f0 := hB.frozen (kn * 2)
              have d1 := hB.cell (kn * 2 + 1)
              have f1 := hB.frozen (kn * 2 + 1)
              obtain ⟨u0, hu0⟩ : ∃ u, cs[kn * 2]? = some u := ⟨_, Array.getElem?_eq_getElem (by omega)⟩
              obtain ⟨u1, hu1⟩ : ∃ u, cs[kn * 2 + 1]? = some u := ⟨_, Array.getElem?_eq_getElem (by omega)⟩
              rw [hu0] at d0
              rw [hu1] at d1
              have HB := Lib.hid hB
              have Htk := Lib.hid htk
              have Hcs := Lib.hid hcs
              obtain ⟨z0, z1⟩ := box2 HX6.out
              clear hB htk hcs hu0 hu1
              go_wp2
              go_ret
              refine ⟨_, l.set kn ⟨ra, rb⟩, rfl, by simp; omega, Own.set_ encT_len (j := kn) (y := ⟨ra, rb⟩) hgb9 ((HB.out.set_ (kn * 2) _).set_ (kn * 2 + 1) _) Hcs.out hlc9 hcm9 (by omega) Htk.out, ?_, ?_⟩
              · exact (HD6.out.2.1.belowB (((Below.refl w.heap.size _).setCell hgb9 _).setCell hgb9 _) hgl).more (by omega)
              · exact only_belowB HD6.out.2.2 (((Below.refl w.heap.size _).setCell hgb9 _).setCell hgb9 _) (Nat.le_refl _)
    · obtain ⟨q', rfl⟩ : ∃ q', q = q' + 1 := ⟨q - 1, by omega⟩
      have hq9 : q' ≤ 7 := by omega
      have hll : l.length ≤ 1048576 := by omega
      have hs4 := hsw
      go_wp2_with (at_builtin; refine wpList_app1 rfl _ _ 30 rfl w.heap.size 76 i0 _ 2 16 Tryd.underlying30 hi hz0 hz1 hz2 rfl (by omega) (by omega) encT encT_len encT_one (.slice A l.length cp) l ⟨fr, bo⟩ wr _ rfl _ rfl HD.out.1 rfl (by omega) (by omega) ?_; intro v9 w9 hown9 hb9 _)
      have HD4 := Lib.hid (HD.out.app hown9 hb9 hgl)
      obtain ⟨A9, c9, rfl, _, _⟩ := Own.form encT_len hown9
      clear hown9 hb9
      go_wp2_with fail
      refine (among_lit g M [1, 7, 50, 200] _ 4 _ _ (by rfl) (by rfl) (by simp) HD4.out.2.1 (by omega) (by omega) (by omega)).mono ?_
      rintro e w5 ⟨x5, rfl, hx, hC, hg⟩
      have HD5 := Lib.hid (HD4.out.step (by decide) hC hg)
      have hx5 : 1 ≤ x5 ∧ x5 ≤ 200 := by simp at hx; omega
      clear hC hg hx
      go_wp2_with fail
      refine (among_lit g (M + 2) [0, 10, 33, 100] _ 4 _ _ (by rfl) (by rfl) (by simp) HD5.out.2.1 (by omega) (by omega) (by omega)).mono ?_
      rintro e w6 ⟨x6, rfl, hx, hC, hg⟩
      have HD6 := Lib.hid (HD5.out.step (by decide) hC hg)
      have hx6 : 0 ≤ x6 ∧ x6 ≤ 100 := by simp at hx; omega
      clear hC hg hx
      go_wp2
      go_roundw
      case rel => exact ⟨q', fr + x5, bo + x6, A9, c9, l ++ [(⟨fr, bo⟩ : TableRow)], M + 2 + 2, by go_num, rfl, rfl, by simp, ⟨by omega, by omega⟩, ⟨by omega, by omega⟩, by simp; omega, by omega, HD6.out⟩
      case measure => simp [intOf]

end Go.Proofs.YtjnaigpogloboaaDoor
