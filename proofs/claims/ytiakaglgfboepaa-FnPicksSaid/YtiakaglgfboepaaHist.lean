/-
  Contracts of HistoryOf. (Printed by gen_A6.py.)
-/
import Derived.Test.YtiakaglgfboepaaHistV
import Derived.Test.YtiakaglgfboepaaInts
import Derived.Deep.LoopGhost
namespace Go.Proofs.Ytiakaglgfboepaa
set_option linter.unusedVariables false
open Go.RowKit

set_option maxRecDepth 100000 in
set_option maxHeartbeats 1000000 in
theorem HistoryOf_any (A : Option Addr) (c : Nat) (l : List Pick) (w : World) (h : Rd encP 7 w w.heap.size A l) (hl : l.length ≤ 1048576) (hc : l.length ≤ c ∧ c ≤ maxLen) (id : Int) :
    Calls Try.prog 34 #[.slice A l.length c, .int .i64 id] w fun e w' => ∃ A' c', e = .returned (.tuple #[.slice A' (hiL l id).length c', .bool (okHi l id)]) ∧ ((hiL l id).length ≤ c' ∧ c' ≤ maxLen) ∧ Own encI 1 w' w.heap.size 3 (.slice A' (hiL l id).length c') (hiL l id) ∧ Below w.heap.size w w' := by
  unfold hiL
  obtain ⟨i0, hi, hz0, hz1, hz2⟩ := info_parts infoI
  cases hp : picksS l with
  | false =>
    have hk : okHi l id = false := by simp [okHi, hp]
    simp only [hk, Bool.false_eq_true, if_false, List.length_nil]
    clear hk
    go_enter Try.func34, Try.ntmps34
    go_wp2_with fail
    refine (pickAt_any A c l _ h hl id).mono ?_
    rintro e w0 ⟨rfl, hb0⟩
    have hr0 := h.after hb0
    go_wp2_with fail
    refine (ArePicks_any A c l _ hr0 hl).mono ?_
    rintro e w1 ⟨rfl, hb1⟩
    rw [hp]
    go_wp2
    go_ret2
    exact ⟨none, 0, rfl, ⟨Nat.le_refl _, Nat.zero_le _⟩, Own.none_ _ _ _, hb0.trans (hb1.mono hb0.size)⟩
  | true =>
    have HP := Lib.hid hp
    by_cases h0 : 0 ≤ findP l id
    rotate_left
    · have hk : okHi l id = false := by simp [okHi, h0]
      simp only [hk, Bool.false_eq_true, if_false, List.length_nil]
      obtain ⟨r, hr⟩ : ∃ r, findP l id = r := ⟨_, rfl⟩
      have hlt : r < 0 := by omega
      have Hr := Lib.hid hr
      clear hk h0 hr
      go_enter Try.func34, Try.ntmps34
      go_wp2_with fail
      refine (pickAt_any A c l _ h hl id).mono ?_
      rintro e w0 ⟨rfl, hb0⟩
      rw [Hr.out]
      have hr0 := h.after hb0
      go_wp2_with fail
      refine (ArePicks_any A c l _ hr0 hl).mono ?_
      rintro e w1 ⟨rfl, hb1⟩
      rw [hp]
      go_wp2
      go_ret2
      exact ⟨none, 0, rfl, ⟨Nat.le_refl _, Nat.zero_le _⟩, Own.none_ _ _ _, hb0.trans (hb1.mono hb0.size)⟩
    · have hk : okHi l id = true := by simp [okHi, hp, h0]
      simp only [hk, if_true]
      obtain ⟨k0, hk0, hf0, _, hi1, hi2, _⟩ := find_id h0 hp
      obtain ⟨M, hM⟩ : ∃ M, histF l id.toNat id = M := ⟨_, rfl⟩
      rw [hM]
      have HM := Lib.hid hM
      have Hf0 := Lib.hid hf0
      have H0 := Lib.hid h0
      clear hk hf0 hM h0
      go_enter Try.func34, Try.ntmps34
      go_wp2_with fail
      refine (pickAt_any A c l _ h hl id).mono ?_
      rintro e w0 ⟨rfl, hb0⟩
      rw [Hf0.out]
      have hr0 := h.after hb0
      go_wp2_with fail
      refine (ArePicks_any A c l _ hr0 hl).mono ?_
      rintro e w1 ⟨rfl, hb1⟩
      rw [hp]
      have hB1 := hb0.trans (hb1.mono hb0.size)
      have Ho := Lib.hid (Own.empty (enc := encI) (k := 1) w1 w.heap.size 3 hB1.size)
      have hB1a := hB1.alloc hB1.size (.cells #[] 3)
      have hnn : ¬ (k0 : Int) < 0 := by omega
      clear hp
      go_wp2
      go_loopg [6, 7] id.toNat (fun g i v wr => ∃ (q : Int) (D : List Int) (f : Nat) (r : Int), i = .int .i64 r ∧ Hid (r = findP l q ∧ g = q.toNat) ∧ (0 ≤ q ∧ q ≤ 9999) ∧ Hid (q = 0 ∧ r < 0 ∨ 0 ≤ r) ∧ Hid (q ≤ f ∧ D ++ histF l f q = M ∧ D.length + q ≤ 9999) ∧ Hid (Own encI 1 wr w.heap.size 3 v D) ∧ Below w.heap.size w wr)
      case atStart => exact ⟨id, [], id.toNat, _, rfl, (show _ ∧ _ from ⟨Hf0.out.symm, rfl⟩), ⟨by omega, by omega⟩, .inr (by omega), (show _ ∧ _ from ⟨by omega, by rw [List.nil_append]; exact HM.out, by simp; omega⟩), Ho.out, hB1a⟩
      case round =>
        obtain ⟨q, D, f, r, rfl, Hr, ⟨hq0, hq1⟩, Hq, Hf, hown, hbl⟩ := hrel
        by_cases hz : r < 0
        · have hq : q = 0 := by
            rcases Hq.out with c1 | c1
            · exact c1.1
            · omega
          have he : D = M := by have := Hf.out.2.1; rw [hq, histF_zero, List.append_nil] at this; exact this
          subst he
          obtain ⟨B', d', rfl, hcd, _⟩ := Own.form encI_len hown.out
          have hd1 : decide (0 ≤ r) = false := by simp; omega
          clear hq
          go_wp2
          go_ret2
          exact ⟨_, _, rfl, hcd, hown.out, hbl⟩
        · have hr0' : 0 ≤ findP l q := by have := Hr.out.1; omega
          obtain ⟨k, hk, hfk, hid, g1, g2, g3, g4, g5, g6, g7⟩ := find_id hr0' HP.out
          obtain ⟨f1, f2, f3⟩ := Hf.out
          obtain ⟨f', rfl⟩ : ∃ f', f = f' + 1 := ⟨f - 1, by omega⟩
          rw [histF_succ (by omega), g3] at f2
          have hgk := Hr.out.2
          obtain rfl : r = (k : Int) := by have := Hr.out.1; omega
          have hnx : ∀ q0 : Int, q0 = l[k].after_ → q0 = 0 ∧ findP l q0 < 0 ∨ 0 ≤ findP l q0 := fun q0 e => by
            by_cases h5 : l[k].after_ = 0
            · exact .inl ⟨by omega, by rw [e]; exact g6 h5⟩
            · exact .inr (by rw [e]; exact g7 h5)
          obtain ⟨b, off, hA, hb, -⟩ := cellsP ((h.below hbl).more hbl.size) hk
          have hki : (k : Int) < (l.length : Int) := by omega
          subst hA
          have hpk := fun (W : World) (hW : Rd encP 7 W W.heap.size (some ⟨b, off, none⟩) l) (i0 : Int) => pickAt_any (some ⟨b, off, none⟩) c l W hW hl i0
          have hcell := fun (W : World) (hW : Rd encP 7 W W.heap.size (some ⟨b, off, none⟩) l) => cellsP hW hk
          have hc6 : ∀ W : World, Rd encP 7 W W.heap.size (some ⟨b, off, none⟩) l → W.cell? ⟨b, off + k * 7 + 6, none⟩ = some (.int .i64 l[k].after_) := fun W hW => by
            obtain ⟨b', off', e', _, _, _, _, _, _, _, d6⟩ := cellsP hW hk
            injection e' with e'
            injection e' with e1 e2
            subst e1 e2
            exact d6
          obtain ⟨x, hx⟩ : ∃ x, l[k] = x := ⟨_, rfl⟩
          rw [hx] at hc6
          have Hc6 := Lib.hid hc6
          clear hc6
          rw [hx] at g4 g5 f2 hnx hcell hid
          have Hnx := Lib.hid (hnx x.after_ rfl)
          have HF := Lib.hid (show x.after_ ≤ f' ∧ (D ++ [q]) ++ histF l f' x.after_ = M ∧ (D ++ [q]).length + x.after_ ≤ 9999 from ⟨by omega, by rw [List.append_assoc]; exact f2, by rw [List.length_append, List.length_singleton]; omega⟩)
          obtain ⟨B', d', rfl, hcd, _⟩ := Own.form encI_len hown.out
          have Hpk := Lib.hid hpk
          have Hcell := Lib.hid hcell
          have hsz := hbl.size
          have hDl : D.length ≤ 9999 := by omega
          have hlt : x.after_.toNat < gk := by rw [hgk]; omega
          have Hlt := Lib.hid hlt
          obtain ⟨b', off', e', hb', c0, c1, c2, c3, c4, c5, c6⟩ := hcell wr ((h.below hbl).more hbl.size)
          injection e' with e'
          injection e' with e1 e2
          subst e1 e2
          rw [hid] at c0
          have hgk0 := Lib.hid hgk
          clear hnx hpk hcell hx f2 g3 g6 g7 hfk hid hr0' hgk hlt
          go_wp2_with (at_builtin; refine wpList_app1 rfl _ _ 42 rfl w.heap.size 3 i0 _ 1 8 Try.underlying42 hi hz0 hz1 hz2 rfl (by omega) (by omega) encI encI_len encI_one (.slice B' D.length d') D q wr _ rfl _ rfl hown.out rfl (by omega) (by omega) ?_; intro v' w3 hown3 hb3 _; have d6 := Hc6.out w3 ((h.below (hbl.trans hb3)).more (hbl.trans hb3).size))
          have Hown3 := Lib.hid hown3
          have hB3 := hbl.trans hb3
          have hr3 := (h.below hB3).more hB3.size
          clear hown3 hb3 c0 c1 c2 c3 c4 c5 c6
          go_wp2_with fail
          refine (Hpk.out w3 hr3 x.after_).mono ?_
          rintro e w4 ⟨rfl, hb4⟩
          have hB4 := hB3.trans (hb4.mono hB3.size)
          have Hown4 := Lib.hid (Hown3.out.keep hb4)
          clear d6
          go_wp2
          go_roundg x.after_.toNat
          case rel => exact ⟨x.after_, D ++ [q], f', _, rfl, (show _ ∧ _ from ⟨rfl, rfl⟩), ⟨by omega, by omega⟩, Hnx.out, HF.out, Hown4.out, hB4⟩
          case measure => exact Hlt.out

set_option maxRecDepth 100000 in
set_option maxHeartbeats 1000000 in
theorem sHistoryOf_any (A : Option Addr) (c : Nat) (l : List Pick) (w : World) (h : Rd encP 7 w w.heap.size A l) (hl : l.length ≤ 1048576) (hc : l.length ≤ c ∧ c ≤ maxLen) (id : Int) :
    Calls Try.prog 33 #[.slice A l.length c, .int .i64 id] w fun e w' => ∃ A' c', e = .returned (.tuple #[.slice A' (hiL l id).length c', .bool (okHi l id)]) ∧ ((hiL l id).length ≤ c' ∧ c' ≤ maxLen) ∧ Own encI 1 w' w.heap.size 3 (.slice A' (hiL l id).length c') (hiL l id) ∧ Below w.heap.size w w' := by
  unfold hiL
  obtain ⟨i0, hi, hz0, hz1, hz2⟩ := info_parts infoI
  have hb0 : Below w.heap.size w (w.alloc (.cells #[] 3)) := by (repeat (first | with_reducible exact Below.refl _ _ | with_reducible assumption | with_reducible refine Below.setCell ?_ (by simp <;> omega) _ | with_reducible refine Below.alloc ?_ (by first | omega | (simp <;> omega)) _ | with_reducible refine Below.drew ?_ | with_reducible refine below_drewN ?_ _))
  have hr0 := (h.below hb0).more hb0.size
  have Ho := Lib.hid (Own.empty (enc := encI) (k := 1) w w.heap.size 3 (Nat.le_refl _))
  cases hp : picksS l with
  | false =>
    have hk : okHi l id = false := by simp [okHi, hp]
    simp only [hk, Bool.false_eq_true, if_false, List.length_nil]
    clear hk
    go_enter Try.func33, Try.ntmps33
    go_wp2_with fail
    refine (l7Good_any A c l _ hr0 hl hc).mono ?_
    rintro e w1 ⟨rfl, hb1⟩
    rw [hp]
    have Ho1 := Lib.hid (Ho.out.keep hb1)
    go_wp2
    go_ret2
    exact ⟨_, 0, rfl, ⟨Nat.le_refl _, Nat.zero_le _⟩, Ho1.out, hb0.trans (hb1.mono hb0.size)⟩
  | true =>
    have HP := Lib.hid hp
    by_cases h0 : 0 ≤ findP l id
    rotate_left
    · have hk : okHi l id = false := by simp [okHi, h0]
      simp only [hk, Bool.false_eq_true, if_false, List.length_nil]
      obtain ⟨r, hr⟩ : ∃ r, findP l id = r := ⟨_, rfl⟩
      have hlt : r < 0 := by omega
      have Hr := Lib.hid hr
      clear hk h0 hr
      go_enter Try.func33, Try.ntmps33
      go_wp2_with fail
      refine (l7Good_any A c l _ hr0 hl hc).mono ?_
      rintro e w1 ⟨rfl, hb1⟩
      rw [hp]
      have Ho1 := Lib.hid (Ho.out.keep hb1)
      have hr1 := hr0.after hb1
      go_wp2_with fail
      refine (l7Find_any A l.length c l id _ w1.heap.size rfl hr1 hl).mono ?_
      rintro e w2 ⟨rfl, rfl⟩
      rw [Hr.out]
      go_wp2
      go_ret2
      exact ⟨_, 0, rfl, ⟨Nat.le_refl _, Nat.zero_le _⟩, Ho1.out, hb0.trans (hb1.mono hb0.size)⟩
    · have hk : okHi l id = true := by simp [okHi, hp, h0]
      simp only [hk, if_true]
      obtain ⟨k0, hk0, hf0, _, hi1, hi2, _⟩ := find_id h0 hp
      obtain ⟨M, hM⟩ : ∃ M, histF l id.toNat id = M := ⟨_, rfl⟩
      rw [hM]
      have HM := Lib.hid hM
      have Hf0 := Lib.hid hf0
      have H0 := Lib.hid h0
      clear hk hf0 hM h0
      go_enter Try.func33, Try.ntmps33
      go_wp2_with fail
      refine (l7Good_any A c l _ hr0 hl hc).mono ?_
      rintro e w1 ⟨rfl, hb1⟩
      rw [hp]
      have Ho1 := Lib.hid (Ho.out.keep hb1)
      have hr1 := hr0.after hb1
      have hB1 := hb0.trans (hb1.mono hb0.size)
      clear hp
      go_wp2_with fail
      refine (l7Find_any A l.length c l id _ w1.heap.size rfl hr1 hl).mono ?_
      rintro e w2 ⟨rfl, rfl⟩
      rw [Hf0.out]
      go_wp2
      go_loopw [1, 6] (fun i v wr => ∃ (q : Int) (D : List Int) (f : Nat), i = .int .i64 q ∧ (0 ≤ q ∧ q ≤ 9999) ∧ Hid (q = 0 ∨ 0 ≤ findP l q) ∧ Hid (q ≤ f ∧ D ++ histF l f q = M ∧ D.length + q ≤ 9999) ∧ Hid (Own encI 1 wr w.heap.size 3 v D) ∧ Below w.heap.size w wr) (fun i _ _ => (intOf i).toNat)
      case atStart => exact ⟨_, [], id.toNat, rfl, ⟨by omega, by omega⟩, .inr H0.out, (show _ ∧ _ from ⟨by omega, by rw [List.nil_append]; exact HM.out, by simp; omega⟩), Ho1.out, hB1⟩
      case round =>
        obtain ⟨q, D, f, rfl, ⟨hq0, hq1⟩, Hq, Hf, hown, hbl⟩ := hrel
        by_cases hz : q = 0
        · subst hz
          have he : D = M := by have := Hf.out.2.1; rw [histF_zero, List.append_nil] at this; exact this
          subst he
          obtain ⟨B', d', rfl, hcd, _⟩ := Own.form encI_len hown.out
          go_wp2
          go_ret2
          exact ⟨_, _, rfl, hcd, hown.out, hbl⟩
        · have hqf : 0 ≤ findP l q := by
            rcases Hq.out with c1 | c1
            · exact absurd c1 hz
            · exact c1
          obtain ⟨k, hk, hfk, hid, g1, g2, g3, g4, g5, g6, g7⟩ := find_id hqf HP.out
          obtain ⟨f1, f2, f3⟩ := Hf.out
          obtain ⟨f', rfl⟩ : ∃ f', f = f' + 1 := ⟨f - 1, by omega⟩
          rw [histF_succ (by omega), g3] at f2
          have hnx : ∀ q0 : Int, q0 = l[k].after_ → q0 = 0 ∨ 0 ≤ findP l q0 := fun q0 e => by
            by_cases h5 : l[k].after_ = 0
            · exact .inl (by omega)
            · exact .inr (by rw [e]; exact g7 h5)
          obtain ⟨b, off, hA, hb, c0, c1, c2, c3, c4, c5, c6⟩ := cellsP ((h.below hbl).more hbl.size) hk
          have hki : (k : Int) < (l.length : Int) := by omega
          have hfnd := fun W B hW => l7Find_any A l.length c l q W B rfl hW hl
          rw [hfk] at hfnd
          subst hA
          have hcell := fun (W : World) (hW : Rd encP 7 W W.heap.size (some ⟨b, off, none⟩) l) => cellsP hW hk
          obtain ⟨x, hx⟩ : ∃ x, l[k] = x := ⟨_, rfl⟩
          rw [hx] at g4 g5 f2 hnx hcell
          have Hnx := Lib.hid (hnx x.after_ rfl)
          have HF := Lib.hid (show x.after_ ≤ f' ∧ (D ++ [q]) ++ histF l f' x.after_ = M ∧ (D ++ [q]).length + x.after_ ≤ 9999 from ⟨by omega, by rw [List.append_assoc]; exact f2, by rw [List.length_append, List.length_singleton]; omega⟩)
          obtain ⟨B', d', rfl, hcd, _⟩ := Own.form encI_len hown.out
          have Hfnd := Lib.hid hfnd
          have Hcell := Lib.hid hcell
          have hsz := hbl.size
          have hDl : D.length ≤ 9999 := by omega
          have hgt : 0 < q := by omega
          clear hnx hfnd hcell hx f2 g3 g6 g7 hfk hid c0 c1 c2 c3 c4 c5 c6 hz hqf
          go_wp2_with (at_builtin; refine wpList_app1 rfl _ _ 42 rfl w.heap.size 3 i0 _ 1 8 Try.underlying42 hi hz0 hz1 hz2 rfl (by omega) (by omega) encI encI_len encI_one (.slice B' D.length d') D q wr _ rfl _ rfl hown.out rfl (by omega) (by omega) ?_; intro v' w3 hown3 hb3 _)
          have Hown3 := Lib.hid hown3
          have hB3 := hbl.trans hb3
          have hr3 := (h.below hB3).more hB3.size
          obtain ⟨b', off', e', hb', d0, d1, d2, d3, d4, d5, d6⟩ := Hcell.out w3 hr3
          injection e' with e'
          injection e' with e1 e2
          subst e1 e2
          clear hown3 hb3
          refine (Hfnd.out _ w3.heap.size hr3).mono ?_
          rintro e w4 ⟨rfl, rfl⟩
          go_wp2
          go_roundw
          case rel => exact ⟨x.after_, D ++ [q], f', rfl, ⟨by omega, by omega⟩, Hnx.out, HF.out, Hown3.out, hB3⟩
          case measure => simp [intOf]; omega

end Go.Proofs.Ytiakaglgfboepaa
