/-
  Contracts of the reference's valid picks. (Printed by gen_A4.py.)
-/
import Derived.Test.YtiakaglgfboepaaFind
import Derived.BigQuiet
import Derived.Deep.CutRange
import Derived.Deep.DeepCutAuto
namespace Go.Proofs.Ytiakaglgfboepaa
set_option linter.unusedVariables false
open Go.RowKit

theorem okS_step {l : List Pick} {k : Nat} (h1 : (List.range k).all (okS l) = true) (h2 : okS l k = true) : (List.range (k + 1)).all (okS l) = true := by
  rw [List.range_succ, List.all_append, h1]; simp [h2]
theorem okS_false {l : List Pick} {k : Nat} (hk : k < l.length) (h : okS l k = false) : picksS l = false := by
  unfold picksS
  have : (List.range l.length).all (okS l) = false := by rw [List.all_eq_false]; exact ⟨k, by simpa using hk, by simp [h]⟩
  rw [this]; rfl
theorem okS_at {l : List Pick} {k : Nat} (hk : k < l.length) (h : okAt goodP ltP l k = true) : okS l k = (l[k].after_ == 0 || (folP (l.take k) l[k] && curP (l.take k) l[k].after_)) := by
  unfold okS
  rw [h, List.getElem?_eq_getElem hk, Bool.true_and]
/-- What a round comes to: the first test, the number 0, the second test. -/
theorem okS_round {l : List Pick} {k : Nat} (hk : k < l.length) (hg : (List.range k).all (okS l) = true) :
    (okAt goodP ltP l k = false → picksS l = false) ∧ (okAt goodP ltP l k = true → ((l[k].after_ == 0) = true → (List.range (k + 1)).all (okS l) = true) ∧
    ((l[k].after_ == 0) = false → ((folP (l.take k) l[k] && curP (l.take k) l[k].after_) = true → (List.range (k + 1)).all (okS l) = true) ∧ ((folP (l.take k) l[k] && curP (l.take k) l[k].after_) = false → picksS l = false))) := by
  refine ⟨fun h => okS_false hk (by unfold okS; rw [h]; rfl), fun h => ?_⟩
  have e := okS_at hk h
  refine ⟨fun h1 => okS_step hg (by rw [e, h1]; rfl), fun h1 => ⟨fun h2 => okS_step hg (by rw [e, h1, h2]; rfl), fun h2 => okS_false hk (by rw [e, h1, h2]; rfl)⟩⟩

/-- What is left by the two tests of a round. -/
def Left1 (w wr : World) (x : Pick) (o : Bool) (s : Value) (wx : World) : Prop := s = .bool (!o) ∧ Below w.heap.size w wx ∧ Blk wx wr.heap.size 25 #[.int .i64 x.id, .int .i64 x.station, .int .i64 x.wave, .int .i64 x.tick, .int .i64 x.err, .int .i64 x.by_, .int .i64 x.after_] ∧ wr.heap.size < wx.heap.size
def Left2 (w : World) (o : Bool) (s : Value) (wx : World) : Prop := s = .bool (!o) ∧ Below w.heap.size w wx

set_option maxRecDepth 100000 in
set_option maxHeartbeats 4000000 in
theorem l7Good_any (A : Option Addr) (c : Nat) (l : List Pick) (w : World) (h : Rd encP 7 w w.heap.size A l) (hl : l.length ≤ 1048576) (hc : l.length ≤ c ∧ c ≤ maxLen) :
    Calls Try.prog 63 #[.slice A l.length c] w fun e w' => e = .returned (.bool (picksS l)) ∧ Below w.heap.size w w' := by
  obtain ⟨hc1, hc2⟩ := hc
  unfold maxLen at hc2
  obtain ⟨R, hR⟩ : ∃ R, picksS l = R := ⟨_, rfl⟩
  rw [hR]
  have HR := Lib.hid hR
  clear hR
  have Hrd := Lib.hid h
  go_enter Try.func63, Try.ntmps63
  go_wp2
  go_loopw [3] (fun i wr => ∃ k : Nat, k ≤ l.length ∧ i = .int .i64 k ∧ Hid ((List.range k).all (okS l) = true) ∧ Below w.heap.size w wr) (fun i _ => l.length - (intOf i).toNat)
  case atStart => exact ⟨0, Nat.zero_le _, rfl, rfl, Below.refl _ _⟩
  case round =>
    obtain ⟨k, hkl, rfl, Hg, hbl⟩ := hrel
    by_cases hlt : k < l.length
    · by_cases h12 : (k : Int) ≤ 12
      rotate_left
      · have hF : R = false := by
          rw [← HR.out]
          unfold picksS
          rw [show decide (l.length ≤ 12) = false by simp; omega]
          simp
        have HF := Lib.hid hF
        have hgt : decide ((l.length : Int) ≤ 12) = false := by simp; omega
        have hgt2 : decide (l.length ≤ 12) = false := by simp; omega
        clear hF
        go_wp2
        go_ret
        exact ⟨by first | (rw [HF.out]; done) | (rw [HF.out]; rfl), hbl⟩
      · obtain ⟨b, off, rfl, hb, c0, c1, c2, c3, c4, c5, c6⟩ := cellsP (h.below hbl) hlt
        have hrs := okS_round hlt Hg.out
        rw [HR.out] at hrs
        obtain ⟨o, ho⟩ : ∃ o, okAt goodP ltP l k = o := ⟨_, rfl⟩
        rw [ho] at hrs
        have Ho := Lib.hid ho
        have Hrs := Lib.hid hrs
        have hsz := hbl.size
        clear ho hrs
        obtain ⟨x, hx⟩ : ∃ x, l[k] = x := ⟨_, rfl⟩
        rw [hx] at c0 c1 c2 c3 c4 c5 c6 Hrs
        have Hx := Lib.hid hx
        have hblA := hbl.alloc hbl.size (.cells #[.int .i64 x.id, .int .i64 x.station, .int .i64 x.wave, .int .i64 x.tick, .int .i64 x.err, .int .i64 x.by_, .int .i64 x.after_] 25)
        have HX := Lib.hid (Blk.new wr 25 #[.int .i64 x.id, .int .i64 x.station, .int .i64 x.wave, .int .i64 x.tick, .int .i64 x.err, .int .i64 x.by_, .int .i64 x.after_])
        clear hx
        go_upto_region 5 with (fail)
        go_cut [37] from 6 to 77 (fun s wx => Left1 w wr x o s wx)
        case first =>
          have hS0 := box7 HX.out
          have k0 := cell_regrown hS0.1
          have k1 := cell_regrown hS0.2.1
          have k2 := cell_regrown hS0.2.2.1
          have k3 := cell_regrown hS0.2.2.2.1
          have k4 := cell_regrown hS0.2.2.2.2.1
          have k5 := cell_regrown hS0.2.2.2.2.2.1
          have k6 := cell_regrown hS0.2.2.2.2.2.2
          clear hS0
          cases hok : goodP x with
          | false =>
            have hof : o = false := by rw [← Ho.out]; unfold okAt; simp [hlt, Hx.out, hok]
            subst hof
            have cV : ∀ d os, Calls Try.prog 60 #[.agg #[.int .i64 x.id, .int .i64 x.station, .int .i64 x.wave, .int .i64 x.tick, .int .i64 x.err, .int .i64 x.by_, .int .i64 x.after_]] (Go.Sort.grow (redrawn (wr.alloc (.cells #[.int .i64 x.id, .int .i64 x.station, .int .i64 x.wave, .int .i64 x.tick, .int .i64 x.err, .int .i64 x.by_, .int .i64 x.after_] 25)) d) os) fun e w'' => e = .returned (.bool false) ∧ ∃ p : Regrown, w'' = Go.Sort.grow (redrawn (wr.alloc (.cells #[.int .i64 x.id, .int .i64 x.station, .int .i64 x.wave, .int .i64 x.tick, .int .i64 x.err, .int .i64 x.by_, .int .i64 x.after_] 25)) p.d) p.os := fun d os => by (have q := l7One_any x (Go.Sort.grow (redrawn (wr.alloc (.cells #[.int .i64 x.id, .int .i64 x.station, .int .i64 x.wave, .int .i64 x.tick, .int .i64 x.err, .int .i64 x.by_, .int .i64 x.after_] 25)) d) os)); rw [hok] at q; exact Calls.regrown_of q
            clear hok c0 c1 c2 c3 c4 c5 c6
            refine wp_region_quiet_below (by kernel_rfl) (by kernel_rfl) ?_
            repeat (go_big_quiet_step ((exact cV _ _)))
            refine wpQuiet_nil ?_
            intro _ hw'
            obtain ⟨⟨dq, osq⟩, hw''⟩ := hw'
            subst hw''
            have hBq := hblA.trans ((below_regrown (wr.alloc (.cells #[.int .i64 x.id, .int .i64 x.station, .int .i64 x.wave, .int .i64 x.tick, .int .i64 x.err, .int .i64 x.by_, .int .i64 x.after_] 25)) dq osq).mono hblA.size)
            have HXq := Lib.hid (HX.out.after (below_regrown (wr.alloc (.cells #[.int .i64 x.id, .int .i64 x.station, .int .i64 x.wave, .int .i64 x.tick, .int .i64 x.err, .int .i64 x.by_, .int .i64 x.after_] 25)) dq osq))
            generalize Go.Sort.grow (redrawn (wr.alloc (.cells #[.int .i64 x.id, .int .i64 x.station, .int .i64 x.wave, .int .i64 x.tick, .int .i64 x.err, .int .i64 x.by_, .int .i64 x.after_] 25)) dq) osq = wq at hBq HXq ⊢
            go_wp2_with fail
            go_meet
            exact ⟨rfl, hBq, HXq.out, HXq.out.lt⟩
          | true =>
            cases k with
            | zero =>
              have hof : o = true := by rw [← Ho.out, okAt_zero hlt, Hx.out]; exact hok
              subst hof
              have cV : ∀ d os, Calls Try.prog 60 #[.agg #[.int .i64 x.id, .int .i64 x.station, .int .i64 x.wave, .int .i64 x.tick, .int .i64 x.err, .int .i64 x.by_, .int .i64 x.after_]] (Go.Sort.grow (redrawn (wr.alloc (.cells #[.int .i64 x.id, .int .i64 x.station, .int .i64 x.wave, .int .i64 x.tick, .int .i64 x.err, .int .i64 x.by_, .int .i64 x.after_] 25)) d) os) fun e w'' => e = .returned (.bool true) ∧ ∃ p : Regrown, w'' = Go.Sort.grow (redrawn (wr.alloc (.cells #[.int .i64 x.id, .int .i64 x.station, .int .i64 x.wave, .int .i64 x.tick, .int .i64 x.err, .int .i64 x.by_, .int .i64 x.after_] 25)) p.d) p.os := fun d os => by (have q := l7One_any x (Go.Sort.grow (redrawn (wr.alloc (.cells #[.int .i64 x.id, .int .i64 x.station, .int .i64 x.wave, .int .i64 x.tick, .int .i64 x.err, .int .i64 x.by_, .int .i64 x.after_] 25)) d) os)); rw [hok] at q; exact Calls.regrown_of q
              clear hok
              simp only [Nat.zero_mul, Nat.add_zero] at *
              clear c0 c1 c2 c3 c4 c5 c6
              refine wp_region_quiet_below (by kernel_rfl) (by kernel_rfl) ?_
              repeat (go_big_quiet_step ((exact cV _ _)))
              refine wpQuiet_nil ?_
              intro _ hw'
              obtain ⟨⟨dq, osq⟩, hw''⟩ := hw'
              subst hw''
              have hBq := hblA.trans ((below_regrown (wr.alloc (.cells #[.int .i64 x.id, .int .i64 x.station, .int .i64 x.wave, .int .i64 x.tick, .int .i64 x.err, .int .i64 x.by_, .int .i64 x.after_] 25)) dq osq).mono hblA.size)
              have HXq := Lib.hid (HX.out.after (below_regrown (wr.alloc (.cells #[.int .i64 x.id, .int .i64 x.station, .int .i64 x.wave, .int .i64 x.tick, .int .i64 x.err, .int .i64 x.by_, .int .i64 x.after_] 25)) dq osq))
              generalize Go.Sort.grow (redrawn (wr.alloc (.cells #[.int .i64 x.id, .int .i64 x.station, .int .i64 x.wave, .int .i64 x.tick, .int .i64 x.err, .int .i64 x.by_, .int .i64 x.after_] 25)) dq) osq = wq at hBq HXq ⊢
              go_wp2_with fail
              go_meet
              exact ⟨rfl, hBq, HXq.out, HXq.out.lt⟩
            | succ k =>
              have hlt' : k < l.length := by omega
              obtain ⟨b', off', e', hb', d0, _⟩ := cellsP (h.below hbl) hlt'
              injection e' with e'
              injection e' with e1 e2
              subst e1 e2
              have ek : ((k + 1 : Nat) : Int) = (k : Int) + 1 := by omega
              have hlti : (k : Int) + 1 < (l.length : Int) := by omega
              have hltj : (k : Int) < (l.length : Int) := by omega
              have hk0 : (0 : Int) ≤ (k : Int) := by omega
              have hof : o = decide (l[k].id < x.id) := by rw [← Ho.out, okAt_succ (ok := goodP) (lt := ltP) hlt, Hx.out, hok]; rfl
              generalize l[k] = y at *
              have q0 := cell_regrown (w := (wr.alloc (.cells #[.int .i64 x.id, .int .i64 x.station, .int .i64 x.wave, .int .i64 x.tick, .int .i64 x.err, .int .i64 x.by_, .int .i64 x.after_] 25))) (keepCell ((Below.refl _ _).alloc (Nat.le_refl _) _) d0)
              have cV : ∀ d os, Calls Try.prog 60 #[.agg #[.int .i64 x.id, .int .i64 x.station, .int .i64 x.wave, .int .i64 x.tick, .int .i64 x.err, .int .i64 x.by_, .int .i64 x.after_]] (Go.Sort.grow (redrawn (wr.alloc (.cells #[.int .i64 x.id, .int .i64 x.station, .int .i64 x.wave, .int .i64 x.tick, .int .i64 x.err, .int .i64 x.by_, .int .i64 x.after_] 25)) d) os) fun e w'' => e = .returned (.bool true) ∧ ∃ p : Regrown, w'' = Go.Sort.grow (redrawn (wr.alloc (.cells #[.int .i64 x.id, .int .i64 x.station, .int .i64 x.wave, .int .i64 x.tick, .int .i64 x.err, .int .i64 x.by_, .int .i64 x.after_] 25)) p.d) p.os := fun d os => by (have q := l7One_any x (Go.Sort.grow (redrawn (wr.alloc (.cells #[.int .i64 x.id, .int .i64 x.station, .int .i64 x.wave, .int .i64 x.tick, .int .i64 x.err, .int .i64 x.by_, .int .i64 x.after_] 25)) d) os)); rw [hok] at q; exact Calls.regrown_of q
              cases hcc : decide (y.id < x.id) with
              | false =>
                rw [hcc] at hof
                subst hof
                have hle : decide (x.id ≤ y.id) = true := by simp at hcc ⊢; omega
                clear hok hcc c0 c1 c2 c3 c4 c5 c6 d0
                rw [ek]
                refine wp_region_quiet_below (by kernel_rfl) (by kernel_rfl) ?_
                repeat (go_big_quiet_step ((exact cV _ _)))
                refine wpQuiet_nil ?_
                intro _ hw'
                obtain ⟨⟨dq, osq⟩, hw''⟩ := hw'
                subst hw''
                have hBq := hblA.trans ((below_regrown (wr.alloc (.cells #[.int .i64 x.id, .int .i64 x.station, .int .i64 x.wave, .int .i64 x.tick, .int .i64 x.err, .int .i64 x.by_, .int .i64 x.after_] 25)) dq osq).mono hblA.size)
                have HXq := Lib.hid (HX.out.after (below_regrown (wr.alloc (.cells #[.int .i64 x.id, .int .i64 x.station, .int .i64 x.wave, .int .i64 x.tick, .int .i64 x.err, .int .i64 x.by_, .int .i64 x.after_] 25)) dq osq))
                generalize Go.Sort.grow (redrawn (wr.alloc (.cells #[.int .i64 x.id, .int .i64 x.station, .int .i64 x.wave, .int .i64 x.tick, .int .i64 x.err, .int .i64 x.by_, .int .i64 x.after_] 25)) dq) osq = wq at hBq HXq ⊢
                go_wp2_with fail
                go_meet
                exact ⟨rfl, hBq, HXq.out, HXq.out.lt⟩
              | true =>
                rw [hcc] at hof
                subst hof
                have hle : decide (x.id ≤ y.id) = false := by simp at hcc ⊢; omega
                clear hok hcc c0 c1 c2 c3 c4 c5 c6 d0
                rw [ek]
                refine wp_region_quiet_below (by kernel_rfl) (by kernel_rfl) ?_
                repeat (go_big_quiet_step ((exact cV _ _)))
                refine wpQuiet_nil ?_
                intro _ hw'
                obtain ⟨⟨dq, osq⟩, hw''⟩ := hw'
                subst hw''
                have hBq := hblA.trans ((below_regrown (wr.alloc (.cells #[.int .i64 x.id, .int .i64 x.station, .int .i64 x.wave, .int .i64 x.tick, .int .i64 x.err, .int .i64 x.by_, .int .i64 x.after_] 25)) dq osq).mono hblA.size)
                have HXq := Lib.hid (HX.out.after (below_regrown (wr.alloc (.cells #[.int .i64 x.id, .int .i64 x.station, .int .i64 x.wave, .int .i64 x.tick, .int .i64 x.err, .int .i64 x.by_, .int .i64 x.after_] 25)) dq osq))
                generalize Go.Sort.grow (redrawn (wr.alloc (.cells #[.int .i64 x.id, .int .i64 x.station, .int .i64 x.wave, .int .i64 x.tick, .int .i64 x.err, .int .i64 x.by_, .int .i64 x.after_] 25)) dq) osq = wq at hBq HXq ⊢
                go_wp2_with fail
                go_meet
                exact ⟨rfl, hBq, HXq.out, HXq.out.lt⟩
        case rest =>
          unfold Left1 at hcut
          obtain ⟨rfl, hBq, hXq, hszq⟩ := hcut
          generalize wc = wq at *
          clear c0 c1 c2 c3 c4 c5 c6
          obtain ⟨x0, x1, x2, x3, x4, x5, x6⟩ := box7 hXq
          cases o with
          | false =>
            have HF := Lib.hid (Hrs.out.1 rfl)
            go_wp2
            go_ret
            exact ⟨by first | (rw [HF.out]; done) | (rw [HF.out]; rfl), hBq⟩
          | true =>
            have Hmid0 := Lib.hid (Hrs.out.2 rfl)
            by_cases h0 : x.after_ = 0
            · have h0b : (x.after_ == 0) = true := by simpa using h0
              have H1 := Lib.hid (Hmid0.out.1 h0b)
              have Hq0 := Lib.hid h0
              clear h0
              go_wp2
              go_roundw
              case rel => exact ⟨k + 1, by omega, by go_num, H1.out, hBq⟩
              case measure => simp [intOf]; omega
            · have h0b : (x.after_ == 0) = false := by simpa using h0
              have Hmid := Lib.hid (Hmid0.out.2 h0b)
              have hrq := Hrd.out.below hBq
              have hfnd := fun W hW => l7Find_any (some ⟨b, off, none⟩) k c (l.take k) x.after_ W w.heap.size (by rw [List.length_take]; omega) hW (by rw [List.length_take]; omega)
              have hcur := fun W hW => l7Current_any (some ⟨b, off, none⟩) k c (l.take k) x.after_ W w.heap.size (by rw [List.length_take]; omega) hW (by rw [List.length_take]; omega)
              have hfb := findP_bd (l.take k) x.after_
              have hfol : folP (l.take k) x = match (l.take k)[(findP (l.take k) x.after_).toNat]? with | none => false | some q => decide (0 ≤ findP (l.take k) x.after_) && q.station == x.station && q.wave == x.wave := rfl
              obtain ⟨r, hr⟩ : ∃ r, findP (l.take k) x.after_ = r := ⟨_, rfl⟩
              obtain ⟨fo, hfo⟩ : ∃ r, folP (l.take k) x = r := ⟨_, rfl⟩
              obtain ⟨cu, hcu⟩ : ∃ r, curP (l.take k) x.after_ = r := ⟨_, rfl⟩
              rw [hr] at hfnd hfb hfol
              rw [hfo, hcu] at Hmid
              rw [hfo] at hfol
              rw [hcu] at hcur
              have Hfnd := Lib.hid hfnd
              have Hcur := Lib.hid hcur
              have Hfb := Lib.hid hfb
              have Hfol := Lib.hid hfol
              have Htk := Lib.hid (hrq.take k)
              clear hfnd hcur hr hfo hcu h0 hfb hfol
              go_wp2_with fail
              go_quiet ((go_at_call 73; exact quiet_left (Hfnd.out _ (Htk.out.drewN _))))
              generalize hwz : wq.drewN _ = wz at *
              have hBz : Below w.heap.size w wz := hwz ▸ below_drewN hBq _
              have hrz := Hrd.out.below hBz
              have Htz := Lib.hid (hrz.take k)
              have hXz : Blk wz wr.heap.size 25 #[.int .i64 x.id, .int .i64 x.station, .int .i64 x.wave, .int .i64 x.tick, .int .i64 x.err, .int .i64 x.by_, .int .i64 x.after_] := hwz ▸ hXq
              clear hwz hBq hXq hrq x0 x1 x2 x3 x4 x5 x6
              obtain ⟨x0, x1, x2, x3, x4, x5, x6⟩ := box7 hXz
              go_upto_region 9 with (fail)
              go_cut [77] from 6 to 77 (fun s wx => Left2 w (fo && cu) s wx)
              case first =>
                by_cases hr0 : 0 ≤ r
                · obtain ⟨j, hj, rfl, hid⟩ := Hfb.out hr0
                  have hj2 : j < k := by simp at hj; omega
                  have hjl : j < l.length := by omega
                  have hgj : (l.take k)[j] = l[j] := List.getElem_take
                  have hfol := Hfol.out
                  rw [Int.toNat_natCast, List.getElem?_eq_getElem hj, hgj] at hfol
                  have hji : (j : Int) < (l.length : Int) := by omega
                  have hjn : decide ((j : Int) < 0) = false := by simp
                  obtain ⟨b', off', e', hb', d0, d1, d2, d3, d4, d5, d6⟩ := cellsP hrz hjl
                  injection e' with e'
                  injection e' with e1 e2
                  subst e1 e2
                  generalize l[j] = y at *
                  have hfol2 : fo = (y.station == x.station && y.wave == x.wave) := by rw [hfol]; simp
                  clear hfol hid hgj hr0 d0 d3 d4 d5 d6
                  cases hs : (y.station == x.station) with
                  | false =>
                    have hn1 : (y.station != x.station) = true := by simp only [bne, hs]; rfl
                    have hf1 : fo = false := by rw [hfol2, hs]; rfl
                    subst hf1
                    clear hfol2 hs
                    go_quiet ((go_at_call 80; exact quiet_left (Hcur.out _ (Htz.out.drewN _))))
                    go_wp2_with fail
                    go_meet
                    exact ⟨rfl, below_drewN hBz _⟩
                  | true =>
                    have hn1 : (y.station != x.station) = false := by simp only [bne, hs]; rfl
                    cases hv : (y.wave == x.wave) with
                    | false =>
                      have hn2 : (y.wave != x.wave) = true := by simp only [bne, hv]; rfl
                      have hf1 : fo = false := by rw [hfol2, hs, hv]; rfl
                      subst hf1
                      clear hfol2 hs hv
                      go_quiet ((go_at_call 80; exact quiet_left (Hcur.out _ (Htz.out.drewN _))))
                      go_wp2_with fail
                      go_meet
                      exact ⟨rfl, below_drewN hBz _⟩
                    | true =>
                      have hn2 : (y.wave != x.wave) = false := by simp only [bne, hv]; rfl
                      have hf1 : fo = true := by rw [hfol2, hs, hv]; rfl
                      subst hf1
                      clear hfol2 hs hv
                      go_quiet ((go_at_call 80; exact quiet_left (Hcur.out _ (Htz.out.drewN _))))
                      go_wp2_with fail
                      go_meet
                      exact ⟨rfl, below_drewN hBz _⟩
                · have hd : decide (0 ≤ r) = false := by simpa using hr0
                  have hlt0 : r < 0 := by omega
                  have hf1 : fo = false := by rw [Hfol.out, hd]; cases (l.take k)[r.toNat]? <;> simp
                  subst hf1
                  clear hd hr0
                  go_quiet ((go_at_call 80; exact quiet_left (Hcur.out _ (Htz.out.drewN _))))
                  go_wp2_with fail
                  go_meet
                  exact ⟨rfl, below_drewN hBz _⟩
              case rest =>
                unfold Left2 at hcut
                obtain ⟨rfl, hBy⟩ := hcut
                obtain ⟨v, hv⟩ : ∃ v, (fo && cu) = v := ⟨_, rfl⟩
                rw [hv] at Hmid ⊢
                clear x0 x1 x2 x3 x4 x5 x6 hv
                cases v with
                | false =>
                  have HF := Lib.hid (Hmid.out.2 rfl)
                  go_wp2
                  go_ret
                  exact ⟨by first | (rw [HF.out]; done) | (rw [HF.out]; rfl), hBy⟩
                | true =>
                  have H1 := Lib.hid (Hmid.out.1 rfl)
                  go_wp2
                  go_roundw
                  case rel => exact ⟨k + 1, by omega, by go_num, H1.out, hBy⟩
                  case measure => simp [intOf]; omega
    · have hke : k = l.length := by omega
      have hT := Hg.out
      rw [hke] at hT
      have hP : R = decide ((l.length : Int) ≤ 12) := by
        rw [← HR.out]
        unfold picksS
        rw [hT, Bool.true_and, Bool.eq_iff_iff, decide_eq_true_eq, decide_eq_true_eq]
        omega
      have HP := Lib.hid hP
      clear hT hP hke
      go_wp2
      go_ret
      exact ⟨by first | (rw [HP.out]; done) | (rw [HP.out]; rfl) | (rw [HP.out]; simp), hbl⟩

theorem sArePicks_any (A : Option Addr) (c : Nat) (l : List Pick) (w : World) (h : Rd encP 7 w w.heap.size A l) (hl : l.length ≤ 1048576) (hc : l.length ≤ c ∧ c ≤ maxLen) :
    Calls Try.prog 19 #[.slice A l.length c] w fun e w' => e = .returned (.bool (picksS l)) ∧ Below w.heap.size w w' := by
  have Hcon := Lib.hid (l7Good_any A c l w h hl hc)
  go_enter Try.func19, Try.ntmps19
  go_wp2_with fail
  refine Hcon.out.mono ?_
  rintro e w3 ⟨rfl, hb3⟩
  go_wp2
  go_ret
  exact ⟨rfl, hb3⟩

end Go.Proofs.Ytiakaglgfboepaa
