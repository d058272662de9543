/-
  Contracts of RevisePick. (Printed by gen_A6.py.)
-/
import Derived.Test.YtiakaglgfboepaaRevP
import Derived.Deep.RegionHeld3
import Derived.Deep.AppendLies
import Derived.BigQuiet
import Derived.Deep.CutRange
import Derived.Deep.DeepCutAuto
namespace Go.Proofs.Ytiakaglgfboepaa
set_option linter.unusedVariables false
open Go.RowKit

theorem ownsRow_mono {w : World} {base base' E k : Nat} {v : Value} {n : Nat} {xs : List Value} (h : w.ownsRow base E k v n xs) (hb : base' ≤ base) : w.ownsRow base' E k v n xs := by
  obtain ⟨h1, h2⟩ := h
  refine ⟨h1, ?_⟩
  rcases h2 with h2 | ⟨g, cap, cur, e, hb', r⟩
  · exact .inl h2
  · exact .inr ⟨g, cap, cur, e, by omega, r⟩
theorem own_of_rows {w : World} {base : Nat} {E : TypeId} {v : Value} {l O : List Pick} {x : Pick} (hO : O = l ++ [x]) (hl : O.length = l.length + 1) (h : w.ownsRow base E 7 v (l.length + 1) (flat encP l ++ encP x)) : Own encP 7 w base E v O := by
  unfold Own
  rw [hl, hO, flat_append]
  simpa [flat] using h
/-- What is left by the statement that makes the next pick; by the one that appends it. -/
def LeftA (w2 : World) (cs : Array Value) (s : Value) (wx : World) : Prop := s = .pointer (some ⟨w2.heap.size, 0, none⟩) ∧ Below w2.heap.size w2 wx ∧ Blk wx w2.heap.size 25 cs
def LeftB (q : Nat) (wx : World) (cs : Array Value) (O : List Pick) (s : Value) (wy : World) : Prop := Own encP 7 wy wx.heap.size 25 s O ∧ Below wx.heap.size wx wy ∧ Blk wy q 25 cs

set_option maxRecDepth 100000 in
set_option maxHeartbeats 1000000 in
theorem RevisePick_any (A : Option Addr) (c : Nat) (l : List Pick) (w : World) (h : Rd encP 7 w w.heap.size A l) (hl : l.length ≤ 1048576) (hc : l.length ≤ c ∧ c ≤ maxLen) (id tk er by_ : Int) :
    Calls Try.prog 39 #[.slice A l.length c, .int .i64 id, .int .i64 tk, .int .i64 er, .int .i64 by_] w fun e w' => ∃ A' c', e = .returned (.tuple #[.slice A' (rvL l id tk er by_).length c', .int .i64 (rvN l id tk er by_), .bool (okRv l id tk er by_)]) ∧ ((rvL l id tk er by_).length ≤ c' ∧ c' ≤ maxLen) ∧ Own encP 7 w' w.heap.size 25 (.slice A' (rvL l id tk er by_).length c') (rvL l id tk er by_) ∧ Below w.heap.size w w' := by
  cases h1 : okR1 l id with
  | false =>
    have hk : okRv l id tk er by_ = false := by simp [okRv, h1]
    have hL : rvL l id tk er by_ = [] := by unfold rvL; rw [hk]; rfl
    have hN : rvN l id tk er by_ = 0 := by unfold rvN; rw [hk]; rfl
    rw [hk, hL, hN]
    clear hk hL hN
    cases hp : picksS l with
    | false =>
      go_enter Try.func39, Try.ntmps39
      go_wp2_with fail
      refine (pickAt_any A c l _ h hl id).mono ?_
      rintro e w0 ⟨rfl, hb0⟩
      have hr0 := h.after hb0
      go_wp2_with fail
      refine (ArePicks_any A c l _ hr0 hl).mono ?_
      rintro e w1 ⟨rfl, hb1⟩
      rw [hp]
      go_wp2
      go_ret3
      exact ⟨none, 0, rfl, ⟨Nat.le_refl _, Nat.zero_le _⟩, Own.none_ _ _ _, hb0.trans (hb1.mono hb0.size)⟩
    | true =>
      by_cases h0 : 0 ≤ findP l id
      · obtain ⟨k, hk, hfk, hid, _⟩ := find_id h0 hp
        have hcur : curP l id = false := by
          unfold okR1 at h1
          rw [hp, show decide (0 ≤ findP l id) = true by simpa using h0] at h1
          simpa using h1
        have hcell := fun (W : World) (hW : Rd encP 7 W W.heap.size A l) => cellsP hW hk
        have hki : (k : Int) < (l.length : Int) := by omega
        obtain ⟨x, hx⟩ : ∃ x, l[k] = x := ⟨_, rfl⟩
        rw [hx] at hcell hid
        have hcon := fun (W : World) (hW : Rd encP 7 W W.heap.size A l) => isCurrent_any A c l W hW hl x
        rw [show curP l x.id = false by rw [hid]; exact hcur] at hcon
        have Hcell := Lib.hid hcell
        have Hcon := Lib.hid hcon
        have Hfk := Lib.hid hfk
        have Hp := Lib.hid hp
        clear h0 hfk hid hcell hx hcon hcur h1 hp
        go_enter Try.func39, Try.ntmps39
        go_wp2_with fail
        refine (pickAt_any A c l _ h hl id).mono ?_
        rintro e w0 ⟨rfl, hb0⟩
        rw [Hfk.out]
        have hr0 := h.after hb0
        go_wp2_with fail
        refine (ArePicks_any A c l _ hr0 hl).mono ?_
        rintro e w1 ⟨rfl, hb1⟩
        rw [Hp.out]
        have hr1 := hr0.after hb1
        have hB1 := hb0.trans (hb1.mono hb0.size)
        obtain ⟨b, off, e', hb', d0, d1, d2, d3, d4, d5, d6⟩ := Hcell.out w1 hr1
        subst e'
        go_wp2_with fail
        refine (Hcon.out w1 hr1).mono ?_
        rintro e w2 ⟨rfl, hb2⟩
        clear d0 d1 d2 d3 d4 d5 d6
        go_wp2
        go_ret3
        exact ⟨none, 0, rfl, ⟨Nat.le_refl _, Nat.zero_le _⟩, Own.none_ _ _ _, hB1.trans (hb2.mono hB1.size)⟩
      · obtain ⟨r, hr⟩ : ∃ r, findP l id = r := ⟨_, rfl⟩
        have hlt : r < 0 := by omega
        have Hr := Lib.hid hr
        have Hp := Lib.hid hp
        clear h0 hr h1 hp
        go_enter Try.func39, Try.ntmps39
        go_wp2_with fail
        refine (pickAt_any A c l _ h hl id).mono ?_
        rintro e w0 ⟨rfl, hb0⟩
        rw [Hr.out]
        have hr0 := h.after hb0
        go_wp2_with fail
        refine (ArePicks_any A c l _ hr0 hl).mono ?_
        rintro e w1 ⟨rfl, hb1⟩
        rw [Hp.out]
        go_wp2
        go_ret3
        exact ⟨none, 0, rfl, ⟨Nat.le_refl _, Nat.zero_le _⟩, Own.none_ _ _ _, hb0.trans (hb1.mono hb0.size)⟩
  | true =>
    obtain ⟨hp, h0, hcur⟩ := okR1_iff.1 h1
    obtain ⟨k, hk, hfk, hid, g1, g2, _⟩ := find_id h0 hp
    have h12 := (picksS_iff hp).2.1
    have hlen : 0 < l.length := by omega
    have hgz := goodP_iff.1 (picksS_get hp (show l.length - 1 < l.length by omega))
    have hcell := fun (W : World) (hW : Rd encP 7 W W.heap.size A l) => cellsP hW hk
    have hcelz := fun (W : World) (hW : Rd encP 7 W W.heap.size A l) => cellsP hW (show l.length - 1 < l.length by omega)
    have hki : (k : Int) < (l.length : Int) := by omega
    obtain ⟨x, hx⟩ : ∃ x, l[k] = x := ⟨_, rfl⟩
    obtain ⟨z, hz⟩ : ∃ z, l[l.length - 1] = z := ⟨_, rfl⟩
    have hO : rvO l id tk er by_ = l ++ [(⟨z.id + 1, x.station, x.wave, tk, er, by_, id⟩ : Pick)] := by unfold rvO nextP; rw [lastP_of hlen, getP_of hk hfk, hx, hz]
    have hlz : (lastP l).id = z.id := by rw [lastP_of hlen, hz]
    rw [hx] at hcell hid
    rw [hz] at hcelz hgz
    have hcon := fun (W : World) (hW : Rd encP 7 W W.heap.size A l) => isCurrent_any A c l W hW hl x
    rw [show curP l x.id = true by rw [hid]; exact hcur] at hcon
    obtain ⟨O, hOO⟩ : ∃ O, rvO l id tk er by_ = O := ⟨_, rfl⟩
    rw [hOO] at hO
    obtain ⟨v3, hv3⟩ : ∃ v, picksS O = v := ⟨_, rfl⟩
    have hk3 : okRv l id tk er by_ = v3 := by unfold okRv; rw [h1, hOO, hv3]; rfl
    have hL3 : rvL l id tk er by_ = if v3 = true then O else [] := by unfold rvL; rw [hk3, hOO]
    have hN3 : rvN l id tk er by_ = if v3 = true then z.id + 1 else 0 := by unfold rvN; rw [hk3, hlz]
    rw [hk3, hL3, hN3]
    have hOl : O.length = l.length + 1 := by rw [hO]; simp
    obtain ⟨⟨z1, z2⟩, _⟩ := hgz
    have Hcell := Lib.hid hcell
    have Hcelz := Lib.hid hcelz
    have Hcon := Lib.hid hcon
    have Hfk := Lib.hid hfk
    have Hp := Lib.hid hp
    have HO := Lib.hid hO
    have Hv3 := Lib.hid hv3
    have s1 : IntKind.i64.wrap ((l.length : Int) - 1) = (l.length : Int) - 1 := IntWalk.i64_in _ (by omega)
    have s2 : IntKind.i64.wrap (z.id + 1) = z.id + 1 := IntWalk.i64_in _ (by omega)
    have s3 : (0 : Int) ≤ (l.length : Int) - 1 := by omega
    have s4 : (l.length : Int) - 1 < (l.length : Int) := by omega
    have s5 : ((l.length : Int) - 1).toNat = l.length - 1 := by omega
    have s6 : (1 : Int) ≤ (l.length : Int) := by omega
    have s7 : 1 ≤ l.length := by omega
    have s8 : (0 : Int) < (l.length : Int) := by omega
    have HOl := Lib.hid hOl
    clear hOl
    have hki0 : (0 : Int) ≤ (k : Int) := by omega
    obtain ⟨i0, hi, hz0, hz1, hz2⟩ := info_parts infoP
    clear h0 hfk hid hcell hcelz hx hz hcon hcur h1 hp hO hOO hv3 hk3 hL3 hN3 hlz
    go_enter Try.func39, Try.ntmps39
    go_wp2_with fail
    refine (pickAt_any A c l _ h hl id).mono ?_
    rintro e w0 ⟨rfl, hb0⟩
    rw [Hfk.out]
    have hr0 := h.after hb0
    go_wp2_with fail
    refine (ArePicks_any A c l _ hr0 hl).mono ?_
    rintro e w1 ⟨rfl, hb1⟩
    rw [Hp.out]
    have hr1 := hr0.after hb1
    have hB1 := hb0.trans (hb1.mono hb0.size)
    obtain ⟨b, off, e', hb', d0, d1, d2, d3, d4, d5, d6⟩ := Hcell.out w1 hr1
    subst e'
    go_wp2_with fail
    refine (Hcon.out w1 hr1).mono ?_
    rintro e w2 ⟨rfl, hb2⟩
    have hr2 := hr1.after hb2
    have hB2 := hB1.trans (hb2.mono hB1.size)
    clear d0 d1 d2 d3 d4 d5 d6
    obtain ⟨b', off', e', hb', d0, d1, d2, d3, d4, d5, d6⟩ := Hcell.out w2 hr2
    injection e' with e'
    injection e' with e1 e2
    subst e1 e2
    obtain ⟨b', off', e', hb', f0, _⟩ := Hcelz.out w2 hr2
    injection e' with e'
    injection e' with e1 e2
    subst e1 e2
    have hblb : b < w2.heap.size := hb'
    have hbne : ¬ b = w2.heap.size := by omega
    go_upto_region 4 with (fail)
    go_cut [14] from 16 (fun s wx => LeftA w2 #[.int .i64 (z.id + 1), .int .i64 x.station, .int .i64 x.wave, .int .i64 tk, .int .i64 er, .int .i64 by_, .int .i64 id] s wx)
    case first =>
      go_region_held3 (fun w' => w'.cell? ⟨b, off + (l.length - 1) * 7, none⟩ = some (.int .i64 z.id) ∧ w'.cell? ⟨b, off + k * 7 + 1, none⟩ = some (.int .i64 x.station) ∧ w'.cell? ⟨b, off + k * 7 + 2, none⟩ = some (.int .i64 x.wave)) (first | go_keep) (first | fail)
      all_goals (go_wp2_with fail; go_meet; exact ⟨rfl, by (repeat (first | with_reducible exact Below.refl _ _ | with_reducible assumption | with_reducible refine Below.setCell ?_ (by simp <;> omega) _ | with_reducible refine Below.alloc ?_ (by first | omega | (simp <;> omega)) _ | with_reducible refine Below.drew ?_ | with_reducible refine below_drewN ?_ _)), Blk.new w2 _ _⟩)
    case rest =>
      unfold LeftA at hcut
      obtain ⟨rfl, hbx, hX⟩ := hcut
      generalize wc = wx at *
      have HX := Lib.hid hX
      have hrx := hr2.after hbx
      have hBx := hB2.trans (hbx.mono hB2.size)
      have hqx := hX.lt
      clear hX d0 d1 d2 d3 d4 d5 d6 f0
      go_upto_region 5 with (fail)
      go_cut [15] from 16 (fun s wy => LeftB w2.heap.size wx #[.int .i64 (z.id + 1), .int .i64 x.station, .int .i64 x.wave, .int .i64 tk, .int .i64 er, .int .i64 by_, .int .i64 id] O s wy)
      case first =>
        have HRA := Lib.hid (show Rd encP 7 (wx.alloc (.cells #[.int .i64 (z.id + 1), .int .i64 x.station, .int .i64 x.wave, .int .i64 tk, .int .i64 er, .int .i64 by_, .int .i64 id] 25)).drew wx.heap.size (some ⟨b, off, none⟩) l from (hrx.alloc (Nat.le_refl _) _).drewN 1)
        have HR0 := Lib.hid (show Rd encP 7 wx.drew wx.heap.size (some ⟨b, off, none⟩) l from hrx.drewN 1)
        have hleA : wx.heap.size ≤ ((wx.alloc (.cells #[.int .i64 (z.id + 1), .int .i64 x.station, .int .i64 x.wave, .int .i64 tk, .int .i64 er, .int .i64 by_, .int .i64 id] 25)).drew).heap.size := by simp
        have HXA := Lib.hid (show Blk (wx.alloc (.cells #[.int .i64 (z.id + 1), .int .i64 x.station, .int .i64 x.wave, .int .i64 tk, .int .i64 er, .int .i64 by_, .int .i64 id] 25)).drew w2.heap.size 25 #[.int .i64 (z.id + 1), .int .i64 x.station, .int .i64 x.wave, .int .i64 tk, .int .i64 er, .int .i64 by_, .int .i64 id] from (HX.out.alloc _).drew)
        have HNA := Lib.hid (show Blk (wx.alloc (.cells #[.int .i64 (z.id + 1), .int .i64 x.station, .int .i64 x.wave, .int .i64 tk, .int .i64 er, .int .i64 by_, .int .i64 id] 25)).drew wx.heap.size 25 #[.int .i64 (z.id + 1), .int .i64 x.station, .int .i64 x.wave, .int .i64 tk, .int .i64 er, .int .i64 by_, .int .i64 id] from (Blk.new wx _ _).drew)
        have hsA : ((wx.alloc (.cells #[.int .i64 (z.id + 1), .int .i64 x.station, .int .i64 x.wave, .int .i64 tk, .int .i64 er, .int .i64 by_, .int .i64 id] 25)).drew).heap.size = wx.heap.size + 1 := by simp
        go_region_held3 (fun w' => w'.cell? ⟨w2.heap.size, 0, none⟩ = some (.int .i64 (z.id + 1)) ∧ w'.cell? ⟨w2.heap.size, 1, none⟩ = some (.int .i64 x.station) ∧ w'.cell? ⟨w2.heap.size, 2, none⟩ = some (.int .i64 x.wave) ∧ w'.cell? ⟨w2.heap.size, 3, none⟩ = some (.int .i64 tk) ∧ w'.cell? ⟨w2.heap.size, 4, none⟩ = some (.int .i64 er) ∧ w'.cell? ⟨w2.heap.size, 5, none⟩ = some (.int .i64 by_) ∧ w'.cell? ⟨w2.heap.size, 6, none⟩ = some (.int .i64 id)) (first | exact box7 HX5.out | exact box7 (HX4.out.alloc _) | exact box7 HX4.out | exact box7 HXA.out | exact box7 HX.out.drew | exact box7 HX.out) (first
          | (go_at_call 79; (with_reducible refine (copyOfP_any b off l.length c wx.heap.size l wx.drew rfl HR0.out hl (Nat.le_refl _)).mono ?_); rintro e w4 ⟨v, rfl, hownA, hb4⟩; have HX4 := Lib.hid (HX.out.drew.after hb4); have hs4 : wx.heap.size ≤ w4.heap.size := hb4.size)
          | (go_at_call 79; (with_reducible refine (copyOfP_any b off l.length c wx.heap.size l (wx.alloc (.cells #[.int .i64 (z.id + 1), .int .i64 x.station, .int .i64 x.wave, .int .i64 tk, .int .i64 er, .int .i64 by_, .int .i64 id] 25)).drew rfl HRA.out hl hleA).mono ?_); rintro e w4 ⟨v, rfl, hownB, hb4⟩; have HX4 := Lib.hid (HXA.out.after hb4); have HN4 := Lib.hid (HNA.out.after hb4); have hs4 := hb4.size)
          | (refine step_append_lies _ (by rfl) _ _ _ (by rfl) wx.drew.heap.size 25 i0 _ 7 56 Try.underlying31 hi hz0 hz1 hz2 rfl (by omega) v l.length (flat encP l) (by rfl) (hownA.alloc (.cells #[.int .i64 (z.id + 1), .int .i64 x.station, .int .i64 x.wave, .int .i64 tk, .int .i64 er, .int .i64 by_, .int .i64 id] 25)) ⟨w4.heap.size, 0, none⟩ 1 1 [.int .i64 (z.id + 1), .int .i64 x.station, .int .i64 x.wave, .int .i64 tk, .int .i64 er, .int .i64 by_, .int .i64 id] (by rfl) (by rfl) (World.news_of_block (cs := #[.int .i64 (z.id + 1), .int .i64 x.station, .int .i64 x.wave, .int .i64 tk, .int .i64 er, .int .i64 by_, .int .i64 id]) (t := 25) (fr := (0, 0)) (heap_alloc_new w4 _)) (by simp [Value.oneCell']) (by omega) (by unfold maxLen; omega) (by omega) (by simp; omega) (w4.heap.size + 1) (by simp) ?_; intro g cap w5 hown5 hgrow hat hlt5; have HX5 := Lib.hid ((HX4.out.alloc (.cells #[.int .i64 (z.id + 1), .int .i64 x.station, .int .i64 x.wave, .int .i64 tk, .int .i64 er, .int .i64 by_, .int .i64 id] 25)).grown hgrow (fun e => by have := (hownA.lt _ e.symm).1; have h9 : wx.heap.size ≤ w2.heap.size := this; omega)))
          | (refine step_append_lies _ (by rfl) _ _ _ (by rfl) (wx.alloc (.cells #[.int .i64 (z.id + 1), .int .i64 x.station, .int .i64 x.wave, .int .i64 tk, .int .i64 er, .int .i64 by_, .int .i64 id] 25)).drew.heap.size 25 i0 _ 7 56 Try.underlying31 hi hz0 hz1 hz2 rfl (by omega) v l.length (flat encP l) (by rfl) hownB ⟨wx.heap.size, 0, none⟩ 1 1 [.int .i64 (z.id + 1), .int .i64 x.station, .int .i64 x.wave, .int .i64 tk, .int .i64 er, .int .i64 by_, .int .i64 id] (by rfl) (by rfl) (World.news_of_block (cs := #[.int .i64 (z.id + 1), .int .i64 x.station, .int .i64 x.wave, .int .i64 tk, .int .i64 er, .int .i64 by_, .int .i64 id]) (t := 25) (fr := (0, 0)) HN4.out) (by simp [Value.oneCell']) (by omega) (by unfold maxLen; omega) (by omega) hs4 w4.heap.size rfl ?_; intro g cap w5 hown5 hgrow hat hlt5; have HX5 := Lib.hid (HX4.out.grown hgrow (fun e => by have := (hownB.lt _ e.symm).1; omega))))
        all_goals go_wp2_with fail
        all_goals go_meet
        all_goals first
          | exact ⟨own_of_rows HO.out HOl.out (ownsRow_mono hown5 (Nat.le_refl _)), ((((Below.refl wx.heap.size wx).drew.trans hb4).alloc hs4 _).grown hgrow (by simp; omega) (fun g hg => (hownA.lt g hg).1)), HX5.out⟩
          | exact ⟨own_of_rows HO.out HOl.out (ownsRow_mono hown5 (by rw [hsA]; omega)), (((((Below.refl wx.heap.size wx).alloc (Nat.le_refl _) _).drew.trans (hb4.mono (by rw [hsA]; omega)))).grown hgrow (by rw [hsA] at hs4; omega) (fun g hg => by have := (hownB.lt g hg).1; rw [hsA] at this; omega)), HX5.out⟩
      case rest =>
        unfold LeftB at hcut
        obtain ⟨hO, hby, hXy⟩ := hcut
        obtain ⟨A2, c2, e2, hcc, hrd⟩ := Own.form encP_len hO
        subst e2
        have hOm := hO.mono (show w.heap.size ≤ wx.heap.size from hBx.size)
        have HOw := Lib.hid hOm
        have HXy := Lib.hid hXy
        have hBy := hBx.trans (hby.mono hBx.size)
        generalize wc = wy at *
        clear hO hXy hOm
        go_wp2_with fail
        refine (ArePicks_any A2 c2 O _ hrd (by have := HOl.out; omega)).mono ?_
        rintro e w6 ⟨rfl, hb6⟩
        rw [Hv3.out]
        have hB6 := hBy.trans (hb6.mono hBy.size)
        have HO6 := Lib.hid (HOw.out.keep hb6)
        obtain ⟨y0, y1, y2, y3, y4, y5, y6⟩ := box7 (HXy.out.after hb6)
        clear hrd
        cases v3 with
        | false =>
          go_wp2
          go_ret3
          first
            | exact ⟨none, 0, rfl, ⟨Nat.le_refl _, Nat.zero_le _⟩, Own.none_ _ _ _, hB6⟩
            | exact ⟨none, 0, rfl, Nat.zero_le _, Own.none_ _ _ _, hB6⟩
        | true =>
          go_wp2_with fail
          go_quiet (fail)
          go_wp2
          go_ret3
          exact ⟨_, _, rfl, hcc, HO6.out.keep (below_drewN (Below.refl _ _) _), below_drewN hB6 _⟩

end Go.Proofs.Ytiakaglgfboepaa
