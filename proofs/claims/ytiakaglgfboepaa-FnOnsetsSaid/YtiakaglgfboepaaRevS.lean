/-
  Contracts of the reference's RevisePick. (Printed by gen_A6.py.)
-/
import Derived.Test.YtiakaglgfboepaaRev
namespace Go.Proofs.Ytiakaglgfboepaa
set_option linter.unusedVariables false
open Go.RowKit

def LeftC (wx : World) (O : List Pick) (s : Value) (wy : World) : Prop := Own encP 7 wy wx.heap.size 25 s O ∧ Below wx.heap.size wx wy
set_option maxRecDepth 100000 in
set_option maxHeartbeats 1000000 in
theorem sRevisePick_any (A : Option Addr) (c : Nat) (l : List Pick) (w : World) (h : Rd encP 7 w w.heap.size A l) (hl : l.length ≤ 1048576) (hc : l.length ≤ c ∧ c ≤ maxLen) (id tk er by_ : Int) :
    Calls Try.prog 38 #[.slice A l.length c, .int .i64 id, .int .i64 tk, .int .i64 er, .int .i64 by_] w fun e w' => ∃ A' c', e = .returned (.tuple #[.slice A' (rvL l id tk er by_).length c', .int .i64 (rvN l id tk er by_), .bool (okRv l id tk er by_)]) ∧ ((rvL l id tk er by_).length ≤ c' ∧ c' ≤ maxLen) ∧ Own encP 7 w' w.heap.size 25 (.slice A' (rvL l id tk er by_).length c') (rvL l id tk er by_) ∧ Below w.heap.size w w' := by
  cases h1 : okR1 l id with
  | false =>
    have hk : okRv l id tk er by_ = false := by simp [okRv, h1]
    have hL : rvL l id tk er by_ = [] := by unfold rvL; rw [hk]; rfl
    have hN : rvN l id tk er by_ = 0 := by unfold rvN; rw [hk]; rfl
    rw [hk, hL, hN]
    clear hk hL hN
    cases hp : picksS l with
    | false =>
      go_enter Try.func38, Try.ntmps38
      go_wp2_with fail
      refine (l7Find_any A l.length c l id _ w.heap.size rfl h hl).mono ?_
      rintro e w0 ⟨rfl, rfl⟩
      go_wp2_with fail
      refine (l7Good_any _ c l _ h hl hc).mono ?_
      rintro e w1 ⟨rfl, hb1⟩
      rw [hp]
      go_wp2
      go_ret3
      exact ⟨_, 0, rfl, ⟨Nat.le_refl _, Nat.zero_le _⟩, Own.empty _ _ _ hb1.size, hb1.alloc hb1.size _⟩
    | true =>
      by_cases h0 : 0 ≤ findP l id
      · obtain ⟨k, hk, hfk, hid, _⟩ := find_id h0 hp
        have hcur : curP l id = false := by
          unfold okR1 at h1
          rw [hp, show decide (0 ≤ findP l id) = true by simpa using h0] at h1
          simpa using h1
        have hki : (k : Int) < (l.length : Int) := by omega
        have hcon := fun (W : World) B hW => l7Current_any A l.length c l id W B rfl hW hl
        rw [hcur] at hcon
        have Hcon := Lib.hid hcon
        have Hfk := Lib.hid hfk
        have Hp := Lib.hid hp
        clear h0 hfk hid hcon hcur h1 hp
        go_enter Try.func38, Try.ntmps38
        go_wp2_with fail
        refine (l7Find_any A l.length c l id _ w.heap.size rfl h hl).mono ?_
        rintro e w0 ⟨rfl, rfl⟩
        rw [Hfk.out]
        go_wp2_with fail
        refine (l7Good_any _ c l _ h hl hc).mono ?_
        rintro e w1 ⟨rfl, hb1⟩
        rw [Hp.out]
        have hr1 := h.after hb1
        go_wp2_with fail
        refine (Hcon.out w1 _ hr1).mono ?_
        rintro e w2 ⟨rfl, rfl⟩
        go_wp2
        go_ret3
        exact ⟨_, 0, rfl, ⟨Nat.le_refl _, Nat.zero_le _⟩, Own.empty _ _ _ hb1.size, hb1.alloc hb1.size _⟩
      · obtain ⟨r, hr⟩ : ∃ r, findP l id = r := ⟨_, rfl⟩
        have hlt : r < 0 := by omega
        have Hr := Lib.hid hr
        have Hp := Lib.hid hp
        clear h0 hr h1 hp
        go_enter Try.func38, Try.ntmps38
        go_wp2_with fail
        refine (l7Find_any A l.length c l id _ w.heap.size rfl h hl).mono ?_
        rintro e w0 ⟨rfl, rfl⟩
        rw [Hr.out]
        go_wp2_with fail
        refine (l7Good_any _ c l _ h hl hc).mono ?_
        rintro e w1 ⟨rfl, hb1⟩
        rw [Hp.out]
        go_wp2
        go_ret3
        exact ⟨_, 0, rfl, ⟨Nat.le_refl _, Nat.zero_le _⟩, Own.empty _ _ _ hb1.size, hb1.alloc hb1.size _⟩
  | true =>
    obtain ⟨hp, h0, hcur⟩ := okR1_iff.1 h1
    obtain ⟨k, hk, hfk, hid, g1, g2, _⟩ := find_id h0 hp
    have h12 := (picksS_iff hp).2.1
    have hlen : 0 < l.length := by omega
    have hgz := goodP_iff.1 (picksS_get hp (show l.length - 1 < l.length by omega))
    have hcell := fun (W : World) (hW : Rd encP 7 W W.heap.size A l) => cellsP hW hk
    have hcelz := fun (W : World) (hW : Rd encP 7 W W.heap.size A l) => cellsP hW (show l.length - 1 < l.length by omega)
    have hki : (k : Int) < (l.length : Int) := by omega
    obtain ⟨x, hx⟩ : ∃ x, l[k] = x := ⟨_, rfl⟩
    obtain ⟨z, hz⟩ : ∃ z, l[l.length - 1] = z := ⟨_, rfl⟩
    have hO : rvO l id tk er by_ = l ++ [(⟨z.id + 1, x.station, x.wave, tk, er, by_, id⟩ : Pick)] := by unfold rvO nextP; rw [lastP_of hlen, getP_of hk hfk, hx, hz]
    have hlz : (lastP l).id = z.id := by rw [lastP_of hlen, hz]
    rw [hx] at hcell hid
    rw [hz] at hcelz hgz
    have hcon := fun (W : World) B hW => l7Current_any A l.length c l id W B rfl hW hl
    rw [hcur] at hcon
    obtain ⟨O, hOO⟩ : ∃ O, rvO l id tk er by_ = O := ⟨_, rfl⟩
    rw [hOO] at hO
    obtain ⟨v3, hv3⟩ : ∃ v, picksS O = v := ⟨_, rfl⟩
    have hk3 : okRv l id tk er by_ = v3 := by unfold okRv; rw [h1, hOO, hv3]; rfl
    have hL3 : rvL l id tk er by_ = if v3 = true then O else [] := by unfold rvL; rw [hk3, hOO]
    have hN3 : rvN l id tk er by_ = if v3 = true then z.id + 1 else 0 := by unfold rvN; rw [hk3, hlz]
    rw [hk3, hL3, hN3]
    have hOl : O.length = l.length + 1 := by rw [hO]; simp
    obtain ⟨⟨z1, z2⟩, _⟩ := hgz
    have Hcell := Lib.hid hcell
    have Hcelz := Lib.hid hcelz
    have Hcon := Lib.hid hcon
    have Hfk := Lib.hid hfk
    have Hp := Lib.hid hp
    have HO := Lib.hid hO
    have Hv3 := Lib.hid hv3
    have HOl := Lib.hid hOl
    have s6 : (1 : Int) ≤ (l.length : Int) := by omega
    have s7 : 1 ≤ l.length := by omega
    have s8 : (0 : Int) < (l.length : Int) := by omega
    have hki0 : (0 : Int) ≤ (k : Int) := by omega
    obtain ⟨i0, hi, hz0, hz1, hz2⟩ := info_parts infoP
    clear h0 hfk hid hcell hcelz hx hz hcon hcur h1 hp hO hOO hv3 hk3 hL3 hN3 hlz hOl
    go_enter Try.func38, Try.ntmps38
    go_wp2_with fail
    refine (l7Find_any A l.length c l id _ w.heap.size rfl h hl).mono ?_
    rintro e w0 ⟨rfl, rfl⟩
    rw [Hfk.out]
    go_wp2_with fail
    refine (l7Good_any _ c l _ h hl hc).mono ?_
    rintro e w1 ⟨rfl, hb1⟩
    rw [Hp.out]
    have hr1 := h.after hb1
    go_wp2_with fail
    refine (Hcon.out w1 _ hr1).mono ?_
    rintro e w2 ⟨rfl, rfl⟩
    obtain ⟨b, off, e', hb', d0, d1, d2, d3, d4, d5, d6⟩ := Hcell.out w1 hr1
    subst e'
    obtain ⟨b', off', e', hb'', f0, _⟩ := Hcelz.out w1 hr1
    injection e' with e'
    injection e' with e1 e2
    subst e1 e2
    go_upto_region 5 with (fail)
    obtain ⟨wx, rfl⟩ : ∃ wx : World, wx = w1 := ⟨_, rfl⟩
    have hrx := hr1
    clear d0 d3 d4 d5 d6 f0
    go_cut [15] from 41 (fun s wy => LeftC wx O s wy)
    case first =>
      have HS := Lib.hid (fun (W : World) (hW : Below wx.heap.size wx W) => (show W.cell? ⟨b, off + k * 7 + 1, none⟩ = some (.int .i64 x.station) ∧ W.cell? ⟨b, off + k * 7 + 2, none⟩ = some (.int .i64 x.wave) from ⟨(hW.cell (p := ⟨b, _, none⟩) hb').trans d1, (hW.cell (p := ⟨b, _, none⟩) hb').trans d2⟩))
      have hbW1 : Below wx.heap.size wx (wx.alloc (.cells #[] 25)).drew := by (repeat (first | with_reducible exact Below.refl _ _ | with_reducible assumption | with_reducible refine Below.setCell ?_ (by simp <;> omega) _ | with_reducible refine Below.alloc ?_ (by first | omega | (simp <;> omega)) _ | with_reducible refine Below.drew ?_ | with_reducible refine below_drewN ?_ _))
      have HO1 := Lib.hid (show Own encP 7 (wx.alloc (.cells #[] 25)).drew wx.heap.size 25 (.slice (some ⟨wx.heap.size, 0, none⟩) 0 0) ([] : List Pick) from (Own.empty wx wx.heap.size 25 (Nat.le_refl _)).keep (Below.refl _ _).drew)
      have HF1 := Lib.hid (fun j u hu => (hrx.below hbW1).flat_ encP_len (by omega) j u hu)
      have hsW1 : wx.heap.size < ((wx.alloc (.cells #[] 25)).drew).heap.size := by simp
      have hbW2 : Below wx.heap.size wx ((wx.alloc (.cells #[] 25)).alloc (.cells #[.int .i64 (z.id + 1), .int .i64 x.station, .int .i64 x.wave, .int .i64 tk, .int .i64 er, .int .i64 by_, .int .i64 id] 25)).drew := by (repeat (first | with_reducible exact Below.refl _ _ | with_reducible assumption | with_reducible refine Below.setCell ?_ (by simp <;> omega) _ | with_reducible refine Below.alloc ?_ (by first | omega | (simp <;> omega)) _ | with_reducible refine Below.drew ?_ | with_reducible refine below_drewN ?_ _))
      have HO2 := Lib.hid (show Own encP 7 ((wx.alloc (.cells #[] 25)).alloc (.cells #[.int .i64 (z.id + 1), .int .i64 x.station, .int .i64 x.wave, .int .i64 tk, .int .i64 er, .int .i64 by_, .int .i64 id] 25)).drew wx.heap.size 25 (.slice (some ⟨wx.heap.size, 0, none⟩) 0 0) ([] : List Pick) from ((Own.empty wx wx.heap.size 25 (Nat.le_refl _)).alloc (.cells #[.int .i64 (z.id + 1), .int .i64 x.station, .int .i64 x.wave, .int .i64 tk, .int .i64 er, .int .i64 by_, .int .i64 id] 25)).keep (Below.refl _ _).drew)
      have HN2 : Hid (Blk ((wx.alloc (.cells #[] 25)).alloc (.cells #[.int .i64 (z.id + 1), .int .i64 x.station, .int .i64 x.wave, .int .i64 tk, .int .i64 er, .int .i64 by_, .int .i64 id] 25)).drew (wx.heap.size + 1) 25 #[.int .i64 (z.id + 1), .int .i64 x.station, .int .i64 x.wave, .int .i64 tk, .int .i64 er, .int .i64 by_, .int .i64 id]) := by
        have hq := (Blk.new (wx.alloc (.cells #[] 25)) 25 #[.int .i64 (z.id + 1), .int .i64 x.station, .int .i64 x.wave, .int .i64 tk, .int .i64 er, .int .i64 by_, .int .i64 id]).drew
        simp at hq
        exact hq
      have HF2 := Lib.hid (fun j u hu => (hrx.below hbW2).flat_ encP_len (by omega) j u hu)
      have hsW2 : wx.heap.size < (((wx.alloc (.cells #[] 25)).alloc (.cells #[.int .i64 (z.id + 1), .int .i64 x.station, .int .i64 x.wave, .int .i64 tk, .int .i64 er, .int .i64 by_, .int .i64 id] 25)).drew).heap.size := by simp <;> omega
      have hbW3 : Below wx.heap.size wx ((wx.alloc (.cells #[.int .i64 (z.id + 1), .int .i64 x.station, .int .i64 x.wave, .int .i64 tk, .int .i64 er, .int .i64 by_, .int .i64 id] 25)).alloc (.cells #[] 25)).drew := by (repeat (first | with_reducible exact Below.refl _ _ | with_reducible assumption | with_reducible refine Below.setCell ?_ (by simp <;> omega) _ | with_reducible refine Below.alloc ?_ (by first | omega | (simp <;> omega)) _ | with_reducible refine Below.drew ?_ | with_reducible refine below_drewN ?_ _))
      have HO3 : Hid (Own encP 7 ((wx.alloc (.cells #[.int .i64 (z.id + 1), .int .i64 x.station, .int .i64 x.wave, .int .i64 tk, .int .i64 er, .int .i64 by_, .int .i64 id] 25)).alloc (.cells #[] 25)).drew wx.heap.size 25 (.slice (some ⟨wx.heap.size + 1, 0, none⟩) 0 0) ([] : List Pick)) := by
        have hq := (Own.empty (enc := encP) (k := 7) (wx.alloc (.cells #[.int .i64 (z.id + 1), .int .i64 x.station, .int .i64 x.wave, .int .i64 tk, .int .i64 er, .int .i64 by_, .int .i64 id] 25)) wx.heap.size 25 (by simp)).keep (Below.refl _ _).drew
        simp at hq
        exact hq
      have HN3 := Lib.hid (show Blk ((wx.alloc (.cells #[.int .i64 (z.id + 1), .int .i64 x.station, .int .i64 x.wave, .int .i64 tk, .int .i64 er, .int .i64 by_, .int .i64 id] 25)).alloc (.cells #[] 25)).drew wx.heap.size 25 #[.int .i64 (z.id + 1), .int .i64 x.station, .int .i64 x.wave, .int .i64 tk, .int .i64 er, .int .i64 by_, .int .i64 id] from ((Blk.new wx _ _).alloc _).drew)
      have HF3 := Lib.hid (fun j u hu => (hrx.below hbW3).flat_ encP_len (by omega) j u hu)
      have hsW3 : wx.heap.size < (((wx.alloc (.cells #[.int .i64 (z.id + 1), .int .i64 x.station, .int .i64 x.wave, .int .i64 tk, .int .i64 er, .int .i64 by_, .int .i64 id] 25)).alloc (.cells #[] 25)).drew).heap.size := by simp <;> omega
      go_region_held3 (fun w' => w'.cell? ⟨b, off + k * 7 + 1, none⟩ = some (.int .i64 x.station) ∧ w'.cell? ⟨b, off + k * 7 + 2, none⟩ = some (.int .i64 x.wave)) (first | exact HS.out _ hb6.out | exact HS.out _ (hb5.out.alloc (by omega) _) | exact HS.out _ hb5.out | exact HS.out _ (by (repeat (first | with_reducible exact Below.refl _ _ | with_reducible assumption | with_reducible refine Below.setCell ?_ (by simp <;> omega) _ | with_reducible refine Below.alloc ?_ (by first | omega | (simp <;> omega)) _ | with_reducible refine Below.drew ?_ | with_reducible refine below_drewN ?_ _))) | go_keep) (first
        | (refine step_append_lies _ (by rfl) _ _ _ (by rfl) wx.heap.size 25 i0 _ 7 56 Try.underlying31 hi hz0 hz1 hz2 rfl (by omega) (.slice (some ⟨wx.heap.size, 0, none⟩) 0 0) 0 [] (by rfl) HO1.out ⟨b, off, none⟩ l.length c (flat encP l) (by rfl) (flat_length encP_len l) HF1.out (flat_mem encP_one l) hlen (by unfold maxLen; omega) (by omega) (by omega) _ rfl ?_; intro g5 cap5 w5 hown5 hgrow5 hat5 hlt5; have hb5 := Lib.hid (hbW1.grown hgrow5 (by omega) (fun g hg => by have h9 := (HO1.out.lt g hg).1; omega)); have hs5 := hgrow5.size; rw [Nat.zero_add] at hown5 ⊢; rw [List.nil_append] at hown5; have tag1 := True.intro)
        | (refine step_append_lies _ (by rfl) _ _ _ (by rfl) wx.heap.size 25 i0 _ 7 56 Try.underlying31 hi hz0 hz1 hz2 rfl (by omega) (.slice (some ⟨wx.heap.size, 0, none⟩) 0 0) 0 [] (by rfl) HO2.out ⟨b, off, none⟩ l.length c (flat encP l) (by rfl) (flat_length encP_len l) HF2.out (flat_mem encP_one l) hlen (by unfold maxLen; omega) (by omega) (by omega) _ rfl ?_; intro g5 cap5 w5 hown5 hgrow5 hat5 hlt5; have hb5 := Lib.hid (hbW2.grown hgrow5 (by omega) (fun g hg => by have h9 := (HO2.out.lt g hg).1; omega)); have hs5 := hgrow5.size; rw [Nat.zero_add] at hown5 ⊢; rw [List.nil_append] at hown5; have tag2 := True.intro; have HN5 := Lib.hid (HN2.out.grown hgrow5 (by simp [Value.ownBlock])))
        | (refine step_append_lies _ (by rfl) _ _ _ (by rfl) wx.heap.size 25 i0 _ 7 56 Try.underlying31 hi hz0 hz1 hz2 rfl (by omega) (.slice (some ⟨(wx.heap.size + 1), 0, none⟩) 0 0) 0 [] (by rfl) HO3.out ⟨b, off, none⟩ l.length c (flat encP l) (by rfl) (flat_length encP_len l) HF3.out (flat_mem encP_one l) hlen (by unfold maxLen; omega) (by omega) (by omega) _ rfl ?_; intro g5 cap5 w5 hown5 hgrow5 hat5 hlt5; have hb5 := Lib.hid (hbW3.grown hgrow5 (by omega) (fun g hg => by have h9 := (HO3.out.lt g hg).1; omega)); have hs5 := hgrow5.size; rw [Nat.zero_add] at hown5 ⊢; rw [List.nil_append] at hown5; have tag3 := True.intro; have HN5 := Lib.hid (HN3.out.grown hgrow5 (by simp [Value.ownBlock])))
        | (refine step_append_lies _ (by rfl) _ _ _ (by rfl) wx.heap.size 25 i0 _ 7 56 Try.underlying31 hi hz0 hz1 hz2 rfl (by omega) (.slice (some ⟨g5, 0, none⟩) l.length cap5) l.length (flat encP l) (by rfl) (World.ownsRow.alloc hown5 (.cells #[.int .i64 (z.id + 1), .int .i64 x.station, .int .i64 x.wave, .int .i64 tk, .int .i64 er, .int .i64 by_, .int .i64 id] 25)) ⟨w5.heap.size, 0, none⟩ 1 1 [.int .i64 (z.id + 1), .int .i64 x.station, .int .i64 x.wave, .int .i64 tk, .int .i64 er, .int .i64 by_, .int .i64 id] (by rfl) (by rfl) (World.news_of_block (cs := #[.int .i64 (z.id + 1), .int .i64 x.station, .int .i64 x.wave, .int .i64 tk, .int .i64 er, .int .i64 by_, .int .i64 id]) (t := 25) (fr := (0, 0)) (heap_alloc_new w5 _)) (by simp [Value.oneCell']) (by omega) (by unfold maxLen; omega) (by omega) (by simp; omega) _ rfl ?_; intro g6 cap6 w6 hown6 hgrow6 hat6 hlt6; have hb6 := Lib.hid ((hb5.out.alloc (by omega) _).grown hgrow6 (by simp; omega) (fun g hg => by have h9 := (World.ownsRow.lt hown5 g hg).1; omega)))
        | (refine step_append_lies _ (by rfl) _ _ _ (by rfl) wx.heap.size 25 i0 _ 7 56 Try.underlying31 hi hz0 hz1 hz2 rfl (by omega) (.slice (some ⟨g5, 0, none⟩) l.length cap5) l.length (flat encP l) (by rfl) hown5 ⟨(wx.heap.size + 1), 0, none⟩ 1 1 [.int .i64 (z.id + 1), .int .i64 x.station, .int .i64 x.wave, .int .i64 tk, .int .i64 er, .int .i64 by_, .int .i64 id] (by rfl) (by rfl) (World.news_of_block (cs := #[.int .i64 (z.id + 1), .int .i64 x.station, .int .i64 x.wave, .int .i64 tk, .int .i64 er, .int .i64 by_, .int .i64 id]) (t := 25) (fr := (0, 0)) HN5.out) (by simp [Value.oneCell']) (by omega) (by unfold maxLen; omega) (by omega) (by omega) _ rfl ?_; intro g6 cap6 w6 hown6 hgrow6 hat6 hlt6; have hb6 := Lib.hid (hb5.out.grown hgrow6 (by omega) (fun g hg => by have h9 := (World.ownsRow.lt hown5 g hg).1; omega)))
        | (refine step_append_lies _ (by rfl) _ _ _ (by rfl) wx.heap.size 25 i0 _ 7 56 Try.underlying31 hi hz0 hz1 hz2 rfl (by omega) (.slice (some ⟨g5, 0, none⟩) l.length cap5) l.length (flat encP l) (by rfl) hown5 ⟨wx.heap.size, 0, none⟩ 1 1 [.int .i64 (z.id + 1), .int .i64 x.station, .int .i64 x.wave, .int .i64 tk, .int .i64 er, .int .i64 by_, .int .i64 id] (by rfl) (by rfl) (World.news_of_block (cs := #[.int .i64 (z.id + 1), .int .i64 x.station, .int .i64 x.wave, .int .i64 tk, .int .i64 er, .int .i64 by_, .int .i64 id]) (t := 25) (fr := (0, 0)) HN5.out) (by simp [Value.oneCell']) (by omega) (by unfold maxLen; omega) (by omega) (by omega) _ rfl ?_; intro g6 cap6 w6 hown6 hgrow6 hat6 hlt6; have hb6 := Lib.hid (hb5.out.grown hgrow6 (by omega) (fun g hg => by have h9 := (World.ownsRow.lt hown5 g hg).1; omega))))
      all_goals go_wp2_with fail
      all_goals go_meet
      all_goals exact ⟨own_of_rows HO.out HOl.out hown6, hb6.out⟩
    case rest =>
      unfold LeftC at hcut
      obtain ⟨hO, hby⟩ := hcut
      obtain ⟨A2, c2, e2, hcc, hrd⟩ := Own.form encP_len hO
      subst e2
      have hOm := hO.mono hb1.size
      have HOw := Lib.hid hOm
      have hBy := hb1.trans (hby.mono hb1.size)
      generalize wc = wy at *
      clear hO hOm
      go_wp2_with fail
      refine (l7Good_any A2 c2 O _ hrd (by have := HOl.out; omega) hcc).mono ?_
      rintro e w6 ⟨rfl, hb6⟩
      rw [Hv3.out]
      have hB6 := hBy.trans (hb6.mono hBy.size)
      have HO6 := Lib.hid (HOw.out.keep hb6)
      clear hrd
      cases v3 with
      | false =>
        go_wp2
        go_ret3
        first
          | exact ⟨_, 0, rfl, ⟨Nat.le_refl _, Nat.zero_le _⟩, Own.empty _ _ _ hB6.size, hB6.alloc hB6.size _⟩
          | exact ⟨_, 0, rfl, Nat.zero_le _, Own.empty _ _ _ hB6.size, hB6.alloc hB6.size _⟩
      | true =>
        go_wp2
        go_ret3
        exact ⟨_, _, rfl, hcc, HO6.out, hB6⟩

end Go.Proofs.Ytiakaglgfboepaa
