/-
  Contract of the function that draws arrivals. (Printed by gen_D20.py.)
-/
import Derived.Test.YtdadcbcanjmoeaaDOr
import Derived.Test.YtdadcbcanjmoeaaArrivalL
namespace Go.Proofs.Ytdadcbcanjmoeaa
set_option linter.unusedVariables false
open Go.RowKit

theorem own_ne_blk {α : Type} {enc : α → List Value} {k : Nat} {w : World} {base : Nat} {E T : TypeId} {v : Value} {l : List α} {q : Nat} {cs : Array Value} (h : Own enc k w base E v l) (hB : Blk w q T cs) (hne : E ≠ T) : v.ownBlock ≠ some q := by
  intro hg
  obtain ⟨_, h2⟩ := h
  rcases h2 with ⟨rfl, _⟩ | ⟨g1, cap, cur, rfl, _, hh, _⟩
  · cases hg
  · have e1 : g1 = q := by injection hg
    subst e1
    unfold Blk at hB
    rw [hB] at hh
    injection hh with hh
    injection hh with _ ht
    exact hne ht.symm
/-- What the walk of a list that is being drawn carries. -/
def LSt {α : Type} (enc : α → List Value) (k : Nat) (E : TypeId) (w : World) (g : Nat) (W : World) (v : Value) (l : List α) (M : Nat) : Prop := Own enc k W w.heap.size E v l ∧ Cur W g M ∧ w.grownBy W (some g)
section
variable {α : Type} {enc : α → List Value} {k : Nat} {E : TypeId} {w W W' : World} {g M M' : Nat} {v v' : Value} {l l' : List α}
theorem LSt.step (h : LSt enc k E w g W v l M) (hE : E ≠ 107) (hC : Cur W' g M') (hg : W.grownBy W' (some g)) : LSt enc k E w g W' v l M' := ⟨h.1.cur h.2.1 hg hE, hC, only_trans h.2.2 hg⟩
theorem LSt.below (h : LSt enc k E w g W v l M) (hb : Below W.heap.size W W') : LSt enc k E w g W' v l M := ⟨h.1.keep hb, h.2.1.after hb, only_belowB h.2.2 hb h.2.2.size⟩
theorem LSt.size (h : LSt enc k E w g W v l M) : w.heap.size ≤ W.heap.size := h.2.2.size
theorem LSt.more (h : LSt enc k E w g W v l M) (hm : M ≤ M') : LSt enc k E w g W v l M' := ⟨h.1, h.2.1.more hm, h.2.2⟩
/-- Behind an append. -/
theorem LSt.app (h : LSt enc k E w g W v l M) (hO : Own enc k W' w.heap.size E v' l') (hb : Below w.heap.size W W') (hgw : g < w.heap.size) : LSt enc k E w g W' v' l' M := ⟨hO, h.2.1.belowB hb hgw, only_belowB h.2.2 hb (Nat.le_refl _)⟩
theorem LSt.new (h : Cur w g M) : LSt enc k E w g (w.alloc (.cells #[] E)) (.slice (some ⟨w.heap.size, 0, none⟩) 0 0) ([] : List α) M :=
  ⟨Own.empty _ _ _ (Nat.le_refl _), h.after (by (repeat (first | with_reducible exact Below.refl _ _ | with_reducible assumption | with_reducible refine Below.setCell ?_ (by simp <;> omega) _ | with_reducible refine Below.alloc ?_ (by first | omega | (simp <;> omega)) _ | with_reducible refine Below.drew ?_ | with_reducible refine below_drewN ?_ _))), only_of_below (by (repeat (first | with_reducible exact Below.refl _ _ | with_reducible assumption | with_reducible refine Below.setCell ?_ (by simp <;> omega) _ | with_reducible refine Below.alloc ?_ (by first | omega | (simp <;> omega)) _ | with_reducible refine Below.drew ?_ | with_reducible refine below_drewN ?_ _))) _⟩
end
/-- .. with two origins' blocks. -/
def ASt (w : World) (g : Nat) (W : World) (v : Value) (l : List Arrival) (M qa qb : Nat) (a b : Origin) : Prop := LSt encA 5 37 w g W v l M ∧ Blk W qa 39 #[.int .i64 a.x, .int .i64 a.y, .int .i64 a.tick] ∧ Blk W qb 39 #[.int .i64 b.x, .int .i64 b.y, .int .i64 b.tick]
section
variable {w W W' : World} {g M M' qa qb : Nat} {v v' : Value} {l l' : List Arrival} {a b : Origin}
theorem ASt.step (h : ASt w g W v l M qa qb a b) (ha : g ≠ qa) (hb : g ≠ qb) (hC : Cur W' g M') (hg : W.grownBy W' (some g)) : ASt w g W' v l M' qa qb a b :=
  ⟨h.1.step (by decide) hC hg, h.2.1.grown hg (by intro e; injection e with e; omega), h.2.2.grown hg (by intro e; injection e with e; omega)⟩
theorem ASt.below (h : ASt w g W v l M qa qb a b) (hb : Below W.heap.size W W') : ASt w g W' v l M qa qb a b := ⟨h.1.below hb, h.2.1.after hb, h.2.2.after hb⟩
theorem ASt.size (h : ASt w g W v l M qa qb a b) : w.heap.size ≤ W.heap.size := h.1.size
theorem ASt.poke {q i : Nat} {u : Value} (h : ASt w g W v l M qa qb a b) (hn : v.ownBlock ≠ some q) (ha : qa ≠ q) (hb : qb ≠ q) (hg : g < w.heap.size) (hw : w.heap.size ≤ q) : ASt w g (W.setCell ⟨q, i, none⟩ u) v l M qa qb a b := by
  have hbx : Below w.heap.size W (W.setCell ⟨q, i, none⟩ u) := (Below.refl _ _).setCell hw _
  exact ⟨⟨h.1.1.grown (row := some q) ⟨rfl, rfl, rfl, by simp [World.setCell], fun j hj hn => Below.heap_setCell W ⟨q, i, none⟩ _ j (fun e => hn (by rw [e]))⟩ (fun g9 hg9 => by injection hg9 with hg9; subst hg9; exact hn), h.1.2.1.belowB hbx hg, only_belowB h.1.2.2 hbx (Nat.le_refl _)⟩, h.2.1.far ha _, h.2.2.far hb _⟩
theorem ASt.app (h : ASt w g W v l M qa qb a b) (hO : Own encA 5 W' w.heap.size 37 v' l') (hb : Below w.heap.size W W') (hr : W.grownBy W' v.ownBlock) (hgw : g < w.heap.size) : ASt w g W' v' l' M qa qb a b :=
  ⟨h.1.app hO hb hgw, h.2.1.grown hr (fun e => own_ne_blk h.1.1 h.2.1 (by decide) e.symm), h.2.2.grown hr (fun e => own_ne_blk h.1.1 h.2.2 (by decide) e.symm)⟩
end

set_option maxRecDepth 100000 in
set_option maxHeartbeats 8000000 in
theorem arrivals_any (g m : Nat) (w : World) (h : Cur w g m) (hm : m ≤ 600000000) :
    Calls Try.prog 94 #[.pointer (some ⟨g, 0, none⟩)] w fun e w' => ∃ v l, e = .returned v ∧ l.length ≤ 20 ∧ Own encA 5 w' w.heap.size 37 v l ∧ Cur w' g (m + 1000) ∧ w.grownBy w' (some g) := by
  obtain ⟨i0, hi, hz0, hz1, hz2⟩ := info_parts infoA
  have hgl := h.lt
  have HD0 := Lib.hid (LSt.new (enc := encA) (k := 5) (E := 37) h)
  clear h
  go_enter Try.func94, Try.ntmps94
  go_wp2_with fail
  refine (quake_any g m _ HD0.out.2.1 (by omega)).mono ?_
  rintro e w1 ⟨a, rfl, hC, hg⟩
  have HD1 := Lib.hid (HD0.out.step (by decide) hC hg)
  clear hC hg HD0
  go_wp2_with fail
  refine (quake_any g (m + 20) _ HD1.out.2.1 (by omega)).mono ?_
  rintro e w2 ⟨b, rfl, hC, hg⟩
  have HD2 := Lib.hid (HD1.out.step (by decide) hC hg)
  have hs2 := HD2.out.size
  clear hC hg HD1
  have hga : g < w2.heap.size := HD2.out.2.1.lt
  obtain ⟨W3, hW3⟩ : ∃ W3, (w2.alloc (.cells #[.int .i64 a.x, .int .i64 a.y, .int .i64 a.tick] 39)).alloc (.cells #[.int .i64 b.x, .int .i64 b.y, .int .i64 b.tick] 39) = W3 := ⟨_, rfl⟩
  have HS3 : Hid (ASt w g W3 (.slice (some ⟨w.heap.size, 0, none⟩) 0 0) [] (m + 40) w2.heap.size (w2.heap.size + 1) a b) := by
    subst hW3
    refine ⟨HD2.out.below (by (repeat (first | with_reducible exact Below.refl _ _ | with_reducible assumption | with_reducible refine Below.setCell ?_ (by simp <;> omega) _ | with_reducible refine Below.alloc ?_ (by first | omega | (simp <;> omega)) _ | with_reducible refine Below.drew ?_ | with_reducible refine below_drewN ?_ _))), (Blk.new w2 _ _).alloc _, ?_⟩
    have hq := Blk.new (w2.alloc (.cells #[.int .i64 a.x, .int .i64 a.y, .int .i64 a.tick] 39)) 39 #[.int .i64 b.x, .int .i64 b.y, .int .i64 b.tick]
    simp at hq
    exact hq
  go_upto_block 0 with (fail)
  (try rw [hW3])
  clear hW3 HD2
  obtain ⟨qa, hqa⟩ : ∃ qa, w2.heap.size = qa := ⟨_, rfl⟩
  rw [hqa] at HS3 hs2 hga ⊢
  clear hqa
  go_cut [3] (fun v wr => ∃ (A : Option Addr) (cp : Nat) (l : List Arrival), v = .slice A l.length cp ∧ l.length ≤ 6 ∧ LSt encA 5 37 w g wr (.slice A l.length cp) l (m + 200))
  case first =>
    go_wp2_with fail
    go_loopw [3, 6] (fun v n wr => ∃ (k : Nat) (A : Option Addr) (cp : Nat) (l : List Arrival) (M : Nat), n = .int .i64 k ∧ v = .slice A l.length cp ∧ (1 ≤ k ∧ k ≤ 7) ∧ l.length + 1 ≤ k ∧ M ≤ m + 40 + k * 20 ∧ Hid (ASt w g wr (.slice A l.length cp) l M qa (qa + 1) a b)) (fun _ n _ => 7 - (intOf n).toNat)
    case atStart => exact ⟨1, _, 0, [], m + 40, rfl, rfl, ⟨Nat.le_refl _, by omega⟩, by simp, by omega, HS3.out⟩
    case round =>
      obtain ⟨k, A, cp, l, M, rfl, rfl, ⟨hk1, hk7⟩, hlk, hMk, HS⟩ := hrel
      by_cases hk : k < 7
      · have hkz : (k : Int) < 7 := by omega
        go_wp2_with fail
        refine (one_any g M 3 _ HS.out.1.2.1 (by omega) (by omega)).mono ?_
        rintro e w4 ⟨b1, rfl, hC, hg⟩
        have HS4 := Lib.hid (HS.out.step (by omega) (by omega) hC hg)
        have hs4 := HS4.out.size
        clear hC hg HS
        cases b1 with
        | true =>
          go_wp2
          go_roundw
          case rel => exact ⟨k + 1, A, cp, l, M + 2, by go_num, rfl, ⟨by omega, by omega⟩, by omega, by omega, HS4.out⟩
          case measure => simp [intOf]; omega
        | false =>
          obtain ⟨a0, a1, a2⟩ := box3 HS4.out.2.1
          have hq4 : qa < w4.heap.size := HS4.out.2.1.lt
          have hq4b : qa + 1 < w4.heap.size := HS4.out.2.2.lt
          have hbo : Below w4.heap.size w4 (w4.alloc (.cells #[.int .i64 a.x, .int .i64 a.y, .int .i64 a.tick] 39)) := by (repeat (first | with_reducible exact Below.refl _ _ | with_reducible assumption | with_reducible refine Below.setCell ?_ (by simp <;> omega) _ | with_reducible refine Below.alloc ?_ (by first | omega | (simp <;> omega)) _ | with_reducible refine Below.drew ?_ | with_reducible refine below_drewN ?_ _))
          have HO5 := Lib.hid (Blk.new w4 39 #[.int .i64 a.x, .int .i64 a.y, .int .i64 a.tick])
          have HS5 := Lib.hid (HS4.out.below hbo)
          clear hbo
          go_wp2_with fail
          refine (one_any g (M + 2) 3 _ HS5.out.1.2.1 (by omega) (by omega)).mono ?_
          rintro e w6 ⟨b2, rfl, hC, hg⟩
          have HS6 := Lib.hid (HS5.out.step (by omega) (by omega) hC hg)
          have HO6 := Lib.hid (HO5.out.grown hg (by intro e9; injection e9; omega))
          have hs6 := HS6.out.size
          obtain ⟨qo, hqo⟩ : ∃ qo, w4.heap.size = qo := ⟨_, rfl⟩
          rw [hqo] at HO6 hq4 hq4b hs4 ⊢
          have hvo : (Value.slice A l.length cp).ownBlock ≠ some qo := fun e9 => by
            have := (HS4.out.1.1.lt qo e9).2
            omega
          have HVO := Lib.hid (fun (p : Nat) (e9 : (Value.slice A l.length cp).ownBlock = some p) => (show p < qo from hqo ▸ (HS4.out.1.1.lt p e9).2))
          clear hC hg HS5 HO5 HS4 a0 a1 a2 hqo
          go_upto_if 22 with (fail)
          go_cut [] (fun W => ∃ o : Origin, ASt w g W (.slice A l.length cp) l (M + 4) qa (qa + 1) a b ∧ Blk W qo 39 #[.int .i64 o.x, .int .i64 o.y, .int .i64 o.tick])
          case first =>
            cases b2 with
            | false =>
              go_wp2
              all_goals go_meet
              all_goals exact ⟨a, HS6.out, HO6.out⟩
            | true =>
              obtain ⟨b0, b1, b2⟩ := box3 HS6.out.2.2
              have hO := HO6.out
              obtain ⟨o0, o1, o2⟩ := box3 hO
              have f0 := hO.frozen 0
              have f1 := hO.frozen 1
              have f2 := hO.frozen 2
              have hn1 : ¬ qo = qa + 1 := by omega
              have hn2 : ¬ qa + 1 = qo := by omega
              have HS9 := Lib.hid (((HS6.out.poke (i := 0) (u := .int .i64 b.x) hvo (by omega) (by omega) hgl (by omega)).poke (i := 1) (u := .int .i64 b.y) hvo (by omega) (by omega) hgl (by omega)).poke (i := 2) (u := .int .i64 b.tick) hvo (by omega) (by omega) hgl (by omega))
              have HO9 := Lib.hid (((hO.set_ 0 (.int .i64 b.x)).set_ 1 (.int .i64 b.y)).set_ 2 (.int .i64 b.tick))
              clear hO
              go_wp2
              all_goals go_meet
              all_goals exact ⟨b, HS9.out, HO9.out⟩
          case rest =>
            obtain ⟨o, hcS, hcO⟩ := hcut
            obtain ⟨w7, rfl⟩ : ∃ w7 : World, w7 = wc := ⟨_, rfl⟩
            have HS7 := Lib.hid hcS
            have HO7 := Lib.hid hcO
            clear hcS hcO HS6 HO6
            go_wp2_with fail
            refine (among_lit g (M + 4) [0, 60, 100, 250, 400, 900] _ 6 _ _ (by rfl) (by rfl) (by simp) HS7.out.1.2.1 (by omega) (by omega) (by omega)).mono ?_
            rintro e w8 ⟨xx, rfl, _, hC, hg⟩
            have HS8 := Lib.hid (HS7.out.step (by omega) (by omega) hC hg)
            have HO8 := Lib.hid (HO7.out.grown hg (by intro e9; injection e9; omega))
            clear hC hg HS7 HO7
            go_wp2_with fail
            refine (among_lit g (M + 6) [0, 80, 200, 500] _ 4 _ _ (by rfl) (by rfl) (by simp) HS8.out.1.2.1 (by omega) (by omega) (by omega)).mono ?_
            rintro e w9 ⟨xy, rfl, _, hC, hg⟩
            have HS9 := Lib.hid (HS8.out.step (by omega) (by omega) hC hg)
            have HO9 := Lib.hid (HO8.out.grown hg (by intro e9; injection e9; omega))
            clear hC hg HS8 HO8
            go_wp2_with fail
            refine (among_lit g (M + 8) [0, 1, 20, 200, 1000] _ 5 _ _ (by rfl) (by rfl) (by simp) HS9.out.1.2.1 (by omega) (by omega) (by omega)).mono ?_
            rintro e w10 ⟨xe, rfl, _, hC, hg⟩
            have HS10 := Lib.hid (HS9.out.step (by omega) (by omega) hC hg)
            have HO10 := Lib.hid (HO9.out.grown hg (by intro e9; injection e9; omega))
            clear hC hg HS9 HO9
            have hs10 := HS10.out.size
            have hqo10 : qo < w10.heap.size := HO10.out.lt
            have hbx : Below w10.heap.size w10 (w10.alloc (.cells #[.int .i64 (9 * k), .int .i64 xx, .int .i64 xy, .int .i64 0, .int .i64 xe] 37)) := by (repeat (first | with_reducible exact Below.refl _ _ | with_reducible assumption | with_reducible refine Below.setCell ?_ (by simp <;> omega) _ | with_reducible refine Below.alloc ?_ (by first | omega | (simp <;> omega)) _ | with_reducible refine Below.drew ?_ | with_reducible refine below_drewN ?_ _))
            have HX11 := Lib.hid (Blk.new w10 37 #[.int .i64 (9 * k), .int .i64 xx, .int .i64 xy, .int .i64 0, .int .i64 xe])
            have HS11 := Lib.hid (HS10.out.below hbx)
            have HO11 := Lib.hid (HO10.out.after hbx)
            clear hbx HS10 HO10
            obtain ⟨w11, hw11⟩ : ∃ W, w10.alloc (.cells #[.int .i64 (9 * k), .int .i64 xx, .int .i64 xy, .int .i64 0, .int .i64 xe] 37) = W := ⟨_, rfl⟩
            have hsx : w10.heap.size < w11.heap.size := by rw [← hw11]; simp
            go_upto_region 11 with (fail)
            (try rw [hw11])
            rw [hw11] at HX11 HS11 HO11
            clear hw11
            obtain ⟨qx, hqx⟩ : ∃ qx, w10.heap.size = qx := ⟨_, rfl⟩
            rw [hqx] at HX11 hs10 hqo10 hsx ⊢
            have hvx : (Value.slice A l.length cp).ownBlock ≠ some qx := fun e9 => by
              have := HVO.out qx e9
              omega
            clear hqx
            go_cut [] (fun W => ∃ z : Int, ASt w g W (.slice A l.length cp) l (M + 12) qa (qa + 1) a b ∧ Blk W qx 37 #[.int .i64 (9 * k), .int .i64 xx, .int .i64 xy, .int .i64 z, .int .i64 xe])
            case first =>
              obtain ⟨o0, o1, o2⟩ := box3 HO11.out
              obtain ⟨x0, x1, x2, x3, x4⟩ := box5 HX11.out
              have HSc := Lib.hid (fun (W : World) (hW : Below w11.heap.size w11 W) => (show W.cell? ⟨qo, 0, none⟩ = some (.int .i64 o.x) ∧ W.cell? ⟨qo, 1, none⟩ = some (.int .i64 o.y) ∧ W.cell? ⟨qo, 2, none⟩ = some (.int .i64 o.tick) ∧ W.cell? ⟨qx, 1, none⟩ = some (.int .i64 xx) ∧ W.cell? ⟨qx, 2, none⟩ = some (.int .i64 xy) from (by
                obtain ⟨p0, p1, p2⟩ := box3 (HO11.out.after hW)
                obtain ⟨y0, y1, y2, y3, y4⟩ := box5 (HX11.out.after hW)
                exact ⟨p0, p1, p2, y1, y2⟩)))
              go_wp2_with fail
              go_region_held3 (fun w' => w'.cell? ⟨qo, 0, none⟩ = some (.int .i64 o.x) ∧ w'.cell? ⟨qo, 1, none⟩ = some (.int .i64 o.y) ∧ w'.cell? ⟨qo, 2, none⟩ = some (.int .i64 o.tick) ∧ w'.cell? ⟨qx, 1, none⟩ = some (.int .i64 xx) ∧ w'.cell? ⟨qx, 2, none⟩ = some (.int .i64 xy)) (first | exact hq5 | exact hq6 _ | exact HSc.out _ (by (repeat (first | with_reducible exact Below.refl _ _ | with_reducible assumption | with_reducible refine Below.setCell ?_ (by simp <;> omega) _ | with_reducible refine Below.alloc ?_ (by first | omega | (simp <;> omega)) _ | with_reducible refine Below.drew ?_ | with_reducible refine below_drewN ?_ _))) | go_keep) (first | (go_at_call 110; refine (l1Most_any _ _ _).mono ?_; rintro e w' ⟨rfl, rfl⟩) | (go_at_call 108; refine (l10Square_loose _ _ _ _ _).mono ?_; rintro e w' ⟨zq, rfl, rfl⟩) | (go_at_call 109; refine (l10Root_loose _ _).mono ?_; rintro e w' ⟨zr, rfl, rfl⟩) | (go_at_call 98; refine (among_blk g (M + 10) [0, 0, 1, 15, -30] _ 5 5 w11.heap.size _ (by rfl) (by simp) (by omega) (by omega) (by first | exact Blk.new _ _ _ | exact (Blk.new _ _ _).drew) (by omega) (HS11.out.below (by (repeat (first | with_reducible exact Below.refl _ _ | with_reducible assumption | with_reducible refine Below.setCell ?_ (by simp <;> omega) _ | with_reducible refine Below.alloc ?_ (by first | omega | (simp <;> omega)) _ | with_reducible refine Below.drew ?_ | with_reducible refine below_drewN ?_ _)))).1.2.1 (by omega)).mono ?_; rintro e w5 ⟨y, rfl, _, hC, hg⟩; have HSx := Lib.hid ((HS11.out.below (show Below w11.heap.size w11 _ from (by (repeat (first | with_reducible exact Below.refl _ _ | with_reducible assumption | with_reducible refine Below.setCell ?_ (by simp <;> omega) _ | with_reducible refine Below.alloc ?_ (by first | omega | (simp <;> omega)) _ | with_reducible refine Below.drew ?_ | with_reducible refine below_drewN ?_ _))))).step (by omega) (by omega) hC hg); have HOx := Lib.hid ((HO11.out.after (show Below w11.heap.size w11 _ from (by (repeat (first | with_reducible exact Below.refl _ _ | with_reducible assumption | with_reducible refine Below.setCell ?_ (by simp <;> omega) _ | with_reducible refine Below.alloc ?_ (by first | omega | (simp <;> omega)) _ | with_reducible refine Below.drew ?_ | with_reducible refine below_drewN ?_ _))))).grown hg (by intro e9; injection e9; omega)); have HXx := Lib.hid ((HX11.out.after (show Below w11.heap.size w11 _ from (by (repeat (first | with_reducible exact Below.refl _ _ | with_reducible assumption | with_reducible refine Below.setCell ?_ (by simp <;> omega) _ | with_reducible refine Below.alloc ?_ (by first | omega | (simp <;> omega)) _ | with_reducible refine Below.drew ?_ | with_reducible refine below_drewN ?_ _))))).grown hg (by intro e9; injection e9; omega)); have hq5 : w5.cell? ⟨qo, 0, none⟩ = some (.int .i64 o.x) ∧ w5.cell? ⟨qo, 1, none⟩ = some (.int .i64 o.y) ∧ w5.cell? ⟨qo, 2, none⟩ = some (.int .i64 o.tick) ∧ w5.cell? ⟨qx, 1, none⟩ = some (.int .i64 xx) ∧ w5.cell? ⟨qx, 2, none⟩ = some (.int .i64 xy) := (by obtain ⟨p0, p1, p2⟩ := box3 HOx.out; obtain ⟨y0, y1, y2, y3, y4⟩ := box5 HXx.out; exact ⟨p0, p1, p2, y1, y2⟩); have hq6 : ∀ v : Value, (w5.setCell ⟨qx, 3, none⟩ v).cell? ⟨qo, 0, none⟩ = some (.int .i64 o.x) ∧ (w5.setCell ⟨qx, 3, none⟩ v).cell? ⟨qo, 1, none⟩ = some (.int .i64 o.y) ∧ (w5.setCell ⟨qx, 3, none⟩ v).cell? ⟨qo, 2, none⟩ = some (.int .i64 o.tick) ∧ (w5.setCell ⟨qx, 3, none⟩ v).cell? ⟨qx, 1, none⟩ = some (.int .i64 xx) ∧ (w5.setCell ⟨qx, 3, none⟩ v).cell? ⟨qx, 2, none⟩ = some (.int .i64 xy) := (fun v => by obtain ⟨p0, p1, p2⟩ := box3 (HOx.out.far (p := ⟨qx, 3, none⟩) (by show qo ≠ qx; omega) v); obtain ⟨y0, y1, y2, y3, y4⟩ := box5 (HXx.out.set_ 3 v); exact ⟨p0, p1, p2, y1, y2⟩); have hq3 := (box5 HXx.out).2.2.2.1; have hf3 := HXx.out.frozen 3; clear hC hg))
              all_goals go_wp2_with fail
              all_goals go_meet
              all_goals exact ⟨_, HSx.out.poke hvx (by omega) (by omega) hgl (by omega), HXx.out.set_ 3 _⟩
            case rest =>
              obtain ⟨z, hcS, hcX⟩ := hcut
              obtain ⟨w12, rfl⟩ : ∃ w12 : World, w12 = wc := ⟨_, rfl⟩
              have HS12 := Lib.hid hcS
              have HX12 := Lib.hid hcX
              clear hcS hcX HS11 HO11 HX11
              obtain ⟨x0, x1, x2, x3, x4⟩ := box5 HX12.out
              have f3 := HX12.out.frozen 3
              obtain ⟨z2, hz⟩ : ∃ z2, max 0 (min 1000000 z) = z2 := ⟨_, rfl⟩
              have HS13 := Lib.hid (HS12.out.poke (i := 3) (u := .int .i64 z2) hvx (by omega) (by omega) hgl (by omega))
              have HX13 := Lib.hid (HX12.out.set_ 3 (.int .i64 z2))
              have Hle := Lib.hid (fun W => l1Least_any 1000000 z W)
              have hmo := fun W => l1Most_any 0 (min 1000000 z) W
              rw [hz] at hmo
              have Hmo := Lib.hid hmo
              clear hmo hz
              go_upto_region 13 with (first | (go_at_call 111; refine (Hle.out _).mono ?_; rintro e w' ⟨rfl, rfl⟩) | (go_at_call 110; refine (Hmo.out _).mono ?_; rintro e w' ⟨rfl, rfl⟩))
              obtain ⟨w13, hw13⟩ : ∃ W, w12.setCell ⟨qx, 3, none⟩ (.int .i64 z2) = W := ⟨_, rfl⟩
              rw [hw13] at HS13 HX13 ⊢
              clear hw13 x0 x1 x2 x3 x4 f3 HS12 HX12
              obtain ⟨x0, x1, x2, x3, x4⟩ := box5 (show Blk w13 qx 37 #[.int .i64 (9 * k), .int .i64 xx, .int .i64 xy, .int .i64 z2, .int .i64 xe] from HX13.out)
              have hs13 := HS13.out.size
              go_wp2_with (at_builtin; refine wpList_app1 rfl _ _ 45 rfl w.heap.size 37 i0 _ 5 40 Try.underlying45 hi hz0 hz1 hz2 rfl (by omega) (by omega) encA encA_len encA_one (.slice A l.length cp) l ⟨9 * k, xx, xy, z2, xe⟩ w13 _ rfl _ rfl HS13.out.1.1 rfl (by omega) (by omega) ?_; intro v9 w9 hown9 hb9 hr9)
              have HS9 := Lib.hid (HS13.out.app hown9 hb9 hr9 hgl)
              obtain ⟨A9, c9, rfl, _, _⟩ := Own.form encA_len hown9
              clear hown9 hb9 hr9
              go_wp2
              go_roundw
              case rel => exact ⟨k + 1, A9, c9, l ++ [(⟨9 * k, xx, xy, z2, xe⟩ : Arrival)], M + 12, by go_num, by simp, ⟨by omega, by omega⟩, by simp; omega, by omega, HS9.out⟩
              case measure => simp [intOf]; omega
      · have hkz : ¬ (k : Int) < 7 := by omega
        have HSe := Lib.hid (HS.out.1.more (show M ≤ m + 200 by omega))
        have hl6 : l.length ≤ 6 := by omega
        clear HS
        go_wp2
        all_goals go_meet
        all_goals exact ⟨A, cp, l, rfl, hl6, HSe.out⟩
  case rest =>
    obtain ⟨A, cp, l, rfl, hl6, hD⟩ := hcut
    obtain ⟨w20, rfl⟩ : ∃ w20 : World, w20 = wc := ⟨_, rfl⟩
    have HD20 := Lib.hid hD
    clear hD HS3
    go_wp2_with fail
    refine (pick_any g (m + 200) 32 _ HD20.out.2.1 (by omega) (by omega)).mono ?_
    rintro e w21 ⟨kk, rfl, ⟨_, _⟩, hC, hg⟩
    have HD21 := Lib.hid (HD20.out.step (by decide) hC hg)
    have hs21 := HD21.out.size
    clear hC hg HD20
    by_cases e0 : kk = 0
    · subst e0
      go_wp2_with fail
      refine (among_lit g (m + 202) [0, 9, 99, 100] _ 4 _ _ (by rfl) (by rfl) (by simp) HD21.out.2.1 (by omega) (by omega) (by omega)).mono ?_
      rintro e w22 ⟨y1, rfl, _, hC, hg⟩
      have HD22 := Lib.hid (HD21.out.step (by decide) hC hg)
      clear hC hg HD21
      go_wp2_with fail
      refine (among_lit g (m + 204) [0, 1000] _ 2 _ _ (by rfl) (by rfl) (by simp) HD22.out.2.1 (by omega) (by omega) (by omega)).mono ?_
      rintro e w23 ⟨y2, rfl, _, hC, hg⟩
      have HD23 := Lib.hid (HD22.out.step (by decide) hC hg)
      clear hC hg HD22
      go_wp2_with fail
      refine (among_lit g (m + 206) [0, 1000001] _ 2 _ _ (by rfl) (by rfl) (by simp) HD23.out.2.1 (by omega) (by omega) (by omega)).mono ?_
      rintro e w24 ⟨y3, rfl, _, hC, hg⟩
      have HD24 := Lib.hid (HD23.out.step (by decide) hC hg)
      clear hC hg HD23
      go_wp2_with fail
      refine (among_lit g (m + 208) [0, 1001] _ 2 _ _ (by rfl) (by rfl) (by simp) HD24.out.2.1 (by omega) (by omega) (by omega)).mono ?_
      rintro e w25 ⟨y4, rfl, _, hC, hg⟩
      have HD25 := Lib.hid (HD24.out.step (by decide) hC hg)
      clear hC hg HD24
      have hs25 := HD25.out.size
      go_wp2_with (at_builtin; refine wpList_app1 rfl _ _ 45 rfl w.heap.size 37 i0 _ 5 40 Try.underlying45 hi hz0 hz1 hz2 rfl (by omega) (by omega) encA encA_len encA_one (.slice A l.length cp) l ⟨y1, y2, 0, y3, y4⟩ w25 _ rfl _ rfl HD25.out.1 rfl (by omega) (by omega) ?_; intro v9 w9 hown9 hb9 _)
      have HD9 := Lib.hid (HD25.out.app hown9 hb9 hgl)
      clear hown9 hb9
      go_wp2
      go_ret
      exact ⟨_, _, rfl, (by simp; omega), HD9.out.1, HD9.out.2.1.more (by omega), HD9.out.2.2⟩
    · have n0 : (kk == 0) = false := by simp [e0]
      by_cases e1 : kk = 1
      · subst e1
        go_wp2
        go_loopw [3] (fun v wr => ∃ (A : Option Addr) (cp : Nat) (l : List Arrival) (M : Nat), v = .slice A l.length cp ∧ l.length ≤ 9 ∧ M ≤ m + 300 + l.length * 4 ∧ Hid (LSt encA 5 37 w g wr (.slice A l.length cp) l M)) (fun v _ => match v with | .slice _ n _ => 12 - n | _ => 0)
        case atStart => exact ⟨A, cp, l, m + 202, rfl, by omega, by omega, HD21.out⟩
        case round =>
          obtain ⟨A2, c2, l2, M2, rfl, hl2, hM2, HDl⟩ := hrel
          go_wp2_with fail
          refine (pick_any g M2 2 _ HDl.out.2.1 (by omega) (by omega)).mono ?_
          rintro e w23 ⟨pk, rfl, ⟨hp0, hx⟩, hC, hg⟩
          have HD3 := Lib.hid (HDl.out.step (by decide) hC hg)
          have hs3 := HD3.out.size
          have hp1 : pk ≤ 1 := by omega
          clear hC hg hx
          by_cases hlt : (l2.length : Int) < 8 + pk
          · go_wp2_with (at_builtin; refine wpList_app1 rfl _ _ 45 rfl w.heap.size 37 i0 _ 5 40 Try.underlying45 hi hz0 hz1 hz2 rfl (by omega) (by omega) encA encA_len encA_one (.slice A2 l2.length c2) l2 ⟨70 + l2.length, 5, 5, 400, 0⟩ w23 _ rfl _ rfl HD3.out.1 rfl (by omega) (by omega) ?_; intro v9 w9 hown9 hb9 _)
            have HD9 := Lib.hid (HD3.out.app hown9 hb9 hgl)
            obtain ⟨A9, c9, rfl, _, _⟩ := Own.form encA_len hown9
            clear hown9 hb9
            go_wp2
            go_roundw
            case rel => exact ⟨A9, c9, l2 ++ [(⟨70 + l2.length, 5, 5, 400, 0⟩ : Arrival)], M2 + 2, by simp, by simp; omega, by simp; omega, HD9.out⟩
            case measure => simp; omega
          · go_wp2
            go_ret
            exact ⟨_, l2, rfl, (by omega), HD3.out.1, HD3.out.2.1.more (by omega), HD3.out.2.2⟩
      · have n1 : (kk == 1) = false := by simp [e1]
        go_wp2
        go_ret
        exact ⟨_, l, rfl, (by omega), HD21.out.1, HD21.out.2.1.more (by omega), HD21.out.2.2⟩

end Go.Proofs.Ytdadcbcanjmoeaa
