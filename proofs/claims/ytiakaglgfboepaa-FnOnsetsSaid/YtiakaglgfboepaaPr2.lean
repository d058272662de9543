/-
  Contract of the program's PairedPicks. (Printed by gen_A8.py.)
-/
import Derived.Test.YtiakaglgfboepaaPr1
namespace Go.Proofs.Ytiakaglgfboepaa
set_option linter.unusedVariables false
open Go.RowKit

theorem OwnSS.none_ (w : World) (base lim : Nat) : OwnSS w base lim none 0 0 [] :=
  ⟨[], Own.none_ _ _ _, (fun g hg => by cases hg), List.nodup_nil, (fun g hg => by simp at hg), rfl, fun j h1 => absurd h1 (Nat.not_lt_zero _)⟩
theorem OwnV.ss_ {w : World} {base : Nat} {v : Value} {L : List (Int × Int)} (h : OwnV w base v L) : ∃ A c, v = .slice A L.length c ∧ (L.length ≤ c ∧ c ≤ maxLen) ∧ OwnSS w base w.heap.size A L.length c L := h.done
/-- All blocks but those of one type stand. -/
def Off (T : TypeId) (w w' : World) : Prop := w.heap.size ≤ w'.heap.size ∧ ∀ g t cs, Blk w g t cs → t ≠ T → Blk w' g t cs
theorem Off.refl (T : TypeId) (w : World) : Off T w w := ⟨Nat.le_refl _, fun _ _ _ h _ => h⟩
theorem Off.trans {T : TypeId} {a b c : World} (h : Off T a b) (k : Off T b c) : Off T a c := ⟨Nat.le_trans h.1 k.1, fun g t cs hB hn => k.2 g t cs (h.2 g t cs hB hn) hn⟩
theorem Off.of_below {T : TypeId} {a b : World} (h : Below a.heap.size a b) : Off T a b := ⟨h.size, fun g t cs hB _ => hB.after h⟩
theorem Off.of_grown {α : Type} {enc : α → List Value} {k : Nat} {w w' : World} {base : Nat} {T : TypeId} {v : Value} {l : List α} (o : Own enc k w base T v l) (h : w.grownBy w' v.ownBlock) : Off T w w' :=
  ⟨h.size, fun g t cs hB hn => hB.grown h (o.block_ne hB (fun e => hn e.symm))⟩
theorem Own.off {α : Type} {enc : α → List Value} {k : Nat} {w w' : World} {base : Nat} {E T : TypeId} {v : Value} {l : List α} (h : Own enc k w base E v l) (hne : E ≠ T) (ho : Off T w w') : Own enc k w' base E v l := by
  obtain ⟨h1, h2⟩ := h
  refine ⟨h1, ?_⟩
  rcases h2 with h2 | ⟨g, cap, cur, rfl, hb', hh, r⟩
  · exact .inl h2
  · exact .inr ⟨g, cap, cur, rfl, hb', ho.2 g E cur hh hne, r⟩
theorem OwnSS.mono {w : World} {base base' lim : Nat} {A : Option Addr} {n c : Nat} {L : List (Int × Int)} (h : OwnSS w base lim A n c L) (hb : base' ≤ base) : OwnSS w base' lim A n c L := by
  obtain ⟨gs, h1, h2, h3, h4, h5⟩ := h
  exact ⟨gs, h1.mono hb, h2, h3, fun g hg => by have := h4 g hg; omega, h5⟩
/-- wpList_app1, the place of the new element's box spelled apart. -/
theorem wpList_app1q {P : Program} {ops : Array Oper} {rest : List Oper} {o : Oper} {a : Act} {Q : Exit → Act → World → Prop} (hgd : o.guard = none) (s x : Operand) (t : TypeId)
    (ho : o.op = .call { callee := .builtin .append, args := #[s, x], argTypes := #[t, t] })
    (base : Nat) (E : TypeId) (i : TypeInfo) (z : Value) (K bytes : Nat) (ht : P.underlying t = some (.slice E)) (hi : P.info? E = some i) (hz : i.zero = some z)
    (hsize : i.size = K) (hby : i.bytes = bytes) (hzs : z.cells.size = K) (hsz : 0 < K) (hb1 : bytes ≤ 1000)
    {α : Type} (enc : α → List Value) (hK : ∀ x, (enc x).length = K) (h1 : ∀ x, ∀ u ∈ enc x, u.oneCell' = true) (v : Value) (l : List α) (y : α) (w : World) (cs : Array Value) (hcs : cs.toList = enc y) (c q : Nat) (hq : q = w.heap.size)
    (hs : a.eval s = v) (hown : Own enc K w base E v l) (hx : a.eval x = .slice (some ⟨q, 0, none⟩) 1 c) (hlen : l.length ≤ 1048576) (hbase : base ≤ w.heap.size)
    (h : ∀ v' w', Own enc K w' base E v' (l ++ [y]) → Below base w w' → w.grownBy w' v.ownBlock → wpList P ops Q rest (a.put o.dst v') w') : wpList P ops Q (o :: rest) a (w.alloc (.cells cs E)) := by
  subst hq
  exact wpList_app1 hgd s x t ho base E i z K bytes ht hi hz hsize hby hzs hsz hb1 enc hK h1 v l y w cs hcs c hs hown hx hlen hbase h
theorem encG_one (g : Nat) : ∀ u ∈ encG g, u.oneCell' = true := by intro u hu; simp [encG] at hu; subst hu; rfl
theorem ltW_dec {x y : Pick} : ltW x y = true ↔ x.tick + x.err < y.tick - y.err := by simp [ltW]

set_option maxRecDepth 100000 in
set_option maxHeartbeats 4000000 in
theorem PairedPicks_any (A : Option Addr) (c : Nat) (l : List Pick) (w : World) (h : Rd encP 7 w w.heap.size A l) (hl : l.length ≤ 1048576) (st : Int) :
    Calls Try.prog 41 #[.slice A l.length c, .int .i64 st] w fun e w' => ∃ A' c', e = .returned (.tuple #[.slice A' (prL l st).length c', .bool (okPr l st)]) ∧ ((prL l st).length ≤ c' ∧ c' ≤ maxLen) ∧ OwnSS w' w.heap.size w'.heap.size A' (prL l st).length c' (prL l st) ∧ Below w.heap.size w w' := by
  unfold prL
  obtain ⟨W0, hW0⟩ : ∃ W0, W0 = (w.alloc (.cells #[.slice A l.length c] 31)).alloc (.cells #[.int .i64 st] 3) := ⟨_, rfl⟩
  have hB0 : Below w.heap.size w W0 := by rw [hW0]; (repeat (first | with_reducible exact Below.refl _ _ | with_reducible assumption | with_reducible refine Below.setCell ?_ (by simp <;> omega) _ | with_reducible refine Below.alloc ?_ (by first | omega | (simp <;> omega)) _ | with_reducible refine Below.drew ?_ | with_reducible refine below_drewN ?_ _))
  have hL0 : Blk W0 w.heap.size 31 #[.slice A l.length c] := by rw [hW0]; exact (Blk.new w _ _).alloc _
  have hS0 : Blk W0 (w.heap.size + 1) 3 #[.int .i64 st] := by
    rw [hW0]
    have := Blk.new (w.alloc (.cells #[.slice A l.length c] 31)) 3 #[.int .i64 st]
    simpa using this
  have hr0 := (h.below hB0).more hB0.size
  have c0 := hL0.cell 0
  simp only [List.getElem?_toArray, List.getElem?_cons_zero] at c0
  have HL0 := Lib.hid hL0
  have HS0 := Lib.hid hS0
  clear hL0 hS0
  cases hp : picksS l with
  | false =>
    have hk : okPr l st = false := by simp [okPr, hp]
    simp only [hk, Bool.false_eq_true, if_false, List.length_nil]
    clear hk
    rw [hW0] at c0 hB0 hr0
    clear hW0
    go_enter Try.func41, Try.ntmps41
    go_wp2_with fail
    refine (ArePicks_any A c l _ hr0 hl).mono ?_
    rintro e w1 ⟨rfl, hb1⟩
    rw [hp]
    go_wp2
    go_ret2
    exact ⟨none, 0, rfl, ⟨Nat.le_refl _, Nat.zero_le _⟩, OwnSS.none_ _ _ _, hB0.trans (hb1.mono hB0.size)⟩
  | true =>
    cases hin : inB st 1 99 with
    | false =>
      have hk : okPr l st = false := by simp [okPr, hin]
      simp only [hk, Bool.false_eq_true, if_false, List.length_nil]
      clear hk
      have hcS : ∀ W, Below W0.heap.size W0 W → W.cell? ⟨w.heap.size + 1, 0, none⟩ = some (.int .i64 st) := fun W hW => by
        have := (HS0.out.after hW).cell 0
        simpa using this
      have HcS := Lib.hid hcS
      clear hcS
      rw [hW0] at c0 hB0 hr0 HcS
      clear hW0
      go_enter Try.func41, Try.ntmps41
      go_wp2_with fail
      refine (ArePicks_any A c l _ hr0 hl).mono ?_
      rintro e w1 ⟨rfl, hb1⟩
      rw [hp]
      have z0 := HcS.out w1 hb1
      go_wp2_with (go_at_call 61; refine (in_any _ _ _ _).mono ?_; rintro e w' ⟨rfl, rfl⟩; rw [hin])
      go_ret2
      exact ⟨none, 0, rfl, ⟨Nat.le_refl _, Nat.zero_le _⟩, OwnSS.none_ _ _ _, hB0.trans (hb1.mono hB0.size)⟩
    | true =>
      have hk : okPr l st = true := by simp [okPr, hp, hin]
      simp only [hk, if_true]
      clear hk
      obtain ⟨i0, hi, hz0, hz1, hz2⟩ := info_parts infoG
      obtain ⟨F, hF⟩ : ∃ F, l.filter (okW l st 0) = F := ⟨_, rfl⟩
      obtain ⟨M, hM⟩ : ∃ M, l.filter (okW l st 1) = M := ⟨_, rfl⟩
      have hT : prP l st = tabP F M := by unfold prP; rw [hF, hM]
      rw [hT]
      have h12 := (picksS_iff hp).2.1
      have hFl : F.length ≤ 12 := by rw [← hF]; have := List.length_filter_le (okW l st 0) l; omega
      have hMl : M.length ≤ 12 := by rw [← hM]; have := List.length_filter_le (okW l st 1) l; omega
      have hFg : ∀ x ∈ F, goodP x = true := fun x hx => by rw [← hF] at hx; exact picksS_good hp (List.mem_filter.1 hx).1
      have hMg : ∀ x ∈ M, goodP x = true := fun x hx => by rw [← hM] at hx; exact picksS_good hp (List.mem_filter.1 hx).1
      have HFg := Lib.hid hFg
      have HMg := Lib.hid hMg
      have HC0 := Lib.hid (fun (W : World) (hW : Below W0.heap.size W0 W) => Paired1_any (w.heap.size + 1) w.heap.size st 0 A c l W (HS0.out.after hW) (HL0.out.after hW) (hr0.after hW) hl)
      have HC1 := Lib.hid (fun (W : World) (hW : Below W0.heap.size W0 W) => Paired1_any (w.heap.size + 1) w.heap.size st 1 A c l W (HS0.out.after hW) (HL0.out.after hW) (hr0.after hW) hl)
      rw [hF] at HC0
      rw [hM] at HC1
      have hcS : ∀ W, Below W0.heap.size W0 W → W.cell? ⟨w.heap.size + 1, 0, none⟩ = some (.int .i64 st) := fun W hW => by
        have := (HS0.out.after hW).cell 0
        simpa using this
      have HcS := Lib.hid hcS
      have hmf : ∀ (fn : Fn) (first cap : Array Value) (w : World), (Instr.makeFunc fn first cap).run Try.prog w = .ok (.func fn first cap) w := fun _ _ _ _ => rfl
      have eg : ∀ args w, (callFunc 83 args).run Try.prog w = .ok (.enter 83 args) w := enters_of Try.func83 (by kernel_rfl) rfl
      have HB0 := Lib.hid hB0
      have HW0 := Lib.hid hW0
      have hsW := hB0.size
      clear hcS hF hM hT hFg hMg HL0 HS0 hB0
      rw [hW0] at c0 hr0
      clear hW0
      go_enter Try.func41, Try.ntmps41
      go_wp2_with fail
      refine (ArePicks_any A c l _ hr0 hl).mono ?_
      rintro e w1 ⟨rfl, hb1⟩
      rw [hp]
      rw [← HW0.out] at hb1
      have z0 := HcS.out w1 hb1
      have HB1 := Lib.hid hb1
      have hs1 := hb1.size
      clear hb1 hr0 c0 HW0
      go_wp2_with (go_at_call 61; refine (in_any _ _ _ _).mono ?_; rintro e w' ⟨rfl, rfl⟩; rw [hin])
      have hBa := HB1.out.alloc hs1 (.cells #[] 42)
      have HBa := Lib.hid hBa
      have HOV0 := Lib.hid (OwnV.empty w1 W0.heap.size hs1)
      clear z0 hp hin hBa
      refine (HC0.out _ HBa.out).mono ?_
      rintro e w2 ⟨v, rfl, hown, hb2⟩
      obtain ⟨AF, cF, rfl, hcF, _⟩ := Own.form encP_len hown
      have HOF := Lib.hid hown
      have HB2 := Lib.hid (HBa.out.trans (hb2.mono HBa.out.size))
      have HOV2 := Lib.hid (HOV0.out.keep hb2)
      clear hown hb2
      go_wp2
      go_loopw [6, 25] (fun v i wr => ∃ k : Nat, k ≤ F.length ∧ i = .int .i64 k ∧ Hid (OwnV wr W0.heap.size v (tabP (F.take k) M)) ∧ Hid (Below W0.heap.size W0 wr) ∧ Hid (Off 42 w2 wr)) (fun _ i _ => F.length - (intOf i).toNat)
      case atStart => exact ⟨0, Nat.zero_le _, rfl, HOV2.out, HB2.out, Off.refl _ _⟩
      case round =>
        obtain ⟨k, hkF, rfl, hown, hblw, hoff⟩ := hrel
        by_cases hlt : k < F.length
        · have hTs := tabP_succ F M k hlt
          have hTl : (tabP (F.take k) M).length ≤ 144 := by
            have h1 := tabP_len (F.take k) M
            have h2 : (F.take k).length ≤ 12 := by rw [List.length_take]; omega
            have h3 := Nat.mul_le_mul h2 hMl
            omega
          have hg := goodP_iff.1 (HFg.out _ (List.getElem_mem hlt))
          obtain ⟨b, off, hAF, hb, c0, c1, c2, c3, c4, c5, c6⟩ := cellsP (Own.rd' encP_len (HOF.out.off (by decide) hoff.out)) hlt
          subst hAF
          obtain ⟨x, hx⟩ : ∃ x, F[k] = x := ⟨_, rfl⟩
          rw [hx] at c0 c1 c2 c3 c4 c5 c6 hTs hg
          obtain ⟨T, hT⟩ : ∃ T, tabP (F.take k) M = T := ⟨_, rfl⟩
          rw [hT] at hTs hown hTl
          have HTs := Lib.hid hTs
          clear hT hTs hx
          have hs3 := hblw.out.size
          have hBx : Below wr.heap.size wr (wr.alloc (.cells #[.int .i64 x.id, .int .i64 x.station, .int .i64 x.wave, .int .i64 x.tick, .int .i64 x.err, .int .i64 x.by_, .int .i64 x.after_] 25)) := by (repeat (first | with_reducible exact Below.refl _ _ | with_reducible assumption | with_reducible refine Below.setCell ?_ (by simp <;> omega) _ | with_reducible refine Below.alloc ?_ (by first | omega | (simp <;> omega)) _ | with_reducible refine Below.drew ?_ | with_reducible refine below_drewN ?_ _))
          have HBx := Lib.hid (hblw.out.trans (hBx.mono hs3))
          have HX := Lib.hid (Blk.new wr 25 #[.int .i64 x.id, .int .i64 x.station, .int .i64 x.wave, .int .i64 x.tick, .int .i64 x.err, .int .i64 x.by_, .int .i64 x.after_])
          have HOx := Lib.hid (hown.out.keep hBx)
          have HFx := Lib.hid (hoff.out.trans (Off.of_below hBx))
          clear hown hoff hBx
          go_wp2_with fail
          refine (HC1.out _ HBx.out).mono ?_
          rintro e w4 ⟨v, rfl, hown4, hb4⟩
          obtain ⟨AM, cM, rfl, hcM, _⟩ := Own.form encP_len hown4
          have HOM := Lib.hid hown4
          have HOV4 := Lib.hid (HOx.out.keep hb4)
          have HX4 := Lib.hid (HX.out.after hb4)
          have HB4 := Lib.hid (HBx.out.trans (hb4.mono HBx.out.size))
          have HF4 := Lib.hid (HFx.out.trans (Off.of_below hb4))
          clear hown4 hb4 c0 c1 c2 c3 c4 c5 c6
          go_wp2
          obtain ⟨wo, rfl⟩ : ∃ wo : World, wo = wr := ⟨_, rfl⟩
          go_loopw [6, 32] (fun v i wi => ∃ j : Nat, j ≤ M.length ∧ i = .int .i64 j ∧ Hid (OwnV wi W0.heap.size v (T ++ rowP (M.take j) x)) ∧ Hid (Below W0.heap.size W0 wi) ∧ Hid (Off 42 w4 wi)) (fun _ i _ => M.length - (intOf i).toNat)
          case atStart => exact ⟨0, Nat.zero_le _, rfl, (by show OwnV _ _ _ _; simpa [rowP] using HOV4.out), HB4.out, Off.refl _ _⟩
          case round =>
            obtain ⟨wi, rfl⟩ : ∃ wi : World, wi = wr := ⟨_, rfl⟩
            obtain ⟨j, hjM, rfl, hown, hbli, hoff⟩ := hrel
            by_cases hjt : j < M.length
            · have hRs : T ++ rowP (M.take (j + 1)) x = T ++ rowP (M.take j) x ++ (if ltW x M[j] = true then [(x.id, M[j].id)] else []) := by rw [rowP_succ M x j hjt, List.append_assoc]
              have hRl : (T ++ rowP (M.take j) x).length ≤ 1000 := by
                have h1 := rowP_len (M.take j) x
                have h2 : (M.take j).length ≤ 12 := by rw [List.length_take]; omega
                rw [List.length_append]; omega
              have hgy := goodP_iff.1 (HMg.out _ (List.getElem_mem hjt))
              obtain ⟨bm, offm, hAM, hbm, d0, d1, d2, d3, d4, d5, d6⟩ := cellsP (Own.rd' encP_len (HOM.out.off (by decide) hoff.out)) hjt
              subst hAM
              obtain ⟨y, hy⟩ : ∃ y, M[j] = y := ⟨_, rfl⟩
              rw [hy] at d0 d1 d2 d3 d4 d5 d6 hRs hgy
              have hX := hoff.out.2 _ _ _ HX4.out (by decide)
              have hXl := hX.lt
              obtain ⟨x0, x1, x2, x3, x4, x5, x6⟩ := box7 hX
              have hs6 := hbli.out.size
              have hBy : Below wi.heap.size wi (wi.alloc (.cells #[.int .i64 y.id, .int .i64 y.station, .int .i64 y.wave, .int .i64 y.tick, .int .i64 y.err, .int .i64 y.by_, .int .i64 y.after_] 25)) := by (repeat (first | with_reducible exact Below.refl _ _ | with_reducible assumption | with_reducible refine Below.setCell ?_ (by simp <;> omega) _ | with_reducible refine Below.alloc ?_ (by first | omega | (simp <;> omega)) _ | with_reducible refine Below.drew ?_ | with_reducible refine below_drewN ?_ _))
              have HB7 := Lib.hid (hbli.out.trans (hBy.mono hs6))
              have HO7 := Lib.hid (hown.out.keep hBy)
              have HF7 := Lib.hid (hoff.out.trans (Off.of_below hBy))
              clear hy hown hbli hoff hX hBy
              cases hv : ltW x y with
              | true =>
                have hlt2 : x.tick + x.err < y.tick - y.err := ltW_dec.1 hv
                rw [hv, if_pos rfl] at hRs
                have HRs := Lib.hid hRs
                generalize T ++ rowP (M.take j) x = L at *
                obtain ⟨gs, o, hnd, hgs, P⟩ := HO7.out
                obtain ⟨A9, c9, rfl, hc9, _⟩ := Own.form encG_len o
                have hgl : gs.length ≤ 1048576 := by have := P.1; omega
                have HP := Lib.hid P
                have Hgs := Lib.hid hgs
                have Hnd := Lib.hid hnd
                have Ho := Lib.hid o
                clear hRs hv P hgs hnd o
                have hBg : Below (wi.alloc (.cells #[.int .i64 y.id, .int .i64 y.station, .int .i64 y.wave, .int .i64 y.tick, .int .i64 y.err, .int .i64 y.by_, .int .i64 y.after_] 25)).heap.size (wi.alloc (.cells #[.int .i64 y.id, .int .i64 y.station, .int .i64 y.wave, .int .i64 y.tick, .int .i64 y.err, .int .i64 y.by_, .int .i64 y.after_] 25)) ((wi.alloc (.cells #[.int .i64 y.id, .int .i64 y.station, .int .i64 y.wave, .int .i64 y.tick, .int .i64 y.err, .int .i64 y.by_, .int .i64 y.after_] 25)).alloc (.cells #[.int .i64 x.id, .int .i64 y.id] 3)) := by (repeat (first | with_reducible exact Below.refl _ _ | with_reducible assumption | with_reducible refine Below.setCell ?_ (by simp <;> omega) _ | with_reducible refine Below.alloc ?_ (by first | omega | (simp <;> omega)) _ | with_reducible refine Below.drew ?_ | with_reducible refine below_drewN ?_ _))
                have HBg := Lib.hid hBg
                have Ho2 := Lib.hid (Ho.out.keep hBg)
                have HG := Lib.hid (Blk.new (wi.alloc (.cells #[.int .i64 y.id, .int .i64 y.station, .int .i64 y.wave, .int .i64 y.tick, .int .i64 y.err, .int .i64 y.by_, .int .i64 y.after_] 25)) 3 #[.int .i64 x.id, .int .i64 y.id])
                clear hBg
                go_wp2_with (at_builtin; refine wpList_app1q rfl _ _ 50 rfl W0.heap.size 42 i0 _ 1 24 Try.underlying50 hi hz0 hz1 hz2 rfl (by omega) (by omega) encG encG_len encG_one (.slice A9 gs.length c9) gs (wi.heap.size + 1) ((wi.alloc (.cells #[.int .i64 y.id, .int .i64 y.station, .int .i64 y.wave, .int .i64 y.tick, .int .i64 y.err, .int .i64 y.by_, .int .i64 y.after_] 25)).alloc (.cells #[.int .i64 x.id, .int .i64 y.id] 3)) _ rfl _ (wi.heap.size + 1 + 1) (by simp) rfl Ho2.out rfl hgl (by simp; omega) ?_; intro v9 w9 hown9 hb9 hg9)
                have HV9 := Lib.hid (OwnV.push (p := (x.id, y.id)) Ho.out Hnd.out Hgs.out HP.out HBg.out (g := wi.heap.size + 1) (by simp) (by simp; omega) (by have hq := HG.out; simp at hq; exact hq) hown9 hg9)
                have HB9 := Lib.hid ((HB7.out.alloc (by simp; omega) _).trans hb9)
                have HF9 := Lib.hid ((HF7.out.trans (Off.of_below HBg.out)).trans (Off.of_grown Ho2.out hg9))
                clear hown9 hg9 hb9 x0 x1 x2 x3 x4 x5 x6 d0 d1 d2 d3 d4 d5 d6
                go_wp2
                go_roundw
                case rel => exact ⟨j + 1, by omega, by go_num, by rw [HRs.out]; exact HV9.out, HB9.out, HF9.out⟩
                case measure => simp [intOf]; omega
              | false =>
                have hlt2 : ¬ x.tick + x.err < y.tick - y.err := fun h => by rw [ltW_dec.2 h] at hv; cases hv
                rw [hv, if_neg (by simp), List.append_nil] at hRs
                have HRs := Lib.hid hRs
                clear hRs hv
                go_wp2
                go_roundw
                case rel => exact ⟨j + 1, by omega, by go_num, by rw [HRs.out]; exact HO7.out, HB7.out, HF7.out⟩
                case measure => simp [intOf]; omega
            · have hje : M.take j = M := List.take_of_length_le (by omega)
              rw [hje, ← HTs.out] at hown
              have HBz := Lib.hid hbli.out
              have HFz := Lib.hid (HF4.out.trans hoff.out)
              clear hje hbli hoff
              go_wp2
              go_roundw
              case rel => exact ⟨k + 1, by omega, by go_num, hown.out, HBz.out, HFz.out⟩
              case measure => simp [intOf]; omega
        · have hkl : F.take k = F := List.take_of_length_le (by omega)
          rw [hkl] at hown
          obtain ⟨A9, c9, e9, hc9, hss⟩ := hown.out.done
          subst e9
          have Hss := Lib.hid (hss.mono (show w.heap.size ≤ W0.heap.size from hsW))
          have HBz := Lib.hid (HB0.out.trans (hblw.out.mono hsW))
          clear hkl hss hown
          go_wp2
          go_ret2
          exact ⟨_, _, rfl, hc9, Hss.out, HBz.out⟩

end Go.Proofs.Ytiakaglgfboepaa
