/-
  Slices of slices of two ints: what one reads as, comparisons, marks.
-/
import Derived.Test.YtiakaglgfboepaaInts
import Derived.StillTailTactics
namespace Go.Proofs.Ytiakaglgfboepaa
set_option linter.unusedVariables false
open Go.RowKit

/-- A slice of two ints in a block of its own. -/
def encG (g : Nat) : List Value := [.slice (some ⟨g, 0, none⟩) 2 2]
theorem encG_len (g : Nat) : (encG g).length = 1 := rfl
def prC (p : Int × Int) : Array Value := #[.int .i64 p.1, .int .i64 p.2]
theorem cellsG {w : World} {B : Nat} {A : Option Addr} {l : List Nat} (h : Rd encG 1 w B A l) {j : Nat} (hj : j < l.length) :
    ∃ b off, A = some ⟨b, off, none⟩ ∧ b < B ∧ w.cell? ⟨b, off + j, none⟩ = some (.slice (some ⟨l[j], 0, none⟩) 2 2) := by
  obtain ⟨b, off, e, hb, hc⟩ := h.at_ (List.getElem?_eq_getElem hj)
  have := hc 0 _ rfl
  simp only [Nat.mul_one, Nat.add_zero] at this
  exact ⟨b, off, e, hb, this⟩

/-- The blocks gs hold the pairs L. -/
def Prs (w : World) (gs : List Nat) (L : List (Int × Int)) : Prop := gs.length = L.length ∧ ∀ j (h1 : j < gs.length) (h2 : j < L.length), Blk w gs[j] 3 (prC L[j])
/-- The slice A owns the pairs L, in blocks from base on, below lim. -/
def OwnSS (w : World) (base lim : Nat) (A : Option Addr) (n c : Nat) (L : List (Int × Int)) : Prop :=
  ∃ gs : List Nat, Own encG 1 w base 42 (.slice A n c) gs ∧ (∀ g, (Value.slice A n c).ownBlock = some g → g < lim) ∧ gs.Nodup ∧ (∀ g ∈ gs, base ≤ g ∧ g < lim) ∧ Prs w gs L
theorem Prs.keep {w w' : World} {gs : List Nat} {L : List (Int × Int)} {lim : Nat} (h : Prs w gs L) (hg : ∀ g ∈ gs, g < lim) (hb : Below lim w w') : Prs w' gs L :=
  ⟨h.1, fun j h1 h2 => (h.2 j h1 h2).below hb (hg _ (List.getElem_mem h1))⟩
theorem Own.keepLim {α : Type} {enc : α → List Value} {k : Nat} {w w' : World} {base lim : Nat} {E : TypeId} {v : Value} {l : List α} (h : Own enc k w base E v l) (hl : ∀ g, v.ownBlock = some g → g < lim) (hb : Below lim w w') : Own enc k w' base E v l := by
  obtain ⟨h1, h2⟩ := h
  refine ⟨h1, ?_⟩
  rcases h2 with h2 | ⟨g, cap, cur, rfl, hb', hh, r⟩
  · exact .inl h2
  · exact .inr ⟨g, cap, cur, rfl, hb', (hb.block g (hl g rfl)).trans hh, r⟩
theorem OwnSS.keep {w w' : World} {base lim : Nat} {A : Option Addr} {n c : Nat} {L : List (Int × Int)} (h : OwnSS w base lim A n c L) (hb : Below lim w w') : OwnSS w' base lim A n c L := by
  obtain ⟨gs, h1, h2, h3, h4, h5⟩ := h
  exact ⟨gs, h1.keepLim h2 hb, h2, h3, h4, h5.keep (fun g hg => (h4 g hg).2) hb⟩
theorem OwnSS.more {w : World} {base lim lim' : Nat} {A : Option Addr} {n c : Nat} {L : List (Int × Int)} (h : OwnSS w base lim A n c L) (hl : lim ≤ lim') : OwnSS w base lim' A n c L := by
  obtain ⟨gs, h1, h2, h3, h4, h5⟩ := h
  exact ⟨gs, h1, fun g hg => by have := h2 g hg; omega, h3, fun g hg => by have := h4 g hg; omega, h5⟩
/-- Another block is written over. -/
theorem OwnSS.grown {w w' : World} {base lim : Nat} {A : Option Addr} {n c : Nat} {L : List (Int × Int)} {row : Option Nat} (h : OwnSS w base lim A n c L) (hg : w.grownBy w' row) (hne : ∀ g, row = some g → g < base ∨ lim ≤ g) : OwnSS w' base lim A n c L := by
  obtain ⟨gs, h1, h2, h3, h4, h5⟩ := h
  refine ⟨gs, h1.grown hg (fun g hr hv => ?_), h2, h3, h4, h5.1, fun j i1 i2 => (h5.2 j i1 i2).grown hg (fun e => ?_)⟩
  · have := h2 g hv; have := (h1.lt g hv).1; have := hne g hr; omega
  · have := h4 _ (List.getElem_mem i1); have := hne _ e.symm; omega
theorem OwnSS.len {w : World} {base lim : Nat} {A : Option Addr} {n c : Nat} {L : List (Int × Int)} (h : OwnSS w base lim A n c L) : L.length = n := by
  obtain ⟨gs, h1, h2, h3, h4, h5⟩ := h
  rw [← h5.1, h1.len]

/-- The same, while it grows. -/
def OwnV (w : World) (base : Nat) (v : Value) (L : List (Int × Int)) : Prop :=
  ∃ gs : List Nat, Own encG 1 w base 42 v gs ∧ gs.Nodup ∧ (∀ g ∈ gs, base ≤ g) ∧ Prs w gs L
theorem Prs.lt {w : World} {gs : List Nat} {L : List (Int × Int)} (h : Prs w gs L) : ∀ g ∈ gs, g < w.heap.size := by
  intro g hg
  obtain ⟨j, hj, rfl⟩ := List.mem_iff_getElem.1 hg
  exact (h.2 j hj (by have := h.1; omega)).lt
theorem Own.block_ne {α : Type} {enc : α → List Value} {k : Nat} {w : World} {base : Nat} {E T : TypeId} {v : Value} {l : List α} {g : Nat} {cs : Array Value} (o : Own enc k w base E v l) (hB : Blk w g T cs) (hne : E ≠ T) : some g ≠ v.ownBlock := by
  intro e
  obtain ⟨_, h2⟩ := o
  rcases h2 with ⟨rfl, _⟩ | ⟨g1, c1, cur1, rfl, _, hh1, _⟩
  · simp [Value.ownBlock] at e
  · simp [Value.ownBlock] at e
    subst e
    unfold Blk at hB
    rw [hh1] at hB
    injection hB with hB
    injection hB with _ ht
    exact hne ht
theorem OwnV.keep {w w' : World} {base : Nat} {v : Value} {L : List (Int × Int)} (h : OwnV w base v L) (hb : Below w.heap.size w w') : OwnV w' base v L := by
  obtain ⟨gs, h1, h2, h3, h4⟩ := h
  exact ⟨gs, h1.keep hb, h2, h3, h4.keep h4.lt hb⟩
theorem OwnV.empty (w : World) (base : Nat) (hb : base ≤ w.heap.size) : OwnV (w.alloc (.cells #[] 42)) base (.slice (some ⟨w.heap.size, 0, none⟩) 0 0) [] :=
  ⟨[], Own.empty w base _ hb, List.nodup_nil, by simp, rfl, fun j h1 => absurd h1 (Nat.not_lt_zero _)⟩
theorem OwnV.push {w w1 w' : World} {base g : Nat} {v v' : Value} {gs : List Nat} {L : List (Int × Int)} {p : Int × Int} (o : Own encG 1 w base 42 v gs) (hnd : gs.Nodup) (hgs : ∀ g ∈ gs, base ≤ g) (P : Prs w gs L)
    (hb : Below w.heap.size w w1) (hg : w.heap.size ≤ g) (hbase : base ≤ w.heap.size) (hB : Blk w1 g 3 (prC p)) (o' : Own encG 1 w' base 42 v' (gs ++ [g])) (hgr : w1.grownBy w' v.ownBlock) : OwnV w' base v' (L ++ [p]) := by
  refine ⟨gs ++ [g], o', ?_, ?_, ?_, ?_⟩
  · rw [List.nodup_append]
    refine ⟨hnd, by simp, ?_⟩
    intro a ha b hb' e
    rw [List.mem_singleton] at hb'
    have := P.lt a ha
    omega
  · intro a ha
    rw [List.mem_append, List.mem_singleton] at ha
    rcases ha with ha | rfl
    · exact hgs a ha
    · omega
  · have := P.1; simp [this]
  · intro j h1 h2
    rcases Nat.lt_or_ge j gs.length with hj | hj
    · have h3 : j < L.length := by have := P.1; omega
      rw [List.getElem_append_left hj, List.getElem_append_left h3]
      exact ((P.2 j hj h3).after hb).grown hgr (o.block_ne (P.2 j hj h3) (by decide))
    · have hgl := P.1
      have hjj : j = gs.length := by simp at h1; omega
      subst hjj
      have e1 : (gs ++ [g])[gs.length] = g := by simp
      have e2 : (L ++ [p])[gs.length] = p := by simp [hgl]
      rw [e1, e2]
      refine hB.grown hgr ?_
      intro e
      have := (o.lt g e.symm).2
      omega
theorem OwnV.done {w : World} {base : Nat} {v : Value} {L : List (Int × Int)} (h : OwnV w base v L) : ∃ A c, v = .slice A L.length c ∧ (L.length ≤ c ∧ c ≤ maxLen) ∧ OwnSS w base w.heap.size A L.length c L := by
  obtain ⟨gs, h1, h2, h3, h4⟩ := h
  obtain ⟨A, c, e, hc, _⟩ := Own.form encG_len h1
  have hl := h4.1
  rw [hl] at e hc
  subst e
  exact ⟨A, c, rfl, hc, gs, h1, fun g hg => (h1.lt g hg).2, h2, fun g hg => ⟨h3 g hg, h4.lt g hg⟩, h4⟩
theorem infoG : (Try.prog.info? 42).map (fun i => (i.zero, i.size, i.bytes)) = some (some (.slice none 0 0), 1, 24) := by kernel_rfl

theorem rdI_pair {w : World} {g : Nat} {p : Int × Int} (h : Blk w g 3 (prC p)) : Rd encI 1 w w.heap.size (some ⟨g, 0, none⟩) [p.1, p.2] := fun _ =>
  ⟨g, 0, rfl, h.lt, fun j x hx i v hv => by
    rw [h.cell]
    match j, i with
    | 0, 0 => simp at hx; subst hx; simp [encI] at hv; subst hv; rfl
    | 1, 0 => simp at hx; subst hx; simp [encI] at hv; subst hv; rfl
    | j + 2, _ => simp at hx
    | _, i + 1 => simp [encI] at hv⟩

theorem eqPair_any (g g' : Nat) (p : Int × Int) (w : World) (h : Blk w g 3 (prC p)) (h' : Blk w g' 3 (prC p)) :
    Calls Try.prog 35 #[.slice (some ⟨g, 0, none⟩) 2 2, .slice (some ⟨g', 0, none⟩) 2 2] w fun e w' => e = .returned (.bool true) ∧ Below w.heap.size w w' := by
  have h1 := eqIS_any (some ⟨g, 0, none⟩) (some ⟨g', 0, none⟩) 2 2 [p.1, p.2] [p.1, p.2] w (rdI_pair h) (rdI_pair h') (by simp)
  rw [eqsI_iff.2 rfl] at h1
  exact h1
theorem markPair_any (g : Nat) (p : Int × Int) (k0 : Int) (w : World) (h : Blk w g 3 (prC p)) (hk0 : 0 ≤ k0) (hk1 : k0 ≤ 1000000000) :
    Calls Try.prog 36 #[.slice (some ⟨g, 0, none⟩) 2 2, .int .i64 k0] w fun e w' => e = .returned (.int .i64 (k0 + 2)) ∧ Blk w' g 3 (prC (k0, k0 + 1)) ∧ w.grownBy w' (some g) := by
  have ho : Own encI 1 w 0 3 (.slice (some ⟨g, 0, none⟩) 2 2) [p.1, p.2] :=
    Own.of_blk encI_len (l := [p.1, p.2]) (Nat.zero_le _) h rfl (by unfold maxLen; simp) (fun j x hx i v hv => by
      match j, i with
      | 0, 0 => simp at hx; subst hx; simp [encI] at hv; subst hv; rfl
      | 1, 0 => simp at hx; subst hx; simp [encI] at hv; subst hv; rfl
      | j + 2, _ => simp at hx
      | _, i + 1 => simp [encI] at hv)
  refine (markIS_any (some ⟨g, 0, none⟩) 2 2 k0 [p.1, p.2] w 0 ho (by omega) hk0 hk1).mono ?_
  rintro e w' ⟨rfl, ho', hg⟩
  obtain ⟨g', cs, e, _, hB, hs, _, _, _, htk⟩ := ho'.blk (by omega)
  injection e with e
  injection e with e1 e2
  subst e1
  refine ⟨rfl, ?_, hg⟩
  have e3 : cs = prC (k0, k0 + 1) := by
    apply Array.ext'
    have h1 : cs.toList.length = 2 := by simpa using hs
    have h2 : cs.toList.take 2 = cs.toList := List.take_of_length_le (by omega)
    rw [← h2]
    rw [show (2 : Nat) = 2 * 1 by rfl, htk]
    simp [flat, encI, marksI, prC, List.range_succ]
  rw [← e3]
  exact hB
theorem heldPair_any (g : Nat) (k0 : Int) (w : World) (h : Blk w g 3 (prC (k0, k0 + 1))) (hk0 : 0 ≤ k0) (hk1 : k0 ≤ 1000000000) :
    Calls Try.prog 37 #[.slice (some ⟨g, 0, none⟩) 2 2, .int .i64 k0] w fun e w' => e = .returned (.int .i64 (k0 + 2)) ∧ w = w' := by
  have hr := rdI_pair h
  have e : marksI k0 2 = [k0, k0 + 1] := by simp [marksI, List.range_succ]
  exact heldIS_any (some ⟨g, 0, none⟩) 2 2 k0 w (by rw [e]; exact hr) (by omega) hk0 hk1

def marksSS (k : Int) (n : Nat) : List (Int × Int) := (List.range n).map fun i : Nat => (k + i * 2, k + i * 2 + 1)
theorem marksSS_len (k : Int) (n : Nat) : (marksSS k n).length = n := by simp [marksSS]
theorem marksSS_get (k : Int) (n j : Nat) (hj : j < (marksSS k n).length) : (marksSS k n)[j] = (k + j * 2, k + j * 2 + 1) := by simp [marksSS]

set_option maxHeartbeats 400000 in
theorem eqSS_any (A A' : Option Addr) (n c c' : Nat) (L : List (Int × Int)) (base lim base' lim' : Nat) (w : World) (h : OwnSS w base lim A n c L) (h' : OwnSS w base' lim' A' n c' L) (hn : n ≤ 1048576) :
    Calls Try.prog 42 #[.slice A n c, .slice A' n c'] w fun e w' => e = .returned (.bool true) ∧ Below w.heap.size w w' := by
  obtain ⟨gs, o, _, _, _, P⟩ := h
  obtain ⟨gs', o', _, _, _, P'⟩ := h'
  have r := Own.rd' encG_len o
  have r' := Own.rd' encG_len o'
  have Hl := Lib.hid o.len
  have Hl' := Lib.hid o'.len
  have HP := Lib.hid P
  have HP' := Lib.hid P'
  clear P P' o o'
  have hb : ((n : Int) != (n : Int)) = false := by simp
  go_enter Try.func42, Try.ntmps42
  go_wp2
  go_loopw [5] (fun i wr => ∃ k : Nat, k ≤ n ∧ i = .int .i64 k ∧ Below w.heap.size w wr) (fun i _ => n - (intOf i).toNat)
  case atStart => exact ⟨0, Nat.zero_le _, rfl, Below.refl _ _⟩
  case round =>
    obtain ⟨k, hk, rfl, hbl⟩ := hrel
    by_cases hlt : k < n
    · have h1 : k < gs.length := by have := Hl.out; omega
      have h1' : k < gs'.length := by have := Hl'.out; omega
      have h2 : k < L.length := by have := HP.out.1; have := Hl.out; omega
      obtain ⟨b, off, rfl, hb1, c0⟩ := cellsG (r.below hbl) h1
      obtain ⟨b', off', rfl, hb2, d0⟩ := cellsG (r'.below hbl) h1'
      have p0 := (HP.out.2 k h1 h2).after hbl
      have p1 := (HP'.out.2 k h1' h2).after hbl
      generalize gs[k] = g at *
      generalize gs'[k] = g' at *
      generalize L[k] = p at *
      have HP0 := Lib.hid p0
      have HP1 := Lib.hid p1
      clear p0 p1
      go_wp2_with fail
      go_still_tail 8, (by kernel_rfl)
      change wpList _ _ _ _ _ wr.drew
      have hbl2 := hbl.drew
      have q0 := HP0.out.drew
      have q1 := HP1.out.drew
      generalize wr.drew = w2 at hbl2 q0 q1
      clear c0 d0
      go_wp2_with fail
      refine (eqPair_any _ _ p _ q0 q1).mono ?_
      rintro e w3 ⟨rfl, hb3⟩
      clear q0 q1
      go_wp2
      go_roundw
      case rel => exact ⟨k + 1, by omega, by go_num, hbl2.trans (hb3.mono hbl2.size)⟩
      case measure => simp [intOf]; omega
    · obtain rfl : k = n := by omega
      go_wp2
      go_ret
      exact ⟨rfl, hbl⟩

set_option maxHeartbeats 400000 in
theorem markSS_any (A : Option Addr) (n c : Nat) (L : List (Int × Int)) (base lim : Nat) (k0 : Int) (w : World) (h : OwnSS w base lim A n c L) (hn : n ≤ 1048576) (hk0 : 0 ≤ k0) (hk1 : k0 ≤ 10000) :
    Calls Try.prog 43 #[.slice A n c, .int .i64 k0] w fun e w' => e = .returned (.int .i64 (k0 + n * 2)) ∧ OwnSS w' base lim A n c (marksSS k0 n) ∧ Below base w w' := by
  obtain ⟨gs, o, hlim, hnd, hgs, P⟩ := h
  have r := Own.rd' encG_len o
  have hl := o.len
  have Hl := Lib.hid hl
  have HP := Lib.hid P
  have Ho := Lib.hid o
  have Hlim := Lib.hid hlim
  have Hnd := Lib.hid hnd
  have Hgs := Lib.hid hgs
  clear hl P o hlim hnd hgs r
  go_enter Try.func43, Try.ntmps43
  go_wp2
  go_loopw [1, 5] (fun q i wr => ∃ k : Nat, k ≤ n ∧ i = .int .i64 k ∧ q = .int .i64 (k0 + k * 2) ∧ Hid (Own encG 1 wr base 42 (.slice A n c) gs) ∧ Hid (∀ j (h1 : j < gs.length), j < k → Blk wr gs[j] 3 (prC (k0 + j * 2, k0 + j * 2 + 1))) ∧ Hid (∀ j (h1 : j < gs.length) (h2 : j < L.length), k ≤ j → Blk wr gs[j] 3 (prC L[j])) ∧ Hid (Below base w wr))
    (fun _ i _ => n - (intOf i).toNat)
  case atStart => exact ⟨0, Nat.zero_le _, rfl, by simp, Ho.out, fun j _ hj => absurd hj (Nat.not_lt_zero _), fun j h1 h2 _ => HP.out.2 j h1 h2, Below.refl _ _⟩
  case round =>
    obtain ⟨k, hk, rfl, rfl, ho, ha, hb, hbl⟩ := hrel
    by_cases hlt : k < n
    · have h1 : k < gs.length := by have := Hl.out; omega
      have h2 : k < L.length := by have := HP.out.1; have := Hl.out; omega
      obtain ⟨b, off, hA, hb1, c0⟩ := cellsG (Own.rd' encG_len ho.out) h1
      have hg := Hgs.out _ (List.getElem_mem h1)
      have hblk := hb.out k h1 h2 (Nat.le_refl _)
      obtain ⟨g, hgk⟩ : ∃ g, gs[k] = g := ⟨_, rfl⟩
      have Hgk := Lib.hid hgk
      rw [hgk] at c0 hg hblk
      clear hgk
      subst hA
      have Hblk := Lib.hid hblk
      clear hblk
      go_wp2_with fail
      refine (markPair_any g _ _ _ Hblk.out (by omega) (by omega)).mono ?_
      rintro e w1 ⟨rfl, hB, hgr⟩
      have HB := Lib.hid hB
      clear hB c0
      go_wp2
      go_roundw
      case rel =>
        refine ⟨k + 1, by omega, by go_num, by (congr 1; omega), ho.out.only hgr Hblk.out (by decide), ?_, ?_, ?_⟩
        · intro j i1 hj
          rcases Nat.lt_or_ge j k with hjk | hjk
          · refine (ha.out j i1 hjk).grown hgr (fun e => ?_)
            injection e with e
            rw [← Hgk.out] at e
            have := (List.getElem_inj Hnd.out).1 e
            omega
          · obtain rfl : j = k := by omega
            rw [Hgk.out]
            exact HB.out
        · intro j i1 i2 hj
          refine (hb.out j i1 i2 (by omega)).grown hgr (fun e => ?_)
          injection e with e
          rw [← Hgk.out] at e
          have := (List.getElem_inj Hnd.out).1 e
          omega
        · exact hbl.out.trans ⟨hgr.os, hgr.tape, hgr.output, hgr.size, fun i hi => hgr.block i (by have := ho.out; have := Hblk.out.lt; omega) (by intro e; injection e; omega)⟩
      case measure => simp [intOf]; omega
    · obtain rfl : k = n := by omega
      go_wp2
      go_ret
      refine ⟨rfl, ⟨gs, ho.out, Hlim.out, Hnd.out, Hgs.out, by rw [marksSS_len]; exact Hl.out, fun j i1 i2 => ?_⟩, hbl.out⟩
      rw [marksSS_get]
      exact ha.out j i1 (by have := Hl.out; omega)

set_option maxHeartbeats 400000 in
theorem heldSS_any (A : Option Addr) (n c : Nat) (base lim : Nat) (k0 : Int) (w : World) (h : OwnSS w base lim A n c (marksSS k0 n)) (hn : n ≤ 1048576) (hk0 : 0 ≤ k0) (hk1 : k0 ≤ 10000) :
    Calls Try.prog 44 #[.slice A n c, .int .i64 k0] w fun e w' => e = .returned (.int .i64 (k0 + n * 2)) ∧ w = w' := by
  obtain ⟨gs, o, _, _, _, P⟩ := h
  have r := Own.rd' encG_len o
  have Hl := Lib.hid o.len
  have HP := Lib.hid P
  clear P o
  go_enter Try.func44, Try.ntmps44
  go_wp2
  go_loop [1, 5] (fun q i => ∃ k : Nat, k ≤ n ∧ i = .int .i64 k ∧ q = .int .i64 (k0 + k * 2)) (fun _ i => n - (intOf i).toNat)
  case atStart => exact ⟨0, Nat.zero_le _, rfl, by simp⟩
  case round =>
    obtain ⟨k, hk, rfl, rfl⟩ := hrel
    by_cases hlt : k < n
    · have h1 : k < gs.length := by have := Hl.out; omega
      obtain ⟨b, off, rfl, hb1, c0⟩ := cellsG r h1
      have hblk := HP.out.2 k h1 (by rw [marksSS_len]; exact hlt)
      rw [marksSS_get] at hblk
      generalize gs[k] = g at *
      have Hblk := Lib.hid hblk
      clear hblk
      go_wp2_with fail
      refine (heldPair_any g _ _ Hblk.out (by omega) (by omega)).mono ?_
      rintro e w1 ⟨rfl, rfl⟩
      clear c0
      go_wp2
      go_round
      case rel => exact ⟨k + 1, by omega, by go_num, by (congr 1; omega)⟩
      case measure => simp [intOf]; omega
    · obtain rfl : k = n := by omega
      go_wp2
      go_ret
      exact ⟨rfl, rfl⟩

end Go.Proofs.Ytiakaglgfboepaa
