/-
  Contracts of HolderOf. (Printed by gen_D6.py.)
-/
import Derived.Test.YtdadcbcanjmoeaaIsArr
import Derived.Test.YtdadcbcanjmoeaaIsCube
import Derived.Test.YtdadcbcanjmoeaaChk
namespace Go.Proofs.Ytdadcbcanjmoeaa
set_option linter.unusedVariables false
open Go.RowKit

def holdV (b : Cube) (o : Origin) : Bool := inB o.x b.west (b.west + b.side - 1) && inB o.y b.south (b.south + b.side - 1) && inB o.tick b.from_ b.to_
theorem goodC_bd {s : Cube} (hs : goodC s = true) : (1 ≤ s.side ∧ s.side ≤ 512) ∧ (0 ≤ s.west ∧ s.west ≤ 999) ∧ (0 ≤ s.south ∧ s.south ≤ 999) ∧ (0 ≤ s.from_ ∧ s.from_ ≤ 1000000) ∧ (0 ≤ s.to_ ∧ s.to_ ≤ 1000000) := by
  simp only [goodC, Bool.and_eq_true] at hs
  obtain ⟨⟨⟨⟨⟨⟨h1, h2⟩, _⟩, _⟩, h5⟩, h6⟩, _⟩ := hs
  have h1 := sideB_in h1
  have h2 := placeB_iff.1 h2
  have h5 := tickB_iff.1 h5
  have h6 := tickB_iff.1 h6
  omega

theorem holds_any (b : Cube) (o : Origin) (w : World) (hb : goodC b = true) :
    Calls Try.prog 89 #[.agg #[.int .i64 b.west, .int .i64 b.south, .int .i64 b.side, .int .i64 b.from_, .int .i64 b.to_], .agg #[.int .i64 o.x, .int .i64 o.y, .int .i64 o.tick]] w fun e w' => e = .returned (.bool (holdV b o)) ∧ Below w.heap.size w w' := by
  have hbd := goodC_bd hb
  clear hb
  have HA : Hid (Blk ((w.alloc (.cells #[.int .i64 b.west, .int .i64 b.south, .int .i64 b.side, .int .i64 b.from_, .int .i64 b.to_] 25)).alloc (.cells #[.int .i64 o.x, .int .i64 o.y, .int .i64 o.tick] 39)) w.heap.size 25 #[.int .i64 b.west, .int .i64 b.south, .int .i64 b.side, .int .i64 b.from_, .int .i64 b.to_]) := (Blk.new w _ #[.int .i64 b.west, .int .i64 b.south, .int .i64 b.side, .int .i64 b.from_, .int .i64 b.to_]).alloc _
  have HO : Hid (Blk ((w.alloc (.cells #[.int .i64 b.west, .int .i64 b.south, .int .i64 b.side, .int .i64 b.from_, .int .i64 b.to_] 25)).alloc (.cells #[.int .i64 o.x, .int .i64 o.y, .int .i64 o.tick] 39)) (w.heap.size + 1) 39 #[.int .i64 o.x, .int .i64 o.y, .int .i64 o.tick]) := by have hq := Blk.new (w.alloc (.cells #[.int .i64 b.west, .int .i64 b.south, .int .i64 b.side, .int .i64 b.from_, .int .i64 b.to_] 25)) 39 #[.int .i64 o.x, .int .i64 o.y, .int .i64 o.tick]; simp at hq; exact hq
  have hB0 : Below w.heap.size w ((w.alloc (.cells #[.int .i64 b.west, .int .i64 b.south, .int .i64 b.side, .int .i64 b.from_, .int .i64 b.to_] 25)).alloc (.cells #[.int .i64 o.x, .int .i64 o.y, .int .i64 o.tick] 39)) := by (repeat (first | with_reducible exact Below.refl _ _ | with_reducible assumption | with_reducible refine Below.setCell ?_ (by simp <;> omega) _ | with_reducible refine Below.alloc ?_ (by first | omega | (simp <;> omega)) _ | with_reducible refine Below.drew ?_ | with_reducible refine below_drewN ?_ _))
  obtain ⟨a0, a1, a2, a3, a4⟩ := box5 HA.out
  obtain ⟨o0, o1, o2⟩ := box3 HO.out
  cases k1 : inB o.x b.west (b.west + b.side - 1) with
  | false =>
    have hv : holdV b o = false := by simp only [holdV, k1]; simp
    rw [hv]
    clear hv
    go_enter Try.func89, Try.ntmps89
    go_wp2_with (go_at_call 101; refine (in_any _ _ _ _).mono ?_; rintro e w' ⟨rfl, rfl⟩)
    all_goals
      go_ret
      exact ⟨rfl, hB0⟩
  | true =>
    cases k2 : inB o.y b.south (b.south + b.side - 1) with
    | false =>
      have hv : holdV b o = false := by simp only [holdV, k1, k2]; simp
      rw [hv]
      clear hv
      go_enter Try.func89, Try.ntmps89
      go_wp2_with (go_at_call 101; refine (in_any _ _ _ _).mono ?_; rintro e w' ⟨rfl, rfl⟩)
      all_goals
        go_ret
        exact ⟨rfl, hB0⟩
    | true =>
      cases k3 : inB o.tick b.from_ b.to_ with
      | false =>
        have hv : holdV b o = false := by simp only [holdV, k1, k2, k3]; simp
        rw [hv]
        clear hv
        go_enter Try.func89, Try.ntmps89
        go_wp2_with (go_at_call 101; refine (in_any _ _ _ _).mono ?_; rintro e w' ⟨rfl, rfl⟩)
        all_goals
          go_ret
          exact ⟨rfl, hB0⟩
      | true =>
        have hv : holdV b o = true := by simp only [holdV, k1, k2, k3]; simp
        rw [hv]
        clear hv
        go_enter Try.func89, Try.ntmps89
        go_wp2_with (go_at_call 101; refine (in_any _ _ _ _).mono ?_; rintro e w' ⟨rfl, rfl⟩)
        all_goals
          go_ret
          exact ⟨rfl, hB0⟩

theorem l12In_any (b : Cube) (o : Origin) (w : World) (hb : goodC b = true) :
    Calls Try.prog 87 #[.agg #[.int .i64 b.west, .int .i64 b.south, .int .i64 b.side, .int .i64 b.from_, .int .i64 b.to_], .agg #[.int .i64 o.x, .int .i64 o.y, .int .i64 o.tick]] w fun e w' => e = .returned (.bool (holdV b o)) ∧ Below w.heap.size w w' := by
  have hbd := goodC_bd hb
  clear hb
  have HA : Hid (Blk ((w.alloc (.cells #[.int .i64 b.west, .int .i64 b.south, .int .i64 b.side, .int .i64 b.from_, .int .i64 b.to_] 25)).alloc (.cells #[.int .i64 o.x, .int .i64 o.y, .int .i64 o.tick] 39)) w.heap.size 25 #[.int .i64 b.west, .int .i64 b.south, .int .i64 b.side, .int .i64 b.from_, .int .i64 b.to_]) := (Blk.new w _ #[.int .i64 b.west, .int .i64 b.south, .int .i64 b.side, .int .i64 b.from_, .int .i64 b.to_]).alloc _
  have HO : Hid (Blk ((w.alloc (.cells #[.int .i64 b.west, .int .i64 b.south, .int .i64 b.side, .int .i64 b.from_, .int .i64 b.to_] 25)).alloc (.cells #[.int .i64 o.x, .int .i64 o.y, .int .i64 o.tick] 39)) (w.heap.size + 1) 39 #[.int .i64 o.x, .int .i64 o.y, .int .i64 o.tick]) := by have hq := Blk.new (w.alloc (.cells #[.int .i64 b.west, .int .i64 b.south, .int .i64 b.side, .int .i64 b.from_, .int .i64 b.to_] 25)) 39 #[.int .i64 o.x, .int .i64 o.y, .int .i64 o.tick]; simp at hq; exact hq
  have hB0 : Below w.heap.size w ((w.alloc (.cells #[.int .i64 b.west, .int .i64 b.south, .int .i64 b.side, .int .i64 b.from_, .int .i64 b.to_] 25)).alloc (.cells #[.int .i64 o.x, .int .i64 o.y, .int .i64 o.tick] 39)) := by (repeat (first | with_reducible exact Below.refl _ _ | with_reducible assumption | with_reducible refine Below.setCell ?_ (by simp <;> omega) _ | with_reducible refine Below.alloc ?_ (by first | omega | (simp <;> omega)) _ | with_reducible refine Below.drew ?_ | with_reducible refine below_drewN ?_ _))
  obtain ⟨a0, a1, a2, a3, a4⟩ := box5 HA.out
  obtain ⟨o0, o1, o2⟩ := box3 HO.out
  cases k1 : inB o.x b.west (b.west + b.side - 1) with
  | false =>
    have hv : holdV b o = false := by simp only [holdV, k1]; simp
    rw [hv]
    clear hv
    go_enter Try.func87, Try.ntmps87
    go_wp2_with (go_at_call 102; refine (l1In_any _ _ _ _).mono ?_; rintro e w' ⟨rfl, rfl⟩)
    all_goals
      go_ret
      exact ⟨rfl, hB0⟩
  | true =>
    cases k2 : inB o.y b.south (b.south + b.side - 1) with
    | false =>
      have hv : holdV b o = false := by simp only [holdV, k1, k2]; simp
      rw [hv]
      clear hv
      go_enter Try.func87, Try.ntmps87
      go_wp2_with (go_at_call 102; refine (l1In_any _ _ _ _).mono ?_; rintro e w' ⟨rfl, rfl⟩)
      all_goals
        go_ret
        exact ⟨rfl, hB0⟩
    | true =>
      cases k3 : inB o.tick b.from_ b.to_ with
      | false =>
        have hv : holdV b o = false := by simp only [holdV, k1, k2, k3]; simp
        rw [hv]
        clear hv
        go_enter Try.func87, Try.ntmps87
        go_wp2_with (go_at_call 102; refine (l1In_any _ _ _ _).mono ?_; rintro e w' ⟨rfl, rfl⟩)
        all_goals
          go_ret
          exact ⟨rfl, hB0⟩
      | true =>
        have hv : holdV b o = true := by simp only [holdV, k1, k2, k3]; simp
        rw [hv]
        clear hv
        go_enter Try.func87, Try.ntmps87
        go_wp2_with (go_at_call 102; refine (l1In_any _ _ _ _).mono ?_; rintro e w' ⟨rfl, rfl⟩)
        all_goals
          go_ret
          exact ⟨rfl, hB0⟩

def okHO (l : List Cube) (o : Origin) : Bool := decide (l.length ≤ 64) && l.all goodC && goodO o
def hoI (l : List Cube) (o : Origin) : Int := idxOf (fun b => holdV b o) l
def HOk (l : List Cube) (o : Origin) : Bool := okHO l o && decide (0 ≤ hoI l o)
def HOv (l : List Cube) (o : Origin) : Int := if HOk l o then hoI l o else 0
theorem ho_bad {l : List Cube} {o : Origin} (h : okHO l o = false) : HOk l o = false ∧ HOv l o = 0 := by
  have e : HOk l o = false := by simp [HOk, h]
  exact ⟨e, by simp [HOv, e]⟩
theorem ho_hit {l : List Cube} {o : Origin} (h : okHO l o = true) {k : Nat} (hk : k < l.length) (hv : holdV l[k] o = true) (h0 : (l.take k).any (fun b => holdV b o) = false) : HOk l o = true ∧ HOv l o = k := by
  have e : hoI l o = k := idxOf_hit _ l k hk hv h0
  have e1 : HOk l o = true := by simp [HOk, h, e]
  exact ⟨e1, by simp [HOv, e1, e]⟩
theorem ho_miss {l : List Cube} {o : Origin} (h0 : l.any (fun b => holdV b o) = false) : HOk l o = false ∧ HOv l o = 0 := by
  have e : hoI l o = -1 := idxOf_miss _ l h0
  have e1 : HOk l o = false := by simp [HOk, e]
  exact ⟨e1, by simp [HOv, e1]⟩

set_option maxRecDepth 100000 in
set_option maxHeartbeats 1000000 in
theorem HolderOf_any (A : Option Addr) (c : Nat) (l : List Cube) (o : Origin) (w : World) (h : Rd encC 5 w w.heap.size A l) (hl : l.length ≤ 1048576) :
    Calls Try.prog 47 #[.slice A l.length c, .agg #[.int .i64 o.x, .int .i64 o.y, .int .i64 o.tick]] w fun e w' => e = .returned (.tuple #[.int .i64 (HOv l o), .bool (HOk l o)]) ∧ Below w.heap.size w w' := by
  have HO : Hid (Blk (w.alloc (.cells #[.int .i64 o.x, .int .i64 o.y, .int .i64 o.tick] 39)) w.heap.size 39 #[.int .i64 o.x, .int .i64 o.y, .int .i64 o.tick]) := Blk.new w _ #[.int .i64 o.x, .int .i64 o.y, .int .i64 o.tick]
  have hB0 : Below w.heap.size w (w.alloc (.cells #[.int .i64 o.x, .int .i64 o.y, .int .i64 o.tick] 39)) := by (repeat (first | with_reducible exact Below.refl _ _ | with_reducible assumption | with_reducible refine Below.setCell ?_ (by simp <;> omega) _ | with_reducible refine Below.alloc ?_ (by first | omega | (simp <;> omega)) _ | with_reducible refine Below.drew ?_ | with_reducible refine below_drewN ?_ _))
  have hr := (h.below hB0).more hB0.size
  obtain ⟨o0, o1, o2⟩ := box3 HO.out
  have Hall : Hid (∀ W, Rd encC 5 W W.heap.size A l → Calls Try.prog 88 #[.slice A l.length c, .func (.func 17) #[] #[]] W fun e w' => e = .returned (.bool (l.all goodC)) ∧ Below W.heap.size W w') := fun W hW => allC_any 17 #[] (enters_of Try.func17 (by kernel_rfl) rfl) A c l goodC W hW hl (fun W2 x _ _ => IsCube_any x W2)
  have hmf : ∀ (fn : Fn) (first cap : Array Value) (w : World), (Instr.makeFunc fn first cap).run Try.prog w = .ok (.func fn first cap) w := fun _ _ _ _ => rfl
  by_cases hle : l.length ≤ 64
  · have hngt : ¬ (64 : Int) < (l.length : Int) := by omega
    cases hal : l.all goodC with
    | false =>
      obtain ⟨z1, z2⟩ := ho_bad (l := l) (o := o) (by simp only [okHO, hal]; simp)
      rw [z1, z2]
      clear z1 z2
      go_enter Try.func47, Try.ntmps47
      go_wp2_with (first | (go_at_call 88; refine (Hall.out _ hr).mono ?_; rintro e w1 ⟨rfl, hb1⟩; rw [hal]; have HO1 := Lib.hid (HO.out.after hb1); have hB1 := hB0.trans (hb1.mono hB0.size); clear o0 o1 o2; obtain ⟨o0, o1, o2⟩ := box3 HO1.out) | (go_at_call 72; refine (isOrigin_any o _).mono ?_; rintro e w2 ⟨rfl, hb2⟩; rw [hgo]; have HOz := Lib.hid (HO1.out.after hb2); have hBz := hB1.trans (hb2.mono hB1.size)))
      go_ret2
      exact ⟨rfl, hB1⟩
    | true =>
      cases hgo : goodO o with
      | false =>
        obtain ⟨z1, z2⟩ := ho_bad (l := l) (o := o) (by simp only [okHO, hgo]; simp)
        rw [z1, z2]
        clear z1 z2
        go_enter Try.func47, Try.ntmps47
        go_wp2_with (first | (go_at_call 88; refine (Hall.out _ hr).mono ?_; rintro e w1 ⟨rfl, hb1⟩; rw [hal]; have HO1 := Lib.hid (HO.out.after hb1); have hB1 := hB0.trans (hb1.mono hB0.size); clear o0 o1 o2; obtain ⟨o0, o1, o2⟩ := box3 HO1.out) | (go_at_call 72; refine (isOrigin_any o _).mono ?_; rintro e w2 ⟨rfl, hb2⟩; rw [hgo]; have HOz := Lib.hid (HO1.out.after hb2); have hBz := hB1.trans (hb2.mono hB1.size)))
        go_ret2
        exact ⟨rfl, hBz⟩
      | true =>
        have hok : okHO l o = true := by simp only [okHO, hal, hgo]; simp [hle]
        go_enter Try.func47, Try.ntmps47
        go_wp2_with (first | (go_at_call 88; refine (Hall.out _ hr).mono ?_; rintro e w1 ⟨rfl, hb1⟩; rw [hal]; have HO1 := Lib.hid (HO.out.after hb1); have hB1 := hB0.trans (hb1.mono hB0.size); clear o0 o1 o2; obtain ⟨o0, o1, o2⟩ := box3 HO1.out) | (go_at_call 72; refine (isOrigin_any o _).mono ?_; rintro e w2 ⟨rfl, hb2⟩; rw [hgo]; have HOz := Lib.hid (HO1.out.after hb2); have hBz := hB1.trans (hb2.mono hB1.size)))
        clear o0 o1 o2
        go_loopw [23] (fun i wr => ∃ k : Nat, k ≤ l.length ∧ i = .int .i64 k ∧ Hid ((l.take k).any (fun b => holdV b o) = false) ∧ Hid (Blk wr w.heap.size 39 #[.int .i64 o.x, .int .i64 o.y, .int .i64 o.tick]) ∧ Below w.heap.size w wr) (fun i _ => l.length - (intOf i).toNat)
        case atStart => exact ⟨0, Nat.zero_le _, rfl, rfl, HOz, hBz⟩
        case round =>
          obtain ⟨k, hk, rfl, Hq, HB, hbl⟩ := hrel
          have Hm := Lib.hid (@ho_miss l o)
          by_cases hlt : k < l.length
          · obtain ⟨bb, off, rfl, hbb, c0, c1, c2, c3, c4⟩ := cellsC (h.below hbl) hlt
            have hgk : goodC l[k] = true := by rw [List.all_eq_true] at hal; exact hal _ (List.getElem_mem hlt)
            have Hh := Lib.hid (fun hv => ho_hit (k := k) hok hlt hv Hq.out)
            have Hn := Lib.hid (fun (hv : holdV l[k] o = false) => (show (l.take (k + 1)).any (fun b => holdV b o) = false by rw [any_take_succ _ l k hlt, Hq.out, hv]; rfl))
            generalize l[k] = b at *
            clear hal hok
            obtain ⟨o0, o1, o2⟩ := box3 HB.out
            have hlw := HB.out.lt
            have hlw2 : ¬ w.heap.size = wr.heap.size := by omega
            cases hv : holdV b o with
            | true =>
              have Hhh := Lib.hid (Hh.out hv)
              go_wp2_with fail
              refine (holds_any b o _ hgk).mono ?_
              rintro e w3 ⟨rfl, hb3⟩
              rw [hv]
              go_wp2
              go_ret2
              rw [Hhh.out.1, Hhh.out.2]
              exact ⟨rfl, (hbl.alloc hbl.size _).trans (hb3.mono (by have := hbl.size; simp; omega))⟩
            | false =>
              have Hnn := Lib.hid (Hn.out hv)
              have hHB := HB.out.alloc (.cells #[.int .i64 b.west, .int .i64 b.south, .int .i64 b.side, .int .i64 b.from_, .int .i64 b.to_] 25)
              have HHB := Lib.hid hHB
              clear hHB
              go_wp2_with fail
              refine (holds_any b o _ hgk).mono ?_
              rintro e w3 ⟨rfl, hb3⟩
              rw [hv]
              have HB3 := Lib.hid (HHB.out.after hb3)
              clear o0 o1 o2 c0 c1 c2 c3 c4
              go_wp2
              go_roundw
              case rel => exact ⟨k + 1, by omega, by go_num, Hnn.out, HB3.out, (hbl.alloc hbl.size _).trans (hb3.mono (by have := hbl.size; simp; omega))⟩
              case measure => simp [intOf]; omega
          · have Hmm := Lib.hid (Hm.out (by have := Hq.out; rwa [List.take_of_length_le (by omega)] at this))
            obtain rfl : k = l.length := by omega
            clear hal hok
            go_wp2
            go_ret2
            rw [Hmm.out.1, Hmm.out.2]
            exact ⟨rfl, hbl⟩
  · have hngt : (64 : Int) < (l.length : Int) := by omega
    obtain ⟨z1, z2⟩ := ho_bad (l := l) (o := o) (by simp only [okHO, decide_eq_false hle]; simp)
    rw [z1, z2]
    clear z1 z2
    go_enter Try.func47, Try.ntmps47
    go_wp2
    go_ret2
    exact ⟨rfl, hB0⟩

set_option maxRecDepth 100000 in
set_option maxHeartbeats 1000000 in
theorem sHolderOf_any (A : Option Addr) (c : Nat) (l : List Cube) (o : Origin) (w : World) (h : Rd encC 5 w w.heap.size A l) (hl : l.length ≤ 1048576) :
    Calls Try.prog 45 #[.slice A l.length c, .agg #[.int .i64 o.x, .int .i64 o.y, .int .i64 o.tick]] w fun e w' => e = .returned (.tuple #[.int .i64 (HOv l o), .bool (HOk l o)]) ∧ Below w.heap.size w w' := by
  have HO : Hid (Blk (w.alloc (.cells #[.int .i64 o.x, .int .i64 o.y, .int .i64 o.tick] 39)) w.heap.size 39 #[.int .i64 o.x, .int .i64 o.y, .int .i64 o.tick]) := Blk.new w _ #[.int .i64 o.x, .int .i64 o.y, .int .i64 o.tick]
  have hB0 : Below w.heap.size w (w.alloc (.cells #[.int .i64 o.x, .int .i64 o.y, .int .i64 o.tick] 39)) := by (repeat (first | with_reducible exact Below.refl _ _ | with_reducible assumption | with_reducible refine Below.setCell ?_ (by simp <;> omega) _ | with_reducible refine Below.alloc ?_ (by first | omega | (simp <;> omega)) _ | with_reducible refine Below.drew ?_ | with_reducible refine below_drewN ?_ _))
  have hr := (h.below hB0).more hB0.size
  obtain ⟨o0, o1, o2⟩ := box3 HO.out
  clear o0 o1 o2 hr
  go_enter Try.func45, Try.ntmps45
  go_wp2
  go_loopw [6] (fun i wr => ∃ k : Nat, k ≤ l.length ∧ i = .int .i64 k ∧ Hid ((l.take k).all goodC = true) ∧ Hid (Blk wr w.heap.size 39 #[.int .i64 o.x, .int .i64 o.y, .int .i64 o.tick]) ∧ Below w.heap.size w wr) (fun i _ => l.length - (intOf i).toNat)
  case atStart => exact ⟨0, Nat.zero_le _, rfl, rfl, HO, hB0⟩
  case round =>
    obtain ⟨k, hk, rfl, Hg, HB, hbl⟩ := hrel
    clear HO hB0
    by_cases hlt : k < l.length
    · obtain ⟨bb, off, rfl, hbb, c0, c1, c2, c3, c4⟩ := cellsC (h.below hbl) hlt
      have hs := all_take_succ goodC l k hlt
      have hf := all_false_of goodC l k hlt
      generalize l[k] = b at *
      cases hgb : goodC b with
      | true =>
        have Hg2 := Lib.hid (show (l.take (k + 1)).all goodC = true by rw [hs, Hg.out, hgb]; rfl)
        clear hs hf
        go_wp2_with fail
        refine (l12Good_any b _).mono ?_
        rintro e w1 ⟨rfl, hb1⟩
        rw [hgb]
        have HB1 := Lib.hid (HB.out.after hb1)
        clear c0 c1 c2 c3 c4
        go_wp2
        go_roundw
        case rel => exact ⟨k + 1, by omega, by go_num, Hg2.out, HB1.out, hbl.trans (hb1.mono hbl.size)⟩
        case measure => simp [intOf]; omega
      | false =>
        have Hz := Lib.hid (ho_bad (l := l) (o := o) (by simp only [okHO, hf hgb]; simp))
        clear hs hf
        go_wp2_with fail
        refine (l12Good_any b _).mono ?_
        rintro e w1 ⟨rfl, hb1⟩
        rw [hgb]
        clear c0 c1 c2 c3 c4
        go_wp2
        go_ret2
        rw [Hz.out.1, Hz.out.2]
        exact ⟨rfl, hbl.trans (hb1.mono hbl.size)⟩
    · have hal : l.all goodC = true := by have := Hg.out; rwa [List.take_of_length_le (by omega)] at this
      obtain rfl : k = l.length := by omega
      clear Hg
      obtain ⟨o0, o1, o2⟩ := box3 HB.out
      cases hgo : goodO o with
      | false =>
        have Hz := Lib.hid (ho_bad (l := l) (o := o) (by simp only [okHO, hgo]; simp))
        clear hal
        go_wp2_with (go_at_call 69; refine (l10Origin_any o _).mono ?_; rintro e w2 ⟨rfl, hb2⟩; rw [hgo])
        go_ret2
        rw [Hz.out.1, Hz.out.2]
        exact ⟨rfl, hbl.trans (hb2.mono hbl.size)⟩
      | true =>
        by_cases hle : l.length ≤ 64
        rotate_left
        · have hngt : (64 : Int) < (l.length : Int) := by omega
          have Hz := Lib.hid (ho_bad (l := l) (o := o) (by simp only [okHO, decide_eq_false hle]; simp))
          clear hal hle
          go_wp2_with (go_at_call 69; refine (l10Origin_any o _).mono ?_; rintro e w2 ⟨rfl, hb2⟩; rw [hgo])
          go_ret2
          rw [Hz.out.1, Hz.out.2]
          exact ⟨rfl, hbl.trans (hb2.mono hbl.size)⟩
        have hok : okHO l o = true := by simp only [okHO, hal, hgo]; simp [hle]
        have hngt : ¬ (64 : Int) < (l.length : Int) := by omega
        go_wp2_with (go_at_call 69; refine (l10Origin_any o _).mono ?_; rintro e w2 ⟨rfl, hb2⟩; rw [hgo]; have HOz := Lib.hid (HB.out.after hb2); have hBz := hbl.trans (hb2.mono hbl.size))
        clear o0 o1 o2 HB hbl hb2
        go_loopw [7] (fun i wr => ∃ k : Nat, k ≤ l.length ∧ i = .int .i64 k ∧ Hid ((l.take k).any (fun b => holdV b o) = false) ∧ Hid (Blk wr w.heap.size 39 #[.int .i64 o.x, .int .i64 o.y, .int .i64 o.tick]) ∧ Below w.heap.size w wr) (fun i _ => l.length - (intOf i).toNat)
        case atStart => exact ⟨0, Nat.zero_le _, rfl, rfl, HOz, hBz⟩
        case round =>
          obtain ⟨k, hk, rfl, Hq, HB, hbl⟩ := hrel
          have Hm := Lib.hid (@ho_miss l o)
          by_cases hlt : k < l.length
          · obtain ⟨bb, off, rfl, hbb, c0, c1, c2, c3, c4⟩ := cellsC (h.below hbl) hlt
            have hgk : goodC l[k] = true := by rw [List.all_eq_true] at hal; exact hal _ (List.getElem_mem hlt)
            have Hh := Lib.hid (fun hv => ho_hit (k := k) hok hlt hv Hq.out)
            have Hn := Lib.hid (fun (hv : holdV l[k] o = false) => (show (l.take (k + 1)).any (fun b => holdV b o) = false by rw [any_take_succ _ l k hlt, Hq.out, hv]; rfl))
            generalize l[k] = b at *
            clear hal hok
            obtain ⟨o0, o1, o2⟩ := box3 HB.out
            have k0 := cell_regrown c0
            have k1 := cell_regrown c1
            have k2 := cell_regrown c2
            have k3 := cell_regrown c3
            have k4 := cell_regrown c4
            have m0 := cell_regrown o0
            have m1 := cell_regrown o1
            have m2 := cell_regrown o2
            cases hv : holdV b o with
            | true =>
              have Hhh := Lib.hid (Hh.out hv)
              have cV : ∀ d os, Calls Try.prog 87 #[.agg #[.int .i64 b.west, .int .i64 b.south, .int .i64 b.side, .int .i64 b.from_, .int .i64 b.to_], .agg #[.int .i64 o.x, .int .i64 o.y, .int .i64 o.tick]] (Go.Sort.grow (redrawn wr d) os) fun e w'' => e = .returned (.bool true) ∧ ∃ p : Regrown, w'' = Go.Sort.grow (redrawn wr p.d) p.os := fun d os => by (have q := l12In_any b o (Go.Sort.grow (redrawn wr d) os) hgk); rw [hv] at q; exact Calls.regrown_of q
              clear c0 c1 c2 c3 c4 o0 o1 o2
              go_wp2_with fail
              refine wp_region_quiet_below (by kernel_rfl) (by kernel_rfl) ?_
              repeat (go_big_quiet_step ((exact cV _ _)))
              refine wpQuiet_nil ?_
              intro _ hw'
              obtain ⟨⟨dq, osq⟩, hw''⟩ := hw'
              subst hw''
              have hBq := hbl.trans ((below_regrown wr dq osq).mono hbl.size)
              generalize Go.Sort.grow (redrawn wr dq) osq = wq at hBq ⊢
              go_wp2
              go_ret2
              rw [Hhh.out.1, Hhh.out.2]
              exact ⟨rfl, hBq⟩
            | false =>
              have Hnn := Lib.hid (Hn.out hv)
              have cV : ∀ d os, Calls Try.prog 87 #[.agg #[.int .i64 b.west, .int .i64 b.south, .int .i64 b.side, .int .i64 b.from_, .int .i64 b.to_], .agg #[.int .i64 o.x, .int .i64 o.y, .int .i64 o.tick]] (Go.Sort.grow (redrawn wr d) os) fun e w'' => e = .returned (.bool false) ∧ ∃ p : Regrown, w'' = Go.Sort.grow (redrawn wr p.d) p.os := fun d os => by (have q := l12In_any b o (Go.Sort.grow (redrawn wr d) os) hgk); rw [hv] at q; exact Calls.regrown_of q
              clear c0 c1 c2 c3 c4 o0 o1 o2
              go_wp2_with fail
              refine wp_region_quiet_below (by kernel_rfl) (by kernel_rfl) ?_
              repeat (go_big_quiet_step ((exact cV _ _)))
              refine wpQuiet_nil ?_
              intro _ hw'
              obtain ⟨⟨dq, osq⟩, hw''⟩ := hw'
              subst hw''
              have hBq := hbl.trans ((below_regrown wr dq osq).mono hbl.size)
              have HBq := Lib.hid (HB.out.after (below_regrown wr dq osq))
              generalize Go.Sort.grow (redrawn wr dq) osq = wq at hBq HBq ⊢
              go_wp2
              go_roundw
              case rel => exact ⟨k + 1, by omega, by go_num, Hnn.out, HBq.out, hBq⟩
              case measure => simp [intOf]; omega
          · have Hmm := Lib.hid (Hm.out (by have := Hq.out; rwa [List.take_of_length_le (by omega)] at this))
            obtain rfl : k = l.length := by omega
            clear hal hok
            go_wp2
            go_ret2
            rw [Hmm.out.1, Hmm.out.2]
            exact ⟨rfl, hbl⟩

end Go.Proofs.Ytdadcbcanjmoeaa
