/-
  The contract of differ at picks: no key stands twice. Walked over a map that the call makes.
-/
import Derived.Test.YtiakaglgfboepaaPickPure
import Derived.Maps.OwnOps
import Derived.Maps.Views
import Derived.WalkSpells
namespace Go.Proofs.Ytiakaglgfboepaa
set_option linter.unusedVariables false
open Go.RowKit

theorem plainElem_bool_inv {H : Type} {P : Program} {e : TypeId} (he : P.underlying e = some .bool) {v : Value} {z : DataW H × List MemPlace} (h : plainElem P e v = some z) : ∃ a, v = .bool a ∧ z = (.lit (.bool a), []) := by
  unfold plainElem at h
  rw [he] at h
  cases v <;> simp at h
  subst h
  exact ⟨_, rfl, rfl⟩

theorem wpList_lookup_own_bool {H : Type} {P : Program} (w : World) {ops : Array Oper} {rest : List Oper} {o : Oper} {a : Act} {Q : Exit → Act → World → Prop}
    (hg : o.guard = none) (m x : Operand) (t : TypeId) (hop : o.op = Op.lookup t m x false)
    (k e : TypeId) (K : Go.Maps.Keyed P k) (ht : P.underlying t = some (.map k e)) (he : P.underlying e = some .bool) (hz : (zeroValue e).run P w = .ok (.bool false) w) (b n : Nat) (D : DataW H)
    (hm : a.eval m = .map (some b)) (hown : w.ownsMap P k (plainElem P e) b n D) (key : Value) (kl : Lit) (hx : a.eval x = key) (hkey : keyOf P k key = some kl) (r : Bool) (hr : D.atKey kl (.lit (.bool false)) = .lit (.bool r))
    (hK : wpList P ops Q rest (a.put o.dst (.bool r)) w) :
    wpList P ops Q (o :: rest) a w := by
  refine wpList_plain hg fun K' hK' => ?_
  obtain ⟨v, ps, hrun, hv⟩ := hown.lookup K ht hz (plainElem_bool he false) hkey
  obtain ⟨c, rfl, hc⟩ := plainElem_bool_inv he hv
  simp only [Prod.mk.injEq] at hc
  have : c = r := by
    have := hc.1.symm.trans hr
    injection this with this
    injection this
  subst this
  unfold Oper.wp
  simp [execOp, hop, hm, hx, hrun, Result.andThen]
  exact hK' _ _ hK

/-- The map that holds some keys. -/
def mapR : List Int → DataW Unit
  | [] => .map []
  | a :: t => (mapR t).put (.int .i64 a) (.lit (.bool true))
def mapOf (ks : List Int) : DataW Unit := mapR ks.reverse
theorem mapOf_snoc (ks : List Int) (a : Int) : mapOf (ks ++ [a]) = (mapOf ks).put (.int .i64 a) (.lit (.bool true)) := by unfold mapOf; rw [List.reverse_append]; rfl
theorem mapR_isMap : ∀ ks : List Int, Go.Maps.IsMap (mapR ks)
  | [] => Go.Maps.isMap_empty
  | a :: t => (mapR_isMap t).put _ _
theorem mapR_at (a : Int) : ∀ ks : List Int, (mapR ks).atKey (.int .i64 a) (.lit (.bool false)) = .lit (.bool (ks.any (· == a)))
  | [] => rfl
  | b :: t => by
    by_cases h : b = a
    · subst h
      rw [mapR, Go.Maps.atKey_put_same (mapR_isMap t) (show WideAt.IsKeyLit (.int .i64 b) from trivial)]
      simp
    · rw [mapR, Go.Maps.atKey_put_other (by intro e; injection e with _ e; exact h e.symm), mapR_at a t]
      simp [h]
theorem mapOf_at (a : Int) (ks : List Int) : (mapOf ks).atKey (.int .i64 a) (.lit (.bool false)) = .lit (.bool (ks.any (· == a))) := by
  unfold mapOf
  rw [mapR_at, List.any_reverse]

theorem zeroB (w : World) : (zeroValue 4).run Try.prog w = .ok (.bool false) w := by kernel_rfl

/-- What is asked of a key that is handed on. -/
def KeyP' (g : Nat) (lb : Array Value) (l : List Pick) (key : Pick → Int) (w : World) : Prop :=
  ∀ (W : World) (x : Pick), x ∈ l → Calls Try.prog g (#[.agg #[.int .i64 x.id, .int .i64 x.station, .int .i64 x.wave, .int .i64 x.tick, .int .i64 x.err, .int .i64 x.by_, .int .i64 x.after_]] ++ lb) W fun e w' => e = .returned (.int .i64 (key x)) ∧ Below W.heap.size W w'

theorem difB_zero : difB [] = true := by simp [difB]
theorem difB_take_snoc (ks : List Int) (k : Nat) (hk : k < ks.length) : difB (ks.take (k + 1)) = (difB (ks.take k) && !(ks.take k).any (· == ks[k])) := by
  rw [List.take_succ_eq_append_getElem hk, difB_snoc]
theorem difB_of_take (ks : List Int) (k : Nat) (h : difB (ks.take k) = false) : difB ks = false := by
  unfold difB at *
  rw [List.all_eq_false] at h ⊢
  obtain ⟨j, hj, hf⟩ := h
  have hj' : j < (ks.take k).length := by simpa using hj
  have hj2 : j < ks.length ∧ j < k := by simp at hj'; omega
  refine ⟨j, by simpa using hj2.1, ?_⟩
  rw [List.getElem?_take, if_pos hj2.2, List.take_take, Nat.min_eq_left (by omega)] at hf
  exact hf

set_option maxRecDepth 100000 in
set_option maxHeartbeats 1000000 in
theorem differ_any (g : Nat) (lb : Array Value) (eg : Enters Try.prog g) (A : Option Addr) (c : Nat) (l : List Pick) (key : Pick → Int) (w : World) (h : Rd encP 7 w w.heap.size A l) (hl : l.length ≤ 1048576) (hp : KeyP' g lb l key w) (hwf : ∀ x ∈ l, (Lit.int .i64 (key x)).wf = true) :
    Calls Try.prog 70 #[.slice A l.length c, .func (.func g) #[] lb] w fun e w' => e = .returned (.bool (difB (l.map key))) ∧ Below w.heap.size w w' := by
  have eg' : ∀ args w, (callFunc g args).run Try.prog w = .ok (.enter g args) w := eg
  have hmm := @run_makeMap Try.prog
  have Hp := Lib.hid hp
  have Hwf := Lib.hid hwf
  clear hp hwf
  go_enter Try.func70, Try.ntmps70
  go_wp2
  go_loopw [11] (fun i wr => ∃ k : Nat, k ≤ l.length ∧ i = .int .i64 k ∧ Hid (difB ((l.map key).take k) = true) ∧ Hid (wr.ownsMap Try.prog 3 (plainElem Try.prog 4) w.heap.size k (mapOf ((l.map key).take k))) ∧ Below w.heap.size w wr) (fun i _ => l.length - (intOf i).toNat)
  case atStart => exact ⟨0, Nat.zero_le _, rfl, difB_zero, World.ownsMap_made _ _ _ _, (Below.refl _ _).alloc (Nat.le_refl _) _⟩
  case round =>
    obtain ⟨k, hk, rfl, Hd, Hm, hbl⟩ := hrel
    by_cases hlt : k < l.length
    · obtain ⟨b, off, rfl, hb, c0, c1, c2, c3, c4, c5, c6⟩ := cellsP (h.below hbl) hlt
      have hkl : k < (l.map key).length := by simpa using hlt
      have hcall := fun W => Hp.out W l[k] (List.getElem_mem hlt)
      have hkw := Hwf.out _ (List.getElem_mem hlt)
      have hdt := difB_take_snoc (l.map key) k hkl
      have hof := difB_of_take (l.map key) (k + 1)
      have hsn : (l.map key).take (k + 1) = (l.map key).take k ++ [(l.map key)[k]] := List.take_succ_eq_append_getElem hkl
      have hkx : (l.map key)[k] = key l[k] := by simp
      rw [hkx] at hdt hsn
      have hat := mapOf_at (key l[k]) ((l.map key).take k)
      rw [Hd.out, Bool.true_and] at hdt
      generalize (l.map key).take k = ks at *
      obtain ⟨ks1, hks1⟩ : ∃ q, (l.map key).take (k + 1) = q := ⟨_, rfl⟩
      rw [hks1] at hdt hof hsn
      have Hks1 := Lib.hid hks1
      obtain ⟨r, hr⟩ : ∃ r, difB (l.map key) = r := ⟨_, rfl⟩
      rw [hr] at hof
      have Hr := Lib.hid hr
      clear hks1 hr hkx hkl
      generalize l[k] = x at *
      generalize key x = a at *
      have Hcall := Lib.hid hcall
      have Hat := Lib.hid hat
      have Hsn := Lib.hid hsn
      have HX0 := Lib.hid (Blk.new wr 25 #[.int .i64 x.id, .int .i64 x.station, .int .i64 x.wave, .int .i64 x.tick, .int .i64 x.err, .int .i64 x.by_, .int .i64 x.after_])
      have hblA := hbl.alloc hbl.size (.cells #[.int .i64 x.id, .int .i64 x.station, .int .i64 x.wave, .int .i64 x.tick, .int .i64 x.err, .int .i64 x.by_, .int .i64 x.after_] 25)
      have HmA := Lib.hid (Hm.out.alloc (.cells #[.int .i64 x.id, .int .i64 x.station, .int .i64 x.wave, .int .i64 x.tick, .int .i64 x.err, .int .i64 x.by_, .int .i64 x.after_] 25))
      have Hkw := Lib.hid hkw
      clear hcall hat hsn hkw
      cases hv : ks.any (· == a) with
      | true =>
        rw [hv] at Hat hdt
        have H1 := Lib.hid (hof hdt)
        clear hv hdt hof
        go_wp2_with fail
        refine (Hcall.out _).mono ?_
        rintro e w1 ⟨rfl, hb1⟩
        have Hm1 := Lib.hid (HmA.out.kept (only_of_below hb1 none) (by simp))
        have hB1 := hblA.trans (hb1.mono hblA.size)
        clear c0 c1 c2 c3 c4 c5 c6
        go_wp2_with (at_lookup; refine wpList_lookup_own_bool _ rfl _ _ 90 rfl 3 4 (Go.Maps.int_keyed Try.underlying3) Try.underlying90 Try.underlying4 (zeroB _) w.heap.size k _ rfl Hm1.out _ _ rfl (Go.Maps.keyOf_int_mk Try.underlying3 Hkw.out) true Hat.out ?_)
        go_ret
        exact ⟨ret_bool (by rw [Hr.out, H1.out]), hB1⟩
      | false =>
        rw [hv] at Hat hdt
        have H1 := Lib.hid hdt
        clear hv hdt hof
        go_wp2_with fail
        refine (Hcall.out _).mono ?_
        rintro e w1 ⟨rfl, hb1⟩
        have Hm1 := Lib.hid (HmA.out.kept (only_of_below hb1 none) (by simp))
        have hB1 := hblA.trans (hb1.mono hblA.size)
        obtain ⟨x0, x1, x2, x3, x4, x5, x6⟩ := box7 (HX0.out.after hb1)
        clear c0 c1 c2 c3 c4 c5 c6
        go_wp2_with (at_lookup; refine wpList_lookup_own_bool _ rfl _ _ 90 rfl 3 4 (Go.Maps.int_keyed Try.underlying3) Try.underlying90 Try.underlying4 (zeroB _) w.heap.size k _ rfl Hm1.out _ _ rfl (Go.Maps.keyOf_int_mk Try.underlying3 Hkw.out) false Hat.out ?_)
        refine (Hcall.out _).mono ?_
        rintro e w2 ⟨rfl, hb2⟩
        have Hm2 := Lib.hid (Hm1.out.kept (only_of_below hb2 none) (by simp))
        have hB2 := hB1.trans (hb2.mono hB1.size)
        have hs2 := hB2.size
        clear x0 x1 x2 x3 x4 x5 x6
        go_wp2_with (at_mapUpdate; refine wpList_mapUpdate_own _ rfl _ _ _ 90 rfl 3 4 (Go.Maps.int_keyed Try.underlying3) Try.underlying90 _ w.heap.size k _ rfl Hm2.out (by unfold maxLen; omega) _ _ _ rfl rfl (Go.Maps.keyOf_int_mk Try.underlying3 Hkw.out) _ [] (plainElem_bool Try.underlying4 true) ?_; intro w3 hown3 hg3)
        have Hown3 := Lib.hid hown3
        have hB3 := hB2.trans (only_below hg3 (Nat.le_refl _) (by omega))
        clear hown3 hg3
        go_wp2
        go_roundw
        case rel => exact ⟨k + 1, by omega, by go_num, by rw [Hks1.out]; exact H1.out, by rw [Hks1.out, Hsn.out, mapOf_snoc]; exact Hown3.out, hB3⟩
        case measure => simp [intOf]; omega
    · have he := Hd.out
      rw [List.take_of_length_le (by simp; omega)] at he
      have He := Lib.hid he
      clear he
      go_wp2
      go_ret
      exact ⟨ret_bool (by rw [He.out]), hbl⟩

end Go.Proofs.Ytiakaglgfboepaa
