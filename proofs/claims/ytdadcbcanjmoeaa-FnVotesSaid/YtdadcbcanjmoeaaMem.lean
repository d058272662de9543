/-
  Words for memory: a slice of structs (or of ints) that reads as a list; a block known whole; an owned row that reads as a list; plain lemmas, of no program.
-/
import Derived.WalkKit
import Derived.Lib.Hide
import Derived.Laws.OwnMore
import Derived.Laws.MakeOwn
import Derived.Laws.Rows
import Derived.Deep.Draws
import Derived.Shelf.Abstract
import Derived.Deep.QuietTactic
namespace Go.Proofs.Ytdadcbcanjmoeaa
set_option linter.unusedVariables false
open Go.RowKit

/-- The slice of base address A reads as the list l (each element k cells, written out by enc), all below block B. -/
def Rd {α : Type} (enc : α → List Value) (k : Nat) (w : World) (B : Nat) (A : Option Addr) (l : List α) : Prop :=
  l ≠ [] → ∃ b off, A = some ⟨b, off, none⟩ ∧ b < B ∧ ∀ j x, l[j]? = some x → ∀ i v, (enc x)[i]? = some v → w.cell? ⟨b, off + j * k + i, none⟩ = some v

section
variable {α : Type} {enc : α → List Value} {k : Nat} {w w' : World} {B B' : Nat} {A : Option Addr} {l : List α}
theorem Rd.keep (h : Rd enc k w B A l) (hk : ∀ p : Addr, p.block < B → w'.cell? p = w.cell? p) : Rd enc k w' B A l := fun hne => by
  obtain ⟨b, off, e, hb, hc⟩ := h hne
  exact ⟨b, off, e, hb, fun j x hx i v hv => (hk _ hb).trans (hc j x hx i v hv)⟩
theorem Rd.more (h : Rd enc k w B A l) (hB : B ≤ B') : Rd enc k w B' A l := fun hne => by
  obtain ⟨b, off, e, hb, hc⟩ := h hne
  exact ⟨b, off, e, by omega, hc⟩
theorem Rd.below (h : Rd enc k w B A l) (hb : Below B w w') : Rd enc k w' B A l := h.keep fun _ hp => hb.cell hp
/-- The usual step: what was read ahead of a call is read behind it. -/
theorem Rd.after (h : Rd enc k w w.heap.size A l) (hb : Below w.heap.size w w') : Rd enc k w' w'.heap.size A l := (h.below hb).more hb.size
theorem Rd.at_ (h : Rd enc k w B A l) {j : Nat} {x : α} (hj : l[j]? = some x) :
    ∃ b off, A = some ⟨b, off, none⟩ ∧ b < B ∧ ∀ i v, (enc x)[i]? = some v → w.cell? ⟨b, off + j * k + i, none⟩ = some v := by
  have hne : l ≠ [] := by rintro rfl; simp at hj
  obtain ⟨b, off, e, hb, hc⟩ := h hne
  exact ⟨b, off, e, hb, fun i v hv => hc j x hj i v hv⟩
theorem Rd.nil_ : Rd enc k w B A [] := fun h => absurd rfl h
theorem Rd.take (h : Rd enc k w B A l) (n : Nat) : Rd enc k w B A (l.take n) := fun hne => by
  have hne' : l ≠ [] := by rintro rfl; simp at hne
  obtain ⟨b, off, e, hb, hc⟩ := h hne'
  refine ⟨b, off, e, hb, fun j x hx i v hv => hc j x ?_ i v hv⟩
  rw [List.getElem?_take] at hx
  split at hx
  · exact hx
  · cases hx
theorem Rd.drop {b off : Nat} (h : Rd enc k w B (some ⟨b, off, none⟩) l) (n : Nat) : Rd enc k w B (some ⟨b, off + n * k, none⟩) (l.drop n) := fun hne => by
  have hne' : l ≠ [] := by rintro rfl; simp at hne
  obtain ⟨b', off', e, hb, hc⟩ := h hne'
  injection e with e
  injection e with e1 e2
  subst e1 e2
  refine ⟨b, off + n * k, rfl, hb, fun j x hx i v hv => ?_⟩
  rw [List.getElem?_drop] at hx
  have := hc (n + j) x hx i v hv
  rw [Nat.add_mul] at this
  rw [show off + n * k + j * k + i = off + (n * k + j * k) + i by omega]
  exact this
theorem Rd.alloc (h : Rd enc k w B A l) (hB : B ≤ w.heap.size) (o : Obj) : Rd enc k (w.alloc o) B A l := h.keep fun p hp => World.cell?_alloc_lt w o p (by omega)
theorem Rd.drew (h : Rd enc k w w.heap.size A l) : Rd enc k w.drew w.drew.heap.size A l := h
theorem Rd.drewN (h : Rd enc k w B A l) (n : Nat) : Rd enc k (w.drewN n) B A l := h
end

theorem below_drewN {B : Nat} {a w : World} (h : Below B a w) (n : Nat) : Below B a (w.drewN n) := ⟨h.os, h.tape, h.output, h.size, h.block⟩
theorem below_of_drew {w w' : World} {B : Nat} (h : ∃ n, w' = w.drewN n) : Below B w w' := by obtain ⟨n, rfl⟩ := h; exact below_drewN (Below.refl _ _) n

theorem same_below {P : Program} {f : FuncId} {a : Array Value} {w : World} {p : Ending → Prop} (h : Calls P f a w fun e w' => p e ∧ w = w') : Calls P f a w fun e w' => p e ∧ Below w.heap.size w w' :=
  h.mono fun _ _ ⟨a, b⟩ => ⟨a, b ▸ Below.refl _ _⟩
theorem drew_below {P : Program} {f : FuncId} {a : Array Value} {w : World} {p : Ending → Prop} (h : Calls P f a w fun e w' => p e ∧ ∃ n, w' = w.drewN n) : Calls P f a w fun e w' => p e ∧ Below w.heap.size w w' :=
  h.mono fun _ _ ⟨a, b⟩ => ⟨a, below_of_drew b⟩

theorem quiet_left {P : Program} {f : FuncId} {args : Array Value} {w : World} {n : Nat} {v : Value}
    (h : Calls P f args (w.drewN n) fun e w' => e = .returned v ∧ w.drewN n = w') : Calls P f args (w.drewN n) fun e w'' => e = .returned v ∧ ∃ m, w'' = w.drewN m :=
  h.mono fun _ _ ⟨he, hm⟩ => ⟨he, n, hm.symm⟩

theorem ret_int {k : IntKind} {a b : Int} (h : a = b) : Ending.returned (.int k a) = .returned (.int k b) := by rw [h]
theorem ret_bool {a b : Bool} (h : a = b) : Ending.returned (.bool a) = .returned (.bool b) := by rw [h]

/-- What is left of a bound on sizes. -/
def szRes (left : Int) (n : Nat) : Int := if left - n < 0 then -1 else left - n

/-- Block g is just the cells cs of element type t, none frozen. -/
def Blk (w : World) (g : Nat) (t : TypeId) (cs : Array Value) : Prop := w.heap[g]? = some (.cells cs t (0, 0))

section
variable {w w' : World} {g : Nat} {t : TypeId} {cs : Array Value}
theorem Blk.lt (h : Blk w g t cs) : g < w.heap.size := by
  rcases Nat.lt_or_ge g w.heap.size with hlt | hge
  · exact hlt
  · unfold Blk at h; rw [Array.getElem?_eq_none hge] at h; cases h
theorem Blk.cell (h : Blk w g t cs) (i : Nat) : w.cell? ⟨g, i, none⟩ = cs[i]? := cell_of_row w g i cs t (0, 0) h
theorem Blk.frozen (h : Blk w g t cs) (i : Nat) : w.frozen? ⟨g, i, none⟩ = false := by
  unfold Blk at h
  simp [World.frozen?, h]
theorem Blk.new (w : World) (t : TypeId) (cs : Array Value) : Blk (w.alloc (.cells cs t)) w.heap.size t cs := heap_alloc_new w _
theorem Blk.drew (h : Blk w g t cs) : Blk w.drew g t cs := h
theorem Blk.drewN (h : Blk w g t cs) (n : Nat) : Blk (w.drewN n) g t cs := h
theorem Blk.alloc (h : Blk w g t cs) (o : Obj) : Blk (w.alloc o) g t cs := (Below.heap_alloc w o g h.lt).trans h
theorem Blk.set_ (h : Blk w g t cs) (i : Nat) (u : Value) : Blk (w.setCell ⟨g, i, none⟩ u) g t (cs.setIfInBounds i u) := by
  unfold Blk at h ⊢
  simp [World.setCell, Array.getElem?_modify, h]
theorem Blk.far (h : Blk w g t cs) {p : Addr} (hp : g ≠ p.block) (u : Value) : Blk (w.setCell p u) g t cs := (Below.heap_setCell w p u g hp).trans h
theorem Blk.below {B : Nat} (h : Blk w g t cs) (hb : Below B w w') (hg : g < B) : Blk w' g t cs := (hb.block g hg).trans h
theorem Blk.after (h : Blk w g t cs) (hb : Below w.heap.size w w') : Blk w' g t cs := h.below hb h.lt
theorem Blk.only {g' : Nat} {t' : TypeId} {cs' : Array Value} (h : Blk w g t cs) (hb : w.grownBy w' (some g')) (hg : Blk w g' t' cs') (hne : t ≠ t') : Blk w' g t cs := by
  refine (hb.block g h.lt ?_).trans h
  intro e
  injection e with e
  subst e
  unfold Blk at h hg
  rw [h] at hg
  injection hg with hg
  injection hg with _ ht
  exact hne ht
theorem Blk.grown {row : Option Nat} (h : Blk w g t cs) (hb : w.grownBy w' row) (hg : some g ≠ row) : Blk w' g t cs := (hb.block g h.lt hg).trans h
end

theorem only_refl (a : World) (row : Option Nat) : a.grownBy a row := ⟨rfl, rfl, rfl, Nat.le_refl _, fun _ _ _ => rfl⟩
theorem only_drewN {a w : World} {row : Option Nat} (h : a.grownBy w row) (n : Nat) : a.grownBy (w.drewN n) row := ⟨h.os, h.tape, h.output, h.size, h.block⟩
theorem only_alloc {a w : World} {row : Option Nat} (h : a.grownBy w row) (o : Obj) : a.grownBy (w.alloc o) row :=
  ⟨h.os, h.tape, h.output, Nat.le_trans h.size (by simp), fun i hi hne => (Below.heap_alloc w o i (Nat.lt_of_lt_of_le hi h.size)).trans (h.block i hi hne)⟩
theorem only_setCell {a w : World} {g : Nat} (h : a.grownBy w (some g)) {p : Addr} (hp : p.block = g ∨ a.heap.size ≤ p.block) (u : Value) : a.grownBy (w.setCell p u) (some g) :=
  ⟨h.os, h.tape, h.output, by simpa [World.setCell] using h.size, fun i hi hne => (Below.heap_setCell w p u i (by
    rintro rfl
    rcases hp with hp | hp
    · exact hne (by rw [hp])
    · omega)).trans (h.block i hi hne)⟩
theorem only_of_below {a w : World} (h : Below a.heap.size a w) (row : Option Nat) : a.grownBy w row := ⟨h.os, h.tape, h.output, h.size, fun i hi _ => h.block i hi⟩
theorem only_trans {a b c : World} {row : Option Nat} (h : a.grownBy b row) (k : b.grownBy c row) : a.grownBy c row :=
  ⟨k.os.trans h.os, k.tape.trans h.tape, k.output.trans h.output, Nat.le_trans h.size k.size, fun i hi hne => (k.block i (Nat.lt_of_lt_of_le hi h.size) hne).trans (h.block i hi hne)⟩
/-- Where the one block that has turned is a new one, all that lay below stands. -/
theorem only_below {a w : World} {B g : Nat} (h : a.grownBy w (some g)) (hB : B ≤ g) (hs : B ≤ a.heap.size) : Below B a w :=
  ⟨h.os, h.tape, h.output, h.size, fun i hi => h.block i (by omega) (by intro e; injection e; omega)⟩

theorem run_make_rowN {P : Program} (t e : TypeId) (i : TypeInfo) (z : Value) (ht : P.underlying t = some (.slice e)) (hi : P.info? e = some i) (hz : i.zero = some z)
    (kl kc : IntKind) (n c : Nat) (hnc : n ≤ c) (hbytes : i.bytes * c ≤ 281474976710656) (h63 : c ≤ 9223372036854775807) (w : World) :
    (Instr.makeSlice t (.int kl (n : Int)) (.int kc (c : Int))).run P w = .ok (.slice (some ⟨w.heap.size, 0, none⟩) n c) (w.alloc (.cells (madeCells z.cells (c * i.size)) e)) := by
  have hb : (i.bytes : Int) * (c : Int) ≤ 281474976710656 := by
    have h : ((i.bytes * c : Nat) : Int) ≤ 281474976710656 := by omega
    rwa [Int.natCast_mul] at h
  have hr := run_make (P := P) w t e i z ht hi hz kl kc n c (by omega) (by omega) hb (by omega)
  simp only [Int.toNat_natCast] at hr
  exact hr

/-- The cells of a list. -/
def flat {α : Type} (enc : α → List Value) (l : List α) : List Value := l.flatMap enc

theorem flat_length {α : Type} {enc : α → List Value} {k : Nat} (hk : ∀ x, (enc x).length = k) (l : List α) : (flat enc l).length = l.length * k := by
  induction l with
  | nil => simp [flat]
  | cons a l ih =>
    simp only [flat, List.flatMap_cons, List.length_append, List.length_cons, hk] at ih ⊢
    rw [ih, Nat.add_mul]; omega

theorem flat_get {α : Type} {enc : α → List Value} {k : Nat} (hk : ∀ x, (enc x).length = k) (l : List α) (j : Nat) (x : α) (hx : l[j]? = some x) (i : Nat) (hi : i < k) : (flat enc l)[j * k + i]? = (enc x)[i]? := by
  induction l generalizing j with
  | nil => simp at hx
  | cons a l ih =>
    cases j with
    | zero =>
      simp at hx; subst hx
      simp only [flat, List.flatMap_cons, Nat.zero_mul, Nat.zero_add]
      rw [List.getElem?_append_left (by rw [hk]; exact hi)]
    | succ j =>
      simp at hx
      simp only [flat, List.flatMap_cons]
      rw [List.getElem?_append_right (by rw [hk, Nat.add_mul]; omega), hk]
      have := ih j hx
      simp only [flat] at this
      rw [show (j + 1) * k + i - k = j * k + i by rw [Nat.add_mul]; omega]
      exact this

/-- The value v owns the list l, in blocks from base on. -/
def Own {α : Type} (enc : α → List Value) (k : Nat) (w : World) (base : Nat) (E : TypeId) (v : Value) (l : List α) : Prop :=
  w.ownsRow base E k v l.length (flat enc l)

section
variable {α : Type} {enc : α → List Value} {k : Nat} {w w' : World} {base : Nat} {E : TypeId} {v : Value} {l : List α}
theorem Own.form (hk : ∀ x, (enc x).length = k) (h : Own enc k w base E v l) : ∃ A c, v = .slice A l.length c ∧ (l.length ≤ c ∧ c ≤ maxLen) ∧ Rd enc k w w.heap.size A l := by
  obtain ⟨h1, h2⟩ := h
  rcases h2 with ⟨rfl, hn⟩ | ⟨g, cap, cur, rfl, hb, hh, hnc, hcm, hcs, htk⟩
  · have hl : l = [] := List.eq_nil_of_length_eq_zero hn
    subst hl
    exact ⟨none, 0, rfl, ⟨Nat.le_refl _, Nat.zero_le _⟩, Rd.nil_⟩
  · refine ⟨some ⟨g, 0, none⟩, cap, rfl, ⟨hnc, hcm⟩, fun hne => ⟨g, 0, rfl, (Array.getElem?_eq_some_iff.1 hh).1, fun j x hx i u hu => ?_⟩⟩
    have hi : i < k := by
      have := (List.getElem?_eq_some_iff.1 hu).1
      rwa [hk] at this
    have hj : j < l.length := (List.getElem?_eq_some_iff.1 hx).1
    have hf := flat_get hk l j x hx i hi
    rw [hu] at hf
    rw [← htk] at hf
    rw [List.getElem?_take] at hf
    split at hf
    · rw [cell_of_row w g _ cur E (0, 0) hh]
      simpa using hf
    · cases hf
theorem Own.keep (h : Own enc k w base E v l) (hb : Below w.heap.size w w') : Own enc k w' base E v l := by
  obtain ⟨h1, h2⟩ := h
  refine ⟨h1, ?_⟩
  rcases h2 with h2 | ⟨g, cap, cur, rfl, hb', hh, r⟩
  · exact .inl h2
  · exact .inr ⟨g, cap, cur, rfl, hb', (hb.block g (Array.getElem?_eq_some_iff.1 hh).1).trans hh, r⟩
theorem Own.only {g : Nat} {T : TypeId} {cs : Array Value} (h : Own enc k w base E v l) (hb : w.grownBy w' (some g)) (hg : Blk w g T cs) (hne : E ≠ T) : Own enc k w' base E v l := by
  obtain ⟨h1, h2⟩ := h
  refine ⟨h1, ?_⟩
  rcases h2 with h2 | ⟨g', cap, cur, rfl, hb', hh, r⟩
  · exact .inl h2
  · refine .inr ⟨g', cap, cur, rfl, hb', (hb.block g' (Array.getElem?_eq_some_iff.1 hh).1 ?_).trans hh, r⟩
    intro e
    injection e with e
    subst e
    unfold Blk at hg
    rw [hh] at hg
    injection hg with hg
    injection hg with _ ht
    exact hne ht
theorem Own.of_blk (hk : ∀ x, (enc x).length = k) {g : Nat} {cs : Array Value} (hb : base ≤ g) (hB : Blk w g E cs) (hs : cs.size = l.length * k) (hm : l.length ≤ maxLen)
    (hc : ∀ j x, l[j]? = some x → ∀ i v, (enc x)[i]? = some v → cs[j * k + i]? = some v) : Own enc k w base E (.slice (some ⟨g, 0, none⟩) l.length l.length) l := by
  refine ⟨flat_length hk l, .inr ⟨g, l.length, cs, rfl, hb, hB, Nat.le_refl _, hm, hs, ?_⟩⟩
  apply List.ext_getElem?
  intro m
  rw [List.getElem?_take]
  rcases Nat.lt_or_ge m (l.length * k) with hlt | hge
  · rw [if_pos hlt]
    have hk0 : 0 < k := by
      rcases Nat.eq_zero_or_pos k with h0 | h0
      · subst h0; simp at hlt
      · exact h0
    have hj : m / k < l.length := (Nat.div_lt_iff_lt_mul hk0).2 hlt
    have hi : m % k < k := Nat.mod_lt _ hk0
    have hm' : m = m / k * k + m % k := by rw [Nat.mul_comm]; exact (Nat.div_add_mod m k).symm
    have hx : l[m / k]? = some l[m / k] := List.getElem?_eq_getElem hj
    have hu : (enc l[m / k])[m % k]? = some ((enc l[m / k])[m % k]'(by rw [hk]; exact hi)) := List.getElem?_eq_getElem _
    have h1 := hc _ _ hx _ _ hu
    have h2 := flat_get hk l _ _ hx _ hi
    rw [hu] at h2
    rw [← hm'] at h1 h2
    rw [h2]
    simpa using h1
  · rw [if_neg (by omega)]
    symm
    rw [List.getElem?_eq_none_iff, flat_length hk]
    exact hge
end

theorem all_take_succ {α : Type} (p : α → Bool) (l : List α) (k : Nat) (hk : k < l.length) : (l.take (k + 1)).all p = ((l.take k).all p && p l[k]) := by
  rw [List.take_succ_eq_append_getElem hk, List.all_append]; simp
theorem any_take_succ {α : Type} (p : α → Bool) (l : List α) (k : Nat) (hk : k < l.length) : (l.take (k + 1)).any p = ((l.take k).any p || p l[k]) := by
  rw [List.take_succ_eq_append_getElem hk, List.any_append]; simp
theorem all_false_of {α : Type} (p : α → Bool) (l : List α) (k : Nat) (hk : k < l.length) (h : p l[k] = false) : l.all p = false := by
  rw [List.all_eq_false]; exact ⟨l[k], List.getElem_mem hk, by simp [h]⟩
theorem any_true_of {α : Type} (p : α → Bool) (l : List α) (k : Nat) (hk : k < l.length) (h : p l[k] = true) : l.any p = true := by
  rw [List.any_eq_true]; exact ⟨l[k], List.getElem_mem hk, h⟩

/-- The first place at which p holds, or -1. -/
def idxOf {α : Type} (p : α → Bool) (l : List α) : Int := if l.any p then (l.findIdx p : Int) else -1
theorem idxOf_miss {α : Type} (p : α → Bool) (l : List α) (h : l.any p = false) : idxOf p l = -1 := by simp [idxOf, h]
theorem idxOf_hit {α : Type} (p : α → Bool) (l : List α) (k : Nat) (hk : k < l.length) (h : p l[k] = true) (h0 : (l.take k).any p = false) : idxOf p l = k := by
  rw [idxOf, if_pos (any_true_of p l k hk h)]
  congr 1
  rw [List.findIdx_eq hk]
  refine ⟨h, fun j hj => ?_⟩
  rw [List.any_eq_false] at h0
  have hjm : l[j] ∈ l.take k := by
    rw [List.mem_take_iff_getElem]
    exact ⟨j, by omega, rfl⟩
  simpa using h0 _ hjm
theorem idxOf_nonneg {α : Type} (p : α → Bool) (l : List α) : decide (0 ≤ idxOf p l) = l.any p := by
  unfold idxOf; split <;> rename_i h <;> simp_all


def encI (n : Int) : List Value := [.int .i64 n]
def encB (n : Int) : List Value := [.int .u8 n]
theorem encI_len (n : Int) : (encI n).length = 1 := rfl
theorem cellsI {w : World} {B : Nat} {A : Option Addr} {l : List Int} (h : Rd encI 1 w B A l) {j : Nat} (hj : j < l.length) :
    ∃ b off, A = some ⟨b, off, none⟩ ∧ b < B ∧ w.cell? ⟨b, off + j, none⟩ = some (.int .i64 l[j]) := by
  obtain ⟨b, off, e, hb, hc⟩ := h.at_ (List.getElem?_eq_getElem hj)
  have := hc 0 _ rfl
  simp only [Nat.mul_one, Nat.add_zero] at this
  exact ⟨b, off, e, hb, this⟩

/-- An owned row behind a change of other blocks. -/
theorem Own.grown {α : Type} {enc : α → List Value} {k : Nat} {w w' : World} {base : Nat} {E : TypeId} {v : Value} {l : List α} {row : Option Nat} (h : Own enc k w base E v l) (hg : w.grownBy w' row) (hne : ∀ g, row = some g → v.ownBlock ≠ some g) : Own enc k w' base E v l := by
  refine World.ownsRow.kept h hg ?_
  cases row with
  | none => cases hv : v.ownBlock <;> simp
  | some g => exact .inr (hne g rfl)
theorem Own.mono {α : Type} {enc : α → List Value} {k : Nat} {w : World} {base base' : Nat} {E : TypeId} {v : Value} {l : List α} (h : Own enc k w base E v l) (hb : base' ≤ base) : Own enc k w base' E v l := by
  obtain ⟨h1, h2⟩ := h
  refine ⟨h1, ?_⟩
  rcases h2 with h2 | ⟨g, cap, cur, e, hb', r⟩
  · exact .inl h2
  · exact .inr ⟨g, cap, cur, e, by omega, r⟩
theorem Own.none_ {α : Type} {enc : α → List Value} {k : Nat} (w : World) (base : Nat) (E : TypeId) : Own enc k w base E (.slice none 0 0) ([] : List α) := World.ownsRow_nil w base E k
theorem Own.empty {α : Type} {enc : α → List Value} {k : Nat} (w : World) (base : Nat) (E : TypeId) (hb : base ≤ w.heap.size) : Own enc k (w.alloc (.cells #[] E)) base E (.slice (some ⟨w.heap.size, 0, none⟩) 0 0) ([] : List α) :=
  ⟨by simp [flat], .inr ⟨w.heap.size, 0, #[], rfl, hb, heap_alloc_new w _, Nat.le_refl _, Nat.zero_le _, by simp, by simp [flat]⟩⟩
theorem Own.alloc {α : Type} {enc : α → List Value} {k : Nat} {w : World} {base : Nat} {E : TypeId} {v : Value} {l : List α} (h : Own enc k w base E v l) (o : Obj) : Own enc k (w.alloc o) base E v l := h.keep ((Below.refl _ _).alloc (Nat.le_refl _) o)
theorem Own.len {α : Type} {enc : α → List Value} {k : Nat} {w : World} {base : Nat} {E : TypeId} {A : Option Addr} {n c : Nat} {l : List α} (h : Own enc k w base E (.slice A n c) l) : l.length = n := by
  obtain ⟨_, h2⟩ := h
  rcases h2 with ⟨e, h0⟩ | ⟨g, cap, cur, e, _⟩
  · injection e; omega
  · injection e; omega
theorem Own.rd' {α : Type} {enc : α → List Value} {k : Nat} (hk : ∀ x, (enc x).length = k) {w : World} {base : Nat} {E : TypeId} {A : Option Addr} {n c : Nat} {l : List α} (h : Own enc k w base E (.slice A n c) l) : Rd enc k w w.heap.size A l := by
  obtain ⟨A', c', e, _, hr⟩ := Own.form hk h
  injection e with e1 e2 e3
  subst e1
  exact hr
theorem Own.lt {α : Type} {enc : α → List Value} {k : Nat} {w : World} {base : Nat} {E : TypeId} {v : Value} {l : List α} (h : Own enc k w base E v l) : ∀ g, v.ownBlock = some g → base ≤ g ∧ g < w.heap.size := World.ownsRow.lt h
/-- What an owned row of n elements is good for, where there is an element: its block, written out. -/
theorem Own.blk {α : Type} {enc : α → List Value} {k : Nat} {w : World} {base : Nat} {E : TypeId} {A : Option Addr} {n c : Nat} {l : List α} (h : Own enc k w base E (.slice A n c) l) (hn : 0 < n) :
    ∃ g cs, A = some ⟨g, 0, none⟩ ∧ base ≤ g ∧ Blk w g E cs ∧ cs.size = c * k ∧ l.length = n ∧ n ≤ c ∧ c ≤ maxLen ∧ cs.toList.take (n * k) = flat enc l := by
  obtain ⟨h1, h2⟩ := h
  rcases h2 with ⟨e, h0⟩ | ⟨g, cap, cur, e, hb, hh, hnc, hcm, hcs, htk⟩
  · injection e; omega
  · injection e with e1 e2 e3
    subst e1 e2 e3
    exact ⟨g, cur, rfl, hb, hh, hcs, rfl, hnc, hcm, htk⟩

/-- Values stored one behind the other from place p on. -/
def storeL (cs : Array Value) (p : Nat) : List Value → Array Value
  | [] => cs
  | v :: vs => storeL (cs.setIfInBounds p v) (p + 1) vs
theorem storeL_size (vs : List Value) : ∀ (cs : Array Value) (p : Nat), (storeL cs p vs).size = cs.size := by
  induction vs with
  | nil => intro cs p; rfl
  | cons v vs ih => intro cs p; rw [storeL, ih]; simp
theorem storeL_before (vs : List Value) : ∀ (cs : Array Value) (p q : Nat), q < p → (storeL cs p vs)[q]? = cs[q]? := by
  induction vs with
  | nil => intro cs p q _; rfl
  | cons v vs ih =>
    intro cs p q hq
    rw [storeL, ih _ _ _ (by omega), Array.getElem?_setIfInBounds, if_neg (by omega)]
theorem storeL_after (vs : List Value) : ∀ (cs : Array Value) (p q : Nat), p + vs.length ≤ q → (storeL cs p vs)[q]? = cs[q]? := by
  induction vs with
  | nil => intro cs p q _; rfl
  | cons v vs ih =>
    intro cs p q hq
    simp only [List.length_cons] at hq
    rw [storeL, ih _ _ _ (by omega), Array.getElem?_setIfInBounds, if_neg (by omega)]
theorem storeL_at (vs : List Value) : ∀ (cs : Array Value) (p i : Nat), i < vs.length → p + vs.length ≤ cs.size → (storeL cs p vs)[p + i]? = vs[i]? := by
  induction vs with
  | nil => intro cs p i hi; simp at hi
  | cons v vs ih =>
    intro cs p i hi hs
    simp only [List.length_cons] at hi hs
    cases i with
    | zero =>
      rw [storeL, storeL_before _ _ _ _ (by omega), Array.getElem?_setIfInBounds, if_pos (by omega), if_pos (by omega)]
      rfl
    | succ i =>
      have := ih (cs.setIfInBounds p v) (p + 1) i (by omega) (by simp; omega)
      rw [storeL, show p + (i + 1) = p + 1 + i by omega, this]
      rfl

/-- A list written element by element into a row: one element more. -/
theorem filled_step {α : Type} {enc : α → List Value} {K : Nat} (hK : ∀ x, (enc x).length = K) {l : List α} {k : Nat} {cs : Array Value} (hs : cs.size = l.length * K) (hk : k < l.length)
    (hc : ∀ j x, j < k → l[j]? = some x → ∀ i v, (enc x)[i]? = some v → cs[j * K + i]? = some v) :
    ∀ j x, j < k + 1 → l[j]? = some x → ∀ i v, (enc x)[i]? = some v → (storeL cs (k * K) (enc l[k]))[j * K + i]? = some v := by
  intro j x hj hx i v hv
  have hi : i < K := by
    have := (List.getElem?_eq_some_iff.1 hv).1
    rwa [hK] at this
  rcases Nat.lt_or_ge j k with hlt | hge
  · have h1 : (j + 1) * K ≤ k * K := Nat.mul_le_mul_right K (by omega)
    rw [Nat.add_mul] at h1
    rw [storeL_before _ _ _ _ (by omega)]
    exact hc j x hlt hx i v hv
  · obtain rfl : j = k := by omega
    rw [List.getElem?_eq_getElem hk] at hx
    injection hx with hx
    subst hx
    have h1 : (j + 1) * K ≤ l.length * K := Nat.mul_le_mul_right K (by omega)
    rw [Nat.add_mul] at h1
    rw [storeL_at _ _ _ _ (by rw [hK]; exact hi) (by rw [hK]; omega)]
    exact hv


/-- 'out = append(out, y)' onto a row of the call's own, as lists. -/
theorem wpList_app1 {P : Program} {ops : Array Oper} {rest : List Oper} {o : Oper} {a : Act} {Q : Exit → Act → World → Prop} (hgd : o.guard = none) (s x : Operand) (t : TypeId)
    (ho : o.op = .call { callee := .builtin .append, args := #[s, x], argTypes := #[t, t] })
    (base : Nat) (E : TypeId) (i : TypeInfo) (z : Value) (K bytes : Nat) (ht : P.underlying t = some (.slice E)) (hi : P.info? E = some i) (hz : i.zero = some z)
    (hsize : i.size = K) (hby : i.bytes = bytes) (hzs : z.cells.size = K) (hsz : 0 < K) (hb1 : bytes ≤ 1000)
    {α : Type} (enc : α → List Value) (hK : ∀ x, (enc x).length = K) (h1 : ∀ x, ∀ u ∈ enc x, u.oneCell' = true) (v : Value) (l : List α) (y : α) (w : World) (cs : Array Value) (hcs : cs.toList = enc y) (c : Nat)
    (hs : a.eval s = v) (hown : Own enc K w base E v l) (hx : a.eval x = .slice (some ⟨w.heap.size, 0, none⟩) 1 c) (hlen : l.length ≤ 1048576) (hbase : base ≤ w.heap.size)
    (h : ∀ v' w', Own enc K w' base E v' (l ++ [y]) → Below base w w' → w.grownBy w' v.ownBlock → wpList P ops Q rest (a.put o.dst v') w') : wpList P ops Q (o :: rest) a (w.alloc (.cells cs E)) := by
  have hcs' : cs = (enc y).toArray := by apply Array.ext'; simpa using hcs
  subst hcs'
  refine wpList_append_own _ hgd s x t ho base E i z K bytes ht hi hz hsize hby hzs hsz v l.length (flat enc l) hs (World.ownsRow.alloc hown _) ⟨w.heap.size, 0, none⟩ 1 c (enc y) hx (by rw [hK]; omega) ?_ (h1 y) (by unfold maxLen; omega) ?_ (by simp; omega) ?_
  · intro j u hu
    rw [show (⟨w.heap.size, 0, none⟩ : Addr).add j = ⟨w.heap.size, j, none⟩ by unfold Addr.add; split <;> simp_all]
    rw [cell_of_row _ w.heap.size j (enc y).toArray E (0, 0) (heap_alloc_new w _)]
    simpa using hu
  · have : (l.length + 1) * bytes ≤ 1048577 * 1000 := Nat.mul_le_mul (by omega) hb1
    omega
  · intro v' w' hown' hg _
    have hg2 : w.grownBy w' v.ownBlock := only_trans (only_alloc (only_refl w _) _) hg
    refine h v' w' ?_ ?_ hg2
    · unfold Own
      rw [List.length_append, List.length_singleton]
      have e : flat enc (l ++ [y]) = flat enc l ++ enc y := by simp [flat]
      rw [e]
      exact hown'
    · refine ⟨hg2.os, hg2.tape, hg2.output, hg2.size, fun k hk => hg2.block k (by omega) (fun e => ?_)⟩
      have := (Own.lt hown k e.symm).1
      omega

/-- What a box of so many cells holds. -/
theorem box2 {w : World} {q : Nat} {T : TypeId} {a b : Value} (h : Blk w q T #[a, b]) : w.cell? ⟨q, 0, none⟩ = some a ∧ w.cell? ⟨q, 1, none⟩ = some b :=
  ⟨by rw [h.cell]; rfl, by rw [h.cell]; rfl⟩
theorem box3 {w : World} {q : Nat} {T : TypeId} {a b c : Value} (h : Blk w q T #[a, b, c]) : w.cell? ⟨q, 0, none⟩ = some a ∧ w.cell? ⟨q, 1, none⟩ = some b ∧ w.cell? ⟨q, 2, none⟩ = some c :=
  ⟨by rw [h.cell]; rfl, by rw [h.cell]; rfl, by rw [h.cell]; rfl⟩
theorem box4 {w : World} {q : Nat} {T : TypeId} {a b c d : Value} (h : Blk w q T #[a, b, c, d]) : w.cell? ⟨q, 0, none⟩ = some a ∧ w.cell? ⟨q, 1, none⟩ = some b ∧ w.cell? ⟨q, 2, none⟩ = some c ∧ w.cell? ⟨q, 3, none⟩ = some d :=
  ⟨by rw [h.cell]; rfl, by rw [h.cell]; rfl, by rw [h.cell]; rfl, by rw [h.cell]; rfl⟩
theorem box5 {w : World} {q : Nat} {T : TypeId} {a b c d e : Value} (h : Blk w q T #[a, b, c, d, e]) : w.cell? ⟨q, 0, none⟩ = some a ∧ w.cell? ⟨q, 1, none⟩ = some b ∧ w.cell? ⟨q, 2, none⟩ = some c ∧ w.cell? ⟨q, 3, none⟩ = some d ∧ w.cell? ⟨q, 4, none⟩ = some e :=
  ⟨by rw [h.cell]; rfl, by rw [h.cell]; rfl, by rw [h.cell]; rfl, by rw [h.cell]; rfl, by rw [h.cell]; rfl⟩
theorem box6 {w : World} {q : Nat} {T : TypeId} {a b c d e f : Value} (h : Blk w q T #[a, b, c, d, e, f]) : w.cell? ⟨q, 0, none⟩ = some a ∧ w.cell? ⟨q, 1, none⟩ = some b ∧ w.cell? ⟨q, 2, none⟩ = some c ∧ w.cell? ⟨q, 3, none⟩ = some d ∧ w.cell? ⟨q, 4, none⟩ = some e ∧ w.cell? ⟨q, 5, none⟩ = some f :=
  ⟨by rw [h.cell]; rfl, by rw [h.cell]; rfl, by rw [h.cell]; rfl, by rw [h.cell]; rfl, by rw [h.cell]; rfl, by rw [h.cell]; rfl⟩
theorem box7 {w : World} {q : Nat} {T : TypeId} {a b c d e f g : Value} (h : Blk w q T #[a, b, c, d, e, f, g]) : w.cell? ⟨q, 0, none⟩ = some a ∧ w.cell? ⟨q, 1, none⟩ = some b ∧ w.cell? ⟨q, 2, none⟩ = some c ∧ w.cell? ⟨q, 3, none⟩ = some d ∧ w.cell? ⟨q, 4, none⟩ = some e ∧ w.cell? ⟨q, 5, none⟩ = some f ∧ w.cell? ⟨q, 6, none⟩ = some g :=
  ⟨by rw [h.cell]; rfl, by rw [h.cell]; rfl, by rw [h.cell]; rfl, by rw [h.cell]; rfl, by rw [h.cell]; rfl, by rw [h.cell]; rfl, by rw [h.cell]; rfl⟩

end Go.Proofs.Ytdadcbcanjmoeaa
