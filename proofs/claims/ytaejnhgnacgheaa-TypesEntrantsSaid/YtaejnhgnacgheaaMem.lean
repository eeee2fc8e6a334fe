/- Plain words for memory: a block whose cells are known and writable ('Row'), a slice that lies in one ('Sl'), a slice that can be read ('Rd'), what a step may have changed ('Upd'). No program in sight. -/
import Derived.WalkKit
import Derived.ProofKit
import Derived.Lib.Hide
import Derived.Deep.Draws
import Derived.Maps.AppendAt
namespace Go.Proofs.Ytaejnhgnacgheaa
set_option linter.unusedSimpArgs false
set_option linter.unusedVariables false
open Go.RowKit

/-- Block g holds the cells cs, and each of them may be written. -/
def Row (w : World) (g : Nat) (e : TypeId) (cs : List Value) : Prop :=
  ∃ lo hi, w.heap[g]? = some (.cells cs.toArray e (lo, hi)) ∧ (cs.length ≤ lo ∨ hi ≤ lo)

/-- From w to w' nothing that was there has changed but blocks of S. -/
structure Upd (S : Nat → Prop) (w w' : World) : Prop where
  os : w'.os = w.os
  tape : w'.tape = w.tape
  output : w'.output = w.output
  size : w.heap.size ≤ w'.heap.size
  block : ∀ k, k < w.heap.size → ¬ S k → w'.heap[k]? = w.heap[k]?

section
variable {w w' w'' : World} {g : Nat} {e : TypeId} {cs : List Value} {S T : Nat → Prop}

theorem Row.lt (h : Row w g e cs) : g < w.heap.size := by
  obtain ⟨lo, hi, h, _⟩ := h
  exact (Array.getElem?_eq_some_iff.1 h).1
theorem Row.cell (h : Row w g e cs) (j : Nat) : w.cell? ⟨g, j, none⟩ = cs[j]? := by
  obtain ⟨lo, hi, h, _⟩ := h
  simp [World.cell?, h]
theorem Row.frozen (h : Row w g e cs) {j : Nat} (hj : j < cs.length) : w.frozen? ⟨g, j, none⟩ = false := by
  obtain ⟨lo, hi, h, hf⟩ := h
  simp only [World.frozen?, h]
  rw [Bool.and_eq_false_iff, decide_eq_false_iff_not, decide_eq_false_iff_not]
  omega
theorem Row.same (h : Row w g e cs) (hh : w'.heap[g]? = w.heap[g]?) : Row w' g e cs := by
  obtain ⟨lo, hi, h, hf⟩ := h
  exact ⟨lo, hi, hh.trans h, hf⟩
theorem Row.ne_ {g' : Nat} {e' : TypeId} {cs' : List Value} (h : Row w g e cs) (h' : Row w g' e' cs') (hne : e ≠ e') : g ≠ g' := by
  rintro rfl
  obtain ⟨_, _, h, _⟩ := h
  obtain ⟨_, _, h', _⟩ := h'
  rw [h] at h'
  simp at h'
  exact hne h'.2.1
theorem Row.uniq {cs' : List Value} {e' : TypeId} (h : Row w g e cs) (h' : Row w g e' cs') : cs = cs' ∧ e = e' := by
  obtain ⟨_, _, h, _⟩ := h
  obtain ⟨_, _, h', _⟩ := h'
  rw [h] at h'
  simp at h'
  exact ⟨h'.1, h'.2.1⟩
theorem Row.new (w : World) (e : TypeId) (cs : Array Value) : Row (w.alloc (.cells cs e)) w.heap.size e cs.toList :=
  ⟨0, 0, by simpa using heap_alloc_new w (.cells cs e), .inr (Nat.le_refl _)⟩
theorem Row.new_mark (w : World) (e : TypeId) (cs : Array Value) (hi : Nat) : Row (w.alloc (.cells cs e (cs.size, hi))) w.heap.size e cs.toList :=
  ⟨cs.size, hi, by simpa using heap_alloc_new w (.cells cs e (cs.size, hi)), .inl (by simp)⟩
theorem Row.set (h : Row w g e cs) (j : Nat) (u : Value) : Row (w.setCell ⟨g, j, none⟩ u) g e (cs.set j u) := by
  obtain ⟨lo, hi, h, hf⟩ := h
  refine ⟨lo, hi, ?_, by simpa using hf⟩
  simp [World.setCell, Array.getElem?_modify, h]
theorem Row.upd (h : Row w g e cs) (hu : Upd S w w') (hg : ¬ S g) : Row w' g e cs := h.same (hu.block g h.lt hg)
theorem Row.drew (h : Row w g e cs) : Row w.drew g e cs := h

theorem Upd.refl (S : Nat → Prop) (w : World) : Upd S w w := ⟨rfl, rfl, rfl, Nat.le_refl _, fun _ _ _ => rfl⟩
theorem Upd.trans (h : Upd S w w') (k : Upd T w' w'') (hT : ∀ b, b < w.heap.size → T b → S b) : Upd S w w'' :=
  ⟨k.os.trans h.os, k.tape.trans h.tape, k.output.trans h.output, Nat.le_trans h.size k.size,
    fun b hb hs => (k.block b (Nat.lt_of_lt_of_le hb h.size) (fun ht => hs (hT b hb ht))).trans (h.block b hb hs)⟩
theorem Upd.mono (h : Upd S w w') (hST : ∀ b, b < w.heap.size → S b → T b) : Upd T w w' :=
  ⟨h.os, h.tape, h.output, h.size, fun b hb ht => h.block b hb (fun hs => ht (hST b hb hs))⟩
theorem Upd.drew (h : Upd S w w') : Upd S w w'.drew := ⟨h.os, h.tape, h.output, h.size, h.block⟩
theorem Upd.drewN (h : Upd S w w') (n : Nat) : Upd S w (w'.drewN n) := ⟨h.os, h.tape, h.output, h.size, h.block⟩
theorem Upd.alloc (h : Upd S w w') (o : Obj) : Upd S w (w'.alloc o) :=
  ⟨h.os, h.tape, h.output, Nat.le_trans h.size (by simp), fun b hb hs => (Below.heap_alloc _ _ _ (Nat.lt_of_lt_of_le hb h.size)).trans (h.block b hb hs)⟩
theorem Upd.setCell (h : Upd S w w') {p : Addr} (hp : p.block < w.heap.size → S p.block) (u : Value) : Upd S w (w'.setCell p u) :=
  ⟨h.os, h.tape, h.output, by simpa [World.setCell] using h.size, fun b hb hs => (Below.heap_setCell _ _ _ _ (by
    rintro rfl
    exact hs (hp hb))).trans (h.block b hb hs)⟩
theorem Upd.cell (h : Upd S w w') {a : Addr} (ha : a.block < w.heap.size) (hs : ¬ S a.block) : w'.cell? a = w.cell? a := World.cell?_of_block (h.block _ ha hs)
theorem Upd.frozen (h : Upd S w w') {a : Addr} (ha : a.block < w.heap.size) (hs : ¬ S a.block) : w'.frozen? a = w.frozen? a := World.frozen?_of_block (h.block _ ha hs)
end

/-- A slice value that lies in a row of the element type e (cells per element: size), all of its capacity writable: n elements, whose cells are xs. -/
def Sl (w : World) (v : Value) (e : TypeId) (size n : Nat) (xs : List Value) : Prop :=
  xs.length = n * size ∧ ((v = .slice none 0 0 ∧ n = 0) ∨
    ∃ g off cap cs, v = .slice (some ⟨g, off, none⟩) n cap ∧ Row w g e cs ∧ n ≤ cap ∧ cap ≤ maxLen ∧ off + cap * size ≤ cs.length ∧ (cs.drop off).take (n * size) = xs)

/-- A slice value that can be read: n elements, whose cells are xs. -/
def Rd (w : World) (v : Value) (size n : Nat) (xs : List Value) : Prop :=
  xs.length = n * size ∧ ∃ A c, v = .slice A n c ∧ n ≤ c ∧ (A = none → n = 0) ∧ ∀ ad, A = some ad → ad.spot = none ∧ ∀ j u, xs[j]? = some u → w.cell? ⟨ad.block, ad.off + j, none⟩ = some u

/-- cells whose values are of one cell each -/
def Ones (xs : List Value) : Prop := ∀ u ∈ xs, u.oneCell' = true

section
variable {w w' : World} {v : Value} {e : TypeId} {size n : Nat} {xs : List Value} {S : Nat → Prop}

theorem Sl.nil_ (w : World) (e : TypeId) (size : Nat) : Sl w (.slice none 0 0) e size 0 [] := ⟨by simp, .inl ⟨rfl, rfl⟩⟩
theorem Sl.upd (h : Sl w v e size n xs) (hu : Upd S w w') (hb : ∀ k, v.ownBlock = some k → ¬ S k) : Sl w' v e size n xs := by
  refine ⟨h.1, ?_⟩
  rcases h.2 with h' | ⟨g, off, cap, cs, rfl, hr, rest⟩
  · exact .inl h'
  · exact .inr ⟨g, off, cap, cs, rfl, hr.upd hu (hb g rfl), rest⟩
theorem Sl.rd (h : Sl w v e size n xs) : Rd w v size n xs := by
  refine ⟨h.1, ?_⟩
  rcases h.2 with ⟨rfl, rfl⟩ | ⟨g, off, cap, cs, rfl, hr, hnc, hcm, hl, ht⟩
  · exact ⟨none, 0, rfl, Nat.le_refl _, fun _ => rfl, by simp⟩
  · refine ⟨_, _, rfl, hnc, by simp, ?_⟩
    rintro ad hA
    cases hA
    refine ⟨rfl, fun j u hu => ?_⟩
    rw [hr.cell, ← hu, ← ht, List.getElem?_take, List.getElem?_drop]
    have := (List.getElem?_eq_some_iff.1 hu).1
    rw [if_pos (by rw [← h.1]; exact this)]
theorem Sl.lt (h : Sl w v e size n xs) {k : Nat} (hk : v.ownBlock = some k) : k < w.heap.size := by
  rcases h.2 with ⟨rfl, _⟩ | ⟨g, off, cap, cs, rfl, hr, _⟩
  · simp [Value.ownBlock] at hk
  · simp [Value.ownBlock] at hk
    subst hk
    exact hr.lt
theorem Sl.row (h : Sl w v e size n xs) {k : Nat} (hk : v.ownBlock = some k) : ∃ cs, Row w k e cs := by
  rcases h.2 with ⟨rfl, _⟩ | ⟨g, off, cap, cs, rfl, hr, _⟩
  · simp [Value.ownBlock] at hk
  · simp [Value.ownBlock] at hk
    subst hk
    exact ⟨cs, hr⟩
theorem Rd.upd (h : Rd w v size n xs) (hu : Upd S w w') (hb : ∀ k, v.ownBlock = some k → k < w.heap.size ∧ ¬ S k) : Rd w' v size n xs := by
  obtain ⟨hl, A, c, rfl, hnc, h0, hc⟩ := h
  refine ⟨hl, A, c, rfl, hnc, h0, ?_⟩
  intro ad hA
  obtain ⟨hs, hcc⟩ := hc ad hA
  refine ⟨hs, fun j u hu' => ?_⟩
  subst hA
  obtain ⟨h1, h2⟩ := hb ad.block rfl
  rw [hu.cell (a := ⟨ad.block, ad.off + j, none⟩) h1 h2]
  exact hcc j u hu'
end

section
variable {P : Program} (w : World)

/-- Storing cells one by one into a row. -/
theorem run_storeCells_row (g o : Nat) (e : TypeId) : ∀ (vs : List Value) (i : Nat) (cs : List Value) (w : World), Row w g e cs → o + i + vs.length ≤ cs.length → Ones vs →
    ∃ w', (storeCells ⟨g, o, none⟩ vs i).run P w = .ok () w' ∧ Row w' g e (cs.take (o + i) ++ vs ++ cs.drop (o + i + vs.length)) ∧ Upd (· = g) w w' ∧ w'.heap.size = w.heap.size
  | [], i, cs, w, hr, _, _ => ⟨w, rfl, by simpa using hr, Upd.refl _ _, rfl⟩
  | v :: rest, i, cs, w, hr, hl, h1 => by
    have hi : o + i < cs.length := by simp at hl; omega
    have hadd : (⟨g, o, none⟩ : Addr).add i = ⟨g, o + i, none⟩ := by unfold Addr.add; split <;> simp_all
    have hst : (store ((⟨g, o, none⟩ : Addr).add i) v).run P w = .ok () (w.setCell ⟨g, o + i, none⟩ v) := by
      rw [hadd, run_store P w _ v _ (h1 v (by simp)), hr.cell, List.getElem?_eq_getElem hi]
      simp [hr.frozen hi]
    obtain ⟨w', hrun, hr', hu, hs⟩ := run_storeCells_row g o e rest (i + 1) (cs.set (o + i) v) (w.setCell ⟨g, o + i, none⟩ v) (hr.set (o + i) v) (by simp at hl ⊢; omega) (fun x hx => h1 x (by simp [hx]))
    refine ⟨w', ?_, ?_, ?_, by simpa using hs⟩
    · simp only [storeCells, Sem.run_bind, hst, Result.andThen_ok, hrun]
    · have e' := list_seg_step cs (o + i) v rest (by simp at hl ⊢; omega)
      have : o + (i + 1) = o + i + 1 := by omega
      rw [this] at hr'
      rw [e'] at hr'
      simpa [Nat.add_assoc] using hr'
    · exact ((Upd.refl (· = g) w).setCell (p := ⟨g, o + i, none⟩) (fun _ => rfl) v).trans hu (fun _ _ h => h)

/-- Reading the cells of a slice that can be read. -/
theorem run_firstCells_rd {x : Value} {size n m : Nat} {xs : List Value} (h : Rd w x size n xs) (hm : m ≤ n) : (Builtin.firstCells size m x).run P w = .ok (xs.take (m * size)).toArray w := by
  obtain ⟨hl, A, c, rfl, hnc, h0, hc⟩ := h
  cases A with
  | none =>
    have hn : n = 0 := h0 rfl
    subst hn
    have : xs = [] := List.eq_nil_of_length_eq_zero (by simpa using hl)
    subst this
    simp [Builtin.firstCells]
  | some ad =>
    obtain ⟨hs, hc⟩ := hc ad rfl
    have hmn : m * size ≤ n * size := Nat.mul_le_mul_right _ hm
    refine run_firstCells_some w size m ad n c (xs.take (m * size)) (by rw [List.length_take, hl]; exact Nat.min_eq_left hmn) ?_
    intro j u hu
    rw [List.getElem?_take] at hu
    split at hu
    · have := hc j u hu
      have he : ad.add j = ⟨ad.block, ad.off + j, none⟩ := by
        unfold Addr.add
        split
        · rename_i h0; subst h0; cases ad; simp_all
        · rfl
      rw [he]; exact this
    · cases hu

theorem take_drop_mid {α : Type} (cs news : List α) (off k : Nat) (h : off + k + news.length ≤ cs.length) :
    ((cs.take (off + k) ++ news ++ cs.drop (off + k + news.length)).drop off).take (k + news.length) = (cs.drop off).take k ++ news := by
  have e1 : (List.take k (List.drop off cs)).length = k := by simp; omega
  have e2 : List.take (off + k) cs = List.take off cs ++ List.take k (List.drop off cs) := by rw [List.take_add]
  have e3 : (List.take off cs).length = off := by simp; omega
  rw [e2, List.append_assoc, List.append_assoc, List.drop_append, List.drop_of_length_le (by omega), e3, Nat.sub_self, List.drop_zero, List.nil_append, ← List.append_assoc,
    List.take_append_of_le_length (by rw [List.length_append, e1]; omega)]
  exact List.take_of_length_le (by rw [List.length_append, e1]; omega)

theorem splice_mid {α : Type} (cs V : List α) (o k n : Nat) (h : k + V.length ≤ n) (h2 : o + n ≤ cs.length) :
    ((cs.take (o+k) ++ (V ++ cs.drop (o+k+V.length))).drop o).take n = ((cs.drop o).take n).take k ++ (V ++ ((cs.drop o).take n).drop (k+V.length)) := by
  apply List.ext_getElem?
  intro j
  simp only [List.getElem?_append, List.getElem?_take, List.getElem?_drop, List.length_take, List.length_drop]
  grind

/-- What an append may leave: the value, its cells, and where they lie. -/
structure Appended (w : World) (v : Value) (e : TypeId) (size n : Nat) (xs : List Value) (v' : Value) (w' : World) : Prop where
  sl : Sl w' v' e size n xs
  upd : Upd (fun k => v.ownBlock = some k) w w'
  at_ : v'.ownBlock = v.ownBlock ∧ w'.heap.size = w.heap.size ∨ v'.ownBlock = some w.heap.size ∧ w'.heap.size = w.heap.size + 1
  nil_ : v' = .slice none 0 0 ↔ v = .slice none 0 0 ∧ n = 0

/-- The new block of an append that must grow. -/
theorem grown_sl (e : TypeId) (z : Value) (size n old : Nat) (v : Value) (ys : List Value) (hzs : z.cells.size = size) (hl : ys.length = n * size) (hm : n ≤ maxLen) (hn : 0 < n) :
    Appended w v e size n ys (.slice (some ⟨w.heap.size, 0, none⟩) n (grownCap w n old e)) (w.drew.alloc (.cells (ys.toArray ++ Builtin.zeroCells z.cells (grownCap w n old e - n)) e)) := by
  have hge := grownCap_ge w n old e
  have hcm := grownCap_le_maxLen w n old e hm
  refine ⟨⟨hl, .inr ⟨w.heap.size, 0, _, _, rfl, Row.new w.drew e _, hge, hcm, ?_, ?_⟩⟩, ((Upd.refl _ w).drew).alloc _, .inr ⟨rfl, by simp⟩, ?_⟩
  · simp only [Nat.zero_add, Array.toList_append, List.length_append, Array.length_toList, size_zeroCells, hzs, hl, ← Nat.add_mul]
    exact Nat.mul_le_mul_right _ (by omega)
  · simp only [List.drop_zero, Array.toList_append]
    rw [← hl]
    exact List.take_left
  · constructor
    · intro h; cases h
    · rintro ⟨_, h⟩; omega

/-- append(s, x...): s lies in a row of the call's own, x can be read. -/
theorem run_append_sl (t ty e : TypeId) (i : TypeInfo) (z : Value) (size bytes : Nat) (ht : P.underlying t = some (.slice e)) (hi : P.info? e = some i) (hz : i.zero = some z)
    (hsize : i.size = size) (hby : i.bytes = bytes) (hzs : z.cells.size = size)
    (v : Value) (n : Nat) (xs : List Value) (hs : Sl w v e size n xs) (x : Value) (m : Nat) (news : List Value) (hx : Rd w x size m news) (h1 : Ones news)
    (h63 : n + m ≤ maxLen) (hbytes : (n + m) * bytes ≤ 140737488355328) :
    ∃ v' w', (Builtin.append_ #[t, t] ty #[v, x]).run P w = .ok v' w' ∧ Appended w v e size (n + m) (xs ++ news) v' w' := by
  subst hsize hby
  have hnl : news.length = m * i.size := hx.1
  have hlen : (xs ++ news).length = (n + m) * i.size := by rw [List.length_append, hs.1, hnl, Nat.add_mul]
  have hsmall : n + m ≤ 9223372036854775807 := by simp only [maxLen] at h63; omega
  have hlx : (Builtin.lenOf x).run P w = .ok m w := by
    obtain ⟨_, A, c, rfl, _⟩ := hx
    simp [Builtin.lenOf]
  have hfx := run_firstCells_rd (P := P) w hx (Nat.le_refl _)
  rw [List.take_of_length_le (by omega)] at hfx
  have hfs := run_firstCells_rd (P := P) w hs.rd (Nat.le_refl _)
  rw [List.take_of_length_le (by have := hs.1; omega)] at hfs
  have hdx : (Builtin.firstCells i.size m x).run P w.drew = .ok news.toArray w.drew := by
    have hx' : Rd w.drew x i.size m news := hx
    have := run_firstCells_rd (P := P) w.drew hx' (Nat.le_refl _)
    rwa [List.take_of_length_le (by omega)] at this
  have hds : (Builtin.firstCells i.size n v).run P w.drew = .ok xs.toArray w.drew := by
    have hs' : Rd w.drew v i.size n xs := hs.rd
    have := run_firstCells_rd (P := P) w.drew hs' (Nat.le_refl _)
    rwa [List.take_of_length_le (by have := hs.1; omega)] at this
  rcases hs.2 with ⟨rfl, rfl⟩ | ⟨g, off, cap, cs, rfl, hr, hnc, hcm, hl, ht'⟩
  · have hxs : xs = [] := List.eq_nil_of_length_eq_zero (by simpa using hs.1)
    subst hxs
    by_cases hm : m = 0
    · subst hm
      have hn : news = [] := List.eq_nil_of_length_eq_zero (by simpa using hnl)
      subst hn
      refine ⟨.slice none 0 0, w, ?_, Sl.nil_ _ _ _, Upd.refl _ _, .inl ⟨rfl, rfl⟩, by simp⟩
      simp [Builtin.append_, run_underlying ht, sizeOf, typeInfo, hi, hlx, hfx]
    · have hsl := grown_sl w e z i.size m 0 (.slice none 0 0) news hzs hnl (by omega) (by omega)
      have h63' : ¬ (9223372036854775807 < (m : Int)) := by omega
      have h48' : ¬ (281474976710656 < Builtin.nextslicecap m 0 * i.bytes) := by
        have := growslice_fits (need := m) (old := 0) (bytes := i.bytes) (by omega) (by simpa using hbytes)
        omega
      refine ⟨_, _, ?_, by simpa using hsl⟩
      simp [Builtin.append_, run_underlying ht, sizeOf, typeInfo, zeroValue, hi, hz, hlx, hm, h63', h48', Question.forced, hdx, newRow, grownCap, run_firstCells_none]
  · by_cases hroom : n + m ≤ cap
    · obtain ⟨w', hrun, hr', hu, hsz⟩ := run_storeCells_row (P := P) g (off + n * i.size) e news 0 cs w hr (by
        have : (n + m) * i.size ≤ cap * i.size := Nat.mul_le_mul_right _ hroom
        rw [Nat.add_mul] at this
        omega) h1
      refine ⟨.slice (some ⟨g, off, none⟩) (n + m) cap, w', ?_, ⟨hlen, .inr ⟨g, off, cap, _, rfl, hr', hroom, hcm, ?_, ?_⟩⟩, hu.mono (fun b _ h => by simp [Value.ownBlock, h]), .inl ⟨rfl, hsz⟩, by simp⟩
      · simp [Builtin.append_, run_underlying ht, sizeOf, typeInfo, hi, hlx, hroom, hfx, Addr.add_lit, hrun]
      · have : (n + m) * i.size ≤ cap * i.size := Nat.mul_le_mul_right _ hroom
        rw [Nat.add_mul] at this
        simp
        omega
      · have : (n + m) * i.size ≤ cap * i.size := Nat.mul_le_mul_right _ hroom
        rw [Nat.add_mul] at this
        have e0 : (n + m) * i.size = n * i.size + news.length := by rw [Nat.add_mul, hnl]
        rw [← ht', e0, Nat.add_zero]
        exact take_drop_mid cs news off (n * i.size) (by omega)
    · have hg : cap < n + m := by omega
      have hsl := grown_sl w e z i.size (n + m) cap (.slice (some ⟨g, off, none⟩) n cap) (xs ++ news) hzs hlen (by omega) (by omega)
      have h63' : ¬ (9223372036854775807 < ((n : Int) + (m : Int))) := by omega
      have h48' : ¬ (281474976710656 < Builtin.nextslicecap (n + m) cap * i.bytes) := by
        have := growslice_fits (bytes := i.bytes) hg hbytes
        omega
      refine ⟨_, _, ?_, hsl⟩
      simp [Builtin.append_, run_underlying ht, sizeOf, typeInfo, zeroValue, hi, hz, hlx, hroom, h63', h48', Question.forced, hdx, hds, newRow, grownCap]
      congr 2
      apply Array.ext'
      simp [List.append_assoc]

theorem grownCap_bounds (need old : Nat) (e : TypeId) (h : need ≤ maxLen) : need ≤ grownCap w need old e ∧ grownCap w need old e ≤ maxLen := ⟨grownCap_ge w need old e, grownCap_le_maxLen w need old e h⟩

end

section
variable {P : Program} (w : World)

/-- append(s, make([]T, m)...): m zero elements. -/
theorem run_append_zeros (t ti ty e : TypeId) (ki kk : IntKind) (i : TypeInfo) (z : Value) (bytes : Nat) (ht : P.underlying t = some (.slice e)) (hti : P.underlying ti = some (.int ki)) (hi : P.info? e = some i) (hz : i.zero = some z)
    (hsize : i.size = 1) (hby : i.bytes = bytes) (hzs : z.cells = #[z]) (hz1 : z.oneCell' = true)
    (v : Value) (n : Nat) (xs : List Value) (hs : Sl w v e 1 n xs) (m : Nat)
    (h63 : n + m ≤ maxLen) (hbytes : (n + m) * bytes ≤ 140737488355328) :
    ∃ v' w', (Builtin.append_ #[t, ti] ty #[v, .int kk m]).run P w = .ok v' w' ∧ Appended w v e 1 (n + m) (xs ++ List.replicate m z) v' w' := by
  subst hby
  have hlen : (xs ++ List.replicate m z).length = (n + m) * 1 := by rw [List.length_append, hs.1, List.length_replicate, Nat.add_mul, Nat.mul_one m]
  have hsmall : n + m ≤ 9223372036854775807 := by simp only [maxLen] at h63; omega
  have hwrap0 : IntKind.i64.wrap 0 = 0 := by decide
  have hwrap : IntKind.i64.wrap (m : Int) = m := by rw [IntKind.wrap_i64]; omega
  have hzc : Builtin.zeroCells #[z] m = (List.replicate m z).toArray := by
    apply Array.ext'
    apply List.ext_getElem?
    intro j
    by_cases hj : j < m
    · simp [Builtin.zeroCells, hj, Nat.mod_one, List.getElem?_replicate]
    · simp [Builtin.zeroCells, hj, List.getElem?_replicate]
  have hds : (Builtin.firstCells 1 n v).run P w.drew = .ok xs.toArray w.drew := by
    have hs' : Rd w.drew v 1 n xs := hs.rd
    have := run_firstCells_rd (P := P) w.drew hs' (Nat.le_refl _)
    rwa [List.take_of_length_le (by have := hs.1; omega)] at this
  have hb2 : ¬ (281474976710656 < (m : Int) * (i.bytes : Int)) := by
    have h2 : m * i.bytes ≤ (n + m) * i.bytes := Nat.mul_le_mul_right _ (by omega)
    rw [← Int.natCast_mul]
    omega
  have hneg : ¬ ((m : Int) < 0) := by omega
  rcases hs.2 with ⟨rfl, rfl⟩ | ⟨g, off, cap, cs, rfl, hr, hnc, hcm, hl, ht'⟩
  · have hxs : xs = [] := List.eq_nil_of_length_eq_zero (by simpa using hs.1)
    subst hxs
    by_cases hm : m = 0
    · subst hm
      refine ⟨.slice none 0 0, w, ?_, Sl.nil_ _ _ _, Upd.refl _ _, .inl ⟨rfl, rfl⟩, by simp⟩
      simp [Builtin.append_, run_underlying ht, run_underlying hti, sizeOf, typeInfo, hi, hsize, asInt, asIntOf, hwrap, hwrap0]
    · have hsl := grown_sl w e z 1 m 0 (.slice none 0 0) (List.replicate m z) (by simp [hzs]) (by simp) (by omega) (by omega)
      have h63' : ¬ (9223372036854775807 < (m : Int)) := by omega
      have h48' : ¬ (281474976710656 < Builtin.nextslicecap m 0 * i.bytes) := by
        have := growslice_fits (need := m) (old := 0) (bytes := i.bytes) (by omega) (by simpa using hbytes)
        omega
      refine ⟨_, _, ?_, by simpa using hsl⟩
      simp [Builtin.append_, run_underlying ht, run_underlying hti, sizeOf, typeInfo, zeroValue, hi, hz, hsize, asInt, asIntOf, hwrap, hwrap0, hneg, hb2, hm, h63', h48', Question.forced, newRow, grownCap, run_firstCells_none, hzs, hzc]
  · by_cases hroom : n + m ≤ cap
    · have h1 : Ones (List.replicate m z) := fun u hu => by rw [List.eq_of_mem_replicate hu]; exact hz1
      obtain ⟨w', hrun, hr', hu, hsz⟩ := run_storeCells_row (P := P) g (off + n * 1) e (List.replicate m z) 0 cs w hr (by simp; omega) h1
      refine ⟨.slice (some ⟨g, off, none⟩) (n + m) cap, w', ?_, ⟨hlen, .inr ⟨g, off, cap, _, rfl, hr', hroom, hcm, by simp; omega, ?_⟩⟩, hu.mono (fun b _ h => by simp [Value.ownBlock, h]), .inl ⟨rfl, hsz⟩, by simp⟩
      · by_cases hm : m = 0
        · subst hm
          simp at hrun
          have hw : w' = w := by
            have : (storeCells ⟨g, off + n, none⟩ []).run P w = .ok () w := rfl
            rw [this] at hrun
            cases hrun
            rfl
          subst hw
          simp [Builtin.append_, run_underlying ht, run_underlying hti, sizeOf, typeInfo, hi, hsize, asInt, asIntOf, hwrap, hwrap0, hnc, Addr.add_lit, storeCells]
        · simp at hrun
          simp [Builtin.append_, run_underlying ht, run_underlying hti, sizeOf, typeInfo, zeroValue, hi, hz, hsize, asInt, asIntOf, hwrap, hwrap0, hneg, hb2, hm, hroom, hzs, hzc, Addr.add_lit, hrun]
      · have e0 : (n + m) * 1 = n * 1 + (List.replicate m z).length := by simp
        rw [← ht', e0, Nat.add_zero]
        exact take_drop_mid cs _ off (n * 1) (by simp; omega)
    · have hg : cap < n + m := by omega
      have hsl := grown_sl w e z 1 (n + m) cap (.slice (some ⟨g, off, none⟩) n cap) (xs ++ List.replicate m z) (by simp [hzs]) hlen (by omega) (by omega)
      have h63' : ¬ (9223372036854775807 < ((n : Int) + (m : Int))) := by omega
      have h48' : ¬ (281474976710656 < Builtin.nextslicecap (n + m) cap * i.bytes) := by
        have := growslice_fits (bytes := i.bytes) hg hbytes
        omega
      by_cases hm : m = 0
      · subst hm; omega
      refine ⟨_, _, ?_, hsl⟩
      simp [Builtin.append_, run_underlying ht, run_underlying hti, sizeOf, typeInfo, zeroValue, hi, hz, hsize, asInt, asIntOf, hwrap, hwrap0, hneg, hb2, hm, hroom, h63', h48', Question.forced, hds, newRow, grownCap, hzs, hzc]
      congr 2
      apply Array.ext'
      simp [List.append_assoc]

/-- copy(d, s): d a part of a row, s can be read (elements of one cell). -/
theorem run_copy_sl (dT sT ty e : TypeId) (hu : P.underlying dT = some (.slice e)) (hsz : (P.info? e).map (·.size) = some 1)
    (v : Value) (n : Nat) (xs : List Value) (hd : Sl w v e 1 n xs) (x : Value) (m : Nat) (news : List Value) (hx : Rd w x 1 m news) (h1 : Ones news) :
    ∃ w', (Builtin.copy_ #[dT, sT] ty #[v, x]).run P w = .ok (goInt (Nat.min m n)) w' ∧ Sl w' v e 1 n (news.take n ++ xs.drop m) ∧ Upd (fun k => v.ownBlock = some k) w w' ∧ w'.heap.size = w.heap.size ∧
      (∀ g off cap cs, v = .slice (some ⟨g, off, none⟩) n cap → Row w g e cs → Row w' g e (cs.take off ++ (news.take n ++ cs.drop (off + min m n)))) := by
  have hlx : (Builtin.lenOf x).run P w = .ok m w := by
    obtain ⟨_, A, c, rfl, _⟩ := hx
    simp [Builtin.lenOf]
  have hmin : Nat.min m n = min m n := rfl
  have hfx := run_firstCells_rd (P := P) w hx (m := Nat.min m n) (Nat.min_le_left _ _)
  have hln : news.length = m := by simpa using hx.1
  have hlxs : xs.length = n := by simpa using hd.1
  have htk : news.take (Nat.min m n * 1) = news.take n := by
    rw [Nat.mul_one, hmin, Nat.min_comm, ← List.take_take, List.take_of_length_le (i := m) (by omega)]
  rw [htk] at hfx
  cases hq : P.info? e with
  | none => simp [hq] at hsz
  | some i =>
    have hi : i.size = 1 := by simpa [hq] using hsz
    rcases hd.2 with ⟨rfl, rfl⟩ | ⟨g, off, cap, cs, rfl, hr, hnc, hcm, hl, ht'⟩
    · have hxs : xs = [] := List.eq_nil_of_length_eq_zero hlxs
      subst hxs
      refine ⟨w, ?_, by simpa using Sl.nil_ w e 1, Upd.refl _ _, rfl, by rintro _ _ _ _ h; cases h⟩
      have hf0 : (Builtin.firstCells 1 0 x).run P w = .ok #[] w := by simpa using hfx
      simp [Builtin.copy_, run_underlying hu, hlx, sizeOf, typeInfo, hq, hi, hf0]
    · have h1' : Ones (news.take n) := fun u hu => h1 u (List.mem_of_mem_take hu)
      have hlt : (news.take n).length = min m n := by simp [hln]; omega
      have hcl : off + 0 + (news.take n).length ≤ cs.length := by rw [hlt]; omega
      obtain ⟨w', hrun, hr', hu', hsz'⟩ := run_storeCells_row (P := P) g off e (news.take n) 0 cs w hr hcl h1'
      refine ⟨w', ?_, ⟨?_, .inr ⟨g, off, cap, _, rfl, hr', hnc, hcm, ?_, ?_⟩⟩, hu'.mono (fun b _ h => by simp [Value.ownBlock, h]), hsz', ?_⟩
      · simp [Builtin.copy_, run_underlying hu, hlx, sizeOf, typeInfo, hq, hi, hfx, hrun]
      · simp [hln, hlxs]; omega
      · simp [hln]; omega
      · rw [Nat.add_zero, hlt, ← ht', List.append_assoc, List.drop_append, List.drop_of_length_le (by simp; omega)]
        have e3 : off - (List.take off cs).length = 0 := by simp; omega
        rw [e3, List.drop_zero, List.nil_append, List.take_append, hlt, List.take_of_length_le (by rw [hlt]; omega), Nat.mul_one]
        congr 1
        rw [List.drop_take, List.drop_drop]
        by_cases hmn : m ≤ n
        · rw [Nat.min_eq_left hmn]
        · rw [Nat.min_eq_right (by omega)]
          have : n - m = 0 := by omega
          simp [this]
      · rintro g' off' cap' cs' hv hr2
        cases hv
        obtain ⟨rfl, _⟩ := hr.uniq hr2
        rw [Nat.add_zero, hlt] at hr'
        simpa using hr'
end

end Go.Proofs.Ytaejnhgnacgheaa
