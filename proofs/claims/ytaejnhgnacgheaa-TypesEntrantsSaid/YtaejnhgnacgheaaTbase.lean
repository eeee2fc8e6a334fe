/- types: lists in memory that are only read; plain words, numbers, conditions. -/
import Derived.Test.YtaejnhgnacgheaaOps
import Derived.Maps.OwnSet
import Derived.Deep.RegionHeld
import Derived.Deep.RegionHeld3
import Derived.Deep.RegionLaw
import Derived.Deep.LoopGhost
import Derived.Deep.QuietTactic
import Derived.BigQuiet
import Derived.Deep.DeepMust
namespace Go.Proofs.Ytaejnhgnacgheaa
set_option linter.unusedVariables false
set_option linter.unusedSimpArgs false
open Go.RowKit

/-- nothing that was there has changed -/
abbrev Kp (w w' : World) : Prop := Upd (fun _ => False) w w'
theorem Kp.refl (w : World) : Kp w w := Upd.refl _ w
theorem Kp.trans {a b c : World} (h : Kp a b) (k : Kp b c) : Kp a c := Upd.trans h k (fun _ _ h => h)
theorem Kp.cellAt {w w' : World} (h : Kp w w') {a : Addr} {v : Value} (hc : w.cell? a = some v) : w'.cell? a = some v :=
  (Upd.cell h (World.block_lt_of_cell? _ _ hc) id).trans hc

/-- A slice value that reads as the list L: each element lies in k cells. -/
def LstA {α : Type} (k : Nat) (enc : α → List Value) (w : World) (A : Option Addr) (c : Nat) (L : List α) : Prop :=
  L.length ≤ c ∧ (A = none → L = []) ∧ ∀ ad, A = some ad → ad.spot = none ∧ ad.block < w.heap.size ∧ ∀ j x, L[j]? = some x → ∀ i u, (enc x)[i]? = some u → w.cell? ⟨ad.block, ad.off + j * k + i, none⟩ = some u
def Lst {α : Type} (k : Nat) (enc : α → List Value) (w : World) (v : Value) (L : List α) : Prop :=
  ∃ A c, v = .slice A L.length c ∧ LstA k enc w A c L
section
variable {α : Type} {k : Nat} {enc : α → List Value} {w w' : World} {v : Value} {L : List α} {A : Option Addr} {c : Nat}
theorem LstA.upd (h : LstA k enc w A c L) (hu : Kp w w') : LstA k enc w' A c L := by
  obtain ⟨h1, h2, h3⟩ := h
  refine ⟨h1, h2, fun ad hA => ?_⟩
  obtain ⟨h4, h5, h6⟩ := h3 ad hA
  refine ⟨h4, Nat.lt_of_lt_of_le h5 hu.size, fun j x hj i u hi => ?_⟩
  exact (Upd.cell hu (a := ⟨ad.block, ad.off + j * k + i, none⟩) h5 id).trans (h6 j x hj i u hi)
theorem Lst.upd (h : Lst k enc w v L) (hu : Kp w w') : Lst k enc w' v L := by
  obtain ⟨A, c, rfl, h⟩ := h
  exact ⟨A, c, rfl, h.upd hu⟩
theorem Lst.nil_ (k : Nat) (enc : α → List Value) (w : World) : Lst k enc w (.slice none 0 0) [] := ⟨none, 0, rfl, Nat.le_refl _, fun _ => rfl, by simp⟩
/-- at an index inside it, the slice's block is there, and the element's cells -/
theorem LstA.at_ (h : LstA k enc w A c L) {j : Nat} (hj : j < L.length) : ∃ g o, A = some ⟨g, o, none⟩ ∧ ∀ i u, (enc L[j])[i]? = some u → w.cell? ⟨g, o + j * k + i, none⟩ = some u := by
  obtain ⟨h1, h2, h3⟩ := h
  cases A with
  | none => rw [h2 rfl] at hj; simp at hj
  | some ad =>
    obtain ⟨h4, h5, h6⟩ := h3 ad rfl
    obtain ⟨b, o, s⟩ := ad
    simp only at h4
    subst h4
    exact ⟨b, o, rfl, fun i u hi => h6 j L[j] (List.getElem?_eq_getElem hj) i u hi⟩
theorem LstA.at1 {f : α → Value} (h : LstA 1 (fun x => [f x]) w A c L) {j : Nat} (hj : j < L.length) : ∃ g o, A = some ⟨g, o, none⟩ ∧ w.cell? ⟨g, o + j, none⟩ = some (f L[j]) := by
  obtain ⟨g, o, hA, hc⟩ := h.at_ hj
  exact ⟨g, o, hA, by simpa using hc 0 (f L[j]) rfl⟩
theorem LstA.at2 {f1 f2 : α → Value} (h : LstA 2 (fun x => [f1 x, f2 x]) w A c L) {j : Nat} (hj : j < L.length) :
    ∃ g o, A = some ⟨g, o, none⟩ ∧ w.cell? ⟨g, o + j * 2, none⟩ = some (f1 L[j]) ∧ w.cell? ⟨g, o + j * 2 + 1, none⟩ = some (f2 L[j]) := by
  obtain ⟨g, o, hA, hc⟩ := h.at_ hj
  exact ⟨g, o, hA, hc 0 _ rfl, hc 1 _ rfl⟩
theorem LstA.at3 {f1 f2 f3 : α → Value} (h : LstA 3 (fun x => [f1 x, f2 x, f3 x]) w A c L) {j : Nat} (hj : j < L.length) :
    ∃ g o, A = some ⟨g, o, none⟩ ∧ w.cell? ⟨g, o + j * 3, none⟩ = some (f1 L[j]) ∧ w.cell? ⟨g, o + j * 3 + 1, none⟩ = some (f2 L[j]) ∧ w.cell? ⟨g, o + j * 3 + 2, none⟩ = some (f3 L[j]) := by
  obtain ⟨g, o, hA, hc⟩ := h.at_ hj
  exact ⟨g, o, hA, hc 0 _ rfl, hc 1 _ rfl, hc 2 _ rfl⟩
end
theorem flat_get {α : Type} {enc : α → List Value} {k : Nat} (hk : ∀ x, (enc x).length = k) : ∀ (L : List α) (j : Nat) (x : α), L[j]? = some x → ∀ i u, (enc x)[i]? = some u → (L.flatMap enc)[j * k + i]? = some u
  | [], j, x, h, _, _, _ => by simp at h
  | y :: L, 0, x, h, i, u, hi => by
    simp at h
    subst h
    have := (List.getElem?_eq_some_iff.1 hi).1
    rw [List.flatMap_cons, Nat.zero_mul, Nat.zero_add, List.getElem?_append_left this]
    exact hi
  | y :: L, j + 1, x, h, i, u, hi => by
    have h' : L[j]? = some x := by simpa using h
    have := flat_get hk L j x h' i u hi
    rw [List.flatMap_cons, List.getElem?_append_right (by rw [hk, Nat.add_mul]; omega), hk]
    rw [show (j + 1) * k + i - k = j * k + i from by rw [Nat.add_mul]; omega]
    exact this
theorem flat_len {α : Type} {enc : α → List Value} {k : Nat} (hk : ∀ x, (enc x).length = k) : ∀ (L : List α), (L.flatMap enc).length = L.length * k
  | [] => by simp
  | y :: L => by rw [List.flatMap_cons, List.length_append, hk, flat_len hk L, List.length_cons, Nat.add_mul]; omega
theorem Sl.lst {α : Type} {w : World} {v : Value} {e k : Nat} {enc : α → List Value} {L : List α} (hk : ∀ x, (enc x).length = k) (h : Sl w v e k L.length (L.flatMap enc)) : Lst k enc w v L := by
  have hrd := h.rd
  obtain ⟨hl, A, c, rfl, hnc, h0, hc⟩ := hrd
  refine ⟨A, c, rfl, hnc, fun hA => List.eq_nil_of_length_eq_zero (h0 hA), fun ad hA => ?_⟩
  obtain ⟨h1, h2⟩ := hc ad hA
  subst hA
  refine ⟨h1, h.lt rfl, fun j x hj i u hi => ?_⟩
  have := h2 (j * k + i) u (flat_get hk L j x hj i u hi)
  rw [← Nat.add_assoc] at this
  exact this
theorem Lst.rd {α : Type} {w : World} {v : Value} {k : Nat} {enc : α → List Value} {L : List α} (hk : ∀ x, (enc x).length = k) (h : Lst k enc w v L) : Rd w v k L.length (L.flatMap enc) := by
  obtain ⟨A, c, rfl, h1, h2, h3⟩ := h
  refine ⟨flat_len hk L, A, c, rfl, h1, fun hA => by rw [h2 hA]; rfl, fun ad hA => ?_⟩
  obtain ⟨h4, h5, h6⟩ := h3 ad hA
  refine ⟨h4, fun j u hj => ?_⟩
  have hjl := (List.getElem?_eq_some_iff.1 hj).1
  rw [flat_len hk] at hjl
  have hk0 : 0 < k := by
    rcases Nat.eq_zero_or_pos k with h0 | h0
    · rw [h0] at hjl; simp at hjl
    · exact h0
  have hd : j / k < L.length := (Nat.div_lt_iff_lt_mul hk0).2 hjl
  have hm := Nat.mod_lt j hk0
  have e1 := Nat.div_add_mod j k
  rw [Nat.mul_comm] at e1
  have h7 := flat_get hk L (j / k) L[j / k] (List.getElem?_eq_getElem hd) (j % k) _ (List.getElem?_eq_getElem (by rw [hk]; exact hm))
  rw [e1, hj] at h7
  have h8 := h6 (j / k) L[j / k] (List.getElem?_eq_getElem hd) (j % k) _ (List.getElem?_eq_getElem (by rw [hk]; exact hm))
  rw [Nat.add_assoc, e1] at h8
  rw [h8, ← h7]

/-- how elements lie -/
def numE (x : Int) : List Value := [.int .i64 x]
def strE (l : List UInt8) : List Value := [.string ⟨l.toArray⟩]
def tierE (t : Int × Int) : List Value := [.int .i64 t.1, .int .i64 t.2]
def placeE (p : List UInt8 × Int) : List Value := [.string ⟨p.1.toArray⟩, .int .i64 p.2]
def quotaE (q : List UInt8 × Int × Int) : List Value := [.string ⟨q.1.toArray⟩, .int .i64 q.2.1, .int .i64 q.2.2]
abbrev Nums := Lst 1 numE
abbrev Strs := Lst 1 strE
abbrev Tiers := Lst 2 tierE
abbrev Places := Lst 2 placeE
abbrev Quotas := Lst 3 quotaE

def byteE (b : UInt8) : List Value := [.int .u8 b.toNat]
theorem byteE_flat (l : List UInt8) : l.flatMap byteE = bvs l := by
  induction l with
  | nil => rfl
  | cons x l ih => rw [List.flatMap_cons, ih]; rfl
theorem numE_flat (l : List Int) : l.flatMap numE = l.map (Value.int .i64) := by
  induction l with
  | nil => rfl
  | cons x l ih => rw [List.flatMap_cons, ih]; rfl
theorem strE_flat (l : List (List UInt8)) : l.flatMap strE = l.map (fun s => Value.string ⟨s.toArray⟩) := by
  induction l with
  | nil => rfl
  | cons x l ih => rw [List.flatMap_cons, ih]; rfl
theorem Sl.bytes {w : World} {v : Value} {e : Nat} {l : List UInt8} (h : Sl w v e 1 l.length (bvs l)) : Lst 1 byteE w v l := Sl.lst (fun _ => rfl) (by rw [byteE_flat]; exact h)
theorem Sl.form {w : World} {v : Value} {e size n : Nat} {xs : List Value} (h : Sl w v e size n xs) : ∃ A c, v = .slice A n c ∧ n ≤ c := by
  rcases h.2 with ⟨rfl, rfl⟩ | ⟨g, o, c, cs, rfl, hr, hnc, _⟩
  · exact ⟨_, _, rfl, Nat.le_refl _⟩
  · exact ⟨_, _, rfl, hnc⟩
theorem Rd.of_new {w : World} {e : TypeId} {cs : Array Value} {g n size : Nat} (h : Row w g e cs.toList) (hn : cs.size = n * size) : Rd w (.slice (some ⟨g, 0, none⟩) n n) size n cs.toList := by
  refine ⟨by simpa using hn, _, _, rfl, Nat.le_refl _, by simp, ?_⟩
  rintro ad hA
  cases hA
  exact ⟨rfl, fun j u hu => by rw [Nat.zero_add, h.cell, hu]⟩
theorem Row.new_at (w : World) (e : TypeId) (cs : Array Value) (g : Nat) (hg : g = w.heap.size) : Row (w.alloc (.cells cs e)) g e cs.toList := by subst hg; exact Row.new w e cs
theorem Sl.far {w w' : World} {v : Value} {e : TypeId} {size n : Nat} {xs : List Value} (h : Sl w v e size n xs) (hu : Upd (fun _ => False) w w') : Sl w' v e size n xs := h.upd hu (fun _ _ => id)
theorem below_upd {w w' : World} (h : Below w.heap.size w w') : Upd (fun _ => False) w w' := ⟨h.os, h.tape, h.output, h.size, fun k hk _ => h.block k hk⟩

def in64 (n : Int) : Prop := -9223372036854775808 ≤ n ∧ n ≤ 9223372036854775807

/-- plain conditions -/
def isWord (l : List UInt8) : Bool := l.all (fun c => decide (97 ≤ c.toNat ∧ c.toNat ≤ 122)) && (decide (1 ≤ l.length) && decide (l.length ≤ 30))
def inR (n low high : Int) : Bool := decide (low ≤ n) && decide (n ≤ high)
def dup {α : Type} [DecidableEq α] : List α → Bool
  | [] => false
  | x :: L => decide (x ∈ L) || dup L
def firstL : List Int → Int
  | [] => 0
  | e :: es => if e = 0 then firstL es else e
def unl (ok : Bool) (e : Int) : Int := if ok then 0 else e

/-- what a function that only reads answers -/
def Gives (w : World) (r : Value) (e : Ending) (w' : World) : Prop := e = .returned r ∧ Kp w w'
end Go.Proofs.Ytaejnhgnacgheaa
