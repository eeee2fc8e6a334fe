/- The desk of the laws: offsets and texts of acts. -/
import Derived.Test.YtacghhgiilhkfaaRef5
import Derived.Deep.LoopGhost
import Derived.Deep.DeepMust
namespace Go.Proofs.Ytacghhgiilhkfaa
set_option linter.unusedVariables false
open Go.RowKit

structure ActL where
  kind : Int
  off : Int
  n : Int
  text : List UInt8

def actV (a : ActL) : Value := .agg #[.int .i64 a.kind, .int .i64 a.off, .int .i64 a.n, .string ⟨a.text.toArray⟩]
def in64 (x : Int) : Prop := -9223372036854775808 ≤ x ∧ x ≤ 9223372036854775807
def whereI (a : ActL) : Int := if a.off < 0 ∨ 16777216 < a.off then a.off else modI a.off 300

def FarPost (w : World) (v : Value) (e : Ending) (w' : World) : Prop := e = .returned v ∧ Upd (fun _ => False) w w'

theorem where_any (w : World) (a : ActL) (ho : in64 a.off) :
    Calls Try.prog 31 #[actV a] w (FarPost w (.int .i64 (whereI a))) := by
  obtain ⟨k, off, n, text⟩ := a
  unfold actV whereI in64 at *
  dsimp only at *
  have hr := Row.new_at w 33 #[.int .i64 k, .int .i64 off, .int .i64 n, .string ⟨text.toArray⟩] w.heap.size rfl
  have c1 : (w.alloc (.cells #[.int .i64 k, .int .i64 off, .int .i64 n, .string ⟨text.toArray⟩] 33)).cell? ⟨w.heap.size, 1, none⟩ = some (.int .i64 off) := hr.cell 1
  have hfar : Upd (fun _ => False) w (w.alloc (.cells #[.int .i64 k, .int .i64 off, .int .i64 n, .string ⟨text.toArray⟩] 33)) := (Upd.refl _ _).alloc _
  have HF := Lib.hid hfar
  clear hfar hr
  obtain ⟨ho1, ho2⟩ := ho
  by_cases h1 : off < 0
  · rw [if_pos (.inl h1)]
    go_enter Try.func31, Try.ntmps31
    go_wp2
    go_ret
    exact ⟨rfl, HF.out⟩
  · by_cases h2 : 16777216 < off
    · rw [if_pos (.inr h2)]
      go_enter Try.func31, Try.ntmps31
      go_wp2
      go_ret
      exact ⟨rfl, HF.out⟩
    · rw [if_neg (by omega)]
      go_enter Try.func31, Try.ntmps31
      go_wp2_with (first
        | (go_at_call 14; go_must (refine (mod_any _ _ _ (by decide) (by decide) (by omega) (by omega)).mono ?_; rintro e w' ⟨rfl, rfl⟩)))
      go_ret
      exact ⟨rfl, HF.out⟩

/-- the text of an act, doubled until it is long enough -/
def growL (t : List UInt8) (m : Nat) : Nat → List UInt8 → List UInt8
  | 0, s => s
  | k + 1, s => if 0 < s.length ∧ s.length < m then growL t m k (s ++ t) else s
theorem growL_stop (t : List UInt8) (m : Nat) (s : List UInt8) (h : ¬ (0 < s.length ∧ s.length < m)) : ∀ k, growL t m k s = s
  | 0 => rfl
  | k + 1 => by unfold growL; rw [if_neg h]
def longL (a : ActL) : List UInt8 := (growL a.text (modI a.n 200).toNat 200 a.text).take 200
theorem longL_le (a : ActL) : (longL a).length ≤ 200 := by unfold longL; simp; omega

def LRel (w : World) (a : ActL) (s : List UInt8) (wr : World) : Prop :=
  (∃ k, growL a.text (modI a.n 200).toNat k s = growL a.text (modI a.n 200).toNat 200 a.text ∧ 200 ≤ s.length + k) ∧ (s = a.text ∨ s.length ≤ 1000000) ∧ (a.text = [] ↔ s = []) ∧ (s = a.text ∨ a.text.length ≤ 200) ∧ Upd (fun _ => False) w wr

theorem LRel.len {w wr : World} {a : ActL} {s : List UInt8} (h : LRel w a s wr) (ht : a.text.length ≤ 2 ^ 63 - 1) : s.length ≤ 9223372036854775807 ∧ (s.length ≤ 200 → a.text.length ≤ 200) := by
  constructor
  · rcases h.2.1 with h | h
    · subst h; omega
    · omega
  · intro hl
    rcases h.2.2.2.1 with h | h
    · subst h; exact hl
    · exact h
theorem LRel.stop {w wr : World} {a : ActL} {s : List UInt8} (h : LRel w a s wr) {m : Nat} (hm : modI a.n 200 = m) (hs : ¬ (0 < s.length ∧ s.length < m)) : s.take 200 = longL a := by
  obtain ⟨k, hk, _⟩ := h.1
  unfold longL
  rw [← hk, growL_stop _ _ _ (by rw [hm]; simpa using hs)]
theorem LRel.next {w wr : World} {a : ActL} {s : List UInt8} (h : LRel w a s wr) {m : Nat} (hm : modI a.n 200 = m) (hm2 : m < 200) (hs : 0 < s.length) (hsm : s.length < m) : LRel w a (s ++ a.text) wr ∧ 0 < a.text.length := by
  have ha : 0 < a.text.length := by
    cases hq : a.text with
    | nil => have := h.2.2.1.1 hq; subst this; simp at hs
    | cons x l => simp
  have hal : a.text.length ≤ 200 := by
    rcases h.2.2.2.1 with h | h
    · subst h; omega
    · exact h
  obtain ⟨k, hk, hk2⟩ := h.1
  refine ⟨⟨?_, .inr (by simp; omega), ?_, .inr hal, h.2.2.2.2⟩, ha⟩
  · cases k with
    | zero => omega
    | succ k =>
      refine ⟨k, ?_, by simp; omega⟩
      rw [← hk]
      conv => rhs; unfold growL
      rw [if_pos ⟨hs, by rw [hm]; simpa using hsm⟩]
  · constructor
    · intro h; rw [h] at ha; simp at ha
    · intro h; simp at h; rw [h.2] at ha; simp at ha

theorem far_end {w wr : World} {a : ActL} {s : List UInt8} {r : Value} (hw : Upd (fun _ => False) w wr) (hX : s.take 200 = longL a) (q : Nat) (hq : s.take q = s.take 200) (hr : r = .string ((ByteArray.mk s.toArray).extract 0 q)) :
    FarPost w (.string ⟨(longL a).toArray⟩) (.returned r) wr := by
  refine ⟨?_, hw⟩
  subst hr
  rw [extract_mid, ← hX, ← hq]
  simp

theorem long_any (w : World) (a : ActL) (hn : in64 a.n) (ht : a.text.length ≤ maxLen) :
    Calls Try.prog 33 #[actV a] w (FarPost w (.string ⟨(longL a).toArray⟩)) := by
  obtain ⟨hn1, hn2⟩ := hn
  unfold maxLen at ht
  have hr := Row.new_at w 33 #[.int .i64 a.kind, .int .i64 a.off, .int .i64 a.n, .string ⟨a.text.toArray⟩] w.heap.size rfl
  have c3 : (w.alloc (.cells #[.int .i64 a.kind, .int .i64 a.off, .int .i64 a.n, .string ⟨a.text.toArray⟩] 33)).cell? ⟨w.heap.size, 3, none⟩ = some (.string ⟨a.text.toArray⟩) := hr.cell 3
  have hfar : Upd (fun _ => False) w (w.alloc (.cells #[.int .i64 a.kind, .int .i64 a.off, .int .i64 a.n, .string ⟨a.text.toArray⟩] 33)) := (Upd.refl _ _).alloc _
  have HF := Lib.hid hfar
  have HR := Lib.hid hr
  clear hfar hr
  obtain ⟨m, hm⟩ : ∃ m : Nat, modI a.n 200 = m ∧ m < 200 := ⟨(modI a.n 200).toNat, by have := modI_bounds a.n 200 (by decide); omega⟩
  have HM := Lib.hid hm
  clear hm
  unfold actV
  go_enter Try.func33, Try.ntmps33
  go_wp2_with fail
  go_loopw [3] (fun v wr => ∃ s : List UInt8, v = .string ⟨s.toArray⟩ ∧ LRel (w.alloc (.cells #[.int .i64 a.kind, .int .i64 a.off, .int .i64 a.n, .string ⟨a.text.toArray⟩] 33)) a s wr) (fun v _ => 200 - strLen v)
  case atStart => exact ⟨a.text, rfl, ⟨200, rfl, by omega⟩, .inl rfl, Iff.rfl, .inl rfl, Upd.refl _ _⟩
  case round =>
    obtain ⟨s, rfl, hR⟩ := hrel
    have hrw := HR.out.upd hR.2.2.2.2 (fun h => h)
    have d2 : wr.cell? ⟨w.heap.size, 2, none⟩ = some (.int .i64 a.n) := hrw.cell 2
    have d3 : wr.cell? ⟨w.heap.size, 3, none⟩ = some (.string ⟨a.text.toArray⟩) := hrw.cell 3
    have hsl : s.length ≤ 9223372036854775807 := (hR.len ht).1
    have HRL := Lib.hid hR
    clear hR hrw
    by_cases hs : 0 < s.length
    · by_cases hsm : s.length < m
      · have hal : a.text.length ≤ 200 := (HRL.out.len ht).2 (by have := HM.out.2; omega)
        have hm3 := HM.out.2
        go_wp2_with (first
          | (go_at_call 14; go_must (refine (mod_any _ _ _ (by decide) (by decide) (by omega) (by omega)).mono ?_; rintro e w' ⟨rfl, rfl⟩; rw [HM.out.1])))
        go_roundw
        case rel => exact ⟨s ++ a.text, by rw [str_append], (HRL.out.next HM.out.1 HM.out.2 hs hsm).1⟩
        case measure =>
          have := HM.out.2
          have := (HRL.out.next HM.out.1 HM.out.2 hs hsm).2
          rw [str_append]
          simp [strLen, ByteArray.size]
          omega
      · have hm3 := HM.out.2
        have HX := Lib.hid (HRL.out.stop HM.out.1 (by omega))
        go_wp2_with (first
          | (go_at_call 14; go_must (refine (mod_any _ _ _ (by decide) (by decide) (by omega) (by omega)).mono ?_; rintro e w' ⟨rfl, rfl⟩; rw [HM.out.1])))
        · go_ret
          exact far_end (HF.out.trans HRL.out.2.2.2.2 (fun _ _ h => h)) HX.out 200 rfl rfl
        · go_ret
          exact far_end (HF.out.trans HRL.out.2.2.2.2 (fun _ _ h => h)) HX.out s.length (by rw [List.take_of_length_le (by omega), List.take_of_length_le (by omega)]) rfl
    · have HX := Lib.hid (HRL.out.stop HM.out.1 (by omega))
      go_wp2_with fail
      go_ret
      have h0 : s = [] := List.length_eq_zero_iff.mp (by omega)
      subst h0
      exact far_end (HF.out.trans HRL.out.2.2.2.2 (fun _ _ h => h)) HX.out 0 rfl rfl

def TextPost (w : World) (l : List UInt8) (e : Ending) (w' : World) : Prop := e = .returned (.string ⟨l.toArray⟩) ∧ Upd (fun _ => False) w w'

theorem Sl.setAt {w : World} {g o e n c j : Nat} {xs : List Value} (h : Sl w (.slice (some ⟨g, o, none⟩) n c) e 1 n xs) (hj : j < n) (u : Value) :
    w.frozen? ⟨g, o + j, none⟩ = false ∧ Sl (w.setCell ⟨g, o + j, none⟩ u) (.slice (some ⟨g, o, none⟩) n c) e 1 n (xs.set j u) ∧ w.cell? ⟨g, o + j, none⟩ = xs[j]? := by
  obtain ⟨hx, ⟨hv, _⟩ | ⟨g', o', c', cs, hv, hr, h1, h2, h3, h4⟩⟩ := h
  · cases hv
  · cases hv
    simp only [Nat.mul_one] at *
    refine ⟨hr.frozen (by omega), ⟨by simpa using hx, .inr ⟨g, o, c, cs.set (o + j) u, rfl, hr.set _ u, h1, h2, by simpa using h3, ?_⟩⟩, ?_⟩
    · simp only [Nat.mul_one]
      rw [← h4]
      apply List.ext_getElem?
      intro i
      rw [List.getElem?_take, List.getElem?_drop, List.getElem?_set, List.getElem?_set, List.getElem?_take, List.getElem?_drop, List.length_take, List.length_drop]
      grind
    · rw [hr.cell, ← h4]
      grind

def FillRel (w : World) (c : UInt8) (n : Nat) (A : Option Addr) (cap : Nat) (k : Nat) (wr : World) : Prop :=
  Sl wr (.slice A n cap) 5 1 n (bvs (List.replicate k c ++ List.replicate (n - k) 0)) ∧ Upd (fun _ => False) w wr ∧ ∀ b, (Value.slice A n cap).ownBlock = some b → w.heap.size ≤ b
theorem FillRel.next {w wr : World} {c : UInt8} {n g o cap k : Nat} (h : FillRel w c n (some ⟨g, o, none⟩) cap k wr) (hk : k < n) :
    wr.frozen? ⟨g, o + k, none⟩ = false ∧ FillRel w c n (some ⟨g, o, none⟩) cap (k + 1) (wr.setCell ⟨g, o + k, none⟩ (.int .u8 c.toNat)) ∧ (∃ v, wr.cell? ⟨g, o + k, none⟩ = some v) := by
  obtain ⟨h1, h2, h3⟩ := h
  have hs := h1.setAt hk (.int .u8 c.toNat)
  refine ⟨hs.1, ⟨?_, h2.setCell (fun hb => by have := h3 g rfl; simp only [] at hb; omega) _, h3⟩, ?_⟩
  · have he : (bvs (List.replicate k c ++ List.replicate (n - k) 0)).set k (.int .u8 c.toNat) = bvs (List.replicate (k + 1) c ++ List.replicate (n - (k + 1)) 0) := by
      unfold bvs
      have : (n - k) = (n - (k + 1)) + 1 := by omega
      rw [this, List.replicate_succ, List.replicate_succ']
      rw [List.map_append, List.map_append, List.map_append]
      simp [List.set_append]
    rw [← he]
    exact hs.2.1
  · rw [hs.2.2]
    exact ⟨_, List.getElem?_eq_getElem (by simp [bvs]; omega)⟩

theorem repeated_any (w : World) (c : UInt8) (n : Nat) (hn : n ≤ 1000000) :
    Calls Try.prog 20 #[.int .u8 c.toNat, .int .i64 n] w (TextPost w (List.replicate n c)) := by
  go_enter Try.func20, Try.ntmps20
  go_wp2_with (first
    | (show wpList _ _ _ (⟨some 8, _, _, _, _, _⟩ :: _) _ _; go_must (refine wpList_make_zeros rfl (.tmp 7) (.tmp 7) _ rfl T_bytes rfl (n := n) (m := n) rfl rfl (Nat.le_refl _) (by omega) (by unfold maxLen; omega) ?_); intro v1 w1 hN; obtain ⟨A1, c1, rfl, hA1⟩ := hN.sl.form; have hN' := Lib.hid hN))
  go_loopw [6] (fun v wr => ∃ k : Nat, k ≤ n ∧ v = .int .i64 k ∧ FillRel w c n A1 c1 k wr) (fun v _ => n - (intOf v).toNat)
  case atStart => exact ⟨0, by omega, rfl, by have := hN'.out.sl; rw [bvs_zeros] at this; simpa using this, hN'.out.upd, fun b hb => by have := hN'.out.at_.1; rw [this] at hb; cases hb; exact Nat.le_refl _⟩
  case round =>
    obtain ⟨k, hk, rfl, hR⟩ := hrel
    by_cases hlt : k < n
    · obtain ⟨g, o, rfl⟩ := Sl.some_ hR.1 (by omega)
      obtain ⟨hf, hR2, v, hv⟩ := hR.next hlt
      have HR2 := Lib.hid hR2
      clear hR hR2
      go_wp2_with fail
      go_roundw
      case rel => exact ⟨k + 1, by omega, by simp, HR2.out⟩
      case measure => simp [intOf]; omega
    · obtain rfl : k = n := by omega
      have hR3 := hR.1.rd
      have HR := Lib.hid hR
      clear hR
      go_wp2_with (first
        | (show wpList _ _ _ (⟨some 19, _, _, _, _, _⟩ :: _) _ _; go_must (refine wpList_string_rd rfl _ _ _ (.tmp 18) rfl Try.underlying52 Try.underlying5 Try.underlying9 rfl hR3 ?_)))
      go_ret
      exact ⟨by simp, HR.out.2.1⟩

def survL (n : Int) : List Int := [n, n.tdiv 2, n.tdiv 3, n.tdiv 5, n.tdiv 7].take (modI n 6).toNat
theorem survL_le (n : Int) : (survL n).length ≤ 5 := by unfold survL; simp; omega

def SurvPost (w : World) (q : List Int) (e : Ending) (w' : World) : Prop :=
  ∃ A c, e = .returned (.slice A q.length c) ∧ Rd w' (.slice A q.length c) 1 q.length (ivs q) ∧ (∀ k, (Value.slice A q.length c).ownBlock = some k → k < w'.heap.size) ∧ Upd (fun _ => False) w w'

theorem survive_any (w : World) (n : Int) (hn : in64 n) :
    Calls Try.prog 18 #[.int .i64 n] w (SurvPost w (survL n)) := by
  obtain ⟨hn1, hn2⟩ := hn
  obtain ⟨m, hm, hm5⟩ : ∃ m : Nat, modI n 6 = m ∧ m ≤ 5 := ⟨(modI n 6).toNat, by have := modI_bounds n 6 (by decide); omega, by have := modI_bounds n 6 (by decide); omega⟩
  have hl : survL n = [n, n.tdiv 2, n.tdiv 3, n.tdiv 5, n.tdiv 7].take m := by unfold survL; rw [hm]; rfl
  have HL := Lib.hid hl
  have HM := Lib.hid hm
  clear hl hm
  go_enter Try.func18, Try.ntmps18
  go_wp2_with (first
    | (go_at_call 14; go_must (refine (mod_any _ _ _ (by decide) (by decide) (by omega) (by omega)).mono ?_; rintro e w' ⟨rfl, rfl⟩; rw [HM.out])))
  go_ret
  have hr := Row.new_at w 3 #[.int .i64 n, .int .i64 (n.tdiv 2), .int .i64 (n.tdiv 3), .int .i64 (n.tdiv 5), .int .i64 (n.tdiv 7)] w.heap.size rfl
  have hlen : (survL n).length = m := by rw [HL.out]; simp; omega
  refine ⟨some ⟨w.heap.size, 0, none⟩, 5, by rw [hlen]; rfl, ?_, by intro k hk; cases hk; exact hr.lt, (Upd.refl _ _).alloc _⟩
  refine ⟨by simp [ivs], _, _, rfl, by omega, (by intro h; cases h), ?_⟩
  rintro ad ⟨⟩
  refine ⟨rfl, fun j u hu => ?_⟩
  rw [Nat.zero_add, hr.cell]
  rw [HL.out] at hu
  unfold ivs at hu
  rw [List.map_take] at hu
  rw [List.getElem?_take] at hu
  split at hu
  · exact hu
  · cases hu
end Go.Proofs.Ytacghhgiilhkfaa
