/- The states that a disk's calls lead to, and the calls of one disk among several structures. -/
import Derived.Test.YtcbpgmoegfkhnaaOwn
import Derived.Test.YtcbpgmoegfkhnaaDiskRead
namespace Go.Proofs.Ytcbpgmoegfkhnaa
set_option linter.unusedVariables false
open Go.RowKit

def Item.disk (b : Nat) (s : DSt) : Item := ⟨fun w F => DiskAt w F b s, fun ⟨vn, vs, vp, cells, hk⟩ hu hS hF => ⟨vn, vs, vp, cells, hk.upd hu hS hF⟩⟩

theorem cutL_length2 : ∀ (k off : Nat) (l : List UInt8), (cutL k off l).length ≤ (off % 64 + l.length + 63) / 64
  | 0, _, _ => by simp [cutL]
  | k + 1, off, l => by
    simp only [cutL]
    split
    · simp
    · have := cutL_length2 k (off + min (64 - off % 64) l.length) (l.drop (min (64 - off % 64) l.length))
      rw [List.length_drop] at this
      simp only [List.length_cons]
      have h64 : off % 64 < 64 := Nat.mod_lt _ (by decide)
      by_cases hq : l.length ≤ 64 - off % 64
      · rw [Nat.min_eq_right hq] at this ⊢
        have h0 : (cutL k (off + l.length) (l.drop l.length)).length ≤ 0 := by
          have := cutL_length k (off + l.length) (l.drop l.length)
          simpa using this
        omega
      · rw [Nat.min_eq_left (by omega)] at this ⊢
        have h1 : (off + (64 - off % 64)) % 64 = 0 := by omega
        rw [h1] at this
        omega
theorem pcsL_length2 (off : Nat) (l : List UInt8) (h : l.length ≤ 16777216) : (pcsL off l).length ≤ 262146 := by
  have := cutL_length2 l.length off l
  have h64 : off % 64 < 64 := Nat.mod_lt _ (by decide)
  unfold pcsL
  omega

def Bad (off : Int) (l : List UInt8) : Prop := off < 0 ∨ 16777216 < off ∨ 16777216 - off < l.length
instance (off : Int) (l : List UInt8) : Decidable (Bad off l) := by unfold Bad; infer_instance
def Dead (s : DSt) : Prop := s.failing = true ∧ s.left = 0
instance (s : DSt) : Decidable (Dead s) := by unfold Dead; infer_instance
theorem alive_ok {s : DSt} (h : ¬ Dead s) : s.failing = false ∨ s.left ≠ 0 := by
  unfold Dead at h
  cases hf : s.failing with
  | false => exact .inl rfl
  | true => exact .inr (fun h2 => h ⟨hf, h2⟩)
def writeSt (s : DSt) (off : Int) (l : List UInt8) : Int × DSt := if Bad off l then (1, s) else if Dead s then (70, s) else (0, wroteSt s off.toNat l)
def syncSt (s : DSt) : Int × DSt := if Dead s then (70, s) else (0, syncedSt s)
def failSt (s : DSt) (n : Int) : DSt := { s with failing := decide (0 ≤ n), left := n }

structure Fit (n : Nat) (s : DSt) : Prop where
  now : s.now.length ≤ 16777216
  syn : s.synced.length ≤ 16777216
  pcs : s.pieces.length ≤ n * 262146
  lo : 0 ≤ s.calls
  hi : s.calls ≤ n
  left : -(n : Int) ≤ s.left
  left2 : s.left ≤ 9223372036854775807
  ps : ∀ p, p ∈ s.pieces → p.1 + p.2.length ≤ 16777216

theorem Fit.new : Fit 0 newSt := by constructor <;> simp [newSt]
theorem Fit.mono {n m : Nat} {s : DSt} (h : Fit n s) (hm : n ≤ m) : Fit m s :=
  ⟨h.now, h.syn, Nat.le_trans h.pcs (Nat.mul_le_mul_right _ hm), h.lo, by have := h.hi; omega, by have := h.left; omega, h.left2, h.ps⟩

theorem cutL_mem : ∀ (k off : Nat) (l : List UInt8) (p : Nat × List UInt8), p ∈ cutL k off l → off ≤ p.1 ∧ p.1 + p.2.length ≤ off + l.length
  | 0, _, _, _, h => by simp [cutL] at h
  | k + 1, off, l, p, h => by
    simp only [cutL] at h
    split at h
    · simp at h
    · rcases List.mem_cons.1 h with rfl | h
      · simp; omega
      · have := cutL_mem k _ _ p h
        rw [List.length_drop] at this
        omega
theorem pcsL_mem {off : Nat} {l : List UInt8} {p : Nat × List UInt8} (h : p ∈ pcsL off l) : off ≤ p.1 ∧ p.1 + p.2.length ≤ off + l.length := cutL_mem _ _ _ _ h

theorem Fit.wrote {n : Nat} {s : DSt} (h : Fit n s) {off : Nat} {l : List UInt8} (ho : off + l.length ≤ 16777216) (hl : l.length ≤ 16777216) : Fit (n + 1) (wroteSt s off l) := by
  have h1 := h.pcs; have h2 := h.now; have h3 := h.hi; have h4 := h.lo; have h5 := h.left; have h6 := h.left2; have h7 := pcsL_length2 off l hl
  refine ⟨?_, h.syn, ?_, ?_, ?_, ?_, ?_, ?_⟩
  · simp only [wroteSt, putL_length]; omega
  · simp only [wroteSt, List.length_append]; omega
  · simp only [wroteSt]; omega
  · simp only [wroteSt]; omega
  · simp only [wroteSt]; split <;> omega
  · simp only [wroteSt]; split <;> omega
  · intro p hp
    simp only [wroteSt, List.mem_append] at hp
    rcases hp with hp | hp
    · exact h.ps p hp
    · have := (pcsL_mem hp).2; omega
theorem Fit.left_ {n : Nat} {s : DSt} (h : Fit n s) {x : Int} (h1 : -(n : Int) ≤ x) (h2 : x ≤ 9223372036854775807) : Fit n { s with left := x } := ⟨h.now, h.syn, h.pcs, h.lo, h.hi, h1, h2, h.ps⟩
theorem Fit.write {n : Nat} {s : DSt} (h : Fit n s) {off : Int} {l : List UInt8} (hl : l.length ≤ 16777216) : Fit (n + 1) (writeSt s off l).2 := by
  unfold writeSt
  split
  · exact h.mono (by omega)
  · rename_i hb
    unfold Bad at hb
    split
    · exact h.mono (by omega)
    · exact h.wrote (by omega) hl
theorem Fit.sync {n : Nat} {s : DSt} (h : Fit n s) : Fit (n + 1) (syncSt s).2 := by
  have h3 := h.hi; have h4 := h.lo; have h5 := h.left; have h6 := h.left2
  unfold syncSt
  split
  · exact h.mono (by omega)
  · refine ⟨h.now, h.now, by simp [syncedSt], ?_, ?_, ?_, ?_, by simp [syncedSt]⟩
    · simp only [syncedSt]; omega
    · simp only [syncedSt]; omega
    · simp only [syncedSt]; split <;> omega
    · simp only [syncedSt]; split <;> omega
theorem crashL_length (q : List Int) : ∀ (ps : List (Nat × List UInt8)) (k : Nat) (c : List UInt8), c.length ≤ 16777216 → (∀ p, p ∈ ps → p.1 + p.2.length ≤ 16777216) → (crashL q k ps c).length ≤ 16777216
  | [], _, _, h, _ => h
  | p :: ps, k, c, h, hp => by
    simp only [crashL]
    apply crashL_length q ps (k + 1)
    · split
      · rw [putL_length]; have := hp p (by simp); omega
      · exact h
    · exact fun x hx => hp x (by simp [hx])
theorem Fit.crashed {n : Nat} {s : DSt} (h : Fit n s) (q : List Int) : Fit 0 (crashedSt s q) := by
  have h1 := crashL_length q _ 0 _ h.syn h.ps
  generalize hc : crashL q 0 s.pieces s.synced = c at h1
  constructor <;> simp [crashedSt, hc, h1]
theorem Fit.fail {n : Nat} {s : DSt} (h : Fit n s) {k : Int} (hk : -1 ≤ k) (hk2 : k ≤ 9223372036854775807) : Fit (n + 1) (failSt s k) := by
  have h1 := h.pcs; have h3 := h.hi
  exact ⟨h.now, h.syn, Nat.le_trans h1 (Nat.mul_le_mul_right _ (Nat.le_succ n)), h.lo, by simp only [failSt]; omega, by simp only [failSt]; omega, hk2, h.ps⟩

section
variable {W w : World} {m : List Item} (h : Own W w m) (i : Nat) {b : Nat} {s : DSt}
include h

theorem own_write (hi : m[i]? = some (.disk b s)) {n : Nat} (hf : Fit n s) (hn : n ≤ 1500) (off : Int) (l : List UInt8) (hl : l.length ≤ 16777216) :
    Calls Try.prog 21 #[.pointer (some ⟨b, 0, none⟩), .int .i64 off, .string ⟨l.toArray⟩] w (IPost W m i (writeSt s off l).1 (.disk b (writeSt s off l).2)) := by
  unfold writeSt
  by_cases hb : Bad off l
  · rw [if_pos hb]
    exact (write_bad w b off l hb (by unfold maxLen; omega)).mono fun e w' ⟨he, hw⟩ => ⟨he, by rw [← hw, set_same i hi]; exact h⟩
  · rw [if_neg hb]
    unfold Bad at hb
    obtain ⟨F, hd, hF, hgo⟩ := h.take i hi
    by_cases hq : Dead s
    · rw [if_pos hq]
      obtain ⟨vn, vs, vp, cells, hk⟩ := hd
      have hr := hk.row
      rw [hq.1, hq.2] at hr
      exact (write_off w b vn vs vp s.calls hr off l (by omega) (by omega) (by omega)).mono fun e w' ⟨he, hw⟩ => ⟨he, by rw [← hw, set_same i hi]; exact h⟩
    · rw [if_neg hq]
      obtain ⟨o, rfl⟩ : ∃ o : Nat, off = o := ⟨off.toNat, by omega⟩
      exact (write_ok w F hF b s hd o l (by omega) hf.lo (by have := hf.hi; omega) (alive_ok hq) (by have := hf.left; omega) hf.left2 hf.now (by have := hf.pcs; omega)).mono fun e w' ⟨he, hw, hu⟩ => ⟨he, hgo _ _ hw hu⟩
theorem own_sync (hi : m[i]? = some (.disk b s)) {n : Nat} (hf : Fit n s) (hn : n ≤ 1500) :
    Calls Try.prog 22 #[.pointer (some ⟨b, 0, none⟩)] w (IPost W m i (syncSt s).1 (.disk b (syncSt s).2)) := by
  unfold syncSt
  obtain ⟨F, hd, hF, hgo⟩ := h.take i hi
  by_cases hq : Dead s
  · rw [if_pos hq]
    obtain ⟨vn, vs, vp, cells, hk⟩ := hd
    have hr := hk.row
    rw [hq.1, hq.2] at hr
    exact (sync_off w b vn vs vp s.calls hr).mono fun e w' ⟨he, hw⟩ => ⟨he, by rw [← hw, set_same i hi]; exact h⟩
  · rw [if_neg hq]
    exact (sync_ok w F b s hd hf.lo (by have := hf.hi; omega) (alive_ok hq) (by have := hf.left; omega) hf.left2 hf.now).mono fun e w' ⟨he, hw, hu⟩ => ⟨he, hgo _ _ hw hu⟩
theorem own_size (hi : m[i]? = some (.disk b s)) : Calls Try.prog 25 #[.pointer (some ⟨b, 0, none⟩)] w fun e w' => e = .returned (.int .i64 s.now.length) ∧ w = w' := by
  obtain ⟨F, ⟨vn, vs, vp, cells, hk⟩, _⟩ := h.take i hi
  obtain ⟨A, c, rfl, _⟩ := hk.now.form
  exact size_any b w A _ c vs vp _ _ _ hk.row
theorem own_read (hi : m[i]? = some (.disk b s)) {n : Nat} (hf : Fit n s) (off k : Int) (ho : off ≤ 9223372036854775807) (hk : k ≤ 9223372036854775807) :
    Calls Try.prog 24 #[.pointer (some ⟨b, 0, none⟩), .int .i64 off, .int .i64 k] w (XPost W m (.string ⟨(readL s.now off k).toArray⟩)) := by
  obtain ⟨F, hd, _⟩ := h.take i hi
  exact (read_any w F b s hd (by have := hf.now; omega) off k ho hk).mono fun e w' ⟨he, c, hw⟩ => ⟨he, by subst hw; exact h.far ((Upd.refl _ w).drewN c)⟩
theorem own_fail (hi : m[i]? = some (.disk b s)) (k : Int) :
    Calls Try.prog 19 #[.pointer (some ⟨b, 0, none⟩), .int .i64 k] w (XPost W (m.set i (.disk b (failSt s k))) (.tuple #[])) := by
  obtain ⟨F, ⟨vn, vs, vp, cells, hk⟩, hF, hgo⟩ := h.take i hi
  exact (fail_any b w _ _ _ _ _ _ hk.row k).mono fun e w' ⟨he, hr, ho⟩ => ⟨he, hgo _ _ ⟨vn, vs, vp, cells, by
    have h2 := hk.only hr ho
    have : (decide (-1 < k)) = decide (0 ≤ k) := by simp; omega
    rw [this] at h2
    exact h2.upd (Upd.refl (fun _ => False) _) (fun _ _ => id) (fun _ h => .inl h)⟩ (ho.1.mono fun k _ hk2 => by subst hk2; exact hk.fb)⟩
theorem own_new : Calls Try.prog 10 #[] w (NPost W m (.disk · newSt)) :=
  (new_disk w).mono fun e w' ⟨b, he, hd, hu⟩ => ⟨b, he, h.more hu hd⟩
theorem own_crash (hi : m[i]? = some (.disk b s)) {n : Nat} (hf : Fit n s) (hn : n ≤ 1500) {Aq : Option Addr} {nq cq : Nat} {q : List Int} (hq : Rd w (.slice Aq nq cq) 1 nq (ivs q)) (hqb : ∀ k, (Value.slice Aq nq cq).ownBlock = some k → k < w.heap.size) (hqn : nq ≤ maxLen) :
    Calls Try.prog 17 #[.pointer (some ⟨b, 0, none⟩), .slice Aq nq cq] w (NPost W m (.disk · (crashedSt s q))) := by
  obtain ⟨F, hd, hF, hgo⟩ := h.take i hi
  exact (crash_any w F hF b s hd Aq nq cq q hq hqb hqn hf.syn (by have := hf.pcs; omega) hf.ps).mono fun e w' ⟨b, he, hd, hu⟩ => ⟨b, he, h.more hu hd⟩
end
theorem writeSt_ok {s : DSt} {l : List UInt8} (off : Nat) (h : off + l.length ≤ 16777216) (hs : s.failing = false) : writeSt s off l = (0, wroteSt s off l) := by
  unfold writeSt
  rw [if_neg (by unfold Bad; omega), if_neg (by unfold Dead; simp [hs])]
  rfl
theorem syncSt_ok {s : DSt} (hs : s.failing = false) : syncSt s = (0, syncedSt s) := by
  unfold syncSt
  rw [if_neg (by unfold Dead; simp [hs])]
theorem Fit.synced {n : Nat} {s : DSt} (h : Fit n s) : Fit (n + 1) (syncedSt s) := by
  have h3 := h.hi; have h4 := h.lo; have h5 := h.left; have h6 := h.left2
  refine ⟨h.now, h.now, by simp [syncedSt], ?_, ?_, ?_, ?_, by simp [syncedSt]⟩
  · simp only [syncedSt]; omega
  · simp only [syncedSt]; omega
  · simp only [syncedSt]; split <;> omega
  · simp only [syncedSt]; split <;> omega
theorem own_crash_none {W w : World} {m : List Item} (h : Own W w m) (i : Nat) {b : Nat} {s : DSt} (hi : m[i]? = some (.disk b s)) {n : Nat} (hf : Fit n s) (hn : n ≤ 1500) :
    Calls Try.prog 17 #[.pointer (some ⟨b, 0, none⟩), .slice none 0 0] w (NPost W m (.disk · (crashedSt s []))) :=
  own_crash h i hi hf hn (q := []) ⟨by simp [ivs], none, 0, rfl, Nat.le_refl _, fun _ => rfl, by simp⟩ (by simp [Value.ownBlock]) (by unfold maxLen; omega)
end Go.Proofs.Ytcbpgmoegfkhnaa
