/- The states that calls lead to, and the calls of one disk among several. -/
import Derived.Test.YtacghhgiilhkfaaOwn1
import Derived.Test.YtacghhgiilhkfaaDiskCalls
namespace Go.Proofs.Ytacghhgiilhkfaa
set_option linter.unusedVariables false
open Go.RowKit

def Bad (off : Int) (l : List UInt8) : Prop := off < 0 ∨ 16777216 < off ∨ 16777216 - off < l.length
instance (off : Int) (l : List UInt8) : Decidable (Bad off l) := by unfold Bad; infer_instance
def Dead (s : DSt) : Prop := s.failing = true ∧ s.left = 0
instance (s : DSt) : Decidable (Dead s) := by unfold Dead; infer_instance
theorem alive_ok {s : DSt} (h : ¬ Dead s) : s.failing = false ∨ s.left ≠ 0 := by
  unfold Dead at h
  cases hf : s.failing with
  | false => exact .inl rfl
  | true => exact .inr (fun h2 => h ⟨hf, h2⟩)
def writeSt (s : DSt) (off : Int) (l : List UInt8) : Int × DSt := if Bad off l then (1, s) else if Dead s then (70, s) else (0, wroteSt s off.toNat l)
def rwriteSt (s : DSt) (off : Int) (l : List UInt8) : Int × DSt := if Bad off l then (1, s) else if Dead s then (70, s) else (0, rwroteSt s off.toNat l)
def syncSt (s : DSt) : Int × DSt := if Dead s then (70, s) else (0, syncedSt s)
def rsyncSt (s : DSt) : Int × DSt := if Dead s then (70, s) else (0, rsyncedSt s)
def failSt (s : DSt) (n : Int) : DSt := { s with failing := decide (0 ≤ n), left := n }

structure Fit (n : Nat) (s : DSt) : Prop where
  now : s.now.length ≤ 16777216
  syn : s.synced.length ≤ 16777216
  pcs : s.pieces.length ≤ n * 400
  lo : 0 ≤ s.calls
  hi : s.calls ≤ n
  left : -(n : Int) ≤ s.left
  left2 : s.left ≤ 9223372036854775807
  ps : ∀ p, p ∈ s.pieces → p.1 + p.2.length ≤ 16777216

theorem Fit.new : Fit 0 newSt := by constructor <;> simp [newSt]
theorem Fit.mono {n m : Nat} {s : DSt} (h : Fit n s) (hm : n ≤ m) : Fit m s :=
  ⟨h.now, h.syn, Nat.le_trans h.pcs (Nat.mul_le_mul_right _ hm), h.lo, by have := h.hi; omega, by have := h.left; omega, h.left2, h.ps⟩

theorem cutL_mem : ∀ (k off : Nat) (l : List UInt8) (p : Nat × List UInt8), p ∈ cutL k off l → off ≤ p.1 ∧ p.1 + p.2.length ≤ off + l.length
  | 0, _, _, _, h => by simp [cutL] at h
  | k + 1, off, l, p, h => by
    simp only [cutL] at h
    split at h
    · simp at h
    · rcases List.mem_cons.1 h with rfl | h
      · simp; omega
      · have := cutL_mem k _ _ p h
        rw [List.length_drop] at this
        omega
theorem pcsL_mem {off : Nat} {l : List UInt8} {p : Nat × List UInt8} (h : p ∈ pcsL off l) : off ≤ p.1 ∧ p.1 + p.2.length ≤ off + l.length := cutL_mem _ _ _ _ h

theorem Fit.wrote {n : Nat} {s : DSt} (h : Fit n s) {off : Nat} {l : List UInt8} (ho : off + l.length ≤ 16777216) (hl : l.length ≤ 400) : Fit (n + 1) (wroteSt s off l) := by
  have h1 := h.pcs; have h2 := h.now; have h3 := h.hi; have h4 := h.lo; have h5 := h.left; have h6 := h.left2; have h7 := pcsL_length off l
  refine ⟨?_, h.syn, ?_, ?_, ?_, ?_, ?_, ?_⟩
  · simp only [wroteSt, putL_length]; omega
  · simp only [wroteSt, List.length_append]; omega
  · simp only [wroteSt]; omega
  · simp only [wroteSt]; omega
  · simp only [wroteSt]; split <;> omega
  · simp only [wroteSt]; split <;> omega
  · intro p hp
    simp only [wroteSt, List.mem_append] at hp
    rcases hp with hp | hp
    · exact h.ps p hp
    · have := (pcsL_mem hp).2; omega
theorem Fit.left_ {n : Nat} {s : DSt} (h : Fit n s) {x : Int} (h1 : -(n : Int) ≤ x) (h2 : x ≤ 9223372036854775807) : Fit n { s with left := x } := ⟨h.now, h.syn, h.pcs, h.lo, h.hi, h1, h2, h.ps⟩
theorem Fit.rwrote {n : Nat} {s : DSt} (h : Fit n s) {off : Nat} {l : List UInt8} (ho : off + l.length ≤ 16777216) (hl : l.length ≤ 400) : Fit (n + 1) (rwroteSt s off l) := by
  have h5 := h.left; have h6 := h.left2
  exact (h.wrote ho hl).left_ (x := s.left - 1) (by omega) (by omega)
theorem Fit.write {n : Nat} {s : DSt} (h : Fit n s) {off : Int} {l : List UInt8} (hl : l.length ≤ 400) : Fit (n + 1) (writeSt s off l).2 := by
  unfold writeSt
  split
  · exact h.mono (by omega)
  · rename_i hb
    unfold Bad at hb
    split
    · exact h.mono (by omega)
    · exact h.wrote (by omega) hl
theorem Fit.rwrite {n : Nat} {s : DSt} (h : Fit n s) {off : Int} {l : List UInt8} (hl : l.length ≤ 400) : Fit (n + 1) (rwriteSt s off l).2 := by
  unfold rwriteSt
  split
  · exact h.mono (by omega)
  · rename_i hb
    unfold Bad at hb
    split
    · exact h.mono (by omega)
    · exact h.rwrote (by omega) hl
theorem Fit.sync {n : Nat} {s : DSt} (h : Fit n s) : Fit (n + 1) (syncSt s).2 := by
  have h3 := h.hi; have h4 := h.lo; have h5 := h.left; have h6 := h.left2
  unfold syncSt
  split
  · exact h.mono (by omega)
  · refine ⟨h.now, h.now, by simp [syncedSt], ?_, ?_, ?_, ?_, by simp [syncedSt]⟩
    · simp only [syncedSt]; omega
    · simp only [syncedSt]; omega
    · simp only [syncedSt]; split <;> omega
    · simp only [syncedSt]; split <;> omega
theorem Fit.rsync {n : Nat} {s : DSt} (h : Fit n s) : Fit (n + 1) (rsyncSt s).2 := by
  have h3 := h.hi; have h4 := h.lo; have h5 := h.left; have h6 := h.left2
  unfold rsyncSt
  split
  · exact h.mono (by omega)
  · refine ⟨h.now, h.now, by simp [rsyncedSt], ?_, ?_, ?_, ?_, by simp [rsyncedSt]⟩
    · simp only [rsyncedSt]; omega
    · simp only [rsyncedSt]; omega
    · simp only [rsyncedSt]; omega
    · simp only [rsyncedSt]; omega
theorem crashL_length (q : List Int) : ∀ (ps : List (Nat × List UInt8)) (k : Nat) (c : List UInt8), c.length ≤ 16777216 → (∀ p, p ∈ ps → p.1 + p.2.length ≤ 16777216) → (crashL q k ps c).length ≤ 16777216
  | [], _, _, h, _ => h
  | p :: ps, k, c, h, hp => by
    simp only [crashL]
    apply crashL_length q ps (k + 1)
    · split
      · rw [putL_length]; have := hp p (by simp); omega
      · exact h
    · exact fun x hx => hp x (by simp [hx])
theorem Fit.crashed {n : Nat} {s : DSt} (h : Fit n s) (q : List Int) : Fit 0 (crashedSt s q) := by
  have h1 := crashL_length q _ 0 _ h.syn h.ps
  generalize hc : crashL q 0 s.pieces s.synced = c at h1
  constructor <;> simp [crashedSt, hc, h1]
theorem Fit.fail {n : Nat} {s : DSt} (h : Fit n s) {k : Int} (hk : -1 ≤ k) (hk2 : k ≤ 9223372036854775807) : Fit (n + 1) (failSt s k) := by
  have h1 := h.pcs; have h3 := h.hi
  exact ⟨h.now, h.syn, Nat.le_trans h1 (Nat.mul_le_mul_right _ (Nat.le_succ n)), h.lo, by simp only [failSt]; omega, by simp only [failSt]; omega, hk2, h.ps⟩

section
variable {W w : World} {m : List Item} (h : Own W w m) (i : Nat) {b : Nat} {s : DSt}
include h

/-- the call returned r, and item i is now it -/
def IPost (W : World) (m : List Item) (i : Nat) (r : Int) (it : Item) (e : Ending) (w' : World) : Prop := e = .returned (.int .i64 r) ∧ Own W w' (m.set i it)
omit h in
theorem set_same {it : Item} (hi : m[i]? = some it) : m.set i it = m := by
  apply List.ext_getElem?
  intro j
  rw [List.getElem?_set]
  split
  · subst_vars; split
    · exact hi.symm
    · rename_i h2; rw [List.getElem?_eq_none (by omega)]
  · rfl

theorem own_write (hi : m[i]? = some (.disk b s)) {n : Nat} (hf : Fit n s) (hn : n ≤ 1000000) (off : Int) (l : List UInt8) (hl : l.length ≤ 400) :
    Calls Try.prog 21 #[.pointer (some ⟨b, 0, none⟩), .int .i64 off, .string ⟨l.toArray⟩] w (IPost W m i (writeSt s off l).1 (.disk b (writeSt s off l).2)) := by
  unfold writeSt
  by_cases hb : Bad off l
  · rw [if_pos hb]
    exact (write_bad w b off l hb (by unfold maxLen; omega)).mono fun e w' ⟨he, hw⟩ => ⟨he, by rw [← hw, set_same i hi]; exact h⟩
  · rw [if_neg hb]
    unfold Bad at hb
    obtain ⟨F, hd, hF, hgo⟩ := h.take i hi
    by_cases hq : Dead s
    · rw [if_pos hq]
      obtain ⟨vn, vs, vp, cells, hk⟩ := hd
      have hr := hk.row
      rw [hq.1, hq.2] at hr
      exact (write_off w b vn vs vp s.calls hr off l (by omega) (by omega) (by omega)).mono fun e w' ⟨he, hw⟩ => ⟨he, by rw [← hw, set_same i hi]; exact h⟩
    · rw [if_neg hq]
      obtain ⟨o, rfl⟩ : ∃ o : Nat, off = o := ⟨off.toNat, by omega⟩
      exact (write_ok w F hF b s hd o l (by omega) hf.lo (by have := hf.hi; omega) (alive_ok hq) (by have := hf.left; omega) hf.left2 hf.now (by have := hf.pcs; omega)).mono fun e w' ⟨he, hw, hu⟩ => ⟨he, hgo _ _ hw hu⟩
theorem own_rwrite (hi : m[i]? = some (.ref b s)) {n : Nat} (hf : Fit n s) (hn : n ≤ 1000000) (off : Int) (ho : in64 off) (l : List UInt8) (hl : l.length ≤ 400) :
    Calls Try.prog 27 #[.pointer (some ⟨b, 0, none⟩), .int .i64 off, .string ⟨l.toArray⟩] w (IPost W m i (rwriteSt s off l).1 (.ref b (rwriteSt s off l).2)) := by
  unfold rwriteSt
  by_cases hb : Bad off l
  · rw [if_pos hb]
    exact (rwrite_bad w b off l hb (by omega) ho.1 ho.2).mono fun e w' ⟨he, hw⟩ => ⟨he, by rw [← hw, set_same i hi]; exact h⟩
  · rw [if_neg hb]
    unfold Bad at hb
    obtain ⟨F, hd, hF, hgo⟩ := h.take i hi
    by_cases hq : Dead s
    · rw [if_pos hq]
      obtain ⟨vp, hr, _⟩ := hd
      rw [hq.1, hq.2] at hr
      exact (rwrite_off b w _ _ vp s.calls hr off l (by omega) (by omega) (by omega)).mono fun e w' ⟨he, hw⟩ => ⟨he, by rw [← hw, set_same i hi]; exact h⟩
    · rw [if_neg hq]
      obtain ⟨o, rfl⟩ : ∃ o : Nat, off = o := ⟨off.toNat, by omega⟩
      exact (rwrite_ok w F b s hd o l (by omega) hf.lo (by have := hf.hi; omega) (alive_ok hq) (by have := hf.left; omega) hf.left2 hf.now (by have := hf.pcs; omega)).mono fun e w' ⟨he, hw, hu⟩ => ⟨he, hgo _ _ hw hu⟩
theorem own_sync (hi : m[i]? = some (.disk b s)) {n : Nat} (hf : Fit n s) (hn : n ≤ 1000000) :
    Calls Try.prog 22 #[.pointer (some ⟨b, 0, none⟩)] w (IPost W m i (syncSt s).1 (.disk b (syncSt s).2)) := by
  unfold syncSt
  obtain ⟨F, hd, hF, hgo⟩ := h.take i hi
  by_cases hq : Dead s
  · rw [if_pos hq]
    obtain ⟨vn, vs, vp, cells, hk⟩ := hd
    have hr := hk.row
    rw [hq.1, hq.2] at hr
    exact (sync_off w b vn vs vp s.calls hr).mono fun e w' ⟨he, hw⟩ => ⟨he, by rw [← hw, set_same i hi]; exact h⟩
  · rw [if_neg hq]
    exact (sync_ok w F b s hd hf.lo (by have := hf.hi; omega) (alive_ok hq) (by have := hf.left; omega) hf.left2 hf.now).mono fun e w' ⟨he, hw, hu⟩ => ⟨he, hgo _ _ hw hu⟩
theorem own_rsync (hi : m[i]? = some (.ref b s)) {n : Nat} (hf : Fit n s) (hn : n ≤ 1000000) :
    Calls Try.prog 30 #[.pointer (some ⟨b, 0, none⟩)] w (IPost W m i (rsyncSt s).1 (.ref b (rsyncSt s).2)) := by
  unfold rsyncSt
  obtain ⟨F, hd, hF, hgo⟩ := h.take i hi
  by_cases hq : Dead s
  · rw [if_pos hq]
    obtain ⟨vp, hr, _⟩ := hd
    rw [hq.1, hq.2] at hr
    exact (rsync_off b w _ _ vp s.calls hr).mono fun e w' ⟨he, hw⟩ => ⟨he, by rw [← hw, set_same i hi]; exact h⟩
  · rw [if_neg hq]
    exact (rsync_ok w F b s hd hf.lo (by have := hf.hi; omega) (alive_ok hq) (by have := hf.left; omega) hf.left2).mono fun e w' ⟨he, hw, hu⟩ => ⟨he, hgo _ _ hw hu⟩

def XPost (W : World) (m : List Item) (v : Value) (e : Ending) (w' : World) : Prop := e = .returned v ∧ Own W w' m

theorem own_size (hi : m[i]? = some (.disk b s)) : Calls Try.prog 23 #[.pointer (some ⟨b, 0, none⟩)] w fun e w' => e = .returned (.int .i64 s.now.length) ∧ w = w' := by
  obtain ⟨F, ⟨vn, vs, vp, cells, hk⟩, _⟩ := h.take i hi
  obtain ⟨A, c, rfl, _⟩ := hk.now.form
  exact size_any b w A _ c vs vp _ _ _ hk.row
theorem own_rsize (hi : m[i]? = some (.ref b s)) : Calls Try.prog 28 #[.pointer (some ⟨b, 0, none⟩)] w fun e w' => e = .returned (.int .i64 s.now.length) ∧ w = w' := by
  obtain ⟨F, ⟨vp, hr, _⟩, _⟩ := h.take i hi
  exact rsize_any b w _ _ vp _ _ _ hr
theorem own_calls (hi : m[i]? = some (.disk b s)) : Calls Try.prog 25 #[.pointer (some ⟨b, 0, none⟩)] w fun e w' => e = .returned (.int .i64 s.calls) ∧ w = w' := by
  obtain ⟨F, ⟨vn, vs, vp, cells, hk⟩, _⟩ := h.take i hi
  exact calls_any b w _ _ _ _ _ _ hk.row
theorem own_rcalls (hi : m[i]? = some (.ref b s)) : Calls Try.prog 36 #[.pointer (some ⟨b, 0, none⟩)] w fun e w' => e = .returned (.int .i64 s.calls) ∧ w = w' := by
  obtain ⟨F, ⟨vp, hr, _⟩, _⟩ := h.take i hi
  exact rcalls_any b w _ _ vp _ _ _ hr
theorem own_read (hi : m[i]? = some (.disk b s)) {n : Nat} (hf : Fit n s) (off k : Int) (ho : off ≤ 9223372036854775807) (hk : k ≤ 9223372036854775807) :
    Calls Try.prog 24 #[.pointer (some ⟨b, 0, none⟩), .int .i64 off, .int .i64 k] w (XPost W m (.string ⟨(readL s.now off k).toArray⟩)) := by
  obtain ⟨F, hd, _⟩ := h.take i hi
  exact (read_any w F b s hd (by have := hf.now; omega) off k ho hk).mono fun e w' ⟨he, c, hw⟩ => ⟨he, by subst hw; exact h.far ((Upd.refl _ w).drewN c)⟩
theorem own_rread (hi : m[i]? = some (.ref b s)) {n : Nat} (hf : Fit n s) (off k : Int) (ho : off ≤ 9223372036854775807) (hk : k ≤ 9223372036854775807) :
    Calls Try.prog 26 #[.pointer (some ⟨b, 0, none⟩), .int .i64 off, .int .i64 k] w (XPost W m (.string ⟨(readL s.now off k).toArray⟩)) := by
  obtain ⟨F, ⟨vp, hr, _⟩, _⟩ := h.take i hi
  exact (rread_any b w _ _ vp _ _ _ hr (by have := hf.now; omega) off k ho hk).mono fun e w' ⟨he, c, hw⟩ => ⟨he, by subst hw; exact h.far ((Upd.refl _ w).drewN c)⟩
theorem own_fail (hi : m[i]? = some (.disk b s)) (k : Int) :
    Calls Try.prog 29 #[.pointer (some ⟨b, 0, none⟩), .int .i64 k] w (XPost W (m.set i (.disk b (failSt s k))) (.tuple #[])) := by
  obtain ⟨F, ⟨vn, vs, vp, cells, hk⟩, hF, hgo⟩ := h.take i hi
  exact (fail_any b w _ _ _ _ _ _ hk.row k).mono fun e w' ⟨he, hr, ho⟩ => ⟨he, hgo _ _ ⟨vn, vs, vp, cells, by
    have h2 := hk.only hr ho
    have : (decide (-1 < k)) = decide (0 ≤ k) := by simp; omega
    rw [this] at h2
    exact h2.upd (Upd.refl (fun _ => False) _) (fun _ _ => id) (fun _ h => .inl h)⟩ (ho.1.mono fun k _ hk2 => by subst hk2; exact hk.fb)⟩
theorem own_rfail (hi : m[i]? = some (.ref b s)) (k : Int) :
    Calls Try.prog 32 #[.pointer (some ⟨b, 0, none⟩), .int .i64 k] w (XPost W (m.set i (.ref b (failSt s k))) (.tuple #[])) := by
  obtain ⟨F, ⟨vp, hr, hs, hb, hp⟩, hF, hgo⟩ := h.take i hi
  have hne : ∀ k, vp.ownBlock = some k → ¬ k = b := fun k hk => by
    obtain ⟨cs, hc⟩ := hs.row hk
    exact hc.ne_ hr (by decide)
  exact (rfail_any b w _ _ vp _ _ _ hr k).mono fun e w' ⟨he, hr2, ho⟩ => ⟨he, hgo _ _ ⟨vp, hr2, hs.upd ho.1 hne, .inl hb, fun k hk => .inl (hp k hk)⟩ (ho.1.mono fun k _ hk2 => by subst hk2; exact hb)⟩
def NPost (W : World) (m : List Item) (f : Nat → Item) (e : Ending) (w' : World) : Prop := ∃ b, e = .returned (.pointer (some ⟨b, 0, none⟩)) ∧ Own W w' (f b :: m)
theorem own_new : Calls Try.prog 12 #[] w (NPost W m (.disk · newSt)) :=
  (new_disk w).mono fun e w' ⟨b, he, hd, hu⟩ => ⟨b, he, h.more hu hd⟩
theorem own_rnew : Calls Try.prog 13 #[] w (NPost W m (.ref · newSt)) :=
  (rnew_ref w).mono fun e w' ⟨b, he, hd, hu⟩ => ⟨b, he, h.more hu hd⟩
theorem own_crash (hi : m[i]? = some (.disk b s)) {n : Nat} (hf : Fit n s) (hn : n ≤ 1000000) {Aq : Option Addr} {nq cq : Nat} {q : List Int} (hq : Rd w (.slice Aq nq cq) 1 nq (ivs q)) (hqb : ∀ k, (Value.slice Aq nq cq).ownBlock = some k → k < w.heap.size) (hqn : nq ≤ maxLen) :
    Calls Try.prog 16 #[.pointer (some ⟨b, 0, none⟩), .slice Aq nq cq] w (NPost W m (.disk · (crashedSt s q))) := by
  obtain ⟨F, hd, hF, hgo⟩ := h.take i hi
  exact (crash_any w F hF b s hd Aq nq cq q hq hqb hqn hf.syn (by have := hf.pcs; omega) hf.ps).mono fun e w' ⟨b, he, hd, hu⟩ => ⟨b, he, h.more hu hd⟩
theorem own_rcrash (hi : m[i]? = some (.ref b s)) {n : Nat} (hf : Fit n s) (hn : n ≤ 1000000) {Aq : Option Addr} {nq cq : Nat} {q : List Int} (hq : Rd w (.slice Aq nq cq) 1 nq (ivs q)) (hqb : ∀ k, (Value.slice Aq nq cq).ownBlock = some k → k < w.heap.size) (hqn : nq ≤ maxLen) :
    Calls Try.prog 17 #[.pointer (some ⟨b, 0, none⟩), .slice Aq nq cq] w (NPost W m (.ref · (crashedSt s q))) := by
  obtain ⟨F, hd, hF, hgo⟩ := h.take i hi
  exact (rcrash_any w F b s hd Aq nq cq q hq hqb hqn hf.syn (by have := hf.pcs; omega) hf.ps).mono fun e w' ⟨b, he, hd, hu⟩ => ⟨b, he, h.more hu hd⟩
end
end Go.Proofs.Ytacghhgiilhkfaa
