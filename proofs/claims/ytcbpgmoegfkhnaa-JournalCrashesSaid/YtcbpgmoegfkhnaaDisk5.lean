/- disk: Write, the loop over the sectors. -/
import Derived.Test.YtcbpgmoegfkhnaaDisk4
namespace Go.Proofs.Ytcbpgmoegfkhnaa
set_option linter.unusedVariables false
open Go.RowKit

def cutL : Nat → Nat → List UInt8 → List (Nat × List UInt8)
  | 0, _, _ => []
  | k + 1, off, l => if l.length = 0 then [] else (off, l.take (min (64 - off % 64) l.length)) :: cutL k (off + min (64 - off % 64) l.length) (l.drop (min (64 - off % 64) l.length))

theorem cutL_more : ∀ (k m off : Nat) (l : List UInt8), l.length ≤ k → l.length ≤ m → cutL k off l = cutL m off l
  | 0, 0, _, _, _, _ => rfl
  | 0, m + 1, _, l, h, _ => by simp only [cutL]; rw [if_pos (by omega)]
  | k + 1, 0, _, l, _, h => by simp only [cutL]; rw [if_pos (by omega)]
  | k + 1, m + 1, off, l, h1, h2 => by
    simp only [cutL]
    by_cases h0 : l.length = 0
    · rw [if_pos h0, if_pos h0]
    · rw [if_neg h0, if_neg h0]
      congr 1
      exact cutL_more k m _ _ (by rw [List.length_drop]; omega) (by rw [List.length_drop]; omega)

def pcsL (off : Nat) (l : List UInt8) : List (Nat × List UInt8) := cutL l.length off l
theorem pcsL_nil (off : Nat) : pcsL off [] = [] := rfl
theorem pcsL_cons (off q : Nat) (l : List UInt8) (h : 0 < l.length) (hq : q = min (64 - off % 64) l.length) : pcsL off l = (off, l.take q) :: pcsL (off + q) (l.drop q) := by
  subst hq
  unfold pcsL
  obtain ⟨k, hk⟩ : ∃ k, l.length = k + 1 := ⟨l.length - 1, by omega⟩
  rw [cutL_more (l.drop _).length k _ _ (Nat.le_refl _) (by rw [List.length_drop]; omega)]
  conv => lhs; rw [hk]
  simp only [cutL]
  rw [if_neg (by omega)]
theorem cutL_length : ∀ (k off : Nat) (l : List UInt8), (cutL k off l).length ≤ l.length
  | 0, _, _ => by simp [cutL]
  | k + 1, off, l => by
    simp only [cutL]
    split
    · simp
    · have := cutL_length k (off + min (64 - off % 64) l.length) (l.drop (min (64 - off % 64) l.length))
      rw [List.length_drop] at this
      simp only [List.length_cons]
      have h64 : off % 64 < 64 := Nat.mod_lt _ (by decide)
      omega
theorem pcsL_length (off : Nat) (l : List UInt8) : (pcsL off l).length ≤ l.length := cutL_length _ _ _

def wroteSt (s : DSt) (off : Nat) (l : List UInt8) : DSt :=
  { s with now := putL s.now off l, pieces := s.pieces ++ pcsL off l, calls := s.calls + 1, left := if s.failing then s.left - 1 else s.left }

/-- What holds at each head of Write's loop. -/
def WRel (w : World) (F : Nat → Prop) (b : Nat) (s : DSt) (off : Nat) (l : List UInt8) (o : Nat) (r : List UInt8) (wr : World) : Prop :=
  ∃ done, done ++ pcsL o r = pcsL off l ∧ Upd F w wr ∧ DiskAt wr (Grow F w wr) b { wroteSt s off l with pieces := s.pieces ++ done }

theorem Grow.le {F : Nat → Prop} {w w' w'' : World} (h : w'.heap.size ≤ w''.heap.size) (k : Nat) (hk : Grow F w w' k) : Grow F w w'' k := by
  rcases hk with h' | h'
  · exact .inl h'
  · exact .inr ⟨h'.1, by omega⟩

/-- A store of a new row of pieces. -/
theorem Dk.added {w w0 w2 : World} {F F' : Nat → Prop} {b : Nat} {s : DSt} {vn vs vp : Value} {cells : List Value} {o tn : Nat} {t : List UInt8} {A : Option Addr} {c : Nat} {e : Ending}
    (h : Dk w F b s vn vs vp cells) (hu : Upd (fun _ => False) w w0) (htn : tn = t.length) (ht : Sl w0 (.slice A tn c) 5 1 tn (bvs t)) (hta : ∀ k, (Value.slice A tn c).ownBlock = some k → w.heap.size ≤ k ∧ k < w0.heap.size)
    (hP : AddPost b w0 vn vs vp s.calls s.failing s.left (s.pieces.length + 1) (cells ++ [.int .i64 o, .slice A tn c]) e w2) (hF : ∀ k, Grow F w w2 k → F' k) (hlt : ∀ k, F k → k < w.heap.size) :
    DiskAt w2 F' b { s with pieces := s.pieces ++ [(o, t)] } ∧ Upd F w w2 ∧ e = .returned (.tuple #[]) := by
  subst htn
  obtain ⟨rfl, vp', hr, hs, hat, hup⟩ := hP
  have hb := h.row.lt
  obtain ⟨n1, n2, n3, n4, n5⟩ := h.nb
  have hu2 : Upd (fun k => k = b ∨ vp.ownBlock = some k) w w2 := (hu.mono (fun _ _ h => h.elim)).trans hup (fun _ _ h => h)
  refine ⟨⟨vn, vs, vp', _, hr, h.now.upd hu2 ?_, h.syn.upd hu2 ?_, by simpa using hs, ⟨?_, fun i p hp => ?_⟩, hF _ (.inl h.fb), fun k hk => ⟨hF _ (.inl (h.fn k hk).1), (h.fn k hk).2⟩, fun k hk => hF _ (.inl (h.fs k hk)), fun k hk => ?_⟩, hu2.mono (fun k _ hk => ?_), rfl⟩
  · rintro k hk (rfl | e)
    · exact n1 hk
    · exact n4 k hk e
  · rintro k hk (rfl | e)
    · exact n2 hk
    · exact n5 k hk e
  · have := h.txt.1; simp; omega
  · have hl := h.txt.1
    by_cases hi : i < s.pieces.length
    · rw [List.getElem?_append_left hi] at hp
      obtain ⟨A', c', g1, g2, g3, g4⟩ := h.txt.2 i p hp
      refine ⟨A', c', by rw [List.getElem?_append_left (by omega)]; exact g1, by rw [List.getElem?_append_left (by omega)]; exact g2, g3.upd hu2 ?_, fun k hk => ⟨hF _ (.inl (g4 k hk).1), Nat.lt_of_lt_of_le (g4 k hk).2.1 hu2.size, (g4 k hk).2.2⟩⟩
      rintro k hk (rfl | e)
      · obtain ⟨cs, hr'⟩ := g3.row hk; exact hr'.ne_ h.row (by decide) rfl
      · obtain ⟨cs, hr'⟩ := g3.row hk; obtain ⟨cs', hr''⟩ := h.pcs.row e; exact hr'.ne_ hr'' (by decide) rfl
    · have hi' : i = s.pieces.length := by
        have := (List.getElem?_eq_some_iff.1 hp).1
        simp at this; omega
      subst hi'
      simp at hp
      subst hp
      refine ⟨A, c, by rw [List.getElem?_append_right (by omega)]; simp [hl], by rw [List.getElem?_append_right (by omega)]; simp [hl], ht.upd hup ?_, fun k hk => ⟨hF _ (.inr ⟨(hta k hk).1, Nat.lt_of_lt_of_le (hta k hk).2 hup.size⟩), Nat.lt_of_lt_of_le (hta k hk).2 hup.size, fun e => ?_⟩⟩
      · rintro k hk (rfl | e)
        · have := (hta _ hk).1; omega
        · have h1 := (hta _ hk).1; have h2 := h.pcs.lt e; omega
      · have h1 := (hta _ hk).1; have h2 := h.now.lt e; omega
  · rcases hat with e | ⟨g, e, hg⟩
    · exact hF _ (.inl (h.fp k (by rw [← e]; exact hk)))
    · rw [e] at hk; cases hk
      refine hF _ (.inr ⟨Nat.le_trans hu.size hg, hs.lt e⟩)
  · rcases hk with rfl | e
    · exact h.fb
    · exact h.fp k e
/-- The contents are replaced by what put has left. -/
theorem Dk.put {w w0 w1 w2 : World} {F : Nat → Prop} {b : Nat} {s : DSt} {vn vs vp vn' : Value} {cells : List Value} {r : List UInt8} {n l : Int} {f : Bool}
    (h : Dk w F b s vn vs vp cells) (hr : DRow w0 b vn vs vp n f l) (ho : Only b w w0) (hu : Upd (fun _ => False) w0 w1) (hP : PutEnds w1 vn r vn' w2) :
    DRow w2 b vn vs vp n f l ∧ vn'.ownBlock ≠ some b ∧
    Dk (w2.setCell ⟨b, 0, none⟩ vn') (Grow F w (w2.setCell ⟨b, 0, none⟩ vn')) b { s with now := r, calls := n, failing := f, left := l } vn' vs vp cells ∧ Upd F w (w2.setCell ⟨b, 0, none⟩ vn') := by
  obtain ⟨n1, n2, n3, n4, n5⟩ := h.nb
  have h0 := h.only hr ho
  have hr1 : DRow w1 b vn vs vp n f l := hr.upd hu id
  have hr2 : DRow w2 b vn vs vp n f l := hr1.upd hP.upd n1
  have hnb : vn'.ownBlock ≠ some b := fun e => by obtain ⟨cs, hrr⟩ := hP.sl.row e; exact hrr.ne_ hr2 (by decide) rfl
  have hs1 : Only b w2 (w2.setCell ⟨b, 0, none⟩ vn') := Only.set w2 b 0 vn'
  have hle : w.heap.size ≤ w1.heap.size := by rw [← ho.2]; exact hu.size
  have hbl : ∀ k, vn'.ownBlock = some k → vn.ownBlock = some k ∨ w.heap.size ≤ k := fun k hk => by
    rcases hP.at_ with e | ⟨g, e, hg⟩
    · exact .inl (by rw [← e]; exact hk)
    · rw [e] at hk; cases hk; exact .inr (by omega)
  have hall : Upd (fun k => k = b ∨ vn.ownBlock = some k) w (w2.setCell ⟨b, 0, none⟩ vn') :=
    (((ho.1.mono (T := fun k => k = b ∨ vn.ownBlock = some k) (fun _ _ e => .inl e)).trans hu (fun _ _ e => e.elim)).trans hP.upd (fun _ _ e => .inr e)).trans hs1.1 (fun _ _ e => .inl e)
  refine ⟨hr2, hnb, ⟨hr2.set 0 vn', hP.sl.upd hs1.1 (fun k hk e => hnb (by rw [hk, e])), h.syn.upd hall ?_, h.pcs.upd hall ?_, h.txt.upd hall ?_ (fun k hk => .inl hk) ?_, .inl h.fb, fun k hk => ⟨?_, ?_⟩, fun k hk => .inl (h.fs k hk), fun k hk => .inl (h.fp k hk)⟩, hall.mono ?_⟩
  · rintro k hk (rfl | e)
    · exact n2 hk
    · exact (h.fn k e).2 hk
  · rintro k hk (rfl | e)
    · exact n3 hk
    · exact n4 k e hk
  · rintro k hFk hlt hne ⟨cs, hrow⟩ (rfl | e)
    · exact hrow.ne_ h.row (by decide) rfl
    · exact hne e
  · intro k hlt hk
    rcases hbl k hk with e | e
    · exact e
    · omega
  · rcases hbl k hk with e | e
    · exact .inl (h.fn k e).1
    · exact .inr ⟨e, by rw [hs1.2]; exact hP.sl.lt hk⟩
  · intro e
    rcases hbl k hk with e' | e'
    · exact (h.fn k e').2 e
    · have := h.syn.lt e; omega
  · rintro k _ (rfl | e)
    · exact h.fb
    · exact (h.fn k e).1
theorem put_hap {w w1 wc : World} {F : Nat → Prop} {b : Nat} {s : DSt} {vn vs vp v : Value} {cells : List Value} {l : List UInt8} (h : Dk w F b s vn vs vp cells) (ho : Only b w w1) (hN : NewBytes 5 w1 v l wc) :
    ∀ k, v.ownBlock = some k → k < wc.heap.size ∧ vn.ownBlock ≠ some k := by
  intro k hk
  rw [hN.at_.1] at hk
  cases hk
  refine ⟨by rw [hN.at_.2]; omega, fun e => ?_⟩
  have := h.now.lt e
  have := ho.2
  omega
end Go.Proofs.Ytcbpgmoegfkhnaa
