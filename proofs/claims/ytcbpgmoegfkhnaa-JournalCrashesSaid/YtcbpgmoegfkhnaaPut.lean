/- disk.put: what it leaves, for every row, offset and text. -/
import Derived.Test.YtcbpgmoegfkhnaaRows
import Derived.Test.YtcbpgmoegfkhnaaOps
import Derived.Deep.DeepMust
namespace Go.Proofs.Ytcbpgmoegfkhnaa
set_option linter.unusedVariables false
open Go.RowKit

theorem T_bytes : SlT Try.prog 43 5 1 1 (.int .u8 0) := SlT.of Try.underlying43 (by kernel_rfl) rfl

def putL (c : List UInt8) (off : Nat) (s : List UInt8) : List UInt8 :=
  (c ++ List.replicate (off + s.length - c.length) 0).take off ++ (s ++ (c ++ List.replicate (off + s.length - c.length) 0).drop (off + s.length))

structure PutEnds (w : World) (v : Value) (r : List UInt8) (v' : Value) (w' : World) : Prop where
  sl : Sl w' v' 5 1 r.length (bvs r)
  upd : Upd (fun k => v.ownBlock = some k) w w'
  at_ : v'.ownBlock = v.ownBlock ∨ ∃ g, v'.ownBlock = some g ∧ w.heap.size ≤ g
def PutPost (w : World) (v : Value) (r : List UInt8) (e : Ending) (w' : World) : Prop := ∃ v', e = .returned v' ∧ PutEnds w v r v' w'

theorem putL_fits (bs ss : List UInt8) (off : Nat) (h : off + ss.length ≤ bs.length) : putL bs off ss = bs.take off ++ (ss ++ bs.drop (off + ss.length)) := by
  unfold putL
  have : off + ss.length - bs.length = 0 := by omega
  rw [this]; simp
theorem putL_length (bs ss : List UInt8) (off : Nat) : (putL bs off ss).length = max bs.length (off + ss.length) := by
  unfold putL
  simp; omega

/-- What the copy at the end of put leaves: over the whole slice. -/
theorem put_copied {w w' : World} {A : Option Addr} {n c off : Nat} {bs ss : List UInt8} {ao : Option Addr} (hao : CutAt A c off 1 ao)
    (hs : Sl w (.slice A n c) 5 1 n (bvs bs)) (hl : off + ss.length ≤ bs.length)
    (h : Copied w (.slice ao (n - off) (c - off)) 5 (n - off) ((bvs bs).drop (off * 1)) ss.length (bvs ss) w') :
    Sl w' (.slice A n c) 5 1 n (bvs (bs.take off ++ (ss ++ bs.drop (off + ss.length)))) ∧ Upd (fun k => (Value.slice A n c).ownBlock = some k) w w' := by
  have hbl : bs.length = n := by have := hs.1; rw [bvs_length] at this; omega
  refine ⟨⟨by rw [bvs_length]; simp; omega, ?_⟩, ?_⟩
  · rcases hs.2 with ⟨hv, rfl⟩ | ⟨g, o, cap, cs, hv, hr, hnc, hcm, hcl, ht⟩
    · exact .inl ⟨hv, rfl⟩
    · cases hv
      have hm : min ss.length (n - off) = ss.length := by omega
      have ht1 : (bvs ss).take (n - off) = bvs ss := List.take_of_length_le (by rw [bvs_length]; omega)
      have hrow : Row w' g 5 (cs.take (o + off) ++ (bvs ss ++ cs.drop (o + off + (bvs ss).length))) := by
        unfold CutAt at hao
        subst hao
        by_cases hck : c = off
        · have hss : ss = [] := List.eq_nil_of_length_eq_zero (by omega)
          subst hss
          rw [if_pos hck] at h
          have := h.row g o (c - off) cs rfl hr
          simpa [bvs] using this
        · rw [if_neg hck] at h
          have := h.row g (o + off) (c - off) cs (by simp [Addr.add_lit]) hr
          rwa [ht1, hm, ← bvs_length ss] at this
      refine .inr ⟨g, o, c, _, rfl, hrow, hnc, hcm, by simp [bvs]; omega, ?_⟩
      rw [Nat.mul_one] at ht ⊢
      rw [splice_mid cs (bvs ss) o off n (by rw [bvs_length]; omega) (by omega), ht, bvs_take, bvs_append, bvs_append, ← bvs_drop, bvs_length]
  · have := h.upd
    rw [hao.own (n' := n) (m' := c)] at this
    exact this

theorem put_fits_end {w w1 : World} {A : Option Addr} {c n off : Nat} {bs ss : List UInt8} {ao : Option Addr} (hs : Sl w (.slice A n c) 5 1 n (bvs bs)) (HB : bs.length = n) (ho : off + ss.length ≤ n)
    (hao : CutAt A c off 1 ao)
    (hC : Copied w (.slice ao (n - off) (c - off)) 5 (n - off) ((bvs bs).drop (off * 1)) ss.length (bvs ss) w1) :
    PutPost w (.slice A n c) (putL bs off ss) (.returned (.slice A n c)) w1 := by
  subst HB
  rw [putL_fits bs ss off ho]
  have := put_copied hao hs ho hC
  refine ⟨_, rfl, ?_, this.2, .inl rfl⟩
  have e : (List.take off bs ++ (ss ++ List.drop (off + ss.length) bs)).length = bs.length := by simp; omega
  rw [e]
  exact this.1

set_option maxHeartbeats 400000 in
theorem put_fits (w : World) (A B : Option Addr) (c d n m off : Nat) (bs ss : List UInt8) (hs : Sl w (.slice A n c) 5 1 n (bvs bs)) (hx : Rd w (.slice B m d) 1 m (bvs ss))
    (hn : n ≤ 50000000) (ho : off + m ≤ n) :
    Calls Try.prog 33 #[.slice A n c, .int .i64 off, .slice B m d] w (PutPost w (.slice A n c) (putL bs off ss)) := by
  have HB : Hid (bs.length = n) := by have := hs.1; rw [bvs_length] at this; exact this.trans (Nat.mul_one _)
  have HM : Hid (ss.length = m) := by have := hx.1; rw [bvs_length] at this; exact this.trans (Nat.mul_one _)
  go_enter Try.func33, Try.ntmps33
  go_wp2_with (first
    | (show wpList _ _ _ (⟨some 22, _, _, _, _, _⟩ :: _) _ _; go_must (refine wpList_cut rfl (.tmp 20) (.tmp 21) _ rfl T_bytes (A := A) (n := n) (c := c) rfl (off := off) rfl (by omega) ?_); intro ao ha)
    | (show wpList _ _ _ (⟨some 24, _, _, _, _, _⟩ :: _) _ _; go_must (refine wpList_copy_sl rfl (.tmp 22) (.tmp 23) _ _ rfl T_bytes rfl (ha.sl hs (by omega)) rfl hx (bvs_ones _) ?_); intro w1 hC))
  go_ret
  have hm := HM.out
  refine put_fits_end hs HB.out (by omega) ha ?_
  rw [hm]
  exact hC

theorem zsub (a b c : Nat) (h2 : c ≤ a + b) : ((a : Int) + (b : Int) - (c : Int)) = ((a + b - c : Nat) : Int) := by omega
theorem Sl.form {w : World} {v : Value} {e size n : Nat} {xs : List Value} (h : Sl w v e size n xs) : ∃ A c, v = .slice A n c ∧ n ≤ c := by
  rcases h.2 with ⟨rfl, rfl⟩ | ⟨g, o, c, cs, rfl, hr, hnc, _⟩
  · exact ⟨_, _, rfl, Nat.le_refl _⟩
  · exact ⟨_, _, rfl, hnc⟩

theorem put_grows_end {w w1 w2 : World} {A A1 : Option Addr} {c c1 n q off : Nat} {bs ss : List UInt8} {ao : Option Addr} (HB : bs.length = n) (HQ : q = off + ss.length - n) (ho : n < off + ss.length)
    (hA : Appended w (.slice A n c) 5 1 (n + q) (bvs bs ++ List.replicate q (Value.int .u8 0)) (.slice A1 (n + q) c1) w1)
    (hao : CutAt A1 c1 off 1 ao)
    (hC : Copied w1 (.slice ao (n + q - off) (c1 - off)) 5 (n + q - off) ((bvs bs ++ List.replicate q (Value.int .u8 0)).drop (off * 1)) ss.length (bvs ss) w2) :
    PutPost w (.slice A n c) (putL bs off ss) (.returned (.slice A1 (n + q) c1)) w2 := by
  rw [bvs_zeros, ← bvs_append] at hC
  have hs : Sl w1 (.slice A1 (n + q) c1) 5 1 (n + q) (bvs (bs ++ List.replicate q 0)) := by
    have := hA.sl
    rw [bvs_zeros, ← bvs_append] at this
    exact this
  have hl : off + ss.length ≤ (bs ++ List.replicate q 0).length := by simp; omega
  obtain ⟨h1, h2⟩ := put_copied hao hs hl hC
  have e0 : putL bs off ss = (bs ++ List.replicate q 0).take off ++ (ss ++ (bs ++ List.replicate q 0).drop (off + ss.length)) := by
    unfold putL
    rw [HB, ← HQ]
  have e : (putL bs off ss).length = n + q := by rw [putL_length]; omega
  refine ⟨_, rfl, by rw [e, e0]; exact h1, hA.upd.trans h2 ?_, ?_⟩
  · intro b hb hk
    rcases hA.at_ with h | h
    · rw [h.1] at hk; exact hk
    · rw [h.1] at hk; simp at hk; omega
  · rcases hA.at_ with h | h
    · exact .inl h.1
    · exact .inr ⟨_, h.1, Nat.le_refl _⟩

set_option maxHeartbeats 400000 in
theorem put_grows (w : World) (A B : Option Addr) (c d n m off : Nat) (bs ss : List UInt8) (hs : Sl w (.slice A n c) 5 1 n (bvs bs)) (hx : Rd w (.slice B m d) 1 m (bvs ss))
    (hap : ∀ k, (Value.slice B m d).ownBlock = some k → k < w.heap.size ∧ (Value.slice A n c).ownBlock ≠ some k)
    (hn : off + m ≤ 50000000) (ho : n < off + m) :
    Calls Try.prog 33 #[.slice A n c, .int .i64 off, .slice B m d] w (PutPost w (.slice A n c) (putL bs off ss)) := by
  have HB : Hid (bs.length = n) := by have := hs.1; rw [bvs_length] at this; exact this.trans (Nat.mul_one _)
  have HM : Hid (ss.length = m) := by have := hx.1; rw [bvs_length] at this; exact this.trans (Nat.mul_one _)
  have hz := zsub off m n (by omega)
  obtain ⟨q, hq⟩ : ∃ q, q = off + m - n := ⟨_, rfl⟩
  rw [← hq] at hz
  have hq0 : 0 < q := by omega
  have hq1 : n + q ≤ 50000000 := by omega
  have hq2 : off ≤ n + q := by omega
  have HQ := Lib.hid hq
  clear hq
  go_enter Try.func33, Try.ntmps33
  go_wp2_with (first
    | (show wpList _ _ _ (⟨some 19, _, _, _, _, _⟩ :: _) _ _; go_must (refine wpList_append_zeros (v := .slice A n c) rfl (.tmp 17) (.tmp 18) _ _ rfl T_bytes Try.underlying3 rfl rfl rfl hs (m := q) rfl (by unfold maxLen; omega) (by omega) ?_); intro v1 w1 hA; obtain ⟨A1, c1, rfl, hc1⟩ := hA.sl.form; have hx1 := hx.upd hA.upd hap)
    | (show wpList _ _ _ (⟨some 22, _, _, _, _, _⟩ :: _) _ _; go_must (refine wpList_cut rfl (.tmp 20) (.tmp 21) _ rfl T_bytes (A := A1) (n := n + q) (c := c1) rfl (off := off) rfl (by omega) ?_); intro ao ha)
    | (show wpList _ _ _ (⟨some 24, _, _, _, _, _⟩ :: _) _ _; go_must (refine wpList_copy_sl rfl (.tmp 22) (.tmp 23) _ _ rfl T_bytes rfl (ha.sl hA.sl (by omega)) rfl hx1 (bvs_ones _) ?_); intro w2 hC))
  go_ret
  have hm := HM.out
  subst hm
  exact put_grows_end HB.out HQ.out ho hA ha hC

/-- put, whatever the row. -/
theorem put_any (w : World) (v : Value) (B : Option Addr) (d n m off : Nat) (bs ss : List UInt8) (hs : Sl w v 5 1 n (bvs bs)) (hx : Rd w (.slice B m d) 1 m (bvs ss))
    (hap : ∀ k, (Value.slice B m d).ownBlock = some k → k < w.heap.size ∧ v.ownBlock ≠ some k)
    (hn : n ≤ 50000000) (ho : off + m ≤ 50000000) :
    Calls Try.prog 33 #[v, .int .i64 off, .slice B m d] w (PutPost w v (putL bs off ss)) := by
  obtain ⟨A, c, rfl, hnc⟩ := hs.form
  by_cases h : off + m ≤ n
  · exact put_fits w A B c d n m off bs ss hs hx hn h
  · exact put_grows w A B c d n m off bs ss hs hx hap ho (by omega)
end Go.Proofs.Ytcbpgmoegfkhnaa
