/- the reference's Write. -/
import Derived.Test.YtacghhgiilhkfaaRef3
namespace Go.Proofs.Ytacghhgiilhkfaa
set_option linter.unusedVariables false
open Go.RowKit

theorem rwrite_bad (w : World) (b : Nat) (off : Int) (l : List UInt8) (h : off < 0 ∨ 16777216 < off ∨ 16777216 - off < l.length) (hm : l.length ≤ 1000000000000) (ho : -9223372036854775808 ≤ off) (ho2 : off ≤ 9223372036854775807) :
    Calls Try.prog 27 #[.pointer (some ⟨b, 0, none⟩), .int .i64 off, .string ⟨l.toArray⟩] w fun e w' => e = .returned (.int .i64 1) ∧ w = w' := by
  by_cases h1 : off < 0
  · clear h
    go_enter Try.func27, Try.ntmps27
    go_wp2
    go_ret
    exact ⟨rfl, rfl⟩
  · by_cases h2 : 16777216 < off
    · clear h
      go_enter Try.func27, Try.ntmps27
      go_wp2
      go_ret
      exact ⟨rfl, rfl⟩
    · have h3 : 16777216 < off + l.length := by omega
      clear h
      go_enter Try.func27, Try.ntmps27
      go_wp2
      go_ret
      exact ⟨rfl, rfl⟩

theorem rwrite_off (b : Nat) (w : World) (now syn : List UInt8) (vp : Value) (n : Int) (h : RRow w b now syn vp n 0 true) (off : Int) (l : List UInt8) (h1 : 0 ≤ off) (h2 : off ≤ 16777216) (h3 : off + (l.length : Int) ≤ 16777216) :
    Calls Try.prog 27 #[.pointer (some ⟨b, 0, none⟩), .int .i64 off, .string ⟨l.toArray⟩] w fun e w' => e = .returned (.int .i64 70) ∧ w = w' := by
  go_enter Try.func27, Try.ntmps27
  go_wp2_with (go_at_call 40; refine (roff_off _ _ _ _ _ _ h).mono ?_; rintro e w' ⟨rfl, rfl⟩)
  go_ret
  exact ⟨rfl, rfl⟩

def rwroteSt (s : DSt) (off : Nat) (l : List UInt8) : DSt := { s with now := putL s.now off l, pieces := s.pieces ++ pcsL off l, calls := s.calls + 1, left := s.left - 1 }

/-- What holds at each head of the loop. -/
def RWRel (w : World) (F : Nat → Prop) (b : Nat) (s : DSt) (off : Nat) (l : List UInt8) (j : Nat) (wr : World) : Prop :=
  ∃ done, done ++ pcsL (off + j) (l.drop j) = pcsL off l ∧ Upd F w wr ∧ RAt wr (Grow F w wr) b { rwroteSt s off l with pieces := s.pieces ++ done }

theorem rwrel_start {w w1 w2 : World} {F : Nat → Prop} {b : Nat} {s : DSt} {vp : Value} {off : Nat} {l : List UInt8} (hs : Sl w vp 70 2 s.pieces.length (pcells s.pieces)) (hb : F b) (hp : ∀ k, vp.ownBlock = some k → F k)
    (hr0 : RRow w b s.now s.synced vp s.calls s.left s.failing) (hr1 : RRow w1 b s.now s.synced vp (s.calls + 1) (s.left - 1) s.failing) (ho : Only b w w1) (hu : Upd (fun _ => False) w1 w2) :
    RWRel w F b s off l 0 (w2.setCell ⟨b, 0, none⟩ (.string ⟨(putL s.now off l).toArray⟩)) := by
  have hne : vp.ownBlock ≠ some b := fun e => by obtain ⟨cs, hr⟩ := hs.row e; exact hr.ne_ hr0 (by decide) rfl
  have hall : Upd (· = b) w (w2.setCell ⟨b, 0, none⟩ (.string ⟨(putL s.now off l).toArray⟩)) := (ho.1.trans hu (fun _ _ h => h.elim)).trans (Only.set w2 b 0 _).1 (fun _ _ h => h)
  refine ⟨[], by simp, hall.mono (fun k _ e => by rw [e]; exact hb), vp, ?_, ?_, .inl hb, fun k hk => .inl (hp k hk)⟩
  · have := (Row.upd hr1 hu id).set 0 (.string ⟨(putL s.now off l).toArray⟩)
    exact this
  · simpa [rwroteSt] using hs.upd hall (fun k hk e => hne (by rw [hk, e]))
theorem rwrel_end {w wr : World} {F : Nat → Prop} {b : Nat} {s : DSt} {off j : Nat} {l : List UInt8} (h : RWRel w F b s off l j wr) (hj : l.length ≤ j) : RPost w F b (rwroteSt s off l) 0 (.returned (.int .i64 0)) wr := by
  obtain ⟨done, hd, hu, hk⟩ := h
  rw [List.drop_of_length_le hj, pcsL_nil, List.append_nil] at hd
  subst hd
  exact ⟨rfl, hk, hu⟩

/-- What the round reads and what it stores. -/
theorem rwrel_open {w wr : World} {F : Nat → Prop} {b : Nat} {s : DSt} {off j : Nat} {l : List UInt8} (h : RWRel w F b s off l j wr) :
    ∃ done vp, done.length ≤ l.length ∧ RRow wr b (putL s.now off l) s.synced vp (s.calls + 1) (s.left - 1) s.failing ∧ Sl wr vp 70 2 (s.pieces ++ done).length (pcells (s.pieces ++ done)) ∧ vp.ownBlock ≠ some b ∧
    ∀ (W0 w1 : World) (q : Nat) (vp' : Value), q = min (64 - (off + j) % 64) (l.length - j) → j < l.length → Upd (fun _ => False) wr W0 →
      Appended W0 vp 70 2 ((s.pieces ++ done).length + 1) (pcells (s.pieces ++ done) ++ [.int .i64 ((off : Int) + (j : Int)), .string ((ByteArray.mk l.toArray).extract j ((j : Int) + (q : Int)).toNat)]) vp' w1 →
      RRow w1 b (putL s.now off l) s.synced vp (s.calls + 1) (s.left - 1) s.failing ∧ RWRel w F b s off l (j + q) (w1.setCell ⟨b, 2, none⟩ vp') := by
  obtain ⟨done, hd, hu, vp, hr, hs, hb, hp⟩ := h
  have hdl : done.length ≤ l.length := by
    have h1 : (done ++ pcsL (off + j) (l.drop j)).length ≤ l.length := by rw [hd]; exact pcsL_length _ _
    simp at h1; omega
  have hne : vp.ownBlock ≠ some b := fun e => by obtain ⟨cs, hrr⟩ := hs.row e; exact hrr.ne_ hr (by decide) rfl
  refine ⟨done, vp, hdl, hr, hs, hne, fun W0 w1 q vp' hq hj hU hA => ?_⟩
  have ec : ((j : Int) + (q : Int)).toNat = j + q := by omega
  have eo : ((off : Int) + (j : Int)) = ((off + j : Nat) : Int) := by omega
  have es : (l.drop j).take (j + q - j) = (l.drop j).take q := by congr 1; omega
  rw [ec, eo, extract_mid, es] at hA
  have hr1 : RRow w1 b (putL s.now off l) s.synced vp (s.calls + 1) (s.left - 1) s.failing := Row.upd (Row.upd hr hU id) hA.upd hne
  have hne' : vp'.ownBlock ≠ some b := fun e => by obtain ⟨cs, hrr⟩ := hA.sl.row e; exact hrr.ne_ hr1 (by decide) rfl
  have hos := Only.set w1 b 2 vp'
  have hall : Upd (fun k => k = b ∨ vp.ownBlock = some k) wr (w1.setCell ⟨b, 2, none⟩ vp') :=
    (((hU.mono (T := fun k => k = b ∨ vp.ownBlock = some k) (fun _ _ h => h.elim)).trans hA.upd (fun _ _ h => .inr h)).trans hos.1 (fun _ _ h => .inl h))
  have hz := hall.size
  have hz2 := hu.size
  refine ⟨hr1, done ++ [(off + j, (l.drop j).take q)], ?_, hu.trans hall ?_, vp', hr1.set 2 vp', ?_, Grow.le hz b hb, fun k hk => ?_⟩
  · rw [← hd, pcsL_cons (off + j) q (l.drop j) (by simp; omega) (by rw [List.length_drop]; exact hq), List.drop_drop, Nat.add_assoc]
    simp
  · rintro k hk (rfl | e)
    · rcases hb with h | h
      · exact h
      · omega
    · rcases hp k e with h | h
      · exact h
      · omega
  · have := hA.sl.upd hos.1 (fun k hk e => hne' (by rw [hk, e]))
    have e2 : pcells (s.pieces ++ (done ++ [(off + j, (l.drop j).take q)])) = pcells (s.pieces ++ done) ++ [.int .i64 ((off + j : Nat) : Int), .string ⟨((l.drop j).take q).toArray⟩] := by
      rw [← List.append_assoc, pcells_append]; rfl
    rw [e2]
    simpa [Nat.add_assoc] using this
  · rcases hA.at_ with e | e
    · exact Grow.le hz k (hp k (by rw [← e.1]; exact hk))
    · have hk' := hk
      rw [e.1] at hk'
      cases hk'
      have := hU.size
      exact .inr ⟨by omega, by rw [hos.2]; exact hA.sl.lt hk⟩

set_option maxHeartbeats 2000000 in
theorem rwrite_ok (w : World) (F : Nat → Prop) (b : Nat) (s : DSt) (hd : RAt w F b s) (off : Nat) (l : List UInt8) (h3 : off + l.length ≤ 16777216)
    (hn : 0 ≤ s.calls) (hn2 : s.calls ≤ 1000000000) (hok : s.failing = false ∨ s.left ≠ 0) (hl1 : -1000000000 ≤ s.left) (hl2 : s.left ≤ 9223372036854775807) (hnow : s.now.length ≤ 16777216) (hpc : s.pieces.length ≤ 500000000) :
    Calls Try.prog 27 #[.pointer (some ⟨b, 0, none⟩), .int .i64 off, .string ⟨l.toArray⟩] w (RPost w F b (rwroteSt s off l) 0) := by
  obtain ⟨vp, hr, hs, hb, hp⟩ := hd
  have hoff : off ≤ 16777216 := by omega
  have hll : l.length ≤ 16777216 := by omega
  have hg1 : (off : Int) + ((l.length : Nat) : Int) ≤ 16777216 := by omega
  have HR := Lib.hid hr
  go_enter Try.func27, Try.ntmps27
  go_wp2_with (first
    | (go_at_call 40; go_must (refine (roff_ok b w _ _ vp _ _ _ hr hok hn hn2 hl1 hl2).mono ?_; rintro e w1 ⟨rfl, hr1, ho1⟩; have c0 := hr1.c0; have HR1 := Lib.hid hr1; clear hr hr1))
    | (go_at_call 35; go_must (refine (rput_any _ s.now l off (by omega) (by omega) (by omega)).mono ?_; rintro e w2 ⟨rfl, hu2⟩; have hr2 : RRow w2 b s.now s.synced vp (s.calls + 1) (s.left - 1) s.failing := Row.upd HR1.out hu2 id; have d0 := hr2.c0; have z0 := hr2.fz 0 (by omega); clear hr2)))
  have HS := rwrel_start (off := off) (l := l) hs hb hp HR.out HR1.out ho1 hu2
  go_loopw [8] (fun v wr => ∃ j : Nat, j ≤ l.length ∧ v = .int .i64 j ∧ RWRel w F b s off l j wr) (fun v _ => l.length - (intOf v).toNat)
  case atStart => exact ⟨0, Nat.zero_le _, rfl, HS⟩
  case round =>
    clear HS d0 z0 c0 hs
    obtain ⟨j, hj, rfl, hR⟩ := hrel
    by_cases hlt : j < l.length
    · obtain ⟨q, hq⟩ : ∃ q, q = min (64 - (off + j) % 64) (l.length - j) := ⟨_, rfl⟩
      have hqi : (if ((l.length : Int) - (j : Int)) < (64 - ((off : Int) + (j : Int)) % 64) then ((l.length : Int) - (j : Int)) else (64 - ((off : Int) + (j : Int)) % 64)) = (q : Int) := by split <;> omega
      have hq1 : 0 < q := by omega
      have hq2 : j + q ≤ l.length := by omega
      have HQ := Lib.hid hq
      have HQI := Lib.hid hqi
      clear hq hqi
      obtain ⟨done, vp1, hdl, hr1, hs1, hne1, hstep⟩ := rwrel_open hR
      have c2 := hr1.c2
      have f2 := hr1.fz 2 (by omega)
      have hbw := hr1.lt
      have HST := Lib.hid hstep
      have HR2 := Lib.hid hr1
      have HS1 := Lib.hid hs1
      have HRR := Lib.hid hR
      have hml : (s.pieces ++ done).length ≤ 1000000000 := by simp; omega
      clear hstep hr1 hs1 hR
      go_wp2_with (show wpList _ _ _ (⟨some 49, _, _, _, _, _⟩ :: _) _ _; go_must (refine wpList_min rfl (.tmp 44) (.tmp 48) _ rfl rfl rfl HQI.out ?_))
      have hw1 := IntWalk.i64_in ((off : Int) + (j : Int)) (by omega)
      have hw2 := IntWalk.i64_in ((j : Int) + (q : Int)) (by omega)
      have hf1 : (0 : Int) ≤ (j : Int) + (q : Int) := by omega
      have hf2 : (j : Int) + (q : Int) ≤ (l.length : Int) := by omega
      have hf3 : (j : Int) ≤ (j : Int) + (q : Int) := by omega
      go_region_law ((refine step_of rfl (wp_append_sl (.tmp 54) (.tmp 65) _ rfl T_parts (v := vp1) rfl (by exact HS1.out.far (((Upd.refl _ wr).alloc _).drew)) (m := 1) (news := [.int .i64 ((off : Int) + (j : Int)), .string ((ByteArray.mk l.toArray).extract j ((j : Int) + (q : Int)).toNat)]) rfl (by exact (Rd.of_new (cs := #[.int .i64 ((off : Int) + (j : Int)), .string ((ByteArray.mk l.toArray).extract j ((j : Int) + (q : Int)).toNat)]) (Row.new_at _ _ _ _ rfl) rfl)) (by intro u hu; simp at hu; rcases hu with rfl | rfl <;> rfl) (by unfold maxLen; omega) (by omega) ?_); go_must (intro vp' w3 hA; obtain ⟨A3, c3, rfl, _⟩ := hA.sl.form; have hT := HST.out _ _ q _ HQ.out hlt (((Upd.refl (fun _ => False) wr).alloc _).drew) hA; have t2 := hT.1.c2; have z2 := hT.1.fz 2 (by omega))))
      all_goals go_wp2_with fail
      all_goals (have hT2 := hT.2; rw [List.length_append] at hT2; exact ⟨⟨j + q, by omega, by go_num, hT2⟩, by simp [intOf]; omega⟩)
    · go_wp2_with fail
      go_ret
      exact rwrel_end hR (by omega)
end Go.Proofs.Ytacghhgiilhkfaa
