/- disk: Write, walked. -/
import Derived.Test.YtcbpgmoegfkhnaaDisk5
namespace Go.Proofs.Ytcbpgmoegfkhnaa
set_option linter.unusedVariables false
open Go.RowKit

def WritePost (w : World) (F : Nat → Prop) (b : Nat) (s : DSt) (r : Int) (e : Ending) (w' : World) : Prop := e = .returned (.int .i64 r) ∧ DiskAt w' (Grow F w w') b s ∧ Upd F w w'

def strLen : Value → Nat
  | .string s => s.size
  | _ => 0

theorem wrel_start {w w3 : World} {F : Nat → Prop} {b : Nat} {s : DSt} {vn' vs vp : Value} {cells : List Value} {off : Nat} {l : List UInt8}
    (h : Dk w3 (Grow F w w3) b { s with now := putL s.now off l, calls := s.calls + 1, left := if s.failing then s.left - 1 else s.left } vn' vs vp cells) (hu : Upd F w w3) : WRel w F b s off l off l w3 :=
  ⟨[], rfl, hu, ⟨vn', vs, vp, cells, by simpa [wroteSt] using h⟩⟩

theorem wrel_end {w wr : World} {F : Nat → Prop} {b : Nat} {s : DSt} {off o : Nat} {l : List UInt8} (h : WRel w F b s off l o [] wr) : WritePost w F b (wroteSt s off l) 0 (.returned (.int .i64 0)) wr := by
  obtain ⟨done, hd, hu, hk⟩ := h
  rw [pcsL_nil, List.append_nil] at hd
  subst hd
  exact ⟨rfl, hk, hu⟩

theorem extract_take (r : List UInt8) (q : Nat) : ((ByteArray.mk r.toArray).extract 0 q).data.toList = r.take q := by
  rw [ByteArray.extract_mk]; simp

theorem extract_drop (r : List UInt8) (q : Nat) : Value.string ((ByteArray.mk r.toArray).extract q r.length) = .string ⟨(r.drop q).toArray⟩ := by
  rw [ByteArray.extract_mk, List.take_of_length_le (by simp)]
theorem WRel.drewN {w wr : World} {F : Nat → Prop} {b : Nat} {s : DSt} {off o : Nat} {l r : List UInt8} (h : WRel w F b s off l o r wr) (n : Nat) : WRel w F b s off l o r (wr.drewN n) := by
  obtain ⟨done, hd, hu, vn, vs, vp, cells, hk⟩ := h
  exact ⟨done, hd, hu.drewN n, vn, vs, vp, cells, hk.upd ((Upd.refl (fun _ => False) wr).drewN n) (fun _ _ => id) (fun _ h => h)⟩

/-- One round of the loop: a piece is cut off. -/
theorem write_round {w wr W : World} {F : Nat → Prop} {b : Nat} {s : DSt} {off : Nat} {l : List UInt8} {o : Nat} {r : List UInt8} {q cap : Nat} (hR : WRel w F b s off l o r wr) (hF : ∀ k, F k → k < w.heap.size) (hq : q = min (64 - o % 64) r.length) (h0 : 0 < r.length)
    (hpc : s.pieces.length ≤ 500000000) (hl : l.length ≤ 16777216) (hc : cap = grownCap wr.drew q 0 5)
    (hW : W = (wr.alloc (.cells (bytesRow ((ByteArray.mk r.toArray).extract 0 q) cap) 5 ((bytesRow ((ByteArray.mk r.toArray).extract 0 q) cap).size, (bytesRow ((ByteArray.mk r.toArray).extract 0 q) cap).size + 1))).drew.drew) :
    Calls Try.prog 35 #[.pointer (some ⟨b, 2, none⟩), .agg #[.int .i64 o, .slice (some ⟨wr.heap.size, 0, none⟩) q cap]] W (fun e w' => e = .returned (.tuple #[]) ∧ WRel w F b s off l (o + q) (r.drop q) w') := by
  subst hW
  obtain ⟨done, hd, hu, vn, vs, vp, cells, hk⟩ := hR
  have hql : q ≤ r.length := by omega
  have hU : Upd (fun _ => False) wr (wr.alloc (.cells (bytesRow ((ByteArray.mk r.toArray).extract 0 q) cap) 5 ((bytesRow ((ByteArray.mk r.toArray).extract 0 q) cap).size, (bytesRow ((ByteArray.mk r.toArray).extract 0 q) cap).size + 1))).drew.drew :=
    ((Upd.refl (fun _ => False) wr).alloc _).drew.drew
  have hts : ((ByteArray.mk r.toArray).extract 0 q).size = q := by
    have := extract_take r q
    have h1 : ((ByteArray.mk r.toArray).extract 0 q).data.toList.length = ((ByteArray.mk r.toArray).extract 0 q).size := Array.length_toList
    rw [this, List.length_take] at h1
    omega
  have hg1 : q ≤ cap := by rw [hc]; exact grownCap_ge _ _ _ _
  have hq64 : q ≤ 64 := by omega
  have hg2 : cap ≤ maxLen := by rw [hc]; exact grownCap_le_maxLen _ _ _ _ (by unfold maxLen; omega)
  have ht := bytesRow_sl wr 5 ((ByteArray.mk r.toArray).extract 0 q) cap (by rw [hts]; exact hg1) hg2
  rw [hts, extract_take] at ht
  have hpl : (done ++ pcsL o r).length ≤ l.length := by rw [hd]; exact pcsL_length _ _
  have hn : (s.pieces ++ done).length ≤ 1000000000 := by simp at hpl ⊢; omega
  refine (add_any b _ vn vs vp _ _ _ (hk.row.upd hU id) _ cells (hk.pcs.far hU) hn o _ q cap).mono ?_
  rintro e w' hP
  have hz : (Value.slice (some ⟨wr.heap.size, 0, none⟩) q cap).ownBlock = some wr.heap.size := rfl
  obtain ⟨hD, hU', he⟩ := Dk.added (F' := Grow F w w') hk hU (by rw [List.length_take]; omega) ht (fun k hk' => by rw [hz] at hk'; cases hk'; exact ⟨Nat.le_refl _, by simp⟩) hP (fun k hk' => by
      have hu1 := hu.size
      rcases hk' with h | h
      · rcases h with h | h
        · exact .inl h
        · exact .inr ⟨h.1, by have := hP.size; have := hU.size; omega⟩
      · exact .inr ⟨by omega, h.2⟩) (fun k hk' => by
      rcases hk' with h | h
      · have := hF k h; have := hu.size; omega
      · exact h.2)
  · refine ⟨he, done ++ [(o, r.take q)], ?_, hu.trans hU' ?_, ?_⟩
    · rw [← hd, pcsL_cons o q r h0 hq]; simp
    · intro k hlt hk'
      rcases hk' with h | h
      · exact h
      · omega
    · simpa [wroteSt] using hD

set_option maxHeartbeats 2000000 in
theorem write_ok (w : World) (F : Nat → Prop) (hF : ∀ k, F k → k < w.heap.size) (b : Nat) (s : DSt) (hd : DiskAt w F b s) (off : Nat) (l : List UInt8) (h3 : off + l.length ≤ 16777216)
    (hn : 0 ≤ s.calls) (hn2 : s.calls ≤ 1000000000) (hok : s.failing = false ∨ s.left ≠ 0) (hl1 : -1000000000 ≤ s.left) (hl2 : s.left ≤ 9223372036854775807) (hnow : s.now.length ≤ 16777216) (hpc : s.pieces.length ≤ 500000000) :
    Calls Try.prog 21 #[.pointer (some ⟨b, 0, none⟩), .int .i64 off, .string ⟨l.toArray⟩] w (WritePost w F b (wroteSt s off l) 0) := by
  obtain ⟨vn, vs, vp, cells, hk⟩ := hd
  have hoff : off ≤ 16777216 := by omega
  have hll : l.length ≤ 16777216 := by omega
  have hrow := hk.row
  have hg1 : ((l.length : Nat) : Int) ≤ 16777216 - (off : Int) := by omega
  have HK := Lib.hid hk
  clear hk
  have H3 := Lib.hid h3
  clear h3
  go_enter Try.func21, Try.ntmps21
  go_wp2_with (first
    | (go_at_call 34; go_must (refine (call_ok b w vn vs vp s.calls s.left s.failing hrow hn hn2 hok hl1 hl2).mono ?_); rintro e w1 ⟨rfl, hr1, ho1⟩; have HR1 := Lib.hid hr1; have c0 := hr1.c0; clear hr1 hrow)
    | (show wpList _ _ _ (⟨some 38, _, _, _, _, _⟩ :: _) _ _; go_must (refine wpList_bytes_newL rfl 9 43 5 (.tmp 37) rfl Try.underlying9 Try.underlying43 Try.underlying5 (l := l) rfl (by unfold maxLen; omega) ?_); intro vt wc hN; obtain ⟨A, c, rfl, hc⟩ := hN.sl.form)
    | (go_at_call 33; go_must (refine (put_any wc vn A c s.now.length l.length off s.now l ((HK.out.only HR1.out ho1).now.far hN.upd) hN.sl.rd (put_hap HK.out ho1 hN) (by omega) (by omega)).mono ?_); rintro e w2 ⟨vn', rfl, hP⟩; obtain ⟨A2, c2, rfl, _⟩ := hP.sl.form; have hD := Dk.put HK.out HR1.out ho1 hN.upd hP; have d0 := hD.1.c0; have z0 := hD.1.fz 0 (by omega)))
  have h3 := H3.out
  have HS := wrel_start hD.2.2.1 hD.2.2.2
  go_loopw [1, 2] (fun v1 v2 wr => ∃ (o : Nat) (r : List UInt8), v1 = .int .i64 o ∧ v2 = .string ⟨r.toArray⟩ ∧ o + r.length ≤ 16777216 ∧ WRel w F b s off l o r wr) (fun _ v2 _ => strLen v2)
  case atStart => exact ⟨off, l, rfl, rfl, h3, HS⟩
  case round =>
    clear HS hD hP d0 z0 c0
    obtain ⟨o, r, rfl, rfl, hor, hR⟩ := hrel
    by_cases hr0 : r.length = 0
    · have hr1 : r = [] := List.eq_nil_of_length_eq_zero hr0
      subst hr1
      go_wp2_with fail
      go_ret
      exact wrel_end hR
    · have hr1 : 0 < r.length := by omega
      obtain ⟨q, hq⟩ : ∃ q, q = min (64 - o % 64) r.length := ⟨_, rfl⟩
      have hqi : (if (r.length : Int) < (64 - (o : Int) % 64) then (r.length : Int) else (64 - (o : Int) % 64)) = (q : Int) := by split <;> omega
      have hq1 : 0 < q := by omega
      have hq2 : q ≤ r.length := by omega
      have hq3 : q ≤ 64 := by omega
      have HQ := Lib.hid hq
      have HQI := Lib.hid hqi
      clear hq hqi
      have HR := Lib.hid hR
      clear hR hr0
      go_wp2_with (first
        | (show wpList _ _ _ (⟨some 50, _, _, _, _, _⟩ :: _) _ _; go_must (refine wpList_min rfl (.tmp 47) (.tmp 49) _ rfl rfl rfl HQI.out ?_)))
      have hcv := fun (W : World) (t : ByteArray) => run_bytes_of_string (P := Try.prog) W 9 43 5 t Try.underlying9 Try.underlying43 Try.underlying5
      go_region_law (((go_simp; go_at_call 35; refine (write_round HR.out hF HQ.out hr1 hpc hll rfl rfl).mono ?_; rintro e w4 ⟨rfl, hR4⟩)))
      go_wp2_with fail
      have hwr := IntWalk.i64_in ((o : Int) + (q : Int)) (by omega)
      go_quiet (fail)
      go_wp2_with fail
      go_roundw
      case rel => exact ⟨o + q, r.drop q, by go_num, extract_drop r q, by rw [List.length_drop]; omega, hR4.drewN nq⟩
      case measure =>
        rw [extract_drop]
        simp [strLen, ByteArray.size]
        omega
end Go.Proofs.Ytcbpgmoegfkhnaa
