/- numbers.next as a function of how often it was called. -/
import Derived.Test.YtaejnhgnacgheaaT32
namespace Go.Proofs.Ytaejnhgnacgheaa
set_option linter.unusedVariables false
set_option linter.unusedSimpArgs false
open Go.RowKit

/-- the reader of numbers after K calls -/
def NumAt (w : World) (m : Nat) (vl : Value) (L : List Int) (K : Nat) : Prop := Row w m 72 [vl, .int .i64 ((min K L.length : Nat) : Int)]
theorem nextV_in {L : List Int} {K : Nat} (h : K < L.length) (n : Int) : nextV L K n = modI L[K] n := by unfold nextV; rw [List.getElem?_eq_getElem h]
theorem nextV_out {L : List Int} {K : Nat} (h : ¬ K < L.length) (n : Int) : nextV L K n = 0 := by unfold nextV; rw [List.getElem?_eq_none (by omega)]
/-- the reader of numbers has gone on, by one number -/
def NextF (m : Nat) (vl : Value) (L : List Int) (K : Nat) (n : Int) (w : World) (e : Ending) (w' : World) : Prop :=
  e = .returned (.int .i64 (nextV L K n)) ∧ NumAt w' m vl L (K + 1) ∧ Upd (· = m) w w'

set_option maxHeartbeats 1000000 in
theorem next_fun {W0 w : World} {m : Nat} {vl : Value} {L : List Int} {K : Nat} (hl : Nums W0 vl L) (hL : L.length ≤ maxLen) (hok : ∀ x, x ∈ L → in64 x) (hkp : Upd (fun b => W0.heap.size ≤ b) W0 w) (hm : W0.heap.size ≤ m) (hr : NumAt w m vl L K) (n : Int) (hn : 0 < n) (hn2 : n ≤ 1000000) :
    Calls Try.prog 28 #[.pointer (some ⟨m, 0, none⟩), .int .i64 n] w (NextF m vl L K n w) := by
  obtain ⟨A, c, rfl, hA⟩ := hl
  have hkp' : Kp W0 w := hkp.mono (fun b hb e => by omega)
  have a0 : w.cell? ⟨m, 0, none⟩ = some (.slice A L.length c) := hr.cell 0
  have a1 : w.cell? ⟨m, 1, none⟩ = some (.int .i64 ((min K L.length : Nat) : Int)) := hr.cell 1
  have f1 := Row.frozen hr (j := 1) (by simp)
  unfold maxLen at hL
  by_cases hlt : K < L.length
  · have hnv := nextV_in hlt n
    have hk : min K L.length = K := Nat.min_eq_left (by omega)
    have hk' : min (K + 1) L.length = K + 1 := Nat.min_eq_left (by omega)
    obtain ⟨g, o, rfl, hc⟩ := (hA.upd hkp').at1 hlt
    have hgm : g < W0.heap.size := by obtain ⟨_, _, h3⟩ := hA; exact (h3 _ rfl).2.1
    have hin := hok L[K] (List.getElem_mem _)
    obtain ⟨x, hx⟩ : ∃ x, x = L[K] := ⟨_, rfl⟩
    rw [← hx] at hc hin hnv
    have HR : Hid (Row w m 72 [.slice (some ⟨g, o, none⟩) L.length c, .int .i64 (K : Int)]) := Lib.hid (by have h := hr; unfold NumAt at h; rw [hk] at h; exact h)
    have HNV : Hid (∀ w', Row w' m 72 [.slice (some ⟨g, o, none⟩) L.length c, .int .i64 ((K : Int) + 1)] → NumAt w' m (.slice (some ⟨g, o, none⟩) L.length c) L (K + 1)) := Lib.hid (fun w' h => by unfold NumAt; rw [hk']; exact h)
    have HV := Lib.hid hnv
    rw [hk] at a1
    have hmod : Hid (∀ W, Calls Try.prog 20 #[.int .i64 x, .int .i64 n] W (fun e w' => e = .returned (.int .i64 (modI x n)) ∧ w' = W)) := Lib.hid (fun W => (mod_any W x n hn (by omega) hin).mono (fun e w' h => ⟨h.1, h.2.symm⟩))
    have HPOST : Hid (∀ w', NumAt w' m (.slice (some ⟨g, o, none⟩) L.length c) L (K + 1) → Upd (· = m) w w' → NextF m (.slice (some ⟨g, o, none⟩) L.length c) L K n w (.returned (.int .i64 (modI x n))) w') := Lib.hid (fun w' h1 h2 => ⟨by rw [HV.out], h1, h2⟩)
    obtain ⟨Q, hQ⟩ : ∃ Q, Q = NextF m (.slice (some ⟨g, o, none⟩) L.length c) L K n w := ⟨_, rfl⟩
    rw [← hQ] at HPOST ⊢
    obtain ⟨nl, hnl⟩ : ∃ nl, nl = L.length := ⟨_, rfl⟩
    rw [← hnl] at a0 hlt HR HNV HPOST hL
    have hk0 : (0 : Int) ≤ K := by omega
    have hk1 : (K : Int) < nl := by omega
    have hkle : ¬ (nl : Int) ≤ K := by omega
    have hk3 : (K : Int) ≤ 9223372036854775806 := by omega
    have hkw : IntKind.i64.wrap ((K : Int) + 1) = (K : Int) + 1 := IntWalk.i64_in _ (by omega)
    have hgm2 : g ≠ m := by omega
    clear hx hin hA hn hn2 hok hkp hkp' hr hnv hk hk' hL
    clear hQ HV
    go_enter Try.func28, Try.ntmps28
    go_wp2_with (fail)
    go_quiet (fail)
    obtain ⟨wd, hwd⟩ : ∃ wd, wd = w.drewN nq := ⟨_, rfl⟩
    have HRD : Hid (Row wd m 72 [.slice (some ⟨g, o, none⟩) nl c, .int .i64 K]) := Lib.hid (by rw [hwd]; exact HR.out)
    have UD : Hid (Upd (· = m) w wd) := Lib.hid (by rw [hwd]; exact Upd.drewN (Upd.refl _ _) _)
    have hcd : wd.cell? ⟨g, o + K, none⟩ = some (.int .i64 x) := by rw [hwd]; exact hc
    rw [← hwd]
    rw [← hnl]
    clear hwd a0 a1 f1 hc
    have a1 : wd.cell? ⟨m, 1, none⟩ = some (.int .i64 K) := HRD.out.cell 1
    have f1 : wd.frozen? ⟨m, 1, none⟩ = false := HRD.out.frozen (j := 1) (by simp)
    have hle : ¬ nl ≤ K := by omega
    go_wp2_with (fail)
    obtain ⟨w5, hw5⟩ : ∃ w5, w5 = wd.setCell ⟨m, 1, none⟩ (.int .i64 ((K : Int) + 1)) := ⟨_, rfl⟩
    rw [← hw5]
    have HR5 : Hid (Row w5 m 72 [.slice (some ⟨g, o, none⟩) nl c, .int .i64 ((K : Int) + 1)]) := Lib.hid (by rw [hw5]; exact HRD.out.set 1 _)
    have U5 : Hid (Upd (· = m) w w5) := Lib.hid (UD.out.trans (by rw [hw5]; exact (Upd.refl (· = m) wd).setCell (fun _ => rfl) _) (fun _ _ h => h))
    have hc5 : w5.cell? ⟨g, o + K, none⟩ = some (.int .i64 x) := (Upd.cell (S := (· = m)) (by rw [hw5]; exact (Upd.refl (· = m) wd).setCell (fun _ => rfl) _) (World.block_lt_of_cell? _ _ hcd) hgm2).trans hcd
    clear hw5 hcd a1 f1
    have a0 : w5.cell? ⟨m, 0, none⟩ = some (.slice (some ⟨g, o, none⟩) nl c) := HR5.out.cell 0
    have a1 : w5.cell? ⟨m, 1, none⟩ = some (.int .i64 ((K : Int) + 1)) := HR5.out.cell 1
    go_quiet ((go_at_call 20; exact Calls.quiet_of_same (hmod.out _)))
    go_wp2_with (fail)
    exact HPOST.out _ (HNV.out _ HR5.out) (Upd.drewN U5.out _)
  · have hnv := nextV_out hlt n
    have hk : min K L.length = L.length := Nat.min_eq_right (by omega)
    have hk' : min (K + 1) L.length = L.length := Nat.min_eq_right (by omega)
    have HPOST : Hid (∀ nq, NextF m (.slice A L.length c) L K n w (.returned (.int .i64 0)) (w.drewN nq)) := Lib.hid (fun nq => ⟨by rw [hnv], by have h := hr; unfold NumAt at h ⊢; rw [hk] at h; rw [hk']; exact h, Upd.drewN (Upd.refl _ _) _⟩)
    rw [hk] at a1
    obtain ⟨Q, hQ⟩ : ∃ Q, Q = NextF m (.slice A L.length c) L K n w := ⟨_, rfl⟩
    rw [← hQ] at HPOST ⊢
    obtain ⟨nl, hnl⟩ : ∃ nl, nl = L.length := ⟨_, rfl⟩
    rw [← hnl] at a0 a1
    clear hA hnl hn hn2 hok hkp hkp' hr hlt hL hnv hk hk' hQ
    go_enter Try.func28, Try.ntmps28
    go_wp2_with (fail)
    go_quiet (fail)
    go_wp2_with (fail)
    exact HPOST.out _
end Go.Proofs.Ytaejnhgnacgheaa
