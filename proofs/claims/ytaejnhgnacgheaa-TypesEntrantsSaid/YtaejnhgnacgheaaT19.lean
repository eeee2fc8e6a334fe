/- the maker of rules: Mod, numbers.next, word. -/
import Derived.Test.YtaejnhgnacgheaaT16
namespace Go.Proofs.Ytaejnhgnacgheaa
set_option linter.unusedVariables false
set_option linter.unusedSimpArgs false
open Go.RowKit

def modI (n m : Int) : Int := (n.tmod m + m) % m
theorem modI_eq (n m : Int) : modI n m = n % m := by
  unfold modI
  rw [Int.add_emod_right]
  conv => rhs; rw [← Int.tmod_add_mul_tdiv n m]
  rw [Int.add_mul_emod_self_left]
theorem modI_bounds (n m : Int) (hm : 0 < m) : 0 ≤ modI n m ∧ modI n m < m := by
  rw [modI_eq n m]
  exact ⟨Int.emod_nonneg _ (by omega), Int.emod_lt_of_pos _ hm⟩
theorem modI_neg {n m : Int} (hm : 0 < m) (h : n.tmod m < 0) : modI n m = n.tmod m + m := by
  unfold modI
  have h1 := Int.lt_tmod_of_pos n hm
  exact Int.emod_eq_of_lt (by omega) (by omega)
theorem modI_pos {n m : Int} (hm : 0 < m) (h : ¬ n.tmod m < 0) : modI n m = n.tmod m := by
  unfold modI
  have h1 := Int.tmod_lt_of_pos n hm
  rw [Int.add_emod_right]
  exact Int.emod_eq_of_lt (by omega) h1
theorem mod02_any (w : World) (n m : Int) (hm : 0 < m) (hm2 : m ≤ 1000000000) (hn : in64 n) :
    Calls Try.prog 47 #[.int .i64 n, .int .i64 m] w fun e w' => e = .returned (.int .i64 (modI n m)) ∧ w = w' := by
  have h1 := Int.lt_tmod_of_pos n hm
  have h2 := Int.tmod_lt_of_pos n hm
  have hne : (m == 0) = false := by simp; omega
  have HN := Lib.hid (@modI_neg n m hm)
  have HP := Lib.hid (@modI_pos n m hm)
  obtain ⟨t, ht⟩ : ∃ t, n.tmod m = t := ⟨_, rfl⟩
  rw [ht] at h1 h2 HN HP
  have hw : IntKind.i64.wrap t = t := by rw [IntKind.wrap_i64]; omega
  have hw2 : wrap64 t = t := by unfold wrap64; omega
  have hw3 : IntKind.i64.wrap (t + m) = t + m := by rw [IntKind.wrap_i64]; omega
  have hw4 : wrap64 (t + m) = t + m := by unfold wrap64; omega
  clear hn
  by_cases h : t < 0
  · have HE := Lib.hid (HN.out h)
    go_enter Try.func47, Try.ntmps47
    go_wp2
    go_ret
    exact ⟨by rw [HE.out]; rfl, rfl⟩
  · have HE := Lib.hid (HP.out h)
    go_enter Try.func47, Try.ntmps47
    go_wp2
    go_ret
    exact ⟨by rw [HE.out]; rfl, rfl⟩
theorem mod_any (w : World) (n m : Int) (hm : 0 < m) (hm2 : m ≤ 1000000000) (hn : in64 n) :
    Calls Try.prog 20 #[.int .i64 n, .int .i64 m] w fun e w' => e = .returned (.int .i64 (modI n m)) ∧ w = w' := by
  have hc := mod02_any w n m hm hm2 hn
  go_enter Try.func20, Try.ntmps20
  go_wp2_with (go_at_call 47; refine hc.mono ?_; rintro en wa ⟨rfl, rfl⟩)
  go_ret
  exact ⟨rfl, rfl⟩
/-- the reader of numbers has gone on -/
def NextPost (m : Nat) (vl : Value) (k : Nat) (n : Int) (w : World) (e : Ending) (w' : World) : Prop :=
  ∃ (r : Int) (k' : Nat), e = .returned (.int .i64 r) ∧ 0 ≤ r ∧ r < n ∧ k' ≤ k + 1 ∧ Row w' m 72 [vl, .int .i64 k'] ∧ Upd (· = m) w w'

set_option maxHeartbeats 1000000 in
theorem next_any {W0 w : World} {m : Nat} {vl : Value} {L : List Int} {k : Nat} (hl : Nums W0 vl L) (hL : L.length ≤ maxLen) (hok : ∀ x, x ∈ L → in64 x) (hkp : Kp W0 w) (hm : W0.heap.size ≤ m) (hr : Row w m 72 [vl, .int .i64 k]) (hk : k ≤ 1000) (n : Int) (hn : 0 < n) (hn2 : n ≤ 1000000) :
    Calls Try.prog 28 #[.pointer (some ⟨m, 0, none⟩), .int .i64 n] w (NextPost m vl k n w) := by
  obtain ⟨A, c, rfl, hA⟩ := hl
  have a0 : w.cell? ⟨m, 0, none⟩ = some (.slice A L.length c) := hr.cell 0
  have a1 : w.cell? ⟨m, 1, none⟩ = some (.int .i64 k) := hr.cell 1
  have f1 := hr.frozen (j := 1) (by simp)
  have HR := Lib.hid hr
  by_cases hlt : k < L.length
  · obtain ⟨g, o, rfl, hc⟩ := (hA.upd hkp).at1 hlt
    have hgm : g < W0.heap.size := by obtain ⟨_, _, h3⟩ := hA; exact (h3 _ rfl).2.1
    have hin := hok L[k] (List.getElem_mem _)
    obtain ⟨x, hx⟩ : ∃ x, x = L[k] := ⟨_, rfl⟩
    rw [← hx] at hc hin
    have hmod : Hid (∀ W, Calls Try.prog 20 #[.int .i64 x, .int .i64 n] W (fun e w' => e = .returned (.int .i64 (modI x n)) ∧ w' = W)) := Lib.hid (fun W => (mod_any W x n hn (by omega) hin).mono (fun e w' h => ⟨h.1, h.2.symm⟩))
    have HM := Lib.hid (modI_bounds x n hn)
    obtain ⟨nl, hnl⟩ : ∃ nl, nl = L.length := ⟨_, rfl⟩
    rw [← hnl] at a0 hlt HR ⊢
    unfold maxLen at hL
    have hk0 : (0 : Int) ≤ k := by omega
    have hk1 : (k : Int) < nl := by omega
    have hkle : ¬ (nl : Int) ≤ k := by omega
    have hk3 : (k : Int) ≤ 1000 := by omega
    have hgm2 : g ≠ m := by omega
    clear hx hin hA hn hn2 hok hkp hr
    go_enter Try.func28, Try.ntmps28
    go_wp2_with (fail)
    go_quiet (fail)
    obtain ⟨wd, hwd⟩ : ∃ wd, wd = w.drewN nq := ⟨_, rfl⟩
    have HRD : Hid (Row wd m 72 [.slice (some ⟨g, o, none⟩) nl c, .int .i64 k]) := Lib.hid (by rw [hwd]; exact HR.out)
    have UD : Hid (Upd (· = m) w wd) := Lib.hid (by rw [hwd]; exact Upd.drewN (Upd.refl _ _) _)
    have hcd : wd.cell? ⟨g, o + k, none⟩ = some (.int .i64 x) := by rw [hwd]; exact hc
    rw [← hwd]
    rw [← hnl]
    clear hwd a0 a1 f1 hc
    have a1 : wd.cell? ⟨m, 1, none⟩ = some (.int .i64 k) := HRD.out.cell 1
    have f1 : wd.frozen? ⟨m, 1, none⟩ = false := HRD.out.frozen (j := 1) (by simp)
    have hle : ¬ nl ≤ k := by omega
    go_wp2_with (fail)
    obtain ⟨w5, hw5⟩ : ∃ w5, w5 = wd.setCell ⟨m, 1, none⟩ (.int .i64 ((k : Int) + 1)) := ⟨_, rfl⟩
    rw [← hw5]
    have HR5 : Hid (Row w5 m 72 [.slice (some ⟨g, o, none⟩) nl c, .int .i64 ((k : Int) + 1)]) := Lib.hid (by rw [hw5]; exact HRD.out.set 1 _)
    have U5 : Hid (Upd (· = m) w w5) := Lib.hid (UD.out.trans (by rw [hw5]; exact (Upd.refl (· = m) wd).setCell (fun _ => rfl) _) (fun _ _ h => h))
    have hc5 : w5.cell? ⟨g, o + k, none⟩ = some (.int .i64 x) := (Upd.cell (S := (· = m)) (by rw [hw5]; exact (Upd.refl (· = m) wd).setCell (fun _ => rfl) _) (World.block_lt_of_cell? _ _ hcd) hgm2).trans hcd
    clear hw5 hcd a1 f1
    have a0 : w5.cell? ⟨m, 0, none⟩ = some (.slice (some ⟨g, o, none⟩) nl c) := HR5.out.cell 0
    have a1 : w5.cell? ⟨m, 1, none⟩ = some (.int .i64 ((k : Int) + 1)) := HR5.out.cell 1
    go_quiet ((go_at_call 20; exact Calls.quiet_of_same (hmod.out _)))
    go_wp2_with (fail)
    go_ret
    exact ⟨modI x n, k + 1, rfl, HM.out.1, HM.out.2, Nat.le_refl _, HR5.out, Upd.drewN U5.out _⟩
  · obtain ⟨nl, hnl⟩ : ∃ nl, nl = L.length := ⟨_, rfl⟩
    rw [← hnl] at a0 hlt HR ⊢
    have HRN := Lib.hid hn
    have hge : nl ≤ k := by omega
    have hgei : (nl : Int) ≤ k := by omega
    clear hA hnl hn hn2 hok hkp hr hlt hL
    go_enter Try.func28, Try.ntmps28
    go_wp2_with (fail)
    go_quiet (fail)
    go_wp2_with (fail)
    go_ret
    exact ⟨0, k, rfl, Int.le_refl _, HRN.out, Nat.le_succ _, HR.out, Upd.drewN (Upd.refl _ _) _⟩

def wordL (n : Int) : List UInt8 := [97 + UInt8.ofNat (modI n 6).toNat]
theorem word6_any (w : World) (n : Int) (hn : in64 n) : Calls Try.prog 27 #[.int .i64 n] w (Gives w (.string ⟨(wordL n).toArray⟩)) := by
  have hb := modI_bounds n 6 (by decide)
  have HM := Lib.hid (mod_any (w.alloc (.cells #[.string ⟨#[97]⟩, .string ⟨#[98]⟩, .string ⟨#[99]⟩, .string ⟨#[100]⟩, .string ⟨#[101]⟩, .string ⟨#[102]⟩] 9)) n 6 (by decide) (by decide) hn)
  have HW : Hid (wordL n = [97 + UInt8.ofNat (modI n 6).toNat]) := Lib.hid rfl
  obtain ⟨r, hr⟩ : ∃ r, modI n 6 = r := ⟨_, rfl⟩
  rw [hr] at hb HM HW
  clear hr hn
  have hc : r = 0 ∨ r = 1 ∨ r = 2 ∨ r = 3 ∨ r = 4 ∨ r = 5 := by omega
  clear hb
  rcases hc with rfl | rfl | rfl | rfl | rfl | rfl
  all_goals (
    go_enter Try.func27, Try.ntmps27
    go_wp2_with (go_at_call 20; refine HM.out.mono ?_; rintro en wa ⟨rfl, rfl⟩)
    go_ret
    exact ⟨by rw [HW.out]; rfl, (Upd.refl _ w).alloc _⟩)
end Go.Proofs.Ytaejnhgnacgheaa
