/- types: the fields of other kinds (printed by gen-t6.py). -/
import Derived.Test.YtaejnhgnacgheaaT6
namespace Go.Proofs.Ytaejnhgnacgheaa
set_option linter.unusedVariables false
set_option linter.unusedSimpArgs false
open Go.RowKit

set_option maxHeartbeats 2000000 in
theorem foreign_any (w : World) (d : DrawL) (vt vp vq vb : Value) (h : DrawIn w d vt vp vq vb) : Calls Try.prog 32 #[dval d vt vp vq vb] w (Gives w (.bool (foreignL d))) := by
  obtain ⟨A1, a1, rfl, _⟩ := h.t
  obtain ⟨A2, a2, rfl, _⟩ := h.p
  obtain ⟨A3, a3, rfl, _⟩ := h.q
  obtain ⟨n1, hn1⟩ : ∃ n, n = d.tiers.length := ⟨_, rfl⟩
  obtain ⟨n2, hn2⟩ : ∃ n, n = d.places.length := ⟨_, rfl⟩
  obtain ⟨n3, hn3⟩ : ∃ n, n = d.quotas.length := ⟨_, rfl⟩
  obtain ⟨pool, hpool⟩ : ∃ n, n = d.pool := ⟨_, rfl⟩
  clear h
  have hr : (foreignL d) = (((decide (d.kind ≠ 1) && (decide (d.pool ≠ 0) || decide (d.pick ≠ 0) || decide (0 < n1) || d.roll)) || (decide (d.kind ≠ 2) && (decide (0 < n2) || decide (d.cls ≠ 0))) || (decide (d.kind ≠ 3) && (decide (d.size ≠ 0) || decide (0 < n3))))) := by rw [hn1, hn2, hn3]; rfl
  rw [hr, ← hn1, ← hn2, ← hn3]
  clear hr hn1 hn2 hn3 hpool
  obtain ⟨lot, hlot⟩ : ∃ b, b = (decide (d.pool ≠ 0) || decide (d.pick ≠ 0) || decide (0 < n1) || d.roll) := ⟨_, rfl⟩
  obtain ⟨bal, hbal⟩ : ∃ b, b = (decide (0 < n2) || decide (d.cls ≠ 0)) := ⟨_, rfl⟩
  obtain ⟨pan, hpan⟩ : ∃ b, b = (decide (d.size ≠ 0) || decide (0 < n3)) := ⟨_, rfl⟩
  rw [← hlot, ← hbal, ← hpan]
  have HLOT := Lib.hid hlot
  have HBAL := Lib.hid hbal
  have HPAN := Lib.hid hpan
  clear hlot hbal hpan
  go_enter Try.func32, Try.ntmps32
  go_upto_region 1 with fail
  go_cut [3] from 6 to 23 (fun x wx => x = .bool lot ∧ wx = w.alloc (.cells (dcells d (.slice A1 n1 a1) (.slice A2 n2 a2) (.slice A3 n3 a3) vb).toArray 30))
  case first =>
    by_cases h1 : d.pool = 0
    · by_cases h2 : d.pick = 0
      · by_cases h3 : 0 < n1
        · have h3i : (0 : Int) < n1 := by omega
          go_wp2_with fail
          go_meet
          exact ⟨by rw [HLOT.out]; simp [h1, h2, h3] <;> rfl, by simp [dcells, h1, h2, h3]⟩
        · have h3i : ¬ (0 : Int) < n1 := by omega
          go_wp2_with fail
          go_meet
          exact ⟨by rw [HLOT.out]; simp [h1, h2, h3] <;> rfl, by simp [dcells, h1, h2, h3]⟩
      · go_wp2_with fail
        go_meet
        exact ⟨by rw [HLOT.out]; simp [h1, h2] <;> rfl, by simp [dcells, h1, h2]⟩
    · go_wp2_with fail
      go_meet
      exact ⟨by rw [HLOT.out]; simp [h1] <;> rfl, by simp [dcells, h1]⟩
  case rest =>
    obtain ⟨rfl, rfl⟩ := hcut
    go_upto_region 2 with fail
    go_cut [4] from 24 to 32 (fun x wx => x = .bool bal ∧ wx = w.alloc (.cells (dcells d (.slice A1 n1 a1) (.slice A2 n2 a2) (.slice A3 n3 a3) vb).toArray 30))
    case first =>
      by_cases h1 : 0 < n2
      · have h1i : (0 : Int) < n2 := by omega
        go_wp2_with fail
        go_meet
        exact ⟨by rw [HBAL.out]; simp [h1] <;> rfl, by simp [dcells, h1]⟩
      · have h1i : ¬ (0 : Int) < n2 := by omega
        go_wp2_with fail
        go_meet
        exact ⟨by rw [HBAL.out]; simp [h1] <;> rfl, by simp [dcells, h1]⟩
    case rest =>
      obtain ⟨rfl, rfl⟩ := hcut
      go_upto_region 3 with fail
      go_cut [5] from 33 to 41 (fun x wx => x = .bool pan ∧ wx = w.alloc (.cells (dcells d (.slice A1 n1 a1) (.slice A2 n2 a2) (.slice A3 n3 a3) vb).toArray 30))
      case first =>
        by_cases h1 : d.size = 0
        · by_cases h2 : 0 < n3
          · have h2i : (0 : Int) < n3 := by omega
            go_wp2_with fail
            go_meet
            exact ⟨by rw [HPAN.out]; simp [h1, h2] <;> rfl, by simp [dcells, h1, h2]⟩
          · have h2i : ¬ (0 : Int) < n3 := by omega
            go_wp2_with fail
            go_meet
            exact ⟨by rw [HPAN.out]; simp [h1, h2] <;> rfl, by simp [dcells, h1, h2]⟩
        · go_wp2_with fail
          go_meet
          exact ⟨by rw [HPAN.out]; simp [h1] <;> rfl, by simp [dcells, h1]⟩
      case rest =>
        obtain ⟨rfl, rfl⟩ := hcut
        clear HLOT HBAL HPAN
        obtain ⟨kd, hkd⟩ : ∃ k, k = d.kind := ⟨_, rfl⟩
        have hc1 : w.alloc (.cells (dcells d (.slice A1 n1 a1) (.slice A2 n2 a2) (.slice A3 n3 a3) vb).toArray 30) = w.alloc (.cells (dcells d (.slice A1 n1 a1) (.slice A2 n2 a2) (.slice A3 n3 a3) vb).toArray 30) := rfl
        by_cases k1 : d.kind = 1
        · have k2 : (d.kind == 2) = false := by rw [k1]; rfl
          cases lot <;> cases bal <;> cases pan <;> (go_wp2_with fail; go_ret; exact ⟨by simp [k1], (Upd.refl _ w).alloc _⟩)
        · by_cases k2 : d.kind = 2
          · cases lot <;> cases bal <;> cases pan <;> (go_wp2_with fail; go_ret; exact ⟨by simp [k2], (Upd.refl _ w).alloc _⟩)
          · by_cases k3 : d.kind = 3
            · cases lot <;> cases bal <;> cases pan <;> (go_wp2_with fail; go_ret; exact ⟨by simp [k3], (Upd.refl _ w).alloc _⟩)
            · cases lot <;> cases bal <;> cases pan <;> (go_wp2_with fail; go_ret; exact ⟨by simp [k1, k2, k3], (Upd.refl _ w).alloc _⟩)
end Go.Proofs.Ytaejnhgnacgheaa
