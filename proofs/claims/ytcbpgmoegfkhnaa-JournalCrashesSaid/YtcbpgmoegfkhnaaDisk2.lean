/- disk: Read. -/
import Derived.Test.YtcbpgmoegfkhnaaDisk1
import Derived.Deep.QuietTactic
import Derived.BigQuiet
import Derived.Deep.RegionHeld3
import Derived.WalkSpells
import Derived.WalkLawsBesides
namespace Go.Proofs.Ytcbpgmoegfkhnaa
set_option linter.unusedVariables false
open Go.RowKit

theorem Sl.some_ {w : World} {A : Option Addr} {e size n c : Nat} {xs : List Value} (h : Sl w (.slice A n c) e size n xs) (hn : 0 < n) : ∃ g o, A = some ⟨g, o, none⟩ := by
  rcases h.2 with ⟨_, h0⟩ | ⟨g, o, cap, cs, hv, _⟩
  · omega
  · cases hv; exact ⟨g, o, rfl⟩

/-- bytes of the contents -/
def readL (c : List UInt8) (off : Int) (n : Int) : List UInt8 := if off < 0 ∨ n < 1 ∨ (c.length : Int) ≤ off then [] else (c.drop off.toNat).take (min n.toNat (c.length - off.toNat))

theorem readL_in (c : List UInt8) (off k : Nat) (hk : 1 ≤ k) (ho : off < c.length) : readL c off k = (c.drop off).take (min k (c.length - off)) := by
  unfold readL
  rw [if_neg (by omega)]
  simp

set_option maxHeartbeats 1000000 in
theorem read_in (b : Nat) (w : World) (g o m c : Nat) (bs : List UInt8) (vs vp : Value) (n : Int) (f : Bool) (l : Int) (h : DRow w b (.slice (some ⟨g, o, none⟩) m c) vs vp n f l)
   (hs : Sl w (.slice (some ⟨g, o, none⟩) m c) 5 1 m (bvs bs)) (hm : m ≤ 50000000) (hmc : m ≤ c) (off k q : Nat) (h1 : 1 ≤ k) (h2 : off < m) (hk : k ≤ 9223372036854775807) (hq : q = min k (m - off)) :
    Calls Try.prog 24 #[.pointer (some ⟨b, 0, none⟩), .int .i64 off, .int .i64 k] w fun e w' => e = .returned (.string ⟨((bs.drop off).take q).toArray⟩) ∧ w' = w.drew := by
  have h0 := h.c0
  clear h
  have hk1 : (1 : Int) ≤ (k : Int) := by omega
  have ho0 : (0 : Int) ≤ (off : Int) := by omega
  have ho1 : ((off : Nat) : Int) ≤ (m : Int) := by omega
  have hne : ¬ c = off := by omega
  have hqi : (if ((m : Int) - (off : Int)) < (k : Int) then ((m : Int) - (off : Int)) else (k : Int)) = (q : Int) := by split <;> omega
  have hq0 : (0 : Int) ≤ (q : Int) := by omega
  have hqc : (q : Int) ≤ ((c - off : Nat) : Int) := by omega
  have hqn : q ≤ c - off := by omega
  have hbl : bs.length = m := by have := hs.1; rw [bvs_length] at this; omega
  have hcv : (convert 43 9 (.slice (some ⟨g, o + off, none⟩) q (c - off))).run Try.prog w.drew = .ok (.string ⟨((bs.drop off).take q).toArray⟩) w.drew := by
    refine run_string_rd (w := w.drew) _ _ Try.underlying43 Try.underlying5 Try.underlying9 (n := q) ?_
    have hr := hs.rd
    obtain ⟨_, A, c', hv, _, _, hc⟩ := hr
    cases hv
    refine ⟨by rw [bvs_length]; simp; omega, _, _, rfl, by omega, by simp, ?_⟩
    rintro ad hA
    cases hA
    refine ⟨rfl, fun j u hu => ?_⟩
    have := (hc _ rfl).2 (off + j) u (by
      rw [bvs_get] at hu ⊢
      rw [List.getElem?_take] at hu
      split at hu
      · rwa [List.getElem?_drop] at hu
      · simp at hu)
    simpa [Nat.add_assoc] using this
  have hw := IntWalk.i64_in ((m : Int) - (off : Int)) (by omega)
  have HBL := Lib.hid hbl
  have HQ := Lib.hid hq
  clear hbl hq
  have HQI := Lib.hid hqi
  clear hqi
  go_enter Try.func24, Try.ntmps24
  go_wp2_with fail
  go_region_held3 (fun w' => w'.cell? ⟨b, 0, none⟩ = some (.slice (some ⟨g, o, none⟩) m c) ∧ (convert 43 9 (.slice (some ⟨g, o + off, none⟩) q (c - off))).run Try.prog w' = .ok (.string ⟨((bs.drop off).take q).toArray⟩) w') (first | exact ⟨h0, hcv⟩ | go_keep) ((refine step_of rfl (wp_min (.tmp 32) (.tmp 39) _ rfl rfl rfl HQI.out ?_)))
  go_wp2
  go_ret
  exact ⟨rfl, rfl⟩
end Go.Proofs.Ytcbpgmoegfkhnaa
