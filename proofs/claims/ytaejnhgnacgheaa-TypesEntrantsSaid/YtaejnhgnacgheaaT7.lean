/- types: clauses, Check. -/
import Derived.Test.YtaejnhgnacgheaaT6p
namespace Go.Proofs.Ytaejnhgnacgheaa
set_option linter.unusedVariables false
set_option linter.unusedSimpArgs false
open Go.RowKit

theorem run_store_func {P : Program} {w : World} {a : Addr} {m : _} (f : Fn) (c l : Array Value) : (store a (.func f c l) m).run P w = stored P w a (.func f c l) m := run_store P w a _ m rfl
attribute [local go_sem] run_store_func

theorem c2_any (w : World) (d : DrawL) (vt vp vq vb : Value) (h : DrawIn w d vt vp vq vb) : Calls Try.prog 52 #[dval d vt vp vq vb] w (Gives w (.int .i64 (unl (inR d.kind 1 3 && !foreignL d) 14))) := by
  have hU : Kp w (w.alloc (.cells (dcells d vt vp vq vb).toArray 30)) := (Upd.refl _ w).alloc _
  have hc := pure_any _ d vt vp vq vb (h.kp hU)
  have HC := Lib.hid hc
  have HU := Lib.hid hU
  obtain ⟨fo, hfo⟩ : ∃ b, b = foreignL d := ⟨_, rfl⟩
  rw [← hfo] at HC ⊢
  obtain ⟨q, hq⟩ : ∃ b, b = inR d.kind 1 3 := ⟨_, rfl⟩
  rw [← hq]
  have HQ := Lib.hid hq
  clear h hc hU hfo hq
  cases q
  · go_enter Try.func52, Try.ntmps52
    go_wp2_with (first
      | (go_at_call 42; refine (within_any _ _ _ _).mono ?_; rintro e wa ⟨rfl, rfl⟩; rw [← HQ.out])
      | (go_at_call 41; refine (unless_any _ _ _).mono ?_; rintro e wa ⟨rfl, rfl⟩))
    go_ret
    exact ⟨rfl, HU.out⟩
  · go_enter Try.func52, Try.ntmps52
    go_wp2_with (first
      | (go_at_call 42; refine (within_any _ _ _ _).mono ?_; rintro e wa ⟨rfl, rfl⟩; rw [← HQ.out])
      | (go_at_call 53; refine HC.out.mono ?_; rintro e w1 ⟨rfl, hb⟩; have HB := Lib.hid hb; clear hb)
      | (go_at_call 41; refine (unless_any _ _ _).mono ?_; rintro e wa ⟨rfl, rfl⟩))
    go_ret
    exact ⟨by simp, HU.out.trans HB.out⟩

theorem clauses_any (w : World) : Calls Try.prog 29 #[] w (NewL 3 clauseE clausesL w) := by
  go_enter Try.func29, Try.ntmps29
  go_wp2
  go_ret
  exact ⟨_, rfl, lst_new (k := 3) (enc := clauseE) (fun _ => rfl) w 80 _ clausesL rfl, (Upd.refl _ w).alloc _⟩

/-- the clauses of a list, in order -/
def runC (d : DrawL) : List ClauseL → List UInt8 × Int
  | [] => ([], 0)
  | c :: cs => if (c.kind = 0 ∨ c.kind = d.kind) ∧ c.err d ≠ 0 then (c.name, c.err d) else runC d cs
theorem runC_hit {d : DrawL} {L : List ClauseL} {k : Nat} (hk : k < L.length) (h1 : L[k].kind = 0 ∨ L[k].kind = d.kind) (h2 : L[k].err d ≠ 0) : runC d (L.drop k) = (L[k].name, L[k].err d) := by
  rw [List.drop_eq_getElem_cons hk, runC, if_pos ⟨h1, h2⟩]
theorem runC_skip {d : DrawL} {L : List ClauseL} {k : Nat} (hk : k < L.length) (h : ¬ ((L[k].kind = 0 ∨ L[k].kind = d.kind) ∧ L[k].err d ≠ 0)) : runC d (L.drop k) = runC d (L.drop (k + 1)) := by
  rw [List.drop_eq_getElem_cons hk, runC, if_neg h]

theorem clause_calls (w : World) (d : DrawL) (vt vp vq vb : Value) (h : DrawIn w d vt vp vq vb) : ∀ c, c ∈ clausesL → ∀ W, Kp w W → Calls Try.prog c.fn #[dval d vt vp vq vb] W (Gives W (.int .i64 (c.err d))) := by
  intro c hc W hW
  have h' := h.kp hW
  simp only [clausesL, List.mem_cons, List.not_mem_nil, or_false] at hc
  rcases hc with rfl | rfl | rfl | rfl | rfl | rfl | rfl | rfl | rfl | rfl | rfl | rfl
  · exact c1_any W d vt vp vq vb h'
  · exact c2_any W d vt vp vq vb h'
  · exact c3_any W d vt vp vq vb h'
  · exact c4_any W d vt vp vq vb h'
  · exact c5_any W d vt vp vq vb h'
  · exact c6_any W d vt vp vq vb h'
  · exact c7_any W d vt vp vq vb h'
  · exact tiers_any W d vt vp vq vb h'
  · exact places_any W d vt vp vq vb h'
  · exact c8_any W d vt vp vq vb h'
  · exact c9_any W d vt vp vq vb h'
  · exact quotas_any W d vt vp vq vb h'
theorem clause_enters : ∀ c, c ∈ clausesL → ∀ args w, (callFunc c.fn args).run Try.prog w = .ok (.enter c.fn args) w := by
  intro c hc
  simp only [clausesL, List.mem_cons, List.not_mem_nil, or_false] at hc
  rcases hc with rfl | rfl | rfl | rfl | rfl | rfl | rfl | rfl | rfl | rfl | rfl | rfl
  · exact Go.Proofs.enters_of Try.func50 (by kernel_rfl) rfl
  · exact Go.Proofs.enters_of Try.func52 (by kernel_rfl) rfl
  · exact Go.Proofs.enters_of Try.func54 (by kernel_rfl) rfl
  · exact Go.Proofs.enters_of Try.func55 (by kernel_rfl) rfl
  · exact Go.Proofs.enters_of Try.func56 (by kernel_rfl) rfl
  · exact Go.Proofs.enters_of Try.func58 (by kernel_rfl) rfl
  · exact Go.Proofs.enters_of Try.func59 (by kernel_rfl) rfl
  · exact Go.Proofs.enters_of Try.func60 (by kernel_rfl) rfl
  · exact Go.Proofs.enters_of Try.func61 (by kernel_rfl) rfl
  · exact Go.Proofs.enters_of Try.func62 (by kernel_rfl) rfl
  · exact Go.Proofs.enters_of Try.func63 (by kernel_rfl) rfl
  · exact Go.Proofs.enters_of Try.func64 (by kernel_rfl) rfl

/-- what Check answers -/
def CheckPost (w : World) (r : List UInt8 × Int) (e : Ending) (w' : World) : Prop := e = .returned (.tuple #[.string ⟨r.1.toArray⟩, .int .i64 r.2]) ∧ Kp w w'

set_option maxHeartbeats 2000000 in
theorem check_run (w : World) (d : DrawL) (vt vp vq vb : Value) (h : DrawIn w d vt vp vq vb) : Calls Try.prog 13 #[dval d vt vp vq vb] w (CheckPost w (runC d clausesL)) := by
  have hcl := clause_calls w d vt vp vq vb h
  have HCL := Lib.hid hcl
  have hle : clausesL.length = 12 := rfl
  obtain ⟨L, hL⟩ : ∃ L, L = clausesL := ⟨_, rfl⟩
  have HEN := Lib.hid clause_enters
  rw [← hL] at HCL hle HEN ⊢
  have HLL := Lib.hid hL
  have HLE := Lib.hid hle
  clear h hcl hL hle
  go_enter Try.func13, Try.ntmps13
  go_wp2_with (go_at_call 29; refine (clauses_any _).mono ?_; rintro e w1 ⟨v1, rfl, hl, hb⟩; rw [← HLL.out] at hl; obtain ⟨A, c, rfl, hA⟩ := hl; rw [HLE.out]; have H := Lib.hid hA; have HU1 : Hid (Kp (w.alloc (.cells (dcells d vt vp vq vb).toArray 30)) w1) := Lib.hid hb; clear hA hb)
  go_loopw [5, 6, 9] (fun _ _ v wr => ∃ k : Nat, k ≤ 12 ∧ v = .int .i64 k ∧ runC d (L.drop k) = runC d L ∧ Kp w1 wr) (fun _ _ v _ => 12 - (intOf v).toNat)
  case atStart => exact ⟨0, Nat.zero_le _, rfl, rfl, Upd.refl _ _⟩
  case round =>
    obtain ⟨k, hk, rfl, ht, hu⟩ := hrel
    have HT := Lib.hid ht
    have HU := Lib.hid hu
    clear ht hu
    by_cases hlt : k < 12
    · have hkl : k < L.length := by have := HLE.out; omega
      obtain ⟨gA, oA, rfl, hc0, hc1, hc2⟩ := (H.out.upd HU.out).at3 hkl
      have hkw : Kp w wr := Kp.trans ((Upd.refl _ w).alloc _) (HU1.out.trans HU.out)
      have hcall := HCL.out L[k] (List.getElem_mem _)
      have hent := HEN.out L[k] (List.getElem_mem _)
      have hrow : Row wr w.heap.size 30 (dcells d vt vp vq vb) := ((Row.new w 30 (dcells d vt vp vq vb).toArray).upd HU1.out id).upd HU.out id
      have hlz : w.heap.size < wr.heap.size := hrow.lt
      have hne : w.heap.size ≠ wr.heap.size := by omega
      have d0 : wr.cell? ⟨w.heap.size, 0, none⟩ = some (.string ⟨d.name.toArray⟩) := hrow.cell 0
      have d1 : wr.cell? ⟨w.heap.size, 1, none⟩ = some (.int .i64 d.kind) := hrow.cell 1
      have d2 : wr.cell? ⟨w.heap.size, 2, none⟩ = some (.int .i64 d.round) := hrow.cell 2
      have d3 : wr.cell? ⟨w.heap.size, 3, none⟩ = some (.int .i64 d.price) := hrow.cell 3
      have d4 : wr.cell? ⟨w.heap.size, 4, none⟩ = some (.int .i64 d.pool) := hrow.cell 4
      have d5 : wr.cell? ⟨w.heap.size, 5, none⟩ = some (.int .i64 d.pick) := hrow.cell 5
      have d6 : wr.cell? ⟨w.heap.size, 6, none⟩ = some (vt) := hrow.cell 6
      have d7 : wr.cell? ⟨w.heap.size, 7, none⟩ = some (.bool d.roll) := hrow.cell 7
      have d8 : wr.cell? ⟨w.heap.size, 8, none⟩ = some (vp) := hrow.cell 8
      have d9 : wr.cell? ⟨w.heap.size, 9, none⟩ = some (.int .i64 d.cls) := hrow.cell 9
      have d10 : wr.cell? ⟨w.heap.size, 10, none⟩ = some (.int .i64 d.size) := hrow.cell 10
      have d11 : wr.cell? ⟨w.heap.size, 11, none⟩ = some (vq) := hrow.cell 11
      have d12 : wr.cell? ⟨w.heap.size, 12, none⟩ = some (vb) := hrow.cell 12
      obtain ⟨x, hx⟩ : ∃ x, x = L[k] := ⟨_, rfl⟩
      rw [← hx] at hc0 hc1 hc2 hcall hent
      have HX := Lib.hid hx
      have HCALL := Lib.hid hcall
      have HKW := Lib.hid hkw
      obtain ⟨nm, kd, fn, er⟩ := x
      obtain ⟨ev, hev⟩ : ∃ v, v = er d := ⟨_, rfl⟩
      have HEV := Lib.hid hev
      clear hx hrow hcall hkw hev
      simp only at hc0 hc1 hc2 hent
      have hk0 : (0 : Int) ≤ k := by omega
      have hk1 : (k : Int) < 12 := by omega
      have next : Hid (¬ ((kd = 0 ∨ kd = d.kind) ∧ ev ≠ 0) → runC d (L.drop (k + 1)) = runC d L) := Lib.hid (fun h => by rw [← HT.out, runC_skip hkl (by rw [← HX.out]; show ¬ ((kd = 0 ∨ kd = d.kind) ∧ er d ≠ 0); rw [← HEV.out]; exact h)])
      have hit : Hid ((kd = 0 ∨ kd = d.kind) → ev ≠ 0 → runC d L = (nm, ev)) := Lib.hid (fun h1 h2 => by rw [← HT.out, runC_hit hkl (by rw [← HX.out]; exact h1) (by rw [← HX.out]; show er d ≠ 0; rw [← HEV.out]; exact h2), ← HX.out]; show (nm, er d) = (nm, ev); rw [HEV.out])
      have HKN : Hid (k + 1 ≤ 12) := Lib.hid (by omega)
      by_cases hk0' : kd = 0
      · subst hk0'
        have HRUN : Hid ((0 : Int) = 0 ∨ (0 : Int) = d.kind) := Lib.hid (.inl rfl)
        by_cases he0 : ev = 0
        · have HE0 := Lib.hid he0
          clear he0
          go_wp2_with (show Calls _ _ _ (World.alloc wr _) _; refine (HCALL.out _ (HKW.out.trans ((Upd.refl _ wr).alloc _))).mono ?_; rintro e w5 ⟨rfl, hb⟩; have HB : Hid (Kp wr w5) := Lib.hid (Kp.trans ((Upd.refl _ wr).alloc _) hb); clear hb; simp only [show er d = 0 from HEV.out.symm.trans HE0.out])
          go_roundw
          case rel => exact ⟨k + 1, HKN.out, by go_num, next.out (fun h => h.2 HE0.out), HU.out.trans HB.out⟩
          case measure => simp [intOf]; omega

        · have HIT := Lib.hid (hit.out HRUN.out he0)
          have hneq : (ev != 0) = true := by simpa using he0
          go_wp2_with (show Calls _ _ _ (World.alloc wr _) _; refine (HCALL.out _ (HKW.out.trans ((Upd.refl _ wr).alloc _))).mono ?_; rintro e w5 ⟨rfl, hb⟩; have HB : Hid (Kp wr w5) := Lib.hid (Kp.trans ((Upd.refl _ wr).alloc _) hb); have n5 : w5.cell? ⟨wr.heap.size, 0, none⟩ = some (.string ⟨nm.toArray⟩) := hb.cellAt (by simp); clear hb; simp only [show er d = ev from HEV.out.symm])
          go_ret2
          exact ⟨by rw [HIT.out]; rfl, HKW.out.trans HB.out⟩

      · by_cases hkd : kd = d.kind
        · have HRUN : Hid (kd = 0 ∨ kd = d.kind) := Lib.hid (.inr hkd)
          by_cases he0 : ev = 0
          · have HE0 := Lib.hid he0
            clear he0
            go_wp2_with (show Calls _ _ _ (World.alloc wr _) _; refine (HCALL.out _ (HKW.out.trans ((Upd.refl _ wr).alloc _))).mono ?_; rintro e w5 ⟨rfl, hb⟩; have HB : Hid (Kp wr w5) := Lib.hid (Kp.trans ((Upd.refl _ wr).alloc _) hb); clear hb; simp only [show er d = 0 from HEV.out.symm.trans HE0.out])
            go_roundw
            case rel => exact ⟨k + 1, HKN.out, by go_num, next.out (fun h => h.2 HE0.out), HU.out.trans HB.out⟩
            case measure => simp [intOf]; omega

          · have HIT := Lib.hid (hit.out HRUN.out he0)
            have hneq : (ev != 0) = true := by simpa using he0
            go_wp2_with (show Calls _ _ _ (World.alloc wr _) _; refine (HCALL.out _ (HKW.out.trans ((Upd.refl _ wr).alloc _))).mono ?_; rintro e w5 ⟨rfl, hb⟩; have HB : Hid (Kp wr w5) := Lib.hid (Kp.trans ((Upd.refl _ wr).alloc _) hb); have n5 : w5.cell? ⟨wr.heap.size, 0, none⟩ = some (.string ⟨nm.toArray⟩) := hb.cellAt (by simp); clear hb; simp only [show er d = ev from HEV.out.symm])
            go_ret2
            exact ⟨by rw [HIT.out]; rfl, HKW.out.trans HB.out⟩

        · have HNX := Lib.hid (next.out (fun h => by rcases h.1 with h | h; exact hk0' h; exact hkd h))
          have hb1 : (kd == 0) = false := by simpa using hk0'
          have hb2 : (kd == d.kind) = false := by simpa using hkd
          go_wp2_with (fail)
          go_roundw
          case rel => exact ⟨k + 1, HKN.out, by go_num, HNX.out, HU.out.alloc _⟩
          case measure => simp [intOf]; omega
    · have hkn : k = 12 := by omega
      subst hkn
      go_wp2
      go_ret2
      refine ⟨?_, Kp.trans ((Upd.refl _ w).alloc _) (HU1.out.trans HU.out)⟩
      rw [← HT.out, List.drop_of_length_le (by rw [HLE.out]; exact Nat.le_refl _)]
      rfl
end Go.Proofs.Ytaejnhgnacgheaa
