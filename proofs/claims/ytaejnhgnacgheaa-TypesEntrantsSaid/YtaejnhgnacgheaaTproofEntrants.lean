/- TypesEntrants returns true for every input, and every argument reads behind the call as it read before. No condition. -/
import Derived.Test.YtaejnhgnacgheaaTframe2
import Derived.Test.YtaejnhgnacgheaaT38
import Derived.OpenShut
namespace Go.Proofs.Ytaejnhgnacgheaa.typesEntrants
open Go.ChangeShapes Go.WideShapes Go.ChangeAt Go.RowKit
set_option linter.unusedVariables false
set_option linter.unusedSimpArgs false

theorem own : ownKnob Try.prog.godebug = none := by kernel_rfl
theorem readable : ∀ t, t ∈ Try.f5.params.toList → Try.prog.readableRec t = true ∧ t < Try.prog.types.size := by
  have h : (Try.f5.params.toList.all fun t => Try.prog.readableRec t && decide (t < Try.prog.types.size)) = true := by kernel_rfl
  intro t ht
  have := List.all_eq_true.1 h t ht
  simpa using this

set_option maxHeartbeats 2000000 in
set_option maxRecDepth 100000 in
theorem lifted (os : Os) (started : os.Started) (H : Type) (enc : TypeId × Value → H) :
    ReturnsInHanded {} Try.checked os 5 .any (Rows.typesEntrantsSpec.pre6 enc Try.prog Try.f5 Rows.typesEntrantsRow.domain false) (Rows.typesEntrantsSpec.post enc Try.prog Try.f5 false true false false) := by
  refine returnsInHanded_of_change (C := Try.checked) own started (by kernel_rfl) Try.func5
    (ChangeSpec.witness6 (enc := enc) (C := Try.checked) false ⟨#[], #[.agg #[.slice none 0 0, .slice none 0 0], .agg #[.int .i64 0, .int .i64 0, .int .i64 0, .int .i64 0, .int .i64 0, .int .i64 0], .agg #[.int .i64 0, .int .i64 0, .int .i64 0]], []⟩ 8 (by kernel_rfl) (by kernel_rfl) (by kernel_rfl) (by kernel_rfl)) ?_
  intro W base args ds gs before hval0 hW hcnd _
  have hval : ∀ (j : Nat) t v, Try.f5.params[j]? = some t → args[j]? = some v → Value.okWide Try.prog W .any base t v := hval0
  have hW' := hW
  obtain ⟨p, q, hA0, hV, rfl, hfz, hnd⟩ := hW
  have hA : DataW.TrodAll enc Try.prog W 0 (fun _ => true) true Try.f5.params.toList args.toList ds p := hA0
  rw [Try.params5] at hA hval
  obtain ⟨v0, vs0, d0, ds0, p0, q100, hargs, rfl, rfl, h0, r0⟩ := trodAll_cons hA
  obtain ⟨v1, vs1, d1, ds1, p1, q101, rfl, rfl, rfl, h1, r1⟩ := trodAll_cons r0
  obtain ⟨v2, vs2, d2, ds2, p2, q102, rfl, rfl, rfl, h2, r2⟩ := trodAll_cons r1
  obtain ⟨rfl, rfl, rfl⟩ := trodAll_nil r2
  obtain rfl : args = #[v0, v1, v2] := by cases args; simp_all
  obtain ⟨A0, n0, c0, L0, B0, m0, e0, M0, rfl, ⟨hl0, hn0, hm0, ho0⟩, ⟨hl0', hn0', hm0', ho0'⟩⟩ := open_2l (hval 0 41 v0 rfl rfl) h0
  obtain ⟨q1, mm1, rfl, hq1, hmm1⟩ := open_i23 (hval 1 24 v1 rfl rfl)
  obtain ⟨q2, rfl, hq2⟩ := open_i3 (hval 2 23 v2 rfl rfl)
  obtain ⟨rfl, rfl⟩ := trodVars_none hV
  clear hA0 hval0
  refine (ents_true W A0 n0 c0 L0 ⟨A0, c0, by rw [hn0], hl0⟩ (by rw [hn0]; exact hm0) ho0 B0 m0 e0 M0 ⟨B0, e0, by rw [hn0'], hl0'⟩ (by rw [hn0']; exact hm0') ho0' q1 mm1 q2 hq1 hmm1 hq2).mono fun e W' ⟨he, hu⟩ => ?_
  exact ⟨_, he, truth_post rfl rfl readable hW' rfl hu⟩

theorem over : Rows.typesEntrantsRow.holds Try.pinned (OpenSpec.ofChange Rows.typesEntrantsSpec) :=
  OpenClaim.holds_of_wide 5 Try.f5 rfl rfl rfl rfl rfl rfl rfl ⟨rfl, rfl, rfl, rfl, rfl⟩ rfl rfl rfl rfl rfl (by kernel_rfl) Try.func5 (by kernel_rfl)
    (of_decide_eq_true (by kernel_rfl)) (by unfold Func.isWrapper; first | (rw [if_pos (by decide +kernel)]; kernel_rfl) | (rw [if_neg (by decide +kernel)]; exact ⟨rfl, rfl⟩))
    (fun os started H enc _ => lifted os started H enc)

theorem proved : Rows.TypesEntrantsSaid :=
  over
#print axioms proved
end Go.Proofs.Ytaejnhgnacgheaa.typesEntrants
