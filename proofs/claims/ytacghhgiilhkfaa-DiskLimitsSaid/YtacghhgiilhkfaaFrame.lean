/- What every law's frame shares: a law that answers true and leaves all old blocks alone meets its row; arguments opened. -/
import Derived.Test.YtacghhgiilhkfaaRows
import Derived.Test.YtacghhgiilhkfaaLawKit
import Derived.OpenShut
import Derived.Carry
import Derived.WideKeyArgs
import Derived.ChangeSame
namespace Go.Proofs.Ytacghhgiilhkfaa
set_option linter.unusedVariables false
open Go.ChangeShapes Go.WideShapes Go.ChangeAt Go.RowKit
open Go.ChangeMaps (open_string)

theorem laidOut : laidOutB Try.prog = true := by kernel_rfl

theorem stays_all {H : Type} {enc : TypeId × Value → H} {W W' : World} {sp : Nat → Bool} (hb : Below W.heap.size W W') : ∀ {ts : List TypeId} {vs : List Value} {ds : List (DataW H)} {ps : List MemPlace},
    (∀ t, t ∈ ts → Try.prog.readableRec t = true ∧ t < Try.prog.types.size) → DataW.TrodAll enc Try.prog W 0 (fun _ => true) true ts vs ds ps → (∀ x, x ∈ ps → x.block < W.heap.size) → (∀ x, x ∈ ps → sp x.block = true) →
    DataW.TrodAll enc Try.prog W' 0 sp true ts vs ds ps
  | [], [], [], _, _, h, _, _ => h
  | [], _ :: _, _, _, _, h, _, _ => h
  | [], [], _ :: _, _, _, h, _, _ => h
  | _ :: _, [], _, _, _, h, _, _ => h
  | _ :: _, _ :: _, [], _, _, h, _, _ => h
  | t :: ts, _ :: _, _ :: _, _, hT, ⟨p, q, h1, h2, e⟩, hlt, hs =>
    ⟨p, q, WideElems.Trod_stays laidOut (hT t (by simp)).1 (hT t (by simp)).2 h1 (fun x hx => hb.same (hlt x (by rw [e]; exact List.mem_append_left _ hx))) (fun x hx => hs x (by rw [e]; exact List.mem_append_left _ hx)),
      stays_all hb (fun u hu => hT u (by simp [hu])) h2 (fun x hx => hlt x (by rw [e]; exact List.mem_append_right _ hx)) (fun x hx => hs x (by rw [e]; exact List.mem_append_right _ hx)), e⟩

theorem truth_post {H : Type} {enc : TypeId × Value → H} {f : Func} {s : ChangeSpec} {W W' : World} {args : Array Value} {ds gs : List (DataW H)} {before : List MemPlace}
    (hv : s.vars = []) (hr : f.resultTypes = #[4]) (hT : ∀ t, t ∈ f.params.toList → Try.prog.readableRec t = true ∧ t < Try.prog.types.size)
    (hW : DataW.Whole enc Try.prog f.params.toList s.vars false W args.toList ds gs before) (hres : s.fn H (ds ++ gs) = { results := [.lit (.bool true)], args := ds })
    (hu : Upd (fun _ => False) W W') : s.post enc Try.prog f false true false false W args (.bool true) W' := by
  have hb : Below W.heap.size W W' := ⟨hu.os, hu.tape, hu.output, hu.size, fun k hk => hu.block k hk id⟩
  have hlt : ∀ p, p ∈ before → p.block < W.heap.size := fun p hp => hW.lt p hp
  obtain ⟨p, q, hA, hV, rfl, hz, hn⟩ := id hW
  rw [hv] at hV
  obtain ⟨rfl, rfl⟩ := trodVars_none hV
  refine ⟨ds, [], p ++ [], [], p, [], hW, ?_, ?_, ?_, ?_, fun h => by cases h⟩
  · rw [hres, hr]
    exact trodAll_cons_mk (shut_bool Try.underlying4 _) trodAll_mk0
  · rw [hres]
    exact stays_all hb hT hA (fun x hx => hlt x (by simpa using hx)) (fun x hx => by simpa using hlt x (by simpa using hx))
  · rw [hres, hv]
    rfl
  · exact World.keptBut_mono (fun x hx => ⟨hx, .inr (.inl (by simpa using hx))⟩) (hb.frame (· ∈ p ++ []))

theorem open_text {H : Type} {enc : TypeId × Value → H} {W : World} {base : Nat} {v : Value} {d : DataW H} {p : List MemPlace} (hv : Value.okWide Try.prog W .any base 9 v) (h : DataW.Trod enc Try.prog W 0 (fun _ => true) true 9 v d p) :
    ∃ l : List UInt8, v = .string ⟨l.toArray⟩ ∧ l.length ≤ maxLen := by
  obtain ⟨s, rfl, _, _, hs⟩ := open_string Try.underlying9 hv h
  have hl : s.data.toList.length = s.size := by rw [Array.length_toList]; rfl
  exact ⟨s.data.toList, rfl, by rw [hl]; exact hs⟩
theorem in64_of {n : Int} (h : (Lit.int .i64 n).wf = true) : in64 n := by
  have h1 : IntKind.i64.min = -9223372036854775808 := rfl
  have h2 : IntKind.i64.max = 9223372036854775807 := rfl
  simp only [Lit.wf, Bool.and_eq_true, decide_eq_true_eq, h1, h2] at h
  exact h
theorem add_at (a : Addr) (hs : a.spot = none) (j : Nat) : a.add j = ⟨a.block, a.off + j, none⟩ := by
  obtain ⟨b, o, s⟩ := a
  simp only at hs
  subst hs
  unfold Addr.add
  by_cases hj : j = 0 <;> simp [hj]
theorem has_at {W : World} {base n : Nat} {a : Addr} {e : TypeId} (h : W.has Try.prog .any base a e n) : a.spot = none ∧ a.block < W.heap.size := by
  obtain ⟨_, h1, _, _, h2, _⟩ := h
  refine ⟨h1, ?_⟩
  rcases Nat.lt_or_ge a.block W.heap.size with h | h
  · exact h
  · unfold World.shape? at h2
    rw [Array.getElem?_eq_none h] at h2
    cases h2
theorem open_num {H : Type} {enc : TypeId × Value → H} {W : World} {base : Nat} {v : Value} {d : DataW H} {p : List MemPlace} (hv : Value.okWide Try.prog W .any base 3 v) (h : DataW.Trod enc Try.prog W 0 (fun _ => true) true 3 v d p) :
    ∃ n, v = .int .i64 n ∧ in64 n := by
  obtain ⟨n, rfl, _, _, w⟩ := open_int Try.underlying3 hv h
  exact ⟨n, rfl, in64_of w⟩
theorem open_nums {H : Type} {enc : TypeId × Value → H} {W : World} {base : Nat} {v : Value} {d : DataW H} {p : List MemPlace} (hv : Value.okWide Try.prog W .any base 23 v) (h : DataW.Trod enc Try.prog W 0 (fun _ => true) true 23 v d p) :
    ∃ A n c q, v = .slice A n c ∧ Rd W (.slice A n c) 1 n (ivs q) ∧ (∀ k, (Value.slice A n c).ownBlock = some k → k < W.heap.size) ∧ n ≤ maxLen := by
  obtain ⟨fuel, hf⟩ := h
  obtain ⟨A, n, c, rfl⟩ := okWide_slice Try.underlying23 hv
  rcases open_ints Try.underlying23 Try.underlying3 (by kernel_rfl) hf with ⟨hcs, _⟩ | ⟨a, len, cap, zs, hcs, _, hl, hm, hz, _, hcell, _⟩
  · simp only [Value.cells, List.cons.injEq, and_true] at hcs
    rw [hcs]
    exact ⟨_, _, _, [], rfl, Rd.none_ _ _, by simp [Value.ownBlock], by unfold maxLen; omega⟩
  · simp only [Value.cells, List.cons.injEq, and_true] at hcs
    rw [hcs] at hv ⊢
    unfold Value.okWide at hv
    simp only [Try.underlying23] at hv
    unfold Cell.okWide Cell.ok at hv
    simp only [Try.underlying23] at hv
    obtain ⟨ha, hb⟩ := has_at hv.2.2
    simp only [if_true] at hz
    refine ⟨_, _, _, zs.take len, rfl, ⟨?_, _, _, rfl, hl, (by intro h; cases h), ?_⟩, ?_, by omega⟩
    · simp [ivs]; omega
    · rintro ad ⟨⟩
      refine ⟨ha, fun j u hu => ?_⟩
      unfold ivs at hu
      rw [List.getElem?_map, List.getElem?_take] at hu
      split at hu
      · rename_i hjl
        have := hcell j (by omega)
        rw [add_at a ha j] at this
        rw [this, ← hu]
        simp [List.getD, List.getElem?_eq_getElem (show j < zs.length by omega)]
      · simp at hu
    · intro k hk
      cases hk
      exact hb
theorem open_pair {W : World} {base : Nat} {v : Value} (hv : Value.okWide Try.prog W .any base 40 v) : ∃ a b, v = .agg #[.int .i64 a, .int .i64 b] ∧ in64 a ∧ in64 b := by
  unfold Value.okWide at hv
  simp only [Try.underlying40] at hv
  obtain ⟨cs, rfl, hs, ts, hts, hn, hr⟩ := hv
  have h2 : Try.prog.cellsOf 40 = 2 := by kernel_rfl
  have h3 : Try.prog.cellTypes Try.prog.depth 40 = some [3, 3] := by kernel_rfl
  rw [h2] at hs
  rw [h3] at hts
  cases hts
  have key : ∀ i, i < 2 → ∃ n, cs[i]? = some (.int .i64 n) ∧ in64 n := by
    intro i hi
    obtain ⟨u, hu, hc⟩ := hr i cs[i] (Array.getElem?_eq_getElem (by omega))
    have hu2 : u = 3 := by
      have hmod : i % [3, 3].length = i := Nat.mod_eq_of_lt hi
      rw [hmod] at hu
      rcases i with _ | _ | i
      · cases hu; rfl
      · cases hu; rfl
      · omega
    subst hu2
    unfold Cell.okWide Cell.ok at hc
    simp only [Try.underlying3] at hc
    cases hv : cs[i] <;> rw [hv] at hc <;> try cases hc
    rename_i kk k n h
    subst n
    exact ⟨_, by rw [Array.getElem?_eq_getElem (by omega), hv], h⟩
  obtain ⟨a, ha, ha2⟩ := key 0 (by omega)
  obtain ⟨b, hb, hb2⟩ := key 1 (by omega)
  refine ⟨a, b, ?_, ha2, hb2⟩
  congr 1
  apply Array.ext_getElem?
  intro i
  match i with
  | 0 => exact ha
  | 1 => exact hb
  | i + 2 => rw [Array.getElem?_eq_none (by omega), Array.getElem?_eq_none (by simp)]
end Go.Proofs.Ytacghhgiilhkfaa
