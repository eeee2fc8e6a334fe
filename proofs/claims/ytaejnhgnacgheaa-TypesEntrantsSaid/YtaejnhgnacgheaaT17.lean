/- Rules among the arguments, opened. -/
import Derived.Test.YtaejnhgnacgheaaT16
import Derived.Deep.Slices
import Derived.Lib.SmallJoins
import Derived.OpenShut
import Derived.Carry
import Derived.WideKeyArgs
import Derived.ChangeSame
namespace Go.Proofs.Ytaejnhgnacgheaa
set_option linter.unusedVariables false
set_option linter.unusedSimpArgs false
open Go.ChangeShapes Go.WideShapes Go.ChangeAt Go.RowKit
open Go.ChangeMaps (open_string)

theorem laidOut : laidOutB Try.prog = true := by kernel_rfl
theorem stays_all {H : Type} {enc : TypeId × Value → H} {W W' : World} {sp : Nat → Bool} (hb : Below W.heap.size W W') : ∀ {ts : List TypeId} {vs : List Value} {ds : List (DataW H)} {ps : List MemPlace},
    (∀ t, t ∈ ts → Try.prog.readableRec t = true ∧ t < Try.prog.types.size) → DataW.TrodAll enc Try.prog W 0 (fun _ => true) true ts vs ds ps → (∀ x, x ∈ ps → x.block < W.heap.size) → (∀ x, x ∈ ps → sp x.block = true) →
    DataW.TrodAll enc Try.prog W' 0 sp true ts vs ds ps
  | [], [], [], _, _, h, _, _ => h
  | [], _ :: _, _, _, _, h, _, _ => h
  | [], [], _ :: _, _, _, h, _, _ => h
  | _ :: _, [], _, _, _, h, _, _ => h
  | _ :: _, _ :: _, [], _, _, h, _, _ => h
  | t :: ts, _ :: _, _ :: _, _, hT, ⟨p, q, h1, h2, e⟩, hlt, hs =>
    ⟨p, q, WideElems.Trod_stays laidOut (hT t (by simp)).1 (hT t (by simp)).2 h1 (fun x hx => hb.same (hlt x (by rw [e]; exact List.mem_append_left _ hx))) (fun x hx => hs x (by rw [e]; exact List.mem_append_left _ hx)),
      stays_all hb (fun u hu => hT u (by simp [hu])) h2 (fun x hx => hlt x (by rw [e]; exact List.mem_append_right _ hx)) (fun x hx => hs x (by rw [e]; exact List.mem_append_right _ hx)), e⟩
theorem truth_post {H : Type} {enc : TypeId × Value → H} {f : Func} {s : ChangeSpec} {W W' : World} {args : Array Value} {ds gs : List (DataW H)} {before : List MemPlace}
    (hv : s.vars = []) (hr : f.resultTypes = #[4]) (hT : ∀ t, t ∈ f.params.toList → Try.prog.readableRec t = true ∧ t < Try.prog.types.size)
    (hW : DataW.Whole enc Try.prog f.params.toList s.vars false W args.toList ds gs before) (hres : s.fn H (ds ++ gs) = { results := [.lit (.bool true)], args := ds })
    (hu : Upd (fun _ => False) W W') : s.post enc Try.prog f false true false false W args (.bool true) W' := by
  have hb : Below W.heap.size W W' := ⟨hu.os, hu.tape, hu.output, hu.size, fun k hk => hu.block k hk id⟩
  have hlt : ∀ p, p ∈ before → p.block < W.heap.size := fun p hp => hW.lt p hp
  obtain ⟨p, q, hA, hV, rfl, hz, hn⟩ := id hW
  rw [hv] at hV
  obtain ⟨rfl, rfl⟩ := trodVars_none hV
  refine ⟨ds, [], p ++ [], [], p, [], hW, ?_, ?_, ?_, ?_, fun h => by cases h⟩
  · rw [hres, hr]
    exact trodAll_cons_mk (shut_bool Try.underlying4 _) trodAll_mk0
  · rw [hres]
    exact stays_all hb hT hA (fun x hx => hlt x (by simpa using hx)) (fun x hx => by simpa using hlt x (by simpa using hx))
  · rw [hres, hv]
    rfl
  · exact World.keptBut_mono (fun x hx => ⟨hx, .inr (.inl (by simpa using hx))⟩) (hb.frame (· ∈ p ++ []))
theorem in64_of {n : Int} (h : (Lit.int .i64 n).wf = true) : in64 n := by
  have h1 : IntKind.i64.min = -9223372036854775808 := rfl
  have h2 : IntKind.i64.max = 9223372036854775807 := rfl
  simp only [Lit.wf, Bool.and_eq_true, decide_eq_true_eq, h1, h2] at h
  exact h
theorem add_at (a : Addr) (hs : a.spot = none) (j : Nat) : a.add j = ⟨a.block, a.off + j, none⟩ := by
  obtain ⟨b, o, s⟩ := a
  simp only at hs
  subst hs
  unfold Addr.add
  by_cases hj : j = 0 <;> simp [hj]
theorem has_at {P : Program} {W : World} {base n : Nat} {a : Addr} {e : TypeId} (h : W.has P .any base a e n) : a.spot = none ∧ a.block < W.heap.size := by
  obtain ⟨_, h1, _, _, h2, _⟩ := h
  refine ⟨h1, ?_⟩
  rcases Nat.lt_or_ge a.block W.heap.size with h | h
  · exact h
  · unfold World.shape? at h2
    rw [Array.getElem?_eq_none h] at h2
    cases h2
theorem cell_int {P : Program} {W : World} {base t : Nat} {kd : IntKind} {v : Value} (ht : P.underlying t = some (.int kd)) (hv : Cell.okWide P W .any base t v) : ∃ n, v = .int kd n ∧ kd.has n := by
  unfold Cell.okWide Cell.ok at hv
  rw [ht] at hv
  cases v <;> simp at hv
  rename_i k n
  obtain ⟨rfl, h⟩ := hv
  exact ⟨n, rfl, h⟩
theorem cell_bool {P : Program} {W : World} {base t : Nat} {v : Value} (ht : P.underlying t = some .bool) (hv : Cell.okWide P W .any base t v) : ∃ b, v = .bool b := by
  unfold Cell.okWide Cell.ok at hv
  rw [ht] at hv
  cases v <;> simp at hv
  exact ⟨_, rfl⟩
theorem cell_str {P : Program} {W : World} {base t : Nat} {v : Value} (ht : P.underlying t = some .string) (hv : Cell.okWide P W .any base t v) : ∃ l : List UInt8, v = .string ⟨l.toArray⟩ ∧ l.length ≤ maxLen := by
  unfold Cell.okWide Cell.ok at hv
  rw [ht] at hv
  cases v <;> simp at hv
  rename_i s
  refine ⟨s.data.toList, rfl, ?_⟩
  have hl : s.data.toList.length = s.size := by rw [Array.length_toList]; rfl
  rw [hl]
  unfold maxLen
  omega
theorem open_list {P : Program} {α : Type} [Inhabited α] {H : Type} {enc' : TypeId × Value → H} {W : World} {base fuel k t e : Nat} {v : Value} {x : DataW H × List MemPlace} {enc : α → List Value} {ok : α → Prop} (ht : P.underlying t = some (.slice e)) (hk : P.cellsOf e = k)
    (hv : Cell.okWide P W .any base t v) (h : DataW.trod enc' P W 0 (fun _ => true) true fuel t [v] = some x)
    (hel : ∀ n cs' y, DataW.trod enc' P W 0 (fun _ => true) true n e cs' = some y → cs'.length = k → ∃ a, ok a ∧ cs' = enc a) :
    ∃ A n c L, v = .slice A n c ∧ LstA k enc W A c L ∧ L.length = n ∧ n ≤ maxLen ∧ ∀ a, a ∈ L → ok a := by
  rcases Go.Deep.open_slice ht h with ⟨hcs, _⟩ | ⟨a, len, cap, m, nn, D, Pl, hcs, _, hl, hm, hmm, _, hx⟩
  · simp only [List.cons.injEq, and_true] at hcs
    exact ⟨none, 0, 0, [], hcs, ⟨Nat.le_refl _, fun _ => rfl, by simp⟩, rfl, Nat.zero_le _, by simp⟩
  · simp only [List.cons.injEq, and_true] at hcs
    subst hcs
    unfold Cell.okWide Cell.ok at hv
    simp only [ht] at hv
    obtain ⟨ha, hb⟩ := has_at hv.2.2
    simp only [if_true] at hmm
    rw [hk] at hx
    obtain ⟨f, hf⟩ := Go.Deep.choose_lt (α := α) (n := len) (p := fun i x => ok x ∧ ∀ j u, (enc x)[j]? = some u → W.cell? ⟨a.block, a.off + i * k + j, none⟩ = some u) (fun i hi => by
      obtain ⟨cs', h1, h2⟩ := hx i (by omega)
      obtain ⟨_, hlen, hcell⟩ := World.cells?_some h1
      obtain ⟨y, hy, he⟩ := hel _ _ _ h2 hlen
      refine ⟨y, hy, fun j u hu => ?_⟩
      rw [← he] at hu
      have hj := (List.getElem?_eq_some_iff.1 hu).1
      have hc := hcell j (by omega)
      rw [add_at a ha, add_at _ rfl] at hc
      rw [hc, ← hu, List.getElem?_eq_getElem hj]
      try simp)
    refine ⟨some a, len, cap, (List.range len).map f, rfl, ⟨by simpa using hl, (fun h => by cases h), ?_⟩, by simp, by omega, ?_⟩
    · rintro ad ⟨⟩
      refine ⟨ha, hb, fun j y hj i u hi => ?_⟩
      rw [List.getElem?_map] at hj
      rcases Nat.lt_or_ge j len with hlt | hge
      · rw [List.getElem?_range hlt] at hj
        cases hj
        exact (hf j hlt).2 i u hi
      · rw [List.getElem?_eq_none (by simpa using hge)] at hj
        cases hj
    · intro y hy
      obtain ⟨i, hi, rfl⟩ := List.mem_map.1 hy
      exact (hf i (by simpa using hi)).1
end Go.Proofs.Ytaejnhgnacgheaa
