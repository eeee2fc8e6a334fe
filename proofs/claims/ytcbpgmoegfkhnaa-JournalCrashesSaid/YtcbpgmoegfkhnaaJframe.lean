/- What every law's frame shares: a law that answers true and leaves all old blocks alone meets its row; arguments opened. -/
import Derived.Test.YtcbpgmoegfkhnaaRows
import Derived.Test.YtcbpgmoegfkhnaaJlaw
import Derived.Deep.Slices
import Derived.Lib.SmallJoins
import Derived.OpenShut
import Derived.Carry
import Derived.WideKeyArgs
import Derived.ChangeSame
namespace Go.Proofs.Ytcbpgmoegfkhnaa
set_option linter.unusedVariables false
open Go.ChangeShapes Go.WideShapes Go.ChangeAt Go.RowKit
open Go.ChangeMaps (open_string)

theorem laidOut : laidOutB Try.prog = true := by kernel_rfl

theorem stays_all {H : Type} {enc : TypeId × Value → H} {W W' : World} {sp : Nat → Bool} (hb : Below W.heap.size W W') : ∀ {ts : List TypeId} {vs : List Value} {ds : List (DataW H)} {ps : List MemPlace},
    (∀ t, t ∈ ts → Try.prog.readableRec t = true ∧ t < Try.prog.types.size) → DataW.TrodAll enc Try.prog W 0 (fun _ => true) true ts vs ds ps → (∀ x, x ∈ ps → x.block < W.heap.size) → (∀ x, x ∈ ps → sp x.block = true) →
    DataW.TrodAll enc Try.prog W' 0 sp true ts vs ds ps
  | [], [], [], _, _, h, _, _ => h
  | [], _ :: _, _, _, _, h, _, _ => h
  | [], [], _ :: _, _, _, h, _, _ => h
  | _ :: _, [], _, _, _, h, _, _ => h
  | _ :: _, _ :: _, [], _, _, h, _, _ => h
  | t :: ts, _ :: _, _ :: _, _, hT, ⟨p, q, h1, h2, e⟩, hlt, hs =>
    ⟨p, q, WideElems.Trod_stays laidOut (hT t (by simp)).1 (hT t (by simp)).2 h1 (fun x hx => hb.same (hlt x (by rw [e]; exact List.mem_append_left _ hx))) (fun x hx => hs x (by rw [e]; exact List.mem_append_left _ hx)),
      stays_all hb (fun u hu => hT u (by simp [hu])) h2 (fun x hx => hlt x (by rw [e]; exact List.mem_append_right _ hx)) (fun x hx => hs x (by rw [e]; exact List.mem_append_right _ hx)), e⟩

theorem truth_post {H : Type} {enc : TypeId × Value → H} {f : Func} {s : ChangeSpec} {W W' : World} {args : Array Value} {ds gs : List (DataW H)} {before : List MemPlace}
    (hv : s.vars = []) (hr : f.resultTypes = #[4]) (hT : ∀ t, t ∈ f.params.toList → Try.prog.readableRec t = true ∧ t < Try.prog.types.size)
    (hW : DataW.Whole enc Try.prog f.params.toList s.vars false W args.toList ds gs before) (hres : s.fn H (ds ++ gs) = { results := [.lit (.bool true)], args := ds })
    (hu : Upd (fun _ => False) W W') : s.post enc Try.prog f false true false false W args (.bool true) W' := by
  have hb : Below W.heap.size W W' := ⟨hu.os, hu.tape, hu.output, hu.size, fun k hk => hu.block k hk id⟩
  have hlt : ∀ p, p ∈ before → p.block < W.heap.size := fun p hp => hW.lt p hp
  obtain ⟨p, q, hA, hV, rfl, hz, hn⟩ := id hW
  rw [hv] at hV
  obtain ⟨rfl, rfl⟩ := trodVars_none hV
  refine ⟨ds, [], p ++ [], [], p, [], hW, ?_, ?_, ?_, ?_, fun h => by cases h⟩
  · rw [hres, hr]
    exact trodAll_cons_mk (shut_bool Try.underlying4 _) trodAll_mk0
  · rw [hres]
    exact stays_all hb hT hA (fun x hx => hlt x (by simpa using hx)) (fun x hx => by simpa using hlt x (by simpa using hx))
  · rw [hres, hv]
    rfl
  · exact World.keptBut_mono (fun x hx => ⟨hx, .inr (.inl (by simpa using hx))⟩) (hb.frame (· ∈ p ++ []))

theorem open_text {H : Type} {enc : TypeId × Value → H} {W : World} {base : Nat} {v : Value} {d : DataW H} {p : List MemPlace} (hv : Value.okWide Try.prog W .any base 9 v) (h : DataW.Trod enc Try.prog W 0 (fun _ => true) true 9 v d p) :
    ∃ l : List UInt8, v = .string ⟨l.toArray⟩ ∧ l.length ≤ maxLen := by
  obtain ⟨s, rfl, _, _, hs⟩ := open_string Try.underlying9 hv h
  have hl : s.data.toList.length = s.size := by rw [Array.length_toList]; rfl
  exact ⟨s.data.toList, rfl, by rw [hl]; exact hs⟩
theorem in64_of {n : Int} (h : (Lit.int .i64 n).wf = true) : in64 n := by
  have h1 : IntKind.i64.min = -9223372036854775808 := rfl
  have h2 : IntKind.i64.max = 9223372036854775807 := rfl
  simp only [Lit.wf, Bool.and_eq_true, decide_eq_true_eq, h1, h2] at h
  exact h
theorem add_at (a : Addr) (hs : a.spot = none) (j : Nat) : a.add j = ⟨a.block, a.off + j, none⟩ := by
  obtain ⟨b, o, s⟩ := a
  simp only at hs
  subst hs
  unfold Addr.add
  by_cases hj : j = 0 <;> simp [hj]
theorem has_at {W : World} {base n : Nat} {a : Addr} {e : TypeId} (h : W.has Try.prog .any base a e n) : a.spot = none ∧ a.block < W.heap.size := by
  obtain ⟨_, h1, _, _, h2, _⟩ := h
  refine ⟨h1, ?_⟩
  rcases Nat.lt_or_ge a.block W.heap.size with h | h
  · exact h
  · unfold World.shape? at h2
    rw [Array.getElem?_eq_none h] at h2
    cases h2
theorem Rd.none_ (w : World) (size : Nat) : Rd w (.slice none 0 0) size 0 [] := ⟨by simp, none, 0, rfl, Nat.le_refl _, fun _ => rfl, by simp⟩
/-- numbers of one kind -/
def kvs (k : IntKind) (q : List Int) : List Value := q.map (Value.int k)
theorem open_kind {H : Type} {enc : TypeId × Value → H} {W : World} {base : Nat} {v : Value} {d : DataW H} {p : List MemPlace} {t e : TypeId} {kd : IntKind} (ht : Try.prog.underlying t = some (.slice e)) (he : Try.prog.underlying e = some (.int kd)) (hce : Try.prog.cellsOf e = 1) (hv : Value.okWide Try.prog W .any base t v) (h : DataW.Trod enc Try.prog W 0 (fun _ => true) true t v d p) :
    ∃ A n c q, v = .slice A n c ∧ Rd W (.slice A n c) 1 n (kvs kd q) ∧ (∀ k, (Value.slice A n c).ownBlock = some k → k < W.heap.size) ∧ n ≤ maxLen ∧ ∀ x, x ∈ q → (Lit.int kd x).wf = true := by
  obtain ⟨fuel, hf⟩ := h
  obtain ⟨A, n, c, rfl⟩ := okWide_slice ht hv
  rcases open_ints ht he hce hf with ⟨hcs, _⟩ | ⟨a, len, cap, zs, hcs, _, hl, hm, hz, _, hcell, hwf⟩
  · simp only [Value.cells, List.cons.injEq, and_true] at hcs
    rw [hcs]
    exact ⟨_, _, _, [], rfl, Rd.none_ _ _, by simp [Value.ownBlock], by unfold maxLen; omega, by simp⟩
  · simp only [Value.cells, List.cons.injEq, and_true] at hcs
    rw [hcs] at hv ⊢
    unfold Value.okWide at hv
    simp only [ht] at hv
    unfold Cell.okWide Cell.ok at hv
    simp only [ht] at hv
    obtain ⟨ha, hb⟩ := has_at hv.2.2
    simp only [if_true] at hz
    refine ⟨_, _, _, zs.take len, rfl, ⟨?_, _, _, rfl, hl, (by intro h; cases h), ?_⟩, ?_, by omega, fun x hx => hwf x (List.mem_of_mem_take hx)⟩
    · simp [kvs]; omega
    · rintro ad ⟨⟩
      refine ⟨ha, fun j u hu => ?_⟩
      unfold kvs at hu
      rw [List.getElem?_map, List.getElem?_take] at hu
      split at hu
      · rename_i hjl
        have := hcell j (by omega)
        rw [add_at a ha j] at this
        rw [this, ← hu]
        simp [List.getD, List.getElem?_eq_getElem (show j < zs.length by omega)]
      · simp at hu
    · intro k hk
      cases hk
      exact hb
theorem open_nums {H : Type} {enc : TypeId × Value → H} {W : World} {base : Nat} {v : Value} {d : DataW H} {p : List MemPlace} (hv : Value.okWide Try.prog W .any base 40 v) (h : DataW.Trod enc Try.prog W 0 (fun _ => true) true 40 v d p) :
    ∃ A n c q, v = .slice A n c ∧ Rd W (.slice A n c) 1 n (ivs q) ∧ (∀ k, (Value.slice A n c).ownBlock = some k → k < W.heap.size) ∧ n ≤ maxLen := by
  obtain ⟨A, n, c, q, h1, h2, h3, h4, _⟩ := open_kind Try.underlying40 Try.underlying3 (by kernel_rfl) hv h
  exact ⟨A, n, c, q, h1, h2, h3, h4⟩
theorem open_bytes {H : Type} {enc : TypeId × Value → H} {W : World} {base : Nat} {v : Value} {d : DataW H} {p : List MemPlace} (hv : Value.okWide Try.prog W .any base 43 v) (h : DataW.Trod enc Try.prog W 0 (fun _ => true) true 43 v d p) :
    ∃ A n c q, v = .slice A n c ∧ Rd W (.slice A n c) 1 n (kvs .u8 q) ∧ (∀ k, (Value.slice A n c).ownBlock = some k → k < W.heap.size) ∧ n ≤ maxLen ∧ ∀ x, x ∈ q → (0 : Int) ≤ x ∧ x < 256 := by
  obtain ⟨A, n, c, q, h1, h2, h3, h4, h5⟩ := open_kind Try.underlying43 Try.underlying5 (by kernel_rfl) hv h
  refine ⟨A, n, c, q, h1, h2, h3, h4, fun x hx => ?_⟩
  have := h5 x hx
  have e1 : IntKind.u8.min = 0 := rfl
  have e2 : IntKind.u8.max = 255 := rfl
  simp only [Lit.wf, Bool.and_eq_true, decide_eq_true_eq, e1, e2] at this
  omega
theorem open_words {H : Type} {enc : TypeId × Value → H} {W : World} {base : Nat} {v : Value} {d : DataW H} {p : List MemPlace} (hv : Value.okWide Try.prog W .any base 51 v) (h : DataW.Trod enc Try.prog W 0 (fun _ => true) true 51 v d p) :
    ∃ A n c q, v = .slice A n c ∧ Rd W (.slice A n c) 1 n (kvs .u32 q) ∧ (∀ k, (Value.slice A n c).ownBlock = some k → k < W.heap.size) ∧ n ≤ maxLen ∧ ∀ x, x ∈ q → (0 : Int) ≤ x ∧ x < 4294967296 := by
  obtain ⟨A, n, c, q, h1, h2, h3, h4, h5⟩ := open_kind Try.underlying51 Try.underlying23 (by kernel_rfl) hv h
  refine ⟨A, n, c, q, h1, h2, h3, h4, fun x hx => ?_⟩
  have := h5 x hx
  have e1 : IntKind.u32.min = 0 := rfl
  have e2 : IntKind.u32.max = 4294967295 := rfl
  simp only [Lit.wf, Bool.and_eq_true, decide_eq_true_eq, e1, e2] at this
  omega
theorem open_byte {H : Type} {enc : TypeId × Value → H} {W : World} {base : Nat} {v : Value} {d : DataW H} {p : List MemPlace} (hv : Value.okWide Try.prog W .any base 5 v) (h : DataW.Trod enc Try.prog W 0 (fun _ => true) true 5 v d p) :
    ∃ n, v = .int .u8 n ∧ 0 ≤ n ∧ n < 256 := by
  obtain ⟨n, rfl, _, _, this⟩ := open_int Try.underlying5 hv h
  have e1 : IntKind.u8.min = 0 := rfl
  have e2 : IntKind.u8.max = 255 := rfl
  simp only [Lit.wf, Bool.and_eq_true, decide_eq_true_eq, e1, e2] at this
  exact ⟨n, rfl, by omega, by omega⟩
theorem open_word {H : Type} {enc : TypeId × Value → H} {W : World} {base : Nat} {v : Value} {d : DataW H} {p : List MemPlace} (hv : Value.okWide Try.prog W .any base 23 v) (h : DataW.Trod enc Try.prog W 0 (fun _ => true) true 23 v d p) :
    ∃ n, v = .int .u32 n ∧ 0 ≤ n ∧ n < 4294967296 := by
  obtain ⟨n, rfl, _, _, this⟩ := open_int Try.underlying23 hv h
  have e1 : IntKind.u32.min = 0 := rfl
  have e2 : IntKind.u32.max = 4294967295 := rfl
  simp only [Lit.wf, Bool.and_eq_true, decide_eq_true_eq, e1, e2] at this
  exact ⟨n, rfl, by omega, by omega⟩
theorem open_strs {H : Type} {enc : TypeId × Value → H} {W : World} {base : Nat} {v : Value} {d : DataW H} {p : List MemPlace} (hv : Value.okWide Try.prog W .any base 22 v) (h : DataW.Trod enc Try.prog W 0 (fun _ => true) true 22 v d p) :
    ∃ A n c l, v = .slice A n c ∧ Strs W A n c l := by
  obtain ⟨fuel, hf⟩ := h
  obtain ⟨A, n, c, rfl⟩ := okWide_slice Try.underlying22 hv
  rcases Go.Deep.open_slice Try.underlying22 hf with ⟨hcs, _⟩ | ⟨a, len, cap, m, nn, D, Pl, hcs, _, hl, hm, hmm, _, hx⟩
  · simp only [Value.cells, List.cons.injEq, and_true] at hcs
    rw [hcs]
    exact ⟨_, _, _, [], rfl, Rd.none_ _ _, by unfold maxLen; omega, by simp⟩
  · simp only [Value.cells, List.cons.injEq, and_true] at hcs
    rw [hcs] at hv ⊢
    unfold Value.okWide at hv
    simp only [Try.underlying22] at hv
    unfold Cell.okWide Cell.ok at hv
    simp only [Try.underlying22] at hv
    obtain ⟨ha, hb⟩ := has_at hv.2.2
    simp only [if_true] at hmm
    have h9 : Try.prog.cellsOf 9 = 1 := by kernel_rfl
    rw [h9] at hx
    obtain ⟨f, hf⟩ := Go.Deep.choose_lt (α := List UInt8) (n := len) (p := fun i x => x.length ≤ maxLen ∧ W.cell? ⟨a.block, a.off + i, none⟩ = some (.string ⟨x.toArray⟩)) (fun i hi => by
      obtain ⟨cs', h1, h2⟩ := hx i (by omega)
      obtain ⟨_, hlen, hcell⟩ := World.cells?_some h1
      match cs', hlen with
      | [u0], _ =>
        obtain ⟨s3, e3, _, w3⟩ := DataW.trod_string Try.underlying9 h2
        simp at e3
        subst e3
        have c0 := hcell 0 (by omega)
        rw [add_at a ha, add_at _ rfl] at c0
        have hsl : s3.data.toList.length = s3.size := by rw [Array.length_toList]; rfl
        exact ⟨s3.data.toList, by rw [hsl]; exact w3, by simpa using c0⟩)
    refine ⟨_, _, _, (List.range len).map f, rfl, ⟨by simp [ssv], _, _, rfl, hl, (by intro h; cases h), ?_⟩, by omega, ?_⟩
    · rintro ad ⟨⟩
      refine ⟨ha, fun j u hu => ?_⟩
      rw [ssv_get, List.getElem?_map] at hu
      rcases Nat.lt_or_ge j len with hlt | hge
      · rw [List.getElem?_range hlt] at hu
        simp only [Option.map_some, Option.some.injEq] at hu
        subst hu
        exact (hf j hlt).2
      · rw [List.getElem?_eq_none (by simpa using hge)] at hu
        cases hu
    · intro x hx
      obtain ⟨i, hi, rfl⟩ := List.mem_map.1 hx
      exact (hf i (by simpa using hi)).1
end Go.Proofs.Ytcbpgmoegfkhnaa
