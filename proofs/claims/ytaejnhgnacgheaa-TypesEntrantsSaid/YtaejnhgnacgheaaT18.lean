/- Rules among the arguments: open_draw (printed by gen-t18.py). -/
import Derived.Test.YtaejnhgnacgheaaT17
namespace Go.Proofs.Ytaejnhgnacgheaa
set_option linter.unusedVariables false
set_option linter.unusedSimpArgs false
open Go.ChangeShapes Go.WideShapes Go.ChangeAt Go.RowKit

theorem row_cell {P : Program} {W : World} {base : Nat} {ts : List TypeId} {cs : Array Value} (h : ∀ i v, cs[i]? = some v → ∃ u, ts[i % ts.length]? = some u ∧ Cell.okWide P W .any base u v) (i : Nat) {v : Value} {u : TypeId} (hv : cs[i]? = some v) (hu : ts[i % ts.length]? = some u) : Cell.okWide P W .any base u v := by
  obtain ⟨u', h1, h2⟩ := h i v hv
  rw [hu] at h1
  cases h1
  exact h2
theorem field_trod {H : Type} {enc : TypeId × Value → H} {P : Program} {W : World} {n : Nat} {fs : Array Field} {cs : List Value} {xs : List (DataW H × List MemPlace)}
    (hf : ∀ (i : Nat) (f : Field), fs[i]? = some f → DataW.trod enc P W 0 (fun _ => true) true n f.type ((cs.drop f.offset).take (P.cellsOf f.type)) = xs[i]?) (hl : xs.length = fs.size) (i : Nat) {f : Field} (hi : fs[i]? = some f) (hc : P.cellsOf f.type = 1) {u : Value} (hu : cs[f.offset]? = some u) :
    ∃ y, DataW.trod enc P W 0 (fun _ => true) true n f.type [u] = some y := by
  have h1 := hf i f hi
  have h2 := (List.getElem?_eq_some_iff.1 hu)
  have h3 : (cs.drop f.offset).take 1 = [u] := by
    obtain ⟨h4, h5⟩ := h2
    rw [List.drop_eq_getElem_cons h4, List.take_succ_cons, List.take_zero, h5]
  rw [hc, h3] at h1
  have h6 := (Array.getElem?_eq_some_iff.1 hi).1
  rw [List.getElem?_eq_getElem (by omega)] at h1
  exact ⟨_, h1⟩
theorem el_int {H : Type} {enc : TypeId × Value → H} {P : Program} {W : World} {n t : Nat} {u : Value} (ht : P.underlying t = some (.int .i64)) (h : ∃ y, DataW.trod enc P W 0 (fun _ => true) true n t [u] = some y) : ∃ k, u = .int .i64 k ∧ in64 k := by
  obtain ⟨y, hy⟩ := h
  obtain ⟨k, hk, _, hw⟩ := DataW.trod_int ht hy
  simp only [List.cons.injEq, and_true] at hk
  exact ⟨k, hk, in64_of hw⟩
theorem el_str {H : Type} {enc : TypeId × Value → H} {P : Program} {W : World} {n t : Nat} {u : Value} (ht : P.underlying t = some .string) (h : ∃ y, DataW.trod enc P W 0 (fun _ => true) true n t [u] = some y) : ∃ l : List UInt8, u = .string ⟨l.toArray⟩ ∧ l.length ≤ maxLen := by
  obtain ⟨y, hy⟩ := h
  obtain ⟨s, hs, _, hw⟩ := DataW.trod_string ht hy
  simp only [List.cons.injEq, and_true] at hs
  refine ⟨s.data.toList, hs, ?_⟩
  have hl : s.data.toList.length = s.size := by rw [Array.length_toList]; rfl
  rw [hl]; exact hw
theorem has64 {n : Int} (h : IntKind.has .i64 n) : in64 n := h

theorem elem_num {H : Type} {enc : TypeId × Value → H} {W : World} (n : Nat) (cs' : List Value) (y : DataW H × List MemPlace) (h : DataW.trod enc Try.prog W 0 (fun _ => true) true n 3 cs' = some y) (hl : cs'.length = 1) : ∃ a, in64 a ∧ cs' = numE a := by
  match cs', hl with
  | [u], _ =>
    obtain ⟨k, rfl, hk⟩ := el_int Try.underlying3 ⟨y, h⟩
    exact ⟨k, hk, rfl⟩
set_option maxRecDepth 100000 in
theorem elem_tier {H : Type} {enc : TypeId × Value → H} {W : World} (n : Nat) (cs' : List Value) (y : DataW H × List MemPlace) (h : DataW.trod enc Try.prog W 0 (fun _ => true) true n 63 cs' = some y) (hl : cs'.length = 2) : ∃ a : Int × Int, in64 a.1 ∧ cs' = tierE a := by
  obtain ⟨xs, m, _, _, _, hlen, hf⟩ := DataW.trod_struct Try.underlying63 h
  match cs', hl with
  | [u0, u1], _ =>
    obtain ⟨x0, rfl, h0⟩ := el_int Try.underlying3 (field_trod hf hlen 0 rfl (by kernel_rfl) (u := u0) rfl)
    obtain ⟨x1, rfl, h1⟩ := el_int Try.underlying3 (field_trod hf hlen 1 rfl (by kernel_rfl) (u := u1) rfl)
    exact ⟨(x0, x1), h0, rfl⟩
set_option maxRecDepth 100000 in
theorem elem_place {H : Type} {enc : TypeId × Value → H} {W : World} (n : Nat) (cs' : List Value) (y : DataW H × List MemPlace) (h : DataW.trod enc Try.prog W 0 (fun _ => true) true n 65 cs' = some y) (hl : cs'.length = 2) : ∃ a : List UInt8 × Int, okS a.1 ∧ cs' = placeE a := by
  obtain ⟨xs, m, _, _, _, hlen, hf⟩ := DataW.trod_struct Try.underlying65 h
  match cs', hl with
  | [u0, u1], _ =>
    obtain ⟨x0, rfl, h0⟩ := el_str Try.underlying9 (field_trod hf hlen 0 rfl (by kernel_rfl) (u := u0) rfl)
    obtain ⟨x1, rfl, h1⟩ := el_int Try.underlying3 (field_trod hf hlen 1 rfl (by kernel_rfl) (u := u1) rfl)
    exact ⟨(x0, x1), h0, rfl⟩
set_option maxRecDepth 100000 in
theorem elem_quota {H : Type} {enc : TypeId × Value → H} {W : World} (n : Nat) (cs' : List Value) (y : DataW H × List MemPlace) (h : DataW.trod enc Try.prog W 0 (fun _ => true) true n 67 cs' = some y) (hl : cs'.length = 3) : ∃ a : List UInt8 × Int × Int, okS a.1 ∧ cs' = quotaE a := by
  obtain ⟨xs, m, _, _, _, hlen, hf⟩ := DataW.trod_struct Try.underlying67 h
  match cs', hl with
  | [u0, u1, u2], _ =>
    obtain ⟨x0, rfl, h0⟩ := el_str Try.underlying9 (field_trod hf hlen 0 rfl (by kernel_rfl) (u := u0) rfl)
    obtain ⟨x1, rfl, h1⟩ := el_int Try.underlying3 (field_trod hf hlen 1 rfl (by kernel_rfl) (u := u1) rfl)
    obtain ⟨x2, rfl, h2⟩ := el_int Try.underlying3 (field_trod hf hlen 2 rfl (by kernel_rfl) (u := u2) rfl)
    exact ⟨(x0, x1, x2), h0, rfl⟩

set_option maxRecDepth 100000 in
theorem open_draw {H : Type} {enc : TypeId × Value → H} {W : World} {base : Nat} {v : Value} {d : DataW H} {p : List MemPlace} (hv : Value.okWide Try.prog W .any base 30 v) (h : DataW.Trod enc Try.prog W 0 (fun _ => true) true 30 v d p) :
    ∃ D A1 A2 A3 A4 n1 c1 n2 c2 n3 c3 n4 c4, v = dval D (.slice A1 n1 c1) (.slice A2 n2 c2) (.slice A3 n3 c3) (.slice A4 n4 c4) ∧ RawIn W D A1 A2 A3 A4 n1 c1 n2 c2 n3 c3 n4 c4 := by
  obtain ⟨fuel, hf0⟩ := h
  unfold Value.okWide at hv
  simp only [Try.underlying30] at hv
  obtain ⟨cs, rfl, hsz, ts, hts, _, hcell⟩ := hv
  have h13 : Try.prog.cellsOf 30 = 13 := by kernel_rfl
  have hct : Try.prog.cellTypes Try.prog.depth 30 = some [9, 3, 3, 3, 3, 3, 26, 4, 27, 3, 3, 28, 22] := by kernel_rfl
  rw [hct] at hts
  cases hts
  rw [h13] at hsz
  obtain ⟨l⟩ := cs
  match l, hsz with
  | [u0, u1, u2, u3, u4, u5, u6, u7, u8, u9, u10, u11, u12], _ =>
    obtain ⟨xs, m, _, _, _, hlen, hf⟩ := DataW.trod_struct Try.underlying30 hf0
    obtain ⟨x0, rfl, h0⟩ := cell_str Try.underlying9 (row_cell hcell 0 (v := u0) rfl rfl)
    obtain ⟨x1, rfl, _⟩ := cell_int Try.underlying3 (row_cell hcell 1 (v := u1) rfl rfl)
    obtain ⟨x2, rfl, _⟩ := cell_int Try.underlying3 (row_cell hcell 2 (v := u2) rfl rfl)
    obtain ⟨x3, rfl, _⟩ := cell_int Try.underlying3 (row_cell hcell 3 (v := u3) rfl rfl)
    obtain ⟨x4, rfl, _⟩ := cell_int Try.underlying3 (row_cell hcell 4 (v := u4) rfl rfl)
    obtain ⟨x5, rfl, _⟩ := cell_int Try.underlying3 (row_cell hcell 5 (v := u5) rfl rfl)
    obtain ⟨y6, t6⟩ := field_trod hf hlen 6 rfl (by kernel_rfl) (u := u6) rfl
    obtain ⟨A1, n1, c1, L1, rfl, hA1, hn1, hm1, ho1⟩ := open_list (α := Int × Int) (k := 2) (enc := tierE) (ok := fun a => in64 a.1) Try.underlying26 (by kernel_rfl) (row_cell hcell 6 (v := u6) rfl rfl) t6 elem_tier
    obtain ⟨x7, rfl⟩ := cell_bool Try.underlying4 (row_cell hcell 7 (v := u7) rfl rfl)
    obtain ⟨y8, t8⟩ := field_trod hf hlen 8 rfl (by kernel_rfl) (u := u8) rfl
    obtain ⟨A2, n2, c2, L2, rfl, hA2, hn2, hm2, ho2⟩ := open_list (α := List UInt8 × Int) (k := 2) (enc := placeE) (ok := fun a => okS a.1) Try.underlying27 (by kernel_rfl) (row_cell hcell 8 (v := u8) rfl rfl) t8 elem_place
    obtain ⟨x9, rfl, _⟩ := cell_int Try.underlying3 (row_cell hcell 9 (v := u9) rfl rfl)
    obtain ⟨x10, rfl, _⟩ := cell_int Try.underlying3 (row_cell hcell 10 (v := u10) rfl rfl)
    obtain ⟨y11, t11⟩ := field_trod hf hlen 11 rfl (by kernel_rfl) (u := u11) rfl
    obtain ⟨A3, n3, c3, L3, rfl, hA3, hn3, hm3, ho3⟩ := open_list (α := List UInt8 × Int × Int) (k := 3) (enc := quotaE) (ok := fun a => okS a.1) Try.underlying28 (by kernel_rfl) (row_cell hcell 11 (v := u11) rfl rfl) t11 elem_quota
    obtain ⟨y12, t12⟩ := field_trod hf hlen 12 rfl (by kernel_rfl) (u := u12) rfl
    obtain ⟨A4, n4, c4, L4, rfl, hA4, hn4, hm4, ho4⟩ := open_list (α := Int) (k := 1) (enc := numE) (ok := fun a => in64 a) Try.underlying22 (by kernel_rfl) (row_cell hcell 12 (v := u12) rfl rfl) t12 elem_num
    exact ⟨⟨x0, x1, x2, x3, x4, x5, L1, x7, L2, x9, x10, L3, L4⟩, A1, A2, A3, A4, n1, c1, n2, c2, n3, c3, n4, c4, rfl, ⟨hA1, hn1⟩, ⟨hA2, hn2⟩, ⟨hA3, hn3⟩, ⟨hA4, hn4⟩, h0, ⟨hm1, hm2, hm3, hm4⟩, ho1, ho2, ho3, ho4⟩
end Go.Proofs.Ytaejnhgnacgheaa
