/- Numbers, lists and arrays among the arguments. -/
import Derived.Test.YtaejnhgnacgheaaTframe
import Derived.OpenShut
namespace Go.Proofs.Ytaejnhgnacgheaa
set_option linter.unusedVariables false
set_option linter.unusedSimpArgs false
open Go.ChangeShapes Go.WideShapes Go.ChangeAt Go.RowKit

theorem wide_slice {P : Program} {W : World} {base t e : Nat} {v : Value} (ht : P.underlying t = some (.slice e)) (hv : Value.okWide P W .any base t v) : Cell.okWide P W .any base t v ∧ ∃ A n c, v = .slice A n c := by
  unfold Value.okWide at hv
  simp only [ht] at hv
  refine ⟨hv, ?_⟩
  unfold Cell.okWide Cell.ok at hv
  rw [ht] at hv
  cases v <;> simp at hv
  exact ⟨_, _, _, rfl⟩
theorem open_slice_arg {P : Program} {α : Type} [Inhabited α] {H : Type} {enc' : TypeId × Value → H} {W : World} {base k t e : Nat} {v : Value} {d : DataW H} {p : List MemPlace} {enc : α → List Value} {ok : α → Prop} (ht : P.underlying t = some (.slice e)) (hk : P.cellsOf e = k)
    (hv : Value.okWide P W .any base t v) (h : DataW.Trod enc' P W 0 (fun _ => true) true t v d p)
    (hel : ∀ n cs' y, DataW.trod enc' P W 0 (fun _ => true) true n e cs' = some y → cs'.length = k → ∃ a, ok a ∧ cs' = enc a) :
    ∃ A n c L, v = .slice A n c ∧ LstA k enc W A c L ∧ L.length = n ∧ n ≤ maxLen ∧ ∀ a, a ∈ L → ok a := by
  obtain ⟨hc, A, n, c, rfl⟩ := wide_slice ht hv
  obtain ⟨fuel, hf⟩ := h
  exact open_list ht hk hc hf hel
theorem arr_trod {H : Type} {enc : TypeId × Value → H} {P : Program} {W : World} {m n e : Nat} {cs : List Value} {xs : List (DataW H × List MemPlace)} (hc : P.cellsOf e = 1)
    (hx : ∀ i, i < n → DataW.trod enc P W 0 (fun _ => true) true m e ((cs.drop (i * P.cellsOf e)).take (P.cellsOf e)) = xs[i]?) (hl : xs.length = n) (i : Nat) (hi : i < n) {u : Value} (hu : cs[i]? = some u) :
    ∃ y, DataW.trod enc P W 0 (fun _ => true) true m e [u] = some y := by
  have h1 := hx i hi
  rw [hc, Nat.mul_one] at h1
  obtain ⟨h4, h5⟩ := List.getElem?_eq_some_iff.1 hu
  have h3 : (cs.drop i).take 1 = [u] := by rw [List.drop_eq_getElem_cons h4, List.take_succ_cons, List.take_zero, h5]
  rw [h3, List.getElem?_eq_getElem (by omega)] at h1
  exact ⟨_, h1⟩
def int3E (q : Int × Int × Int) : List Value := [.int .i64 q.1, .int .i64 q.2.1, .int .i64 q.2.2]
section
variable {H : Type} {enc : TypeId × Value → H} {W : World} {base : Nat} {v : Value} {d : DataW H} {p : List MemPlace}
set_option maxRecDepth 100000 in
theorem open_ints_arg (hv : Value.okWide Try.prog W .any base 22 v) (h : DataW.Trod enc Try.prog W 0 (fun _ => true) true 22 v d p) :
    ∃ A n c L, v = .slice A n c ∧ LstA 1 numE W A c L ∧ L.length = n ∧ n ≤ maxLen ∧ ∀ a, a ∈ L → in64 a :=
  open_slice_arg Try.underlying22 (by kernel_rfl) hv h elem_num
set_option maxRecDepth 100000 in
theorem elem_int3 (n : Nat) (cs' : List Value) (y : DataW H × List MemPlace) (h : DataW.trod enc Try.prog W 0 (fun _ => true) true n 23 cs' = some y) (hl : cs'.length = 3) : ∃ a : Int × Int × Int, (in64 a.1 ∧ in64 a.2.1 ∧ in64 a.2.2) ∧ cs' = int3E a := by
  obtain ⟨xs, m, _, _, _, hlen, hx⟩ := DataW.trod_array Try.underlying23 h
  match cs', hl with
  | [u0, u1, u2], _ =>
    have hc1 : Try.prog.cellsOf 3 = 1 := by kernel_rfl
    obtain ⟨x0, rfl, h0⟩ := el_int Try.underlying3 (arr_trod hc1 hx hlen 0 (by decide) (u := u0) rfl)
    obtain ⟨x1, rfl, h1⟩ := el_int Try.underlying3 (arr_trod hc1 hx hlen 1 (by decide) (u := u1) rfl)
    obtain ⟨x2, rfl, h2⟩ := el_int Try.underlying3 (arr_trod hc1 hx hlen 2 (by decide) (u := u2) rfl)
    exact ⟨(x0, x1, x2), ⟨h0, h1, h2⟩, rfl⟩
set_option maxRecDepth 100000 in
theorem open_b3 (hv : Value.okWide Try.prog W .any base 50 v) : ∃ a b c, v = .agg #[.int .u8 a, .int .u8 b, .int .u8 c] ∧ (0 ≤ a ∧ a < 256) ∧ (0 ≤ b ∧ b < 256) ∧ (0 ≤ c ∧ c < 256) := by
  unfold Value.okWide at hv
  simp only [Try.underlying50] at hv
  obtain ⟨cs, rfl, hsz, ts, hts, _, hcell⟩ := hv
  have h3 : Try.prog.cellsOf 50 = 3 := by kernel_rfl
  have hct : Try.prog.cellTypes Try.prog.depth 50 = some [5, 5, 5] := by kernel_rfl
  rw [hct] at hts
  cases hts
  rw [h3] at hsz
  obtain ⟨l⟩ := cs
  match l, hsz with
  | [u0, u1, u2], _ =>
    have e1 : IntKind.u8.min = 0 := rfl
    have e2 : IntKind.u8.max = 255 := rfl
    obtain ⟨x0, rfl, a0, b0⟩ := cell_int Try.underlying5 (row_cell hcell 0 (v := u0) rfl rfl)
    obtain ⟨x1, rfl, a1, b1⟩ := cell_int Try.underlying5 (row_cell hcell 1 (v := u1) rfl rfl)
    obtain ⟨x2, rfl, a2, b2⟩ := cell_int Try.underlying5 (row_cell hcell 2 (v := u2) rfl rfl)
    rw [e1] at a0 a1 a2
    rw [e2] at b0 b1 b2
    exact ⟨_, _, _, rfl, ⟨a0, by omega⟩, ⟨a1, by omega⟩, ⟨a2, by omega⟩⟩
set_option maxRecDepth 100000 in
theorem cells_i3 {ts : List TypeId} {cs : Array Value} (h : ∀ i v, cs[i]? = some v → ∃ u, ts[i % ts.length]? = some u ∧ Cell.okWide Try.prog W .any base u v) (i : Nat) {v : Value} (hv : cs[i]? = some v) (hu : ts[i % ts.length]? = some 3) : ∃ x, v = .int .i64 x ∧ in64 x := by
  obtain ⟨n, hn, h1⟩ := cell_int Try.underlying3 (row_cell h i hv hu)
  exact ⟨n, hn, has64 h1⟩
set_option maxRecDepth 100000 in
theorem open_i3 (hv : Value.okWide Try.prog W .any base 23 v) : ∃ q : Int × Int × Int, v = .agg (int3E q).toArray ∧ (in64 q.1 ∧ in64 q.2.1 ∧ in64 q.2.2) := by
  unfold Value.okWide at hv
  simp only [Try.underlying23] at hv
  obtain ⟨cs, rfl, hsz, ts, hts, _, hcell⟩ := hv
  have h3 : Try.prog.cellsOf 23 = 3 := by kernel_rfl
  have hct : Try.prog.cellTypes Try.prog.depth 23 = some [3, 3, 3] := by kernel_rfl
  rw [hct] at hts
  cases hts
  rw [h3] at hsz
  obtain ⟨l⟩ := cs
  match l, hsz with
  | [u0, u1, u2], _ =>
    obtain ⟨x0, rfl, a0⟩ := cells_i3 hcell 0 (v := u0) rfl rfl
    obtain ⟨x1, rfl, a1⟩ := cells_i3 hcell 1 (v := u1) rfl rfl
    obtain ⟨x2, rfl, a2⟩ := cells_i3 hcell 2 (v := u2) rfl rfl
    exact ⟨(x0, x1, x2), rfl, a0, a1, a2⟩
set_option maxRecDepth 100000 in
theorem open_i23 (hv : Value.okWide Try.prog W .any base 24 v) : ∃ q r : Int × Int × Int, v = .agg (int3E q ++ int3E r).toArray ∧ (in64 q.1 ∧ in64 q.2.1 ∧ in64 q.2.2) ∧ (in64 r.1 ∧ in64 r.2.1 ∧ in64 r.2.2) := by
  unfold Value.okWide at hv
  simp only [Try.underlying24] at hv
  obtain ⟨cs, rfl, hsz, ts, hts, _, hcell⟩ := hv
  have h3 : Try.prog.cellsOf 24 = 6 := by kernel_rfl
  have hct : Try.prog.cellTypes Try.prog.depth 24 = some [3, 3, 3, 3, 3, 3] := by kernel_rfl
  rw [hct] at hts
  cases hts
  rw [h3] at hsz
  obtain ⟨l⟩ := cs
  match l, hsz with
  | [u0, u1, u2, u3, u4, u5], _ =>
    obtain ⟨x0, rfl, a0⟩ := cells_i3 hcell 0 (v := u0) rfl rfl
    obtain ⟨x1, rfl, a1⟩ := cells_i3 hcell 1 (v := u1) rfl rfl
    obtain ⟨x2, rfl, a2⟩ := cells_i3 hcell 2 (v := u2) rfl rfl
    obtain ⟨x3, rfl, a3⟩ := cells_i3 hcell 3 (v := u3) rfl rfl
    obtain ⟨x4, rfl, a4⟩ := cells_i3 hcell 4 (v := u4) rfl rfl
    obtain ⟨x5, rfl, a5⟩ := cells_i3 hcell 5 (v := u5) rfl rfl
    exact ⟨(x0, x1, x2), (x3, x4, x5), rfl, ⟨a0, a1, a2⟩, a3, a4, a5⟩
set_option maxRecDepth 100000 in
theorem open_2l (hv : Value.okWide Try.prog W .any base 41 v) (h : DataW.Trod enc Try.prog W 0 (fun _ => true) true 41 v d p) :
    ∃ A n c L A' n' c' L', v = .agg #[.slice A n c, .slice A' n' c'] ∧ (LstA 1 numE W A c L ∧ L.length = n ∧ n ≤ maxLen ∧ ∀ a, a ∈ L → in64 a) ∧ (LstA 1 numE W A' c' L' ∧ L'.length = n' ∧ n' ≤ maxLen ∧ ∀ a, a ∈ L' → in64 a) := by
  obtain ⟨fuel, hf0⟩ := h
  unfold Value.okWide at hv
  simp only [Try.underlying41] at hv
  obtain ⟨cs, rfl, hsz, ts, hts, _, hcell⟩ := hv
  have h3 : Try.prog.cellsOf 41 = 2 := by kernel_rfl
  have hct : Try.prog.cellTypes Try.prog.depth 41 = some [22, 22] := by kernel_rfl
  rw [hct] at hts
  cases hts
  rw [h3] at hsz
  obtain ⟨l⟩ := cs
  match l, hsz with
  | [u0, u1], _ =>
    obtain ⟨xs, m, _, _, _, hlen, hx⟩ := DataW.trod_array Try.underlying41 hf0
    have hc1 : Try.prog.cellsOf 22 = 1 := by kernel_rfl
    obtain ⟨y0, t0⟩ := arr_trod hc1 hx hlen 0 (by decide) (u := u0) rfl
    obtain ⟨y1, t1⟩ := arr_trod hc1 hx hlen 1 (by decide) (u := u1) rfl
    obtain ⟨A1, n1, c1, L1, rfl, hA1⟩ := open_list (α := Int) (k := 1) (enc := numE) (ok := fun a => in64 a) Try.underlying22 (by kernel_rfl) (row_cell hcell 0 (v := u0) rfl rfl) t0 elem_num
    obtain ⟨A2, n2, c2, L2, rfl, hA2⟩ := open_list (α := Int) (k := 1) (enc := numE) (ok := fun a => in64 a) Try.underlying22 (by kernel_rfl) (row_cell hcell 1 (v := u1) rfl rfl) t1 elem_num
    exact ⟨_, _, _, _, _, _, _, _, rfl, hA1, hA2⟩
set_option maxRecDepth 100000 in
theorem open_l3 (hv : Value.okWide Try.prog W .any base 52 v) (h : DataW.Trod enc Try.prog W 0 (fun _ => true) true 52 v d p) :
    ∃ A n c L, v = .slice A n c ∧ LstA 3 int3E W A c L ∧ L.length = n ∧ n ≤ maxLen ∧ ∀ a, a ∈ L → (in64 a.1 ∧ in64 a.2.1 ∧ in64 a.2.2) :=
  open_slice_arg Try.underlying52 (by kernel_rfl) hv h elem_int3
end
end Go.Proofs.Ytaejnhgnacgheaa
